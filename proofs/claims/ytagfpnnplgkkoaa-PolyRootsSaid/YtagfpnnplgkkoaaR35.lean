/- The walks of the own laws' helpers: mod, field, tame. -/
import Derived.Test.YtagfpnnplgkkoaaR32
namespace Go.Poly
open Go.W Go.Tree
def modN (x : Int) (n : Nat) : Nat := (x % 18446744073709551616).toNat % n
theorem modN_lt {n : Nat} (h : 0 < n) (x : Int) : modN x n < n := Nat.mod_lt _ h
def tmR (p : Nat) (f : List Int) (most : Nat) : List Nat := (f.take most).map fun c => modN c p
def tmL (p : Nat) (f : List Int) (most : Nat) : List Nat := trimL (tmR p f most)
theorem tm_isP {p : Nat} (hp : 0 < p) (f : List Int) (most : Nat) : IsP p (tmL p f most) := trim_isP fun c hc => by
  obtain ⟨x, _, rfl⟩ := List.mem_map.1 hc
  exact modN_lt hp x
theorem tm_len (p : Nat) (f : List Int) (most : Nat) : (tmL p f most).length ≤ most := by
  refine Nat.le_trans (trim_le _) ?_
  unfold tmR
  rw [List.length_map]; exact List.length_take_le _ _
end Go.Poly
namespace Go.Proofs.Ytagfpnnplgkkoaa
open Go.W Go.Poly Go.Tree Go.RowKit
set_option maxRecDepth 100000
attribute [local irreducible] WC WL WQ WS WH

theorem modO_any (x : Int) (n : Nat) (h0 : 0 < n) (hn : n < 1000000) : Pur Try.prog 34 [.int .i64 x, .int .i64 n] (.int .i64 (modN x n)) := by
  intro w
  refine enter Try.func34 rfl rfl ⟨rfl, rfl⟩ rfl ?_
  have e1 : IntKind.u64.wrap x = (((x % 18446744073709551616).toNat : Nat) : Int) := by rw [IntKind.wrap_u64]; omega
  have e2 : IntKind.u64.wrap (n : Int) = ((n : Nat) : Int) := by rw [IntKind.wrap_u64]; omega
  repeat (first | refine WC.seq ?_ | refine WC.reg ?_ | refine WL.pure rfl rfl rfl ?_ | refine WL.nil ?_ | refine WC.skip ?_ | refine WC.block ?_ | refine WC.condT rfl ?_ | refine WC.condF rfl ?_ | refine WL.off rfl rfl rfl ?_ | refine WL.off0 rfl rfl ?_ | refine WC.exit ?_ | refine blk_hit ?_ | refine blk_miss rfl ?_ | refine WC.ret ?_)
  refine WL.known (d := 6) (congrArg (fun z => some (Value.int .u64 z)) e1) ?_
  refine WL.known (d := 8) (congrArg (fun z => some (Value.int .u64 z)) e2) ?_
  refine WL.rem rfl rfl rfl rfl (by omega) ?_
  repeat (first | refine WC.seq ?_ | refine WC.reg ?_ | refine WL.pure rfl rfl rfl ?_ | refine WL.nil ?_ | refine WC.skip ?_ | refine WC.block ?_ | refine WC.condT rfl ?_ | refine WC.condF rfl ?_ | refine WL.off rfl rfl rfl ?_ | refine WL.off0 rfl rfl ?_ | refine WC.exit ?_ | refine blk_hit ?_ | refine blk_miss rfl ?_ | refine WC.ret ?_)
  refine Res.one rfl rfl rfl ⟨?_, rfl⟩
  have h1 : (((x % 18446744073709551616).toNat : Nat) : Int).tmod (n : Int) = ((modN x n : Nat) : Int) := (Int.ofNat_tmod _ _).symm
  have h2 := modN_lt h0 x
  rw [h1, wrap_i64_in (by omega) (by omega)]

theorem fieldO_any (p : Int) (w : World) : Ret Try.prog 26 [.int .i64 p] w fun u w' => w' = w ∧ ∃ q : Nat, u = .int .i64 (q : Nat) ∧ Pri q ∧ q ≤ 1021 := by
  refine enter Try.func26 rfl rfl ⟨rfl, rfl⟩ rfl ?_
  repeat (first | refine WC.seq ?_ | refine WC.reg ?_ | refine WL.pure rfl rfl rfl ?_ | refine WL.nil ?_ | refine WC.skip ?_ | refine WC.block ?_ | refine WC.condT rfl ?_ | refine WC.condF rfl ?_ | refine WL.off rfl rfl rfl ?_ | refine WL.off0 rfl rfl ?_ | refine WC.exit ?_ | refine blk_hit ?_ | refine blk_miss rfl ?_ | refine WC.ret ?_)
  refine WL.callP rfl rfl rfl rfl rfl ent19 (Field_any p w) ?_
  cases hf : fieldB p with
  | true =>
    obtain ⟨q, rfl, hq, hq2⟩ := fieldB_pri hf
    repeat (first | refine WC.seq ?_ | refine WC.reg ?_ | refine WL.pure rfl rfl rfl ?_ | refine WL.nil ?_ | refine WC.skip ?_ | refine WC.block ?_ | refine WC.condT rfl ?_ | refine WC.condF rfl ?_ | refine WL.off rfl rfl rfl ?_ | refine WL.off0 rfl rfl ?_ | refine WC.exit ?_ | refine blk_hit ?_ | refine blk_miss rfl ?_ | refine WC.ret ?_)
    exact Res.one rfl rfl rfl ⟨rfl, q, rfl, hq, hq2⟩
  | false =>
    repeat (first | refine WC.seq ?_ | refine WC.reg ?_ | refine WL.pure rfl rfl rfl ?_ | refine WL.nil ?_ | refine WC.skip ?_ | refine WC.block ?_ | refine WC.condT rfl ?_ | refine WC.condF rfl ?_ | refine WL.off rfl rfl rfl ?_ | refine WL.off0 rfl rfl ?_ | refine WC.exit ?_ | refine blk_hit ?_ | refine blk_miss rfl ?_ | refine WC.ret ?_)
    refine WL.buildA (cs := ints [2, 3, 5, 7, 11, 13, 101, 1019, 1021]) rfl rfl rfl rfl rfl rfl ?_
    repeat (first | refine WC.seq ?_ | refine WC.reg ?_ | refine WL.pure rfl rfl rfl ?_ | refine WL.nil ?_ | refine WC.skip ?_ | refine WC.block ?_ | refine WC.condT rfl ?_ | refine WC.condF rfl ?_ | refine WL.off rfl rfl rfl ?_ | refine WL.off0 rfl rfl ?_ | refine WC.exit ?_ | refine blk_hit ?_ | refine blk_miss rfl ?_ | refine WC.ret ?_)
    refine WL.callP rfl rfl rfl rfl rfl ent34 (modO_any p 9 (by omega) (by omega) w) ?_
    have hm := modN_lt (n := 9) (by omega) p
    generalize modN p 9 = m at *
    have hc : m = 0 ∨ m = 1 ∨ m = 2 ∨ m = 3 ∨ m = 4 ∨ m = 5 ∨ m = 6 ∨ m = 7 ∨ m = 8 := by omega
    rcases hc with rfl | rfl | rfl | rfl | rfl | rfl | rfl | rfl | rfl
    · repeat (first | refine WC.seq ?_ | refine WC.reg ?_ | refine WL.pure rfl rfl rfl ?_ | refine WL.nil ?_ | refine WC.skip ?_ | refine WC.block ?_ | refine WC.condT rfl ?_ | refine WC.condF rfl ?_ | refine WL.off rfl rfl rfl ?_ | refine WL.off0 rfl rfl ?_ | refine WC.exit ?_ | refine blk_hit ?_ | refine blk_miss rfl ?_ | refine WC.ret ?_)
      exact Res.one rfl rfl rfl ⟨rfl, 2, rfl, priB_spec (by decide +kernel), by omega⟩
    · repeat (first | refine WC.seq ?_ | refine WC.reg ?_ | refine WL.pure rfl rfl rfl ?_ | refine WL.nil ?_ | refine WC.skip ?_ | refine WC.block ?_ | refine WC.condT rfl ?_ | refine WC.condF rfl ?_ | refine WL.off rfl rfl rfl ?_ | refine WL.off0 rfl rfl ?_ | refine WC.exit ?_ | refine blk_hit ?_ | refine blk_miss rfl ?_ | refine WC.ret ?_)
      exact Res.one rfl rfl rfl ⟨rfl, 3, rfl, priB_spec (by decide +kernel), by omega⟩
    · repeat (first | refine WC.seq ?_ | refine WC.reg ?_ | refine WL.pure rfl rfl rfl ?_ | refine WL.nil ?_ | refine WC.skip ?_ | refine WC.block ?_ | refine WC.condT rfl ?_ | refine WC.condF rfl ?_ | refine WL.off rfl rfl rfl ?_ | refine WL.off0 rfl rfl ?_ | refine WC.exit ?_ | refine blk_hit ?_ | refine blk_miss rfl ?_ | refine WC.ret ?_)
      exact Res.one rfl rfl rfl ⟨rfl, 5, rfl, priB_spec (by decide +kernel), by omega⟩
    · repeat (first | refine WC.seq ?_ | refine WC.reg ?_ | refine WL.pure rfl rfl rfl ?_ | refine WL.nil ?_ | refine WC.skip ?_ | refine WC.block ?_ | refine WC.condT rfl ?_ | refine WC.condF rfl ?_ | refine WL.off rfl rfl rfl ?_ | refine WL.off0 rfl rfl ?_ | refine WC.exit ?_ | refine blk_hit ?_ | refine blk_miss rfl ?_ | refine WC.ret ?_)
      exact Res.one rfl rfl rfl ⟨rfl, 7, rfl, priB_spec (by decide +kernel), by omega⟩
    · repeat (first | refine WC.seq ?_ | refine WC.reg ?_ | refine WL.pure rfl rfl rfl ?_ | refine WL.nil ?_ | refine WC.skip ?_ | refine WC.block ?_ | refine WC.condT rfl ?_ | refine WC.condF rfl ?_ | refine WL.off rfl rfl rfl ?_ | refine WL.off0 rfl rfl ?_ | refine WC.exit ?_ | refine blk_hit ?_ | refine blk_miss rfl ?_ | refine WC.ret ?_)
      exact Res.one rfl rfl rfl ⟨rfl, 11, rfl, priB_spec (by decide +kernel), by omega⟩
    · repeat (first | refine WC.seq ?_ | refine WC.reg ?_ | refine WL.pure rfl rfl rfl ?_ | refine WL.nil ?_ | refine WC.skip ?_ | refine WC.block ?_ | refine WC.condT rfl ?_ | refine WC.condF rfl ?_ | refine WL.off rfl rfl rfl ?_ | refine WL.off0 rfl rfl ?_ | refine WC.exit ?_ | refine blk_hit ?_ | refine blk_miss rfl ?_ | refine WC.ret ?_)
      exact Res.one rfl rfl rfl ⟨rfl, 13, rfl, priB_spec (by decide +kernel), by omega⟩
    · repeat (first | refine WC.seq ?_ | refine WC.reg ?_ | refine WL.pure rfl rfl rfl ?_ | refine WL.nil ?_ | refine WC.skip ?_ | refine WC.block ?_ | refine WC.condT rfl ?_ | refine WC.condF rfl ?_ | refine WL.off rfl rfl rfl ?_ | refine WL.off0 rfl rfl ?_ | refine WC.exit ?_ | refine blk_hit ?_ | refine blk_miss rfl ?_ | refine WC.ret ?_)
      exact Res.one rfl rfl rfl ⟨rfl, 101, rfl, priB_spec (by decide +kernel), by omega⟩
    · repeat (first | refine WC.seq ?_ | refine WC.reg ?_ | refine WL.pure rfl rfl rfl ?_ | refine WL.nil ?_ | refine WC.skip ?_ | refine WC.block ?_ | refine WC.condT rfl ?_ | refine WC.condF rfl ?_ | refine WL.off rfl rfl rfl ?_ | refine WL.off0 rfl rfl ?_ | refine WC.exit ?_ | refine blk_hit ?_ | refine blk_miss rfl ?_ | refine WC.ret ?_)
      exact Res.one rfl rfl rfl ⟨rfl, 1019, rfl, priB_spec (by decide +kernel), by omega⟩
    · repeat (first | refine WC.seq ?_ | refine WC.reg ?_ | refine WL.pure rfl rfl rfl ?_ | refine WL.nil ?_ | refine WC.skip ?_ | refine WC.block ?_ | refine WC.condT rfl ?_ | refine WC.condF rfl ?_ | refine WL.off rfl rfl rfl ?_ | refine WL.off0 rfl rfl ?_ | refine WC.exit ?_ | refine blk_hit ?_ | refine blk_miss rfl ?_ | refine WC.ret ?_)
      exact Res.one rfl rfl rfl ⟨rfl, 1021, rfl, priB_spec (by decide +kernel), by omega⟩

theorem tame_pz (p most : Nat) (vf : Value) (f : List Int) (hp0 : 0 < p) (hp : p ≤ 1021) (hm : most ≤ 1000) (w : World) (sf : Pz w vf f) :
    Ret Try.prog 27 [.int .i64 (p : Nat), vf, .int .i64 (most : Nat)] w fun u w' => Hp w w' [Rw u (tmL p f most)] := by
  obtain ⟨fa, fc, rfl, sl, -⟩ := sf
  refine enter Try.func27 rfl rfl ⟨rfl, rfl⟩ rfl ?_
  repeat (first | refine WC.seq ?_ | refine WC.reg ?_ | refine WL.pure rfl rfl rfl ?_ | refine WL.nil ?_ | refine WC.skip ?_ | refine WC.block ?_ | refine WC.condT rfl ?_ | refine WC.condF rfl ?_ | refine WL.off rfl rfl rfl ?_ | refine WL.off0 rfl rfl ?_ | refine WC.exit ?_ | refine blk_hit ?_ | refine blk_miss rfl ?_ | refine WC.ret ?_)
  refine WC.loop (Nat × Value) (fun (i, v) => [(0, .int .i64 (p : Nat)), (1, .slice fa f.length fc), (2, .int .i64 (most : Nat)), (7, v), (8, .int .i64 (i : Nat))])
    (fun (i, v) w' => i ≤ f.length ∧ i ≤ most ∧ Hp w w' [Rw v ((f.take i).map fun c => modN c p)]) (fun (i, v) => most - i) (0, .slice none 0 0) ⟨rfl, rfl, rfl, rfl, rfl, rfl⟩ ⟨Nat.zero_le _, Nat.zero_le _, (Hp.start w).nilRw⟩ ?_
  rintro ⟨i, v⟩ w1 ⟨hi, him, hp1⟩
  repeat (first | refine WC.seq ?_ | refine WC.skip ?_ | refine WC.block ?_)
  refine WC.mid Unit (fun _ => [(0, .int .i64 (p : Nat)), (1, .slice fa f.length fc), (2, .int .i64 (most : Nat)), (7, v), (8, .int .i64 (i : Nat)), (17, .bool (decide (i < f.length ∧ i < most)))]) (fun _ w' => w' = w1) ?_ ?_
  · repeat (first | refine WC.seq ?_ | refine WC.reg ?_ | refine WL.pure rfl rfl rfl ?_ | refine WL.nil ?_ | refine WC.skip ?_ | refine WC.block ?_ | refine WC.condT rfl ?_ | refine WC.condF rfl ?_ | refine WL.off rfl rfl rfl ?_ | refine WL.off0 rfl rfl ?_ | refine WC.exit ?_ | refine blk_hit ?_ | refine blk_miss rfl ?_ | refine WC.ret ?_)
    refine WL.split 13 rfl (fun h1 => ?_) (fun h1 => ?_)
    · have h1 : i < f.length := by have := of_decide_eq_true h1; omega
      have e9 : decide ((i : Int) < (most : Int)) = decide (i < f.length ∧ i < most) := decide_eq_decide.2 ⟨fun h => ⟨h1, by omega⟩, fun h => by omega⟩
      repeat (first | refine WC.seq ?_ | refine WC.reg ?_ | refine WL.pure rfl rfl rfl ?_ | refine WL.nil ?_ | refine WC.skip ?_ | refine WC.block ?_ | refine WC.condT rfl ?_ | refine WC.condF rfl ?_ | refine WL.off rfl rfl rfl ?_ | refine WL.off0 rfl rfl ?_ | refine WC.exit ?_ | refine blk_hit ?_ | refine blk_miss rfl ?_ | refine WC.ret ?_)
      exact ⟨(), ⟨rfl, rfl, rfl, rfl, rfl, congrArg (fun b => some (Value.bool b)) e9, rfl⟩, rfl⟩
    · have h1 : ¬ i < f.length := by have := of_decide_eq_false h1; omega
      have e9 : false = decide (i < f.length ∧ i < most) := (decide_eq_false (fun h => h1 h.1)).symm
      repeat (first | refine WC.seq ?_ | refine WC.reg ?_ | refine WL.pure rfl rfl rfl ?_ | refine WL.nil ?_ | refine WC.skip ?_ | refine WC.block ?_ | refine WC.condT rfl ?_ | refine WC.condF rfl ?_ | refine WL.off rfl rfl rfl ?_ | refine WL.off0 rfl rfl ?_ | refine WC.exit ?_ | refine blk_hit ?_ | refine blk_miss rfl ?_ | refine WC.ret ?_)
      exact ⟨(), ⟨rfl, rfl, rfl, rfl, rfl, congrArg (fun b => some (Value.bool b)) e9, rfl⟩, rfl⟩
  rintro ⟨⟩ e2 w2 hsub rfl
  refine WC.sub hsub ?_
  clear hsub
  repeat (first | refine WC.seq ?_ | refine WC.reg ?_ | refine WL.pure rfl rfl rfl ?_ | refine WL.nil ?_ | refine WC.skip ?_ | refine WC.block ?_ | refine WC.condT rfl ?_ | refine WC.condF rfl ?_ | refine WL.off rfl rfl rfl ?_ | refine WL.off0 rfl rfl ?_ | refine WC.exit ?_ | refine blk_hit ?_ | refine blk_miss rfl ?_ | refine WC.ret ?_)
  refine WC.cond rfl (fun h => ?_) (fun h => ?_)
  · have h := of_decide_eq_true h
    have step : IntKind.i64.wrap ((i : Int) + 1) = ((i + 1 : Nat) : Int) := by rw [wrap_i64_in (by omega) (by omega)]; omega
    have htk : f.take (i + 1) = f.take i ++ [f[i]'h.1] := List.take_succ_eq_append_getElem h.1
    obtain ⟨va, vc, hv, -, -⟩ := Pd.row hp1 0 rfl
    have hl : ((f.take i).map fun c => modN c p).length = i := by rw [List.length_map, List.length_take]; omega
    rw [hl] at hv
    subst hv
    simp only [Rw, hl] at hp1
    repeat (first | refine WC.seq ?_ | refine WC.reg ?_ | refine WL.pure rfl rfl rfl ?_ | refine WL.nil ?_ | refine WC.skip ?_ | refine WC.block ?_ | refine WC.condT rfl ?_ | refine WC.condF rfl ?_ | refine WL.off rfl rfl rfl ?_ | refine WL.off0 rfl rfl ?_ | refine WC.exit ?_ | refine blk_hit ?_ | refine blk_miss rfl ?_ | refine WC.ret ?_)
    refine WL.ixload rfl (fun _ => rfl) rfl rfl rfl rfl rfl rfl rfl h.1 rfl rfl (sl.hp hp1) (zget h.1) ?_
    intro pa
    repeat (first | refine WC.seq ?_ | refine WC.reg ?_ | refine WL.pure rfl rfl rfl ?_ | refine WL.nil ?_ | refine WC.skip ?_ | refine WC.block ?_ | refine WC.condT rfl ?_ | refine WC.condF rfl ?_ | refine WL.off rfl rfl rfl ?_ | refine WL.off0 rfl rfl ?_ | refine WC.exit ?_ | refine blk_hit ?_ | refine blk_miss rfl ?_ | refine WC.ret ?_)
    refine WL.callP rfl rfl rfl rfl rfl ent34 (modO_any _ p hp0 (by omega) _) ?_
    refine WL.buildS (cs := ints [modN f[i] p]) rfl rfl rfl rfl rfl rfl rfl rfl rfl ?_
    intro bs w3 hbs
    have hp3 := hp1.new hbs
    refine WL.append 1 hp3 rfl rfl rfl rfl rfl (by decide) rfl rfl rfl (news := ints [modN f[i] p]) (Sl.of_obj (hp3.obj 0 rfl) (fun q u hq => by simpa using hq)) rfl (ints_cells _) (by unfold maxLen; omega) (by show (i + 1) * 8 ≤ _; omega) ?_
    intro a' c' w4 hp4 hg4
    have e2 : ints ((f.take i).map fun c => modN c p) ++ ints [modN f[i] p] = ints ((f.take (i + 1)).map fun c => modN c p) := by
      rw [htk, List.map_append]; unfold ints; rw [List.map_append]; rfl
    rw [e2] at hp4
    have hp5 := hp4.tail
    have hl1 : ((f.take (i + 1)).map fun c => modN c p).length = i + 1 := by rw [List.length_map, List.length_take]; omega
    repeat (first | refine WC.seq ?_ | refine WC.reg ?_ | refine WL.pure rfl rfl rfl ?_ | refine WL.nil ?_ | refine WC.skip ?_ | refine WC.block ?_ | refine WC.condT rfl ?_ | refine WC.condF rfl ?_ | refine WL.off rfl rfl rfl ?_ | refine WL.off0 rfl rfl ?_ | refine WC.exit ?_ | refine blk_hit ?_ | refine blk_miss rfl ?_ | refine WC.ret ?_)
    refine ⟨(i + 1, .slice a' (i + 1) c'), by show most - (i + 1) < most - i; omega, ⟨rfl, rfl, rfl, rfl, congrArg (fun z => some (Value.int .i64 z)) step, rfl⟩, by omega, by omega, ?_⟩
    show Hp w w4 [Ent.row _ 1 _ _ _]
    rw [hl1]
    exact hp5
  · have h := of_decide_eq_false h
    have hR : (f.take i).map (fun c => modN c p) = tmR p f most := by
      unfold tmR
      congr 1
      by_cases h1 : i < f.length
      · rw [show most = i by omega]
      · rw [List.take_of_length_le (by omega), List.take_of_length_le (by omega)]
    rw [hR] at hp1
    unfold tmL
    have hsl : (tmR p f most).length ≤ most := by unfold tmR; rw [List.length_map]; exact List.length_take_le _ _
    generalize tmR p f most = s at *
    obtain ⟨a, c, rfl, hs, -, hsc⟩ := Pd.row hp1 0 rfl
    repeat (first | refine WC.seq ?_ | refine WC.reg ?_ | refine WL.pure rfl rfl rfl ?_ | refine WL.nil ?_ | refine WC.skip ?_ | refine WC.block ?_ | refine WC.condT rfl ?_ | refine WC.condF rfl ?_ | refine WL.off rfl rfl rfl ?_ | refine WL.off0 rfl rfl ?_ | refine WC.exit ?_ | refine blk_hit ?_ | refine blk_miss rfl ?_ | refine WC.ret ?_)
    refine WC.loop Nat (fun n => [(7, .slice a n c)]) (fun n w' => w' = w2 ∧ n ≤ s.length ∧ tn s n = tn s s.length) (fun n => n) s.length ⟨rfl, rfl⟩ ⟨rfl, Nat.le_refl _, rfl⟩ ?_
    rintro n w3 ⟨rfl, hn, ht⟩
    have fin : tn s n = n → Hp w w3 [Rw (.slice a n c) (trimL s)] := fun h => by
      have hl : (trimL s).length = n := by rw [trim_len, ← ht, h]
      show Hp w w3 [Ent.row _ 1 _ _ _]
      rw [hl]
      exact row_cut hp1 hn (by rw [← hl, trim_len]; exact (ints_take _ _).symm)
    repeat (first | refine WC.seq ?_ | refine WC.reg ?_ | refine WL.pure rfl rfl rfl ?_ | refine WL.nil ?_ | refine WC.skip ?_ | refine WC.block ?_ | refine WC.condT rfl ?_ | refine WC.condF rfl ?_ | refine WL.off rfl rfl rfl ?_ | refine WL.off0 rfl rfl ?_ | refine WC.exit ?_ | refine blk_hit ?_ | refine blk_miss rfl ?_ | refine WC.ret ?_)
    refine WL.split 32 rfl (fun h1 => ?_) (fun h1 => ?_)
    · have h1 : 0 < n := by have := of_decide_eq_true h1; omega
      obtain ⟨m, rfl⟩ : ∃ m, n = m + 1 := ⟨n - 1, by omega⟩
      have e1 : IntKind.i64.wrap (((m + 1 : Nat) : Int) - 1) = ((m : Nat) : Int) := by rw [wrap_i64_in (by omega) (by omega)]; omega
      repeat (first | refine WC.seq ?_ | refine WC.reg ?_ | refine WL.pure rfl rfl rfl ?_ | refine WL.nil ?_ | refine WC.skip ?_ | refine WC.block ?_ | refine WC.condT rfl ?_ | refine WC.condF rfl ?_ | refine WL.off rfl rfl rfl ?_ | refine WL.off0 rfl rfl ?_ | refine WC.exit ?_ | refine blk_hit ?_ | refine blk_miss rfl ?_ | refine WC.ret ?_)
      refine WL.known (d := 36) (congrArg (fun z => some (Value.int .i64 z)) e1) ?_
      refine WL.ixload rfl (fun _ => rfl) rfl rfl rfl rfl rfl rfl rfl (show m < m + 1 by omega) rfl rfl hs (ints_at (show m < s.length by omega)) ?_
      intro pb
      repeat (first | refine WC.seq ?_ | refine WC.reg ?_ | refine WL.pure rfl rfl rfl ?_ | refine WL.nil ?_ | refine WC.skip ?_ | refine WC.block ?_ | refine WC.condT rfl ?_ | refine WC.condF rfl ?_ | refine WL.off rfl rfl rfl ?_ | refine WL.off0 rfl rfl ?_ | refine WC.exit ?_ | refine blk_hit ?_ | refine blk_miss rfl ?_ | refine WC.ret ?_)
      refine WC.cond rfl (fun hq => ?_) (fun hq => ?_)
      · have hq : co s m = 0 := by
          have : ((co s m : Nat) : Int) = 0 := by simpa using hq
          omega
        repeat (first | refine WC.seq ?_ | refine WC.reg ?_ | refine WL.pure rfl rfl rfl ?_ | refine WL.nil ?_ | refine WC.skip ?_ | refine WC.block ?_ | refine WC.condT rfl ?_ | refine WC.condF rfl ?_ | refine WL.off rfl rfl rfl ?_ | refine WL.off0 rfl rfl ?_ | refine WC.exit ?_ | refine blk_hit ?_ | refine blk_miss rfl ?_ | refine WC.ret ?_)
        refine WL.known (d := 44) (congrArg (fun z => some (Value.int .i64 z)) e1) ?_
        refine WL.sliceHi rfl rfl rfl rfl rfl rfl (show m ≤ c by omega) ?_
        repeat (first | refine WC.seq ?_ | refine WC.reg ?_ | refine WL.pure rfl rfl rfl ?_ | refine WL.nil ?_ | refine WC.skip ?_ | refine WC.block ?_ | refine WC.condT rfl ?_ | refine WC.condF rfl ?_ | refine WL.off rfl rfl rfl ?_ | refine WL.off0 rfl rfl ?_ | refine WC.exit ?_ | refine blk_hit ?_ | refine blk_miss rfl ?_ | refine WC.ret ?_)
        exact ⟨m, by show m < m + 1; omega, ⟨rfl, rfl⟩, rfl, by omega, by rw [← ht, tn, if_pos hq]⟩
      · have hq : co s m ≠ 0 := by
          have : ((co s m : Nat) : Int) ≠ 0 := by simpa using hq
          omega
        repeat (first | refine WC.seq ?_ | refine WC.reg ?_ | refine WL.pure rfl rfl rfl ?_ | refine WL.nil ?_ | refine WC.skip ?_ | refine WC.block ?_ | refine WC.condT rfl ?_ | refine WC.condF rfl ?_ | refine WL.off rfl rfl rfl ?_ | refine WL.off0 rfl rfl ?_ | refine WC.exit ?_ | refine blk_hit ?_ | refine blk_miss rfl ?_ | refine WC.ret ?_)
        exact Res.one rfl rfl rfl (fin (by rw [tn, if_neg hq]))
    · have h1 : n = 0 := by have := of_decide_eq_false h1; omega
      subst h1
      repeat (first | refine WC.seq ?_ | refine WC.reg ?_ | refine WL.pure rfl rfl rfl ?_ | refine WL.nil ?_ | refine WC.skip ?_ | refine WC.block ?_ | refine WC.condT rfl ?_ | refine WC.condF rfl ?_ | refine WL.off rfl rfl rfl ?_ | refine WL.off0 rfl rfl ?_ | refine WC.exit ?_ | refine blk_hit ?_ | refine blk_miss rfl ?_ | refine WC.ret ?_)
      exact Res.one rfl rfl rfl (fin rfl)
end Go.Proofs.Ytagfpnnplgkkoaa
