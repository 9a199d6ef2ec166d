/- The law's element, and the walk of WordsGroups. -/
import Derived.Test.YtoghnhbjdnjghaaXg
namespace Go.W
open Go.RowKit
section
variable {P : Program} [T : TT P] {ro : Option Nat} {n : Nat} {l0 rest : List Oper} {N : Nor} {Z : Pan} {e : Env} {w : World} {ty : TypeId} {pos : String} {aft : Array Edge} {g : Option (Nat × Bool)}
theorem WL.cmp2 {dd : Nat} {op : BinOp} {t E : TypeId} {z z2 : Value} {s0 b0 b2 : Nat} {ty2 : TypeId} {x y : Operand} {a b c d : Int} (hg : grd l0 e g = some true) (hd : Nat.blt dd n = true) (ht : T.ti t = some ⟨.array 2 E, z, s0, b0⟩) (hE : T.ti E = some ⟨.int .i64, z2, 1, b2⟩) (hm : P.eqGuardType P.depth t = false)
    (hx : opv e x = some (.agg #[.int .i64 a, .int .i64 b])) (hy : opv e y = some (.agg #[.int .i64 c, .int .i64 d])) {q : Bool} (hq : (op = .eql ∧ q = (a == c && b == d)) ∨ (op = .neq ∧ q = !(a == c && b == d)))
    (h : WL P ro n l0 N Z rest ((dd, .bool q) :: e) w) : WL P ro n l0 N Z (⟨some dd, .binOp op t x y ty2, ty, pos, aft, g⟩ :: rest) e w :=
  WL.val hg rfl hd (run_cmp2 ht hE hm hx hy hq) h
end
end Go.W
namespace Go.Proofs.Ytoghnhbjdnjghaa
open Go.W Go.Words Go.RowKit
set_option maxRecDepth 100000
attribute [local irreducible] WC WL WQ WS WH

theorem element_any (s : Str) (n : Nat) (hs : s.length ≤ 9223372036854775807) (h1 : 1 ≤ n) (h2 : n ≤ 1000) (w : World) :
    Ret Try.prog 18 [st s, .int .i64 (n : Nat)] w fun u w' => u = .agg #[.int .i64 ((elF n (0, 0) s).1 : Nat), .int .i64 ((elF n (0, 0) s).2 : Nat)] ∧ Hp w w' [] := by
  refine enter Try.func18 rfl rfl ⟨rfl, rfl⟩ rfl ?_
  repeat (first | refine WC.seq ?_ | refine WC.reg ?_ | refine WL.pure rfl rfl rfl ?_ | refine WL.nil ?_ | refine WC.skip ?_ | refine WC.block ?_ | refine WC.condT rfl ?_ | refine WC.condF rfl ?_ | refine WL.off rfl rfl rfl ?_ | refine WL.off0 rfl rfl ?_ | refine WC.exit ?_ | refine blk_hit ?_ | refine blk_miss rfl ?_ | refine WC.ret ?_)
  refine WL.alloc rfl rfl rfl ?_
  intro b4 w1 hb4
  have hp1 := (Hp.start w).new hb4
  repeat (first | refine WC.seq ?_ | refine WC.reg ?_ | refine WL.pure rfl rfl rfl ?_ | refine WL.nil ?_ | refine WC.skip ?_ | refine WC.block ?_ | refine WC.condT rfl ?_ | refine WC.condF rfl ?_ | refine WL.off rfl rfl rfl ?_ | refine WL.off0 rfl rfl ?_ | refine WC.exit ?_ | refine blk_hit ?_ | refine blk_miss rfl ?_ | refine WC.ret ?_)
  refine WC.loop (Nat × Nat × Nat) (fun (i, p, f) => [(0, st s), (1, .int .i64 (n : Nat)), (4, .pointer (some ⟨b4, 0, none⟩)), (5, .int .i64 (p : Nat)), (6, .int .i64 (f : Nat)), (7, .int .i64 (i : Nat))])
    (fun (i, p, f) w' => i ≤ s.length ∧ (p, f) = elF n (0, 0) (s.take i) ∧ El n (p, f) ∧ Hp w w' [.blk b4 (.cells #[.int .i64 0, .int .i64 0] 42 (0, 0))]) (fun (i, _) => s.length - i) (0, 0, 0) ⟨rfl, rfl, rfl, rfl, rfl, rfl, rfl⟩ ⟨Nat.zero_le _, rfl, ⟨h1, Nat.zero_le _⟩, hp1⟩ ?_
  clear hp1
  rintro ⟨i, p, f⟩ w2 ⟨hi, hE, ⟨hpn, hf⟩, hp2⟩
  simp only at hpn hf
  repeat (first | refine WC.seq ?_ | refine WC.reg ?_ | refine WL.pure rfl rfl rfl ?_ | refine WL.nil ?_ | refine WC.skip ?_ | refine WC.block ?_ | refine WC.condT rfl ?_ | refine WC.condF rfl ?_ | refine WL.off rfl rfl rfl ?_ | refine WL.off0 rfl rfl ?_ | refine WC.exit ?_ | refine blk_hit ?_ | refine blk_miss rfl ?_ | refine WC.ret ?_)
  refine WC.cond rfl (fun hc => ?_) (fun hc => ?_)
  · have hi : i < s.length := by have := of_decide_eq_true hc; rw [sb_size] at this; omega
    have step := wrap_succ hi (by omega)
    have hsucc : elF n (0, 0) (s.take (i + 1)) = elS n (p, f) s[i] := by
      rw [List.take_succ_eq_append_getElem hi, elF_app, ← hE]; rfl
    have hok := elS_ok h1 (p := (p, f)) ⟨hpn, hf⟩ s[i]
    repeat (first | refine WC.seq ?_ | refine WC.reg ?_ | refine WL.pure rfl rfl rfl ?_ | refine WL.nil ?_ | refine WC.skip ?_ | refine WC.block ?_ | refine WC.condT rfl ?_ | refine WC.condF rfl ?_ | refine WL.off rfl rfl rfl ?_ | refine WL.off0 rfl rfl ?_ | refine WC.exit ?_ | refine blk_hit ?_ | refine blk_miss rfl ?_ | refine WC.ret ?_)
    refine WL.sAt rfl rfl rfl rfl rfl hi ?_
    generalize s[i] = c at *
    unfold elS at hsucc hok
    repeat (first | refine WC.seq ?_ | refine WC.reg ?_ | refine WL.pure rfl rfl rfl ?_ | refine WL.nil ?_ | refine WC.skip ?_ | refine WC.block ?_ | refine WC.condT rfl ?_ | refine WC.condF rfl ?_ | refine WL.off rfl rfl rfl ?_ | refine WL.off0 rfl rfl ?_ | refine WC.exit ?_ | refine blk_hit ?_ | refine blk_miss rfl ?_ | refine WC.ret ?_)
    refine WC.cond rfl (fun hb => ?_) (fun hb => ?_)
    · have hb : c = 98 := by
        have h3 := eq_of_beq hb
        exact UInt8.toNat_inj.1 (show c.toNat = 98 by omega)
      rw [if_pos hb] at hsucc hok
      have e0 : IntKind.i64.wrap (1 - ((f : Nat) : Int)) = ((1 - f : Nat) : Int) := by rw [wrap_i64_in (by omega) (by omega)]; omega
      repeat (first | refine WC.seq ?_ | refine WC.reg ?_ | refine WL.pure rfl rfl rfl ?_ | refine WL.nil ?_ | refine WC.skip ?_ | refine WC.block ?_ | refine WC.condT rfl ?_ | refine WC.condF rfl ?_ | refine WL.off rfl rfl rfl ?_ | refine WL.off0 rfl rfl ?_ | refine WC.exit ?_ | refine blk_hit ?_ | refine blk_miss rfl ?_ | refine WC.ret ?_)
      exact ⟨(i + 1, p, 1 - f), (by show s.length - (i + 1) < s.length - i; omega), ⟨rfl, rfl, rfl, rfl, congrArg (fun z => some (Value.int .i64 z)) e0, congrArg (fun z => some (Value.int .i64 z)) step, rfl⟩, by omega, hsucc.symm, hok, hp2⟩
    · have hb : ¬ c = 98 := fun h => by
        rw [h] at hb
        exact absurd hb (by decide)
      rw [if_neg hb] at hsucc hok
      repeat (first | refine WC.seq ?_ | refine WC.reg ?_ | refine WL.pure rfl rfl rfl ?_ | refine WL.nil ?_ | refine WC.skip ?_ | refine WC.block ?_ | refine WC.condT rfl ?_ | refine WC.condF rfl ?_ | refine WL.off rfl rfl rfl ?_ | refine WL.off0 rfl rfl ?_ | refine WC.exit ?_ | refine blk_hit ?_ | refine blk_miss rfl ?_ | refine WC.ret ?_)
      refine WC.cond rfl (fun hb2 => ?_) (fun hb2 => ?_)
      · have hb2 : f = 1 := by have := eq_of_beq hb2; omega
        simp only [if_pos hb2] at hsucc hok
        have e0 : IntKind.i64.wrap (((p : Nat) : Int) + ((n : Nat) : Int)) = ((p + n : Nat) : Int) := by rw [wrap_i64_in (by omega) (by omega)]; omega
        have e1 : IntKind.i64.wrap (((p + n : Nat) : Int) - 1) = ((p + n - 1 : Nat) : Int) := by rw [wrap_i64_in (by omega) (by omega)]; omega
        repeat (first | refine WC.seq ?_ | refine WC.reg ?_ | refine WL.pure rfl rfl rfl ?_ | refine WL.nil ?_ | refine WC.skip ?_ | refine WC.block ?_ | refine WC.condT rfl ?_ | refine WC.condF rfl ?_ | refine WL.off rfl rfl rfl ?_ | refine WL.off0 rfl rfl ?_ | refine WC.exit ?_ | refine blk_hit ?_ | refine blk_miss rfl ?_ | refine WC.ret ?_)
        refine WL.known (d := 31) (congrArg (fun z => some (Value.int .i64 z)) (show IntKind.i64.wrap (IntKind.i64.wrap (((p : Nat) : Int) + ((n : Nat) : Int)) - 1) = ((p + n - 1 : Nat) : Int) by rw [e0, e1])) ?_
        repeat (first | refine WC.seq ?_ | refine WC.reg ?_ | refine WL.pure rfl rfl rfl ?_ | refine WL.nil ?_ | refine WC.skip ?_ | refine WC.block ?_ | refine WC.condT rfl ?_ | refine WC.condF rfl ?_ | refine WL.off rfl rfl rfl ?_ | refine WL.off0 rfl rfl ?_ | refine WC.exit ?_ | refine blk_hit ?_ | refine blk_miss rfl ?_ | refine WC.ret ?_)
        refine WL.rem rfl rfl rfl rfl (by omega) ?_
        repeat (first | refine WC.seq ?_ | refine WC.reg ?_ | refine WL.pure rfl rfl rfl ?_ | refine WL.nil ?_ | refine WC.skip ?_ | refine WC.block ?_ | refine WC.condT rfl ?_ | refine WC.condF rfl ?_ | refine WL.off rfl rfl rfl ?_ | refine WL.off0 rfl rfl ?_ | refine WC.exit ?_ | refine blk_hit ?_ | refine blk_miss rfl ?_ | refine WC.ret ?_)
        exact ⟨(i + 1, (p + n - 1) % n, f), (by show s.length - (i + 1) < s.length - i; omega), ⟨rfl, rfl, rfl, rfl, rfl, congrArg (fun z => some (Value.int .i64 z)) step, rfl⟩, by omega, hsucc.symm, hok, hp2⟩
      · have hb2 : ¬ f = 1 := fun h => by rw [h] at hb2; exact absurd hb2 (by decide)
        simp only [if_neg hb2] at hsucc hok
        have e0 : IntKind.i64.wrap (((p : Nat) : Int) + 1) = ((p + 1 : Nat) : Int) := by rw [wrap_i64_in (by omega) (by omega)]; omega
        repeat (first | refine WC.seq ?_ | refine WC.reg ?_ | refine WL.pure rfl rfl rfl ?_ | refine WL.nil ?_ | refine WC.skip ?_ | refine WC.block ?_ | refine WC.condT rfl ?_ | refine WC.condF rfl ?_ | refine WL.off rfl rfl rfl ?_ | refine WL.off0 rfl rfl ?_ | refine WC.exit ?_ | refine blk_hit ?_ | refine blk_miss rfl ?_ | refine WC.ret ?_)
        refine WL.known (d := 15) (congrArg (fun z => some (Value.int .i64 z)) e0) ?_
        repeat (first | refine WC.seq ?_ | refine WC.reg ?_ | refine WL.pure rfl rfl rfl ?_ | refine WL.nil ?_ | refine WC.skip ?_ | refine WC.block ?_ | refine WC.condT rfl ?_ | refine WC.condF rfl ?_ | refine WL.off rfl rfl rfl ?_ | refine WL.off0 rfl rfl ?_ | refine WC.exit ?_ | refine blk_hit ?_ | refine blk_miss rfl ?_ | refine WC.ret ?_)
        refine WL.rem rfl rfl rfl rfl (by omega) ?_
        repeat (first | refine WC.seq ?_ | refine WC.reg ?_ | refine WL.pure rfl rfl rfl ?_ | refine WL.nil ?_ | refine WC.skip ?_ | refine WC.block ?_ | refine WC.condT rfl ?_ | refine WC.condF rfl ?_ | refine WL.off rfl rfl rfl ?_ | refine WL.off0 rfl rfl ?_ | refine WC.exit ?_ | refine blk_hit ?_ | refine blk_miss rfl ?_ | refine WC.ret ?_)
        exact ⟨(i + 1, (p + 1) % n, f), (by show s.length - (i + 1) < s.length - i; omega), ⟨rfl, rfl, rfl, rfl, rfl, congrArg (fun z => some (Value.int .i64 z)) step, rfl⟩, by omega, hsucc.symm, hok, hp2⟩
  · have hi : s.length ≤ i := by have := of_decide_eq_false hc; rw [sb_size] at this; omega
    rw [List.take_of_length_le hi] at hE
    rw [← hE]
    repeat (first | refine WC.seq ?_ | refine WC.reg ?_ | refine WL.pure rfl rfl rfl ?_ | refine WL.nil ?_ | refine WC.skip ?_ | refine WC.block ?_ | refine WC.condT rfl ?_ | refine WC.condF rfl ?_ | refine WL.off rfl rfl rfl ?_ | refine WL.off0 rfl rfl ?_ | refine WC.exit ?_ | refine blk_hit ?_ | refine blk_miss rfl ?_ | refine WC.ret ?_)
    refine WL.buildA (cs := [.int .i64 (p : Nat), .int .i64 (f : Nat)]) rfl rfl rfl rfl rfl rfl ?_
    refine WL.storeN (vs := #[.int .i64 (p : Nat), .int .i64 (f : Nat)]) (arr2 := #[.int .i64 (p : Nat), .int .i64 (f : Nat)]) rfl rfl rfl rfl rfl (by intro v hv; simp only [List.mem_cons, List.not_mem_nil, or_false] at hv; rcases hv with rfl | rfl <;> rfl) (hp2.obj 0 rfl) (Nat.le_refl 2) rfl (fun w3 hw3 => ?_)
    have hp3 := hp2.set 0 rfl rfl hw3
    repeat (first | refine WC.seq ?_ | refine WC.reg ?_ | refine WL.pure rfl rfl rfl ?_ | refine WL.nil ?_ | refine WC.skip ?_ | refine WC.block ?_ | refine WC.condT rfl ?_ | refine WC.condF rfl ?_ | refine WL.off rfl rfl rfl ?_ | refine WL.off0 rfl rfl ?_ | refine WC.exit ?_ | refine blk_hit ?_ | refine blk_miss rfl ?_ | refine WC.ret ?_)
    exact Res.cell rfl rfl rfl rfl rfl rfl (hp3.obj 0 rfl) ⟨rfl, hp3.nil'⟩

set_option maxHeartbeats 2000000 in
theorem WordsGroups_any (z : Int) (x0 y0 : Str) (hx0 : x0.length ≤ 9223372036854775807) (hy0 : y0.length ≤ 9223372036854775807) (w : World) (hmx : Mx w) :
    Ret Try.prog 4 [.int .i64 z, st x0, st y0] w fun u w' => u = .bool true ∧ Hp w w' [] := by
  refine enter Try.func4 rfl rfl ⟨rfl, rfl⟩ rfl ?_
  have hm := modN_lt (n := 5) (by decide) z
  repeat (first | refine WC.seq ?_ | refine WC.reg ?_ | refine WL.pure rfl rfl rfl ?_ | refine WL.nil ?_ | refine WC.skip ?_ | refine WC.block ?_ | refine WC.condT rfl ?_ | refine WC.condF rfl ?_ | refine WL.off rfl rfl rfl ?_ | refine WL.off0 rfl rfl ?_ | refine WC.exit ?_ | refine blk_hit ?_ | refine blk_miss rfl ?_ | refine WC.ret ?_)
  refine WL.callP rfl rfl rfl rfl rfl ent15 (modO_any z 5 (by decide) (by decide) w) ?_
  obtain ⟨n, hn⟩ : ∃ n, 2 + modN z 5 = n := ⟨_, rfl⟩
  have hn1 : 2 ≤ n := by omega
  have hn2 : n ≤ 6 := by omega
  have e0 : IntKind.i64.wrap (2 + ((modN z 5 : Nat) : Int)) = ((n : Nat) : Int) := by rw [wrap_i64_in (by omega) (by omega)]; omega
  clear hn hm
  repeat (first | refine WC.seq ?_ | refine WC.reg ?_ | refine WL.pure rfl rfl rfl ?_ | refine WL.nil ?_ | refine WC.skip ?_ | refine WC.block ?_ | refine WC.condT rfl ?_ | refine WC.condF rfl ?_ | refine WL.off rfl rfl rfl ?_ | refine WL.off0 rfl rfl ?_ | refine WC.exit ?_ | refine blk_hit ?_ | refine blk_miss rfl ?_ | refine WC.ret ?_)
  refine WC.known (d := 0) (congrArg (fun z => some (Value.int .i64 z)) e0) ?_
  clear e0
  refine WC.loop Nat (fun i => [(0, .int .i64 (n : Nat)), (1, st x0), (2, st y0), (7, st (List.replicate i 97)), (8, .int .i64 (i : Nat))])
    (fun i w' => i ≤ n ∧ w' = w) (fun i => n - i) 0 ⟨rfl, rfl, rfl, rfl, rfl, rfl⟩ ⟨Nat.zero_le _, rfl⟩ ?_
  rintro i w1 ⟨hi, hw1⟩
  obtain rfl := hw1.symm
  repeat (first | refine WC.seq ?_ | refine WC.reg ?_ | refine WL.pure rfl rfl rfl ?_ | refine WL.nil ?_ | refine WC.skip ?_ | refine WC.block ?_ | refine WC.condT rfl ?_ | refine WC.condF rfl ?_ | refine WL.off rfl rfl rfl ?_ | refine WL.off0 rfl rfl ?_ | refine WC.exit ?_ | refine blk_hit ?_ | refine blk_miss rfl ?_ | refine WC.ret ?_)
  refine WC.cond rfl (fun hc => ?_) (fun hc => ?_)
  · have hi : i < n := by have := of_decide_eq_true hc; omega
    have step := wrap_succ hi (by omega)
    have hrep : (List.replicate i (97 : UInt8)) ++ [97] = List.replicate (i + 1) 97 := List.replicate_succ'.symm
    repeat (first | refine WC.seq ?_ | refine WC.reg ?_ | refine WL.pure rfl rfl rfl ?_ | refine WL.nil ?_ | refine WC.skip ?_ | refine WC.block ?_ | refine WC.condT rfl ?_ | refine WC.condF rfl ?_ | refine WL.off rfl rfl rfl ?_ | refine WL.off0 rfl rfl ?_ | refine WC.exit ?_ | refine blk_hit ?_ | refine blk_miss rfl ?_ | refine WC.ret ?_)
    refine WL.sCat (a := List.replicate i 97) (b := [97]) rfl rfl rfl rfl (by rw [List.length_replicate]; simp; omega) ?_
    rw [hrep]
    repeat (first | refine WC.seq ?_ | refine WC.reg ?_ | refine WL.pure rfl rfl rfl ?_ | refine WL.nil ?_ | refine WC.skip ?_ | refine WC.block ?_ | refine WC.condT rfl ?_ | refine WC.condF rfl ?_ | refine WL.off rfl rfl rfl ?_ | refine WL.off0 rfl rfl ?_ | refine WC.exit ?_ | refine blk_hit ?_ | refine blk_miss rfl ?_ | refine WC.ret ?_)
    exact ⟨i + 1, by omega, ⟨rfl, rfl, rfl, rfl, congrArg (fun z => some (Value.int .i64 z)) step, rfl⟩, by omega, rfl⟩
  have hi : i = n := by have := of_decide_eq_false hc; omega
  subst hi
  have e1 : IntKind.i64.wrap (((i : Nat) : Int) - 1) = ((i - 1 : Nat) : Int) := by rw [wrap_i64_in (by omega) (by omega)]; omega
  have hinv : ((List.replicate i (97 : UInt8)).drop 0).take (i - 1 - 0) = List.replicate (i - 1) 97 := by
    rw [List.drop_zero, Nat.sub_zero, List.take_replicate, Nat.min_eq_left (by omega)]
  obtain ⟨tc, hcc, hcs⟩ := chkC_of (chkC_all hn1 hn2)
  obtain ⟨td, hdc, hds, hok, hel, hcl, hdi⟩ := chkD_of (chkD_all hn1 hn2)
  obtain ⟨_, ⟨hno, _⟩ | ⟨tc', cc', hcm, hRc, _, _, _, _, hSc, hsysc⟩⟩ := comp_tame (k := 12) ((cyc_lg i).mono (by decide)) (cyc_sm hn2) (by show 1 ≤ 64; decide) (by decide)
  · rw [hcc] at hno; cases hno
  rw [hcc] at hcm
  simp only [Option.some.injEq, Prod.mk.injEq] at hcm
  obtain ⟨rfl, rfl⟩ := hcm
  obtain ⟨_, ⟨hno, _⟩ | ⟨td', cd', hcm, hRd, _, _, _, _, hSd, hsysd⟩⟩ := comp_tame (k := 12) ((dih_lg i).mono (by decide)) (dih_sm hn2) (by show 3 ≤ 64; decide) (by decide)
  · rw [hdc] at hno; cases hno
  rw [hdc] at hcm
  simp only [Option.some.injEq, Prod.mk.injEq] at hcm
  obtain ⟨rfl, rfl⟩ := hcm
  have hVc : SizeV tc 1 = .tuple #[.int .i64 (i : Nat), .int .i64 0] := by
    unfold SizeV cntB
    rw [hsysc, show (1 : Int).toNat = 1 from rfl, hcs]
    rfl
  have hVd : SizeV td 2 = .tuple #[.int .i64 (2 * i : Nat), .int .i64 0] := by
    unfold SizeV cntB
    rw [hsysd, show (2 : Int).toNat = 2 from rfl, hds]
    rfl
  have hxl := wordM_len x0 20 2
  have hyl := wordM_len y0 20 2
  have hE := EqM_grp hn1 hn2 (wordM_dg x0 20 (many := 2) (by decide) (by decide)) (wordM_dg y0 20 (many := 2) (by decide) (by decide)) hxl hyl
  have hcsm : Sm 24 (cycE i) := cyc_sm hn2
  have hdsm : Sm 24 (dihE i) := dih_sm hn2
  clear hcc hdc hcs hds hok hel hcl hdi hc
  repeat (first | refine WC.seq ?_ | refine WC.reg ?_ | refine WL.pure rfl rfl rfl ?_ | refine WL.nil ?_ | refine WC.skip ?_ | refine WC.block ?_ | refine WC.condT rfl ?_ | refine WC.condF rfl ?_ | refine WL.off rfl rfl rfl ?_ | refine WL.off0 rfl rfl ?_ | refine WC.exit ?_ | refine blk_hit ?_ | refine blk_miss rfl ?_ | refine WC.ret ?_)
  refine WL.known (d := 40) (congrArg (fun z => some (Value.int .i64 z)) e1) ?_
  refine WL.sSl (a := 0) (b := i - 1) rfl rfl rfl rfl rfl rfl (Nat.zero_le _) (by rw [List.length_replicate]; omega) ?_
  rw [hinv]
  repeat (first | refine WC.seq ?_ | refine WC.reg ?_ | refine WL.pure rfl rfl rfl ?_ | refine WL.nil ?_ | refine WC.skip ?_ | refine WC.block ?_ | refine WC.condT rfl ?_ | refine WC.condF rfl ?_ | refine WL.off rfl rfl rfl ?_ | refine WL.off0 rfl rfl ?_ | refine WC.exit ?_ | refine blk_hit ?_ | refine blk_miss rfl ?_ | refine WC.ret ?_)
  refine WL.buildT (cs := [st (List.replicate i 97), st []]) rfl rfl rfl rfl rfl rfl ?_
  refine WL.buildS (cs := rcs (cycE i)) rfl rfl rfl rfl rfl rfl rfl rfl rfl ?_
  intro b1 w1 hb1
  have hp1 := (Hp.start w).new hb1
  repeat (first | refine WC.seq ?_ | refine WC.reg ?_ | refine WL.pure rfl rfl rfl ?_ | refine WL.nil ?_ | refine WC.skip ?_ | refine WC.block ?_ | refine WC.condT rfl ?_ | refine WC.condF rfl ?_ | refine WL.off rfl rfl rfl ?_ | refine WL.off0 rfl rfl ?_ | refine WC.exit ?_ | refine blk_hit ?_ | refine blk_miss rfl ?_ | refine WC.ret ?_)
  refine WL.buildT (cs := [st (List.replicate i 97), st []]) rfl rfl rfl rfl rfl rfl ?_
  refine WL.buildT (cs := [st [98, 98], st []]) rfl rfl rfl rfl rfl rfl ?_
  repeat (first | refine WC.seq ?_ | refine WC.reg ?_ | refine WL.pure rfl rfl rfl ?_ | refine WL.nil ?_ | refine WC.skip ?_ | refine WC.block ?_ | refine WC.condT rfl ?_ | refine WC.condF rfl ?_ | refine WL.off rfl rfl rfl ?_ | refine WL.off0 rfl rfl ?_ | refine WC.exit ?_ | refine blk_hit ?_ | refine blk_miss rfl ?_ | refine WC.ret ?_)
  refine WL.sCat (a := List.replicate (i - 1) 97) (b := [98]) rfl rfl rfl rfl (by rw [List.length_replicate]; simp; omega) ?_
  refine WL.buildT (cs := [st [98, 97], st (List.replicate (i - 1) 97 ++ [98])]) rfl rfl rfl rfl rfl rfl ?_
  refine WL.buildS (cs := rcs (dihE i)) rfl rfl rfl rfl rfl rfl rfl rfl rfl ?_
  intro b2 w2 hb2
  have hp2 := hp1.new hb2
  have hsc : Sl w2 (some ⟨b1, 0, none⟩) (rcs (cycE i)) := Sl.of_obj (hp2.obj 1 rfl) (fun j u hu => by simpa using hu)
  have hsd : Sl w2 (some ⟨b2, 0, none⟩) (rcs (dihE i)) := Sl.of_obj (hp2.obj 0 rfl) (fun j u hu => by simpa using hu)
  have hp2 := hp2.nil'
  clear hp1 hb1 hb2
  repeat (first | refine WC.seq ?_ | refine WC.reg ?_ | refine WL.pure rfl rfl rfl ?_ | refine WL.nil ?_ | refine WC.skip ?_ | refine WC.block ?_ | refine WC.condT rfl ?_ | refine WC.condF rfl ?_ | refine WL.off rfl rfl rfl ?_ | refine WL.off0 rfl rfl ?_ | refine WC.exit ?_ | refine blk_hit ?_ | refine blk_miss rfl ?_ | refine WC.ret ?_)
  refine WL.call rfl rfl rfl rfl rfl ent8 (Complete_any (some ⟨b1, 0, none⟩) 1 (cycE i) (12 : Nat) (hcsm.mono (by decide)) w2 (hmx.hp hp2) hsc) ?_
  intro u w3 hu
  obtain ⟨ca, cc, rfl, hp3⟩ := hu.to
  clear hu
  rw [hRc] at hp3 ⊢
  simp only at hp3 ⊢
  repeat (first | refine WC.seq ?_ | refine WC.reg ?_ | refine WL.pure rfl rfl rfl ?_ | refine WL.nil ?_ | refine WC.skip ?_ | refine WC.block ?_ | refine WC.condT rfl ?_ | refine WC.condF rfl ?_ | refine WL.off rfl rfl rfl ?_ | refine WL.off0 rfl rfl ?_ | refine WC.exit ?_ | refine blk_hit ?_ | refine blk_miss rfl ?_ | refine WC.ret ?_)
  refine WL.call rfl rfl rfl rfl rfl ent8 (Complete_any (some ⟨b2, 0, none⟩) 3 (dihE i) (12 : Nat) (hdsm.mono (by decide)) w3 ((hmx.hp hp2).hp hp3) (hsd.hp hp3)) ?_
  intro u w4 hu
  obtain ⟨da, dc, rfl, hp4⟩ := hu.to
  clear hu
  rw [hRd] at hp4 ⊢
  simp only at hp4 ⊢
  have hp4 := hp3.comb hp4
  have hp4 : Hp w2 w4 [Rt (.slice da td.length dc) td, Rt (.slice ca tc.length cc) tc] := hp4
  repeat (first | refine WC.seq ?_ | refine WC.reg ?_ | refine WL.pure rfl rfl rfl ?_ | refine WL.nil ?_ | refine WC.skip ?_ | refine WC.block ?_ | refine WC.condT rfl ?_ | refine WC.condF rfl ?_ | refine WL.off rfl rfl rfl ?_ | refine WL.off0 rfl rfl ?_ | refine WC.exit ?_ | refine blk_hit ?_ | refine blk_miss rfl ?_ | refine WC.ret ?_)
  refine WL.call rfl rfl rfl rfl rfl ent16 (Size_any ca cc tc 1 (hSc.sm.mono (by decide)) w4 (Sl.of_row (hp4.at 1 rfl))) ?_
  rintro _ w5 ⟨rfl, hp5⟩
  have hp5 := hp4.comb hp5
  rw [hVc]
  repeat (first | refine WC.seq ?_ | refine WC.reg ?_ | refine WL.pure rfl rfl rfl ?_ | refine WL.nil ?_ | refine WC.skip ?_ | refine WC.block ?_ | refine WC.condT rfl ?_ | refine WC.condF rfl ?_ | refine WL.off rfl rfl rfl ?_ | refine WL.off0 rfl rfl ?_ | refine WC.exit ?_ | refine blk_hit ?_ | refine blk_miss rfl ?_ | refine WC.ret ?_)
  refine WL.call rfl rfl rfl rfl rfl ent16 (Size_any da dc td 2 (hSd.sm.mono (by decide)) w5 (Sl.of_row (hp5.at 0 rfl))) ?_
  rintro _ w6 ⟨rfl, hp6⟩
  have hp6 := hp5.comb hp6
  rw [hVd]
  have e2 : IntKind.i64.wrap (2 * ((i : Nat) : Int)) = ((2 * i : Nat) : Int) := by rw [wrap_i64_in (by omega) (by omega)]; omega
  repeat (first | refine WC.seq ?_ | refine WC.reg ?_ | refine WL.pure rfl rfl rfl ?_ | refine WL.nil ?_ | refine WC.skip ?_ | refine WC.block ?_ | refine WC.condT rfl ?_ | refine WC.condF rfl ?_ | refine WL.off rfl rfl rfl ?_ | refine WL.off0 rfl rfl ?_ | refine WC.exit ?_ | refine blk_hit ?_ | refine blk_miss rfl ?_ | refine WC.ret ?_)
  refine WL.split 99 rfl (fun h => ?_) (fun _ => ?_)
  · exfalso
    have h : (((i : Nat) : Int) != ((i : Nat) : Int)) = true := h
    simp at h
  repeat (first | refine WC.seq ?_ | refine WC.reg ?_ | refine WL.pure rfl rfl rfl ?_ | refine WL.nil ?_ | refine WC.skip ?_ | refine WC.block ?_ | refine WC.condT rfl ?_ | refine WC.condF rfl ?_ | refine WL.off rfl rfl rfl ?_ | refine WL.off0 rfl rfl ?_ | refine WC.exit ?_ | refine blk_hit ?_ | refine blk_miss rfl ?_ | refine WC.ret ?_)
  refine WC.cond rfl (fun h => ?_) (fun _ => ?_)
  · exfalso
    have h : (((2 * i : Nat) : Int) != IntKind.i64.wrap (2 * ((i : Nat) : Int))) = true := h
    rw [e2] at h
    simp at h
  clear e2 hVc hVd
  repeat (first | refine WC.seq ?_ | refine WC.reg ?_ | refine WL.pure rfl rfl rfl ?_ | refine WL.nil ?_ | refine WC.skip ?_ | refine WC.block ?_ | refine WC.condT rfl ?_ | refine WC.condF rfl ?_ | refine WL.off rfl rfl rfl ?_ | refine WL.off0 rfl rfl ?_ | refine WC.exit ?_ | refine blk_hit ?_ | refine blk_miss rfl ?_ | refine WC.ret ?_)
  refine WL.call rfl rfl rfl rfl rfl ent11 (word_any x0 20 2 hx0 (by decide) (by decide) (by decide) w6) ?_
  rintro _ w7 ⟨rfl, hp7⟩
  have hp7 := hp6.comb hp7
  repeat (first | refine WC.seq ?_ | refine WC.reg ?_ | refine WL.pure rfl rfl rfl ?_ | refine WL.nil ?_ | refine WC.skip ?_ | refine WC.block ?_ | refine WC.condT rfl ?_ | refine WC.condF rfl ?_ | refine WL.off rfl rfl rfl ?_ | refine WL.off0 rfl rfl ?_ | refine WC.exit ?_ | refine blk_hit ?_ | refine blk_miss rfl ?_ | refine WC.ret ?_)
  refine WL.call rfl rfl rfl rfl rfl ent11 (word_any y0 20 2 hy0 (by decide) (by decide) (by decide) w7) ?_
  rintro _ w8 ⟨rfl, hp8⟩
  have hp8 := hp7.comb hp8
  generalize wordM x0 20 2 = s at *
  generalize wordM y0 20 2 = t at *
  have hp8 : Hp w2 w8 [] := hp8.nil'
  repeat (first | refine WC.seq ?_ | refine WC.reg ?_ | refine WL.pure rfl rfl rfl ?_ | refine WL.nil ?_ | refine WC.skip ?_ | refine WC.block ?_ | refine WC.condT rfl ?_ | refine WC.condF rfl ?_ | refine WL.off rfl rfl rfl ?_ | refine WL.off0 rfl rfl ?_ | refine WC.exit ?_ | refine blk_hit ?_ | refine blk_miss rfl ?_ | refine WC.ret ?_)
  refine WL.call rfl rfl rfl rfl rfl ent17 (Equal_any (some ⟨b2, 0, none⟩) 3 (dihE i) (12 : Nat) s t (hdsm.mono (by decide)) (by omega) (by omega) w8 ((hmx.hp hp2).hp hp8) (hsd.hp hp8)) ?_
  rintro _ w9 ⟨rfl, hp9⟩
  have hp9 : Hp w w9 [] := (hp2.over hp8).over hp9
  repeat (first | refine WC.seq ?_ | refine WC.reg ?_ | refine WL.pure rfl rfl rfl ?_ | refine WL.nil ?_ | refine WC.skip ?_ | refine WC.block ?_ | refine WC.condT rfl ?_ | refine WC.condF rfl ?_ | refine WL.off rfl rfl rfl ?_ | refine WL.off0 rfl rfl ?_ | refine WC.exit ?_ | refine blk_hit ?_ | refine blk_miss rfl ?_ | refine WC.ret ?_)
  refine WL.call rfl rfl rfl rfl rfl ent18 (element_any s i (by omega) (by omega) (by omega) w9) ?_
  rintro _ w10 ⟨rfl, hp10⟩
  have hp10 := hp9.over hp10
  repeat (first | refine WC.seq ?_ | refine WC.reg ?_ | refine WL.pure rfl rfl rfl ?_ | refine WL.nil ?_ | refine WC.skip ?_ | refine WC.block ?_ | refine WC.condT rfl ?_ | refine WC.condF rfl ?_ | refine WL.off rfl rfl rfl ?_ | refine WL.off0 rfl rfl ?_ | refine WC.exit ?_ | refine blk_hit ?_ | refine blk_miss rfl ?_ | refine WC.ret ?_)
  refine WL.call rfl rfl rfl rfl rfl ent18 (element_any t i (by omega) (by omega) (by omega) w10) ?_
  rintro _ w11 ⟨rfl, hp11⟩
  have hp11 := hp10.over hp11
  rw [hE]
  generalize elF i (0, 0) s = P at *
  generalize elF i (0, 0) t = Q at *
  obtain ⟨p1, p2⟩ := P
  obtain ⟨q1, q2⟩ := Q
  simp only
  repeat (first | refine WC.seq ?_ | refine WC.reg ?_ | refine WL.pure rfl rfl rfl ?_ | refine WL.nil ?_ | refine WC.skip ?_ | refine WC.block ?_ | refine WC.condT rfl ?_ | refine WC.condF rfl ?_ | refine WL.off rfl rfl rfl ?_ | refine WL.off0 rfl rfl ?_ | refine WC.exit ?_ | refine blk_hit ?_ | refine blk_miss rfl ?_ | refine WC.ret ?_)
  refine WL.alloc rfl rfl rfl ?_
  intro b26 w12 hb26
  have hp12 := hp11.new hb26
  refine WL.alloc rfl rfl rfl ?_
  intro b27 w13 hb27
  have hp13 := hp12.new hb27
  repeat (first | refine WC.seq ?_ | refine WC.reg ?_ | refine WL.pure rfl rfl rfl ?_ | refine WL.nil ?_ | refine WC.skip ?_ | refine WC.block ?_ | refine WC.condT rfl ?_ | refine WC.condF rfl ?_ | refine WL.off rfl rfl rfl ?_ | refine WL.off0 rfl rfl ?_ | refine WC.exit ?_ | refine blk_hit ?_ | refine blk_miss rfl ?_ | refine WC.ret ?_)
  refine WL.storeN (vs := #[.int .i64 (p1 : Nat), .int .i64 (p2 : Nat)]) (arr2 := #[.int .i64 (p1 : Nat), .int .i64 (p2 : Nat)]) rfl rfl rfl rfl rfl (by intro v hv; simp only [List.mem_cons, List.not_mem_nil, or_false] at hv; rcases hv with rfl | rfl <;> rfl) (hp13.obj 1 rfl) (Nat.le_refl 2) rfl (fun w14 hw14 => ?_)
  have hp14 := hp13.set 1 rfl rfl hw14
  refine WL.storeN (vs := #[.int .i64 (q1 : Nat), .int .i64 (q2 : Nat)]) (arr2 := #[.int .i64 (q1 : Nat), .int .i64 (q2 : Nat)]) rfl rfl rfl rfl rfl (by intro v hv; simp only [List.mem_cons, List.not_mem_nil, or_false] at hv; rcases hv with rfl | rfl <;> rfl) (hp14.obj 0 rfl) (Nat.le_refl 2) rfl (fun w15 hw15 => ?_)
  have hp15 := hp14.set 0 rfl rfl hw15
  have hp15 : Hp w w15 [.blk b27 (.cells #[.int .i64 (q1 : Nat), .int .i64 (q2 : Nat)] 42 (0, 0)), .blk b26 (.cells #[.int .i64 (p1 : Nat), .int .i64 (p2 : Nat)] 42 (0, 0))] := hp15
  by_cases hpq : (p1, p2) = (q1, q2)
  · rw [if_pos hpq]
    simp only [Prod.mk.injEq] at hpq
    obtain ⟨rfl, rfl⟩ := hpq
    repeat (first | refine WC.seq ?_ | refine WC.reg ?_ | refine WL.pure rfl rfl rfl ?_ | refine WL.nil ?_ | refine WC.skip ?_ | refine WC.block ?_ | refine WC.condT rfl ?_ | refine WC.condF rfl ?_ | refine WL.off rfl rfl rfl ?_ | refine WL.off0 rfl rfl ?_ | refine WC.exit ?_ | refine blk_hit ?_ | refine blk_miss rfl ?_ | refine WC.ret ?_)
    refine WL.loadN (cs := [.int .i64 (p1 : Nat), .int .i64 (p2 : Nat)]) rfl rfl rfl rfl rfl rfl (fun j v hj => cell_of_obj (hp15.obj 1 rfl) (by rw [Nat.zero_add]; simpa using hj)) ?_
    repeat (first | refine WC.seq ?_ | refine WC.reg ?_ | refine WL.pure rfl rfl rfl ?_ | refine WL.nil ?_ | refine WC.skip ?_ | refine WC.block ?_ | refine WC.condT rfl ?_ | refine WC.condF rfl ?_ | refine WL.off rfl rfl rfl ?_ | refine WL.off0 rfl rfl ?_ | refine WC.exit ?_ | refine blk_hit ?_ | refine blk_miss rfl ?_ | refine WC.ret ?_)
    refine WL.loadN (cs := [.int .i64 (p1 : Nat), .int .i64 (p2 : Nat)]) rfl rfl rfl rfl rfl rfl (fun j v hj => cell_of_obj (hp15.obj 0 rfl) (by rw [Nat.zero_add]; simpa using hj)) ?_
    refine WL.cmp2 (q := true) rfl rfl rfl rfl rfl rfl rfl (.inl ⟨rfl, by simp⟩) ?_
    repeat (first | refine WC.seq ?_ | refine WC.reg ?_ | refine WL.pure rfl rfl rfl ?_ | refine WL.nil ?_ | refine WC.skip ?_ | refine WC.block ?_ | refine WC.condT rfl ?_ | refine WC.condF rfl ?_ | refine WL.off rfl rfl rfl ?_ | refine WL.off0 rfl rfl ?_ | refine WC.exit ?_ | refine blk_hit ?_ | refine blk_miss rfl ?_ | refine WC.ret ?_)
    refine WL.loadN (cs := [.int .i64 (p1 : Nat), .int .i64 (p2 : Nat)]) rfl rfl rfl rfl rfl rfl (fun j v hj => cell_of_obj (hp15.obj 1 rfl) (by rw [Nat.zero_add]; simpa using hj)) ?_
    repeat (first | refine WC.seq ?_ | refine WC.reg ?_ | refine WL.pure rfl rfl rfl ?_ | refine WL.nil ?_ | refine WC.skip ?_ | refine WC.block ?_ | refine WC.condT rfl ?_ | refine WC.condF rfl ?_ | refine WL.off rfl rfl rfl ?_ | refine WL.off0 rfl rfl ?_ | refine WC.exit ?_ | refine blk_hit ?_ | refine blk_miss rfl ?_ | refine WC.ret ?_)
    refine WL.loadN (cs := [.int .i64 (p1 : Nat), .int .i64 (p2 : Nat)]) rfl rfl rfl rfl rfl rfl (fun j v hj => cell_of_obj (hp15.obj 0 rfl) (by rw [Nat.zero_add]; simpa using hj)) ?_
    refine WL.cmp2 (q := false) rfl rfl rfl rfl rfl rfl rfl (.inr ⟨rfl, by simp⟩) ?_
    repeat (first | refine WC.seq ?_ | refine WC.reg ?_ | refine WL.pure rfl rfl rfl ?_ | refine WL.nil ?_ | refine WC.skip ?_ | refine WC.block ?_ | refine WC.condT rfl ?_ | refine WC.condF rfl ?_ | refine WL.off rfl rfl rfl ?_ | refine WL.off0 rfl rfl ?_ | refine WC.exit ?_ | refine blk_hit ?_ | refine blk_miss rfl ?_ | refine WC.ret ?_)
    refine WL.call rfl rfl rfl rfl rfl ent10 (awake_any w15 (hmx.hp hp15)) ?_
    rintro _ w16 ⟨rfl, hp16⟩
    repeat (first | refine WC.seq ?_ | refine WC.reg ?_ | refine WL.pure rfl rfl rfl ?_ | refine WL.nil ?_ | refine WC.skip ?_ | refine WC.block ?_ | refine WC.condT rfl ?_ | refine WC.condF rfl ?_ | refine WL.off rfl rfl rfl ?_ | refine WL.off0 rfl rfl ?_ | refine WC.exit ?_ | refine blk_hit ?_ | refine blk_miss rfl ?_ | refine WC.ret ?_)
    exact Res.one rfl rfl rfl ⟨rfl, (hp15.comb hp16).nil'⟩
  · rw [if_neg hpq]
    have hne : (((p1 : Nat) : Int) == ((q1 : Nat) : Int) && ((p2 : Nat) : Int) == ((q2 : Nat) : Int)) = false := by
      rw [← Bool.not_eq_true, Bool.and_eq_true]
      rintro ⟨h1, h2⟩
      have h1 := eq_of_beq h1
      have h2 := eq_of_beq h2
      exact hpq (by rw [show p1 = q1 by omega, show p2 = q2 by omega])
    repeat (first | refine WC.seq ?_ | refine WC.reg ?_ | refine WL.pure rfl rfl rfl ?_ | refine WL.nil ?_ | refine WC.skip ?_ | refine WC.block ?_ | refine WC.condT rfl ?_ | refine WC.condF rfl ?_ | refine WL.off rfl rfl rfl ?_ | refine WL.off0 rfl rfl ?_ | refine WC.exit ?_ | refine blk_hit ?_ | refine blk_miss rfl ?_ | refine WC.ret ?_)
    refine WL.loadN (cs := [.int .i64 (p1 : Nat), .int .i64 (p2 : Nat)]) rfl rfl rfl rfl rfl rfl (fun j v hj => cell_of_obj (hp15.obj 1 rfl) (by rw [Nat.zero_add]; simpa using hj)) ?_
    repeat (first | refine WC.seq ?_ | refine WC.reg ?_ | refine WL.pure rfl rfl rfl ?_ | refine WL.nil ?_ | refine WC.skip ?_ | refine WC.block ?_ | refine WC.condT rfl ?_ | refine WC.condF rfl ?_ | refine WL.off rfl rfl rfl ?_ | refine WL.off0 rfl rfl ?_ | refine WC.exit ?_ | refine blk_hit ?_ | refine blk_miss rfl ?_ | refine WC.ret ?_)
    refine WL.loadN (cs := [.int .i64 (q1 : Nat), .int .i64 (q2 : Nat)]) rfl rfl rfl rfl rfl rfl (fun j v hj => cell_of_obj (hp15.obj 0 rfl) (by rw [Nat.zero_add]; simpa using hj)) ?_
    refine WL.cmp2 (q := false) rfl rfl rfl rfl rfl rfl rfl (.inl ⟨rfl, hne.symm⟩) ?_
    repeat (first | refine WC.seq ?_ | refine WC.reg ?_ | refine WL.pure rfl rfl rfl ?_ | refine WL.nil ?_ | refine WC.skip ?_ | refine WC.block ?_ | refine WC.condT rfl ?_ | refine WC.condF rfl ?_ | refine WL.off rfl rfl rfl ?_ | refine WL.off0 rfl rfl ?_ | refine WC.exit ?_ | refine blk_hit ?_ | refine blk_miss rfl ?_ | refine WC.ret ?_)
    refine WL.loadN (cs := [.int .i64 (p1 : Nat), .int .i64 (p2 : Nat)]) rfl rfl rfl rfl rfl rfl (fun j v hj => cell_of_obj (hp15.obj 1 rfl) (by rw [Nat.zero_add]; simpa using hj)) ?_
    repeat (first | refine WC.seq ?_ | refine WC.reg ?_ | refine WL.pure rfl rfl rfl ?_ | refine WL.nil ?_ | refine WC.skip ?_ | refine WC.block ?_ | refine WC.condT rfl ?_ | refine WC.condF rfl ?_ | refine WL.off rfl rfl rfl ?_ | refine WL.off0 rfl rfl ?_ | refine WC.exit ?_ | refine blk_hit ?_ | refine blk_miss rfl ?_ | refine WC.ret ?_)
    refine WL.loadN (cs := [.int .i64 (q1 : Nat), .int .i64 (q2 : Nat)]) rfl rfl rfl rfl rfl rfl (fun j v hj => cell_of_obj (hp15.obj 0 rfl) (by rw [Nat.zero_add]; simpa using hj)) ?_
    refine WL.cmp2 (q := true) rfl rfl rfl rfl rfl rfl rfl (.inr ⟨rfl, by rw [hne]; rfl⟩) ?_
    repeat (first | refine WC.seq ?_ | refine WC.reg ?_ | refine WL.pure rfl rfl rfl ?_ | refine WL.nil ?_ | refine WC.skip ?_ | refine WC.block ?_ | refine WC.condT rfl ?_ | refine WC.condF rfl ?_ | refine WL.off rfl rfl rfl ?_ | refine WL.off0 rfl rfl ?_ | refine WC.exit ?_ | refine blk_hit ?_ | refine blk_miss rfl ?_ | refine WC.ret ?_)
    refine WL.call rfl rfl rfl rfl rfl ent10 (awake_any w15 (hmx.hp hp15)) ?_
    rintro _ w16 ⟨rfl, hp16⟩
    repeat (first | refine WC.seq ?_ | refine WC.reg ?_ | refine WL.pure rfl rfl rfl ?_ | refine WL.nil ?_ | refine WC.skip ?_ | refine WC.block ?_ | refine WC.condT rfl ?_ | refine WC.condF rfl ?_ | refine WL.off rfl rfl rfl ?_ | refine WL.off0 rfl rfl ?_ | refine WC.exit ?_ | refine blk_hit ?_ | refine blk_miss rfl ?_ | refine WC.ret ?_)
    exact Res.one rfl rfl rfl ⟨rfl, (hp15.comb hp16).nil'⟩
end Go.Proofs.Ytoghnhbjdnjghaa
