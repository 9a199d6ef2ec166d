/- The walk of WordsCounts. -/
import Derived.Test.YtoghnhbjdnjghaaGreatV48
import Derived.Test.YtoghnhbjdnjghaaGreatV22
namespace Go.Words
open Go.W Go.Proofs.YtoghnhbjdnjghaaGreat
theorem rulesM_sm (l : List Rl) (m : Nat) : Sm 25 (rulesM l m) := by
  intro r hr
  obtain ⟨x, _, rfl⟩ := List.mem_map.1 hr
  unfold cutR
  exact ⟨by show (x.1.take 25).length ≤ 25; rw [List.length_take]; omega, by show (x.2.take 25).length ≤ 25; rw [List.length_take]; omega⟩
theorem rulesM_len (l : List Rl) {m : Nat} (hm : m ≤ 65) : (rulesM l m).length ≤ 65 := by
  unfold rulesM rulesN
  rw [List.length_map, List.length_take]
  split <;> omega
def CouR (l : List Rl) (k n : Int) : List Int × Int := if cntB l k && decide (0 ≤ n) && decide (n ≤ 40) then match countM l k.toNat n.toNat with
    | some o => (o, 0)
    | none => ([], 5)
  else ([], 2)
def SizR (l : List Rl) (k : Int) : Int × Int := if cntB l k then match sizeM l k.toNat with
    | some z => (z, 0)
    | none => (0, 6)
  else (0, 2)
theorem SizV_eq (l : List Rl) (k : Int) : SizeV l k = .tuple #[.int .i64 (SizR l k).1, .int .i64 (SizR l k).2] := by
  unfold SizeV SizR
  split
  · cases sizeM l k.toNat <;> rfl
  · rfl
theorem sys_dc {l : List Rl} (h : sysB l = true) : Dc l := by
  intro r hr
  have := (List.all_eq_true.1 (Bool.and_eq_true_iff.1 h).2) r hr
  have h1 := of_decide_eq_true (Bool.and_eq_true_iff.1 this).2
  rw [ordS_neg]; omega
theorem countM_len {l : List Rl} (hd : Dc l) {k n : Nat} {o : List Int} (h : countM l k n = some o) : o.length = n + 1 := by
  by_cases hb : ∀ j, j ≤ n → (NN l k j : Int) ≤ 4611686018427387904
  · rw [countM_ok hd hb] at h
    rw [← Option.some.inj h, List.length_map, List.length_range]
  · rw [countM_no hd ?_] at h
    · cases h
    · refine Classical.byContradiction (fun h2 => hb (fun j hj => ?_))
      refine Classical.byContradiction (fun h3 => h2 ⟨j, hj, by omega⟩)
end Go.Words
namespace Go.Proofs.YtoghnhbjdnjghaaGreat
open Go.W Go.Words Go.RowKit
set_option maxRecDepth 100000
attribute [local irreducible] WC WL WQ WS WH

theorem CouQ.to {l : List Rl} {k n : Int} {w w' : World} {u : Value} (h : CouQ l k n w u w') : ∃ pa pc, u = .tuple #[.slice pa (CouR l k n).1.length pc, .int .i64 (CouR l k n).2] ∧ Hp w w' [Ri (.slice pa (CouR l k n).1.length pc) (CouR l k n).1] := by
  unfold CouQ at h
  unfold CouR
  split at h
  · rename_i h1
    rw [if_pos h1]
    cases hc : countM l k.toNat n.toNat with
    | none => rw [hc] at h; exact ⟨none, 0, h.1, h.2.nilrow _ _⟩
    | some q => rw [hc] at h; exact h
  · rename_i h1
    rw [if_neg h1]
    exact ⟨none, 0, h.1, h.2.nilrow _ _⟩
set_option maxHeartbeats 2000000 in
theorem WordsCounts_any (a : Option Addr) (cap : Nat) (l : List Rl) (k n : Int) (hlen : l.length ≤ 9223372036854775807) (hsm : Sm 9223372036854775807 l) (w : World) (hmx : Mx w) (hs : Sl w a (rcs l)) :
    Ret Tryz.prog 9 [.slice a l.length cap, .int .i64 k, .int .i64 n] w fun u w' => u = .bool true ∧ Hp w w' [] := by
  have hL := rulesM_sm l 16
  have hLl := rulesM_len l (m := 16) (by decide)
  refine enter Tryz.func9 rfl rfl ⟨rfl, rfl⟩ rfl ?_
  repeat (first | refine WC.seq ?_ | refine WC.reg ?_ | refine WL.pure rfl rfl rfl ?_ | refine WL.nil ?_ | refine WC.skip ?_ | refine WC.block ?_ | refine WC.condT rfl ?_ | refine WC.condF rfl ?_ | refine WL.off rfl rfl rfl ?_ | refine WL.off0 rfl rfl ?_ | refine WC.exit ?_ | refine blk_hit ?_ | refine blk_miss rfl ?_ | refine WC.ret ?_)
  refine WL.call rfl rfl rfl rfl rfl ent10 (rules_any a cap l 16 (by decide) hlen hsm w hs) ?_
  rintro _ w1 ⟨oa, oc, rfl, hp1⟩
  repeat (first | refine WC.seq ?_ | refine WC.reg ?_ | refine WL.pure rfl rfl rfl ?_ | refine WL.nil ?_ | refine WC.skip ?_ | refine WC.block ?_ | refine WC.condT rfl ?_ | refine WC.condF rfl ?_ | refine WL.off rfl rfl rfl ?_ | refine WL.off0 rfl rfl ?_ | refine WC.exit ?_ | refine blk_hit ?_ | refine blk_miss rfl ?_ | refine WC.ret ?_)
  refine WL.call rfl rfl rfl rfl rfl ent10 (rules_any a cap l 16 (by decide) hlen hsm w1 (hs.hp hp1)) ?_
  rintro _ w2 ⟨ga, gc, rfl, hp2⟩
  have hp2 := hp1.comb hp2
  generalize rulesM l 16 = L at *
  repeat (first | refine WC.seq ?_ | refine WC.reg ?_ | refine WL.pure rfl rfl rfl ?_ | refine WL.nil ?_ | refine WC.skip ?_ | refine WC.block ?_ | refine WC.condT rfl ?_ | refine WC.condF rfl ?_ | refine WL.off rfl rfl rfl ?_ | refine WL.off0 rfl rfl ?_ | refine WC.exit ?_ | refine blk_hit ?_ | refine blk_miss rfl ?_ | refine WC.ret ?_)
  refine WL.call rfl rfl rfl rfl rfl ent29 (Count_any ga gc L k n (hL.mono (by decide)) w2 (Sl.of_row (hp2.at 0 rfl))) ?_
  intro u w3 hu
  obtain ⟨ca, cc, rfl, hp3⟩ := hu.to
  clear hu
  have hp3 := hp2.comb hp3
  have hCR : ∀ C : List Int × Int, CouR L k n = C → CouR L k n = C := fun _ h => h
  obtain ⟨C, e, hC⟩ : ∃ C e, CouR L k n = (C, e) := ⟨_, _, rfl⟩
  rw [hC] at hp3 ⊢
  simp only at hp3 ⊢
  have hp3 : Hp w w3 [Ri (.slice ca C.length cc) C, Rt (.slice ga L.length gc) L, Rt (.slice oa L.length oc) L] := hp3
  clear hCR
  repeat (first | refine WC.seq ?_ | refine WC.reg ?_ | refine WL.pure rfl rfl rfl ?_ | refine WL.nil ?_ | refine WC.skip ?_ | refine WC.block ?_ | refine WC.condT rfl ?_ | refine WC.condF rfl ?_ | refine WL.off rfl rfl rfl ?_ | refine WL.off0 rfl rfl ?_ | refine WC.exit ?_ | refine blk_hit ?_ | refine blk_miss rfl ?_ | refine WC.ret ?_)
  refine WL.call rfl rfl rfl rfl rfl ent13 (same_any ga oa gc oc L L (by omega) w3 (Sl.of_row (hp3.at 1 rfl)) (Sl.of_row (hp3.at 2 rfl))) ?_
  rintro _ w4 ⟨rfl, hp4⟩
  rw [decide_eq_true rfl]
  have hp4 := hp3.comb hp4
  repeat (first | refine WC.seq ?_ | refine WC.reg ?_ | refine WL.pure rfl rfl rfl ?_ | refine WL.nil ?_ | refine WC.skip ?_ | refine WC.block ?_ | refine WC.condT rfl ?_ | refine WC.condF rfl ?_ | refine WL.off rfl rfl rfl ?_ | refine WL.off0 rfl rfl ?_ | refine WC.exit ?_ | refine blk_hit ?_ | refine blk_miss rfl ?_ | refine WC.ret ?_)
  refine WL.call rfl rfl rfl rfl rfl ent30 (Size_any ga gc L k (hL.mono (by decide)) w4 (Sl.of_row (hp4.at 1 rfl))) ?_
  rintro _ w5 ⟨rfl, hp5⟩
  have hp5 := hp4.comb hp5
  rw [SizV_eq]
  obtain ⟨y, f, hY⟩ : ∃ y f, SizR L k = (y, f) := ⟨_, _, rfl⟩
  rw [hY]
  repeat (first | refine WC.seq ?_ | refine WC.reg ?_ | refine WL.pure rfl rfl rfl ?_ | refine WL.nil ?_ | refine WC.skip ?_ | refine WC.block ?_ | refine WC.condT rfl ?_ | refine WC.condF rfl ?_ | refine WL.off rfl rfl rfl ?_ | refine WL.off0 rfl rfl ?_ | refine WC.exit ?_ | refine blk_hit ?_ | refine blk_miss rfl ?_ | refine WC.ret ?_)
  refine WL.call rfl rfl rfl rfl rfl ent13 (same_any ga oa gc oc L L (by omega) w5 (Sl.of_row (hp5.at 1 rfl)) (Sl.of_row (hp5.at 2 rfl))) ?_
  rintro _ w6 ⟨rfl, hp6⟩
  rw [decide_eq_true rfl]
  have hp6 := hp5.comb hp6
  repeat (first | refine WC.seq ?_ | refine WC.reg ?_ | refine WL.pure rfl rfl rfl ?_ | refine WL.nil ?_ | refine WC.skip ?_ | refine WC.block ?_ | refine WC.condT rfl ?_ | refine WC.condF rfl ?_ | refine WL.off rfl rfl rfl ?_ | refine WL.off0 rfl rfl ?_ | refine WC.exit ?_ | refine blk_hit ?_ | refine blk_miss rfl ?_ | refine WC.ret ?_)
  refine WL.call rfl rfl rfl rfl rfl ent14 (rSystem_any oa oc L (by omega) (hL.mono (by decide)) w6 (Sl.of_row (hp6.at 2 rfl))) ?_
  rintro _ w7 ⟨rfl, hp7⟩
  have hp7 := hp6.comb hp7
  have hp7 : Hp w w7 [Ri (.slice ca C.length cc) C, Rt (.slice ga L.length gc) L, Rt (.slice oa L.length oc) L] := hp7
  have hbad : cntB L k = false → C = [] ∧ e = 2 ∧ y = 0 ∧ f = 2 := fun h => by
    unfold CouR at hC
    unfold SizR at hY
    rw [h] at hC hY
    simp only [Bool.false_and, Bool.false_eq_true, if_false, Prod.mk.injEq] at hC hY
    exact ⟨hC.1.symm, hC.2.symm, hY.1.symm, hY.2.symm⟩
  have hcb : cntB L k = (sysB L && decide (1 ≤ k) && decide (k ≤ 8)) := rfl
  clear hp6 hp5 hp4 hp3 hp2 hp1
  repeat (first | refine WC.seq ?_ | refine WC.reg ?_ | refine WL.pure rfl rfl rfl ?_ | refine WL.nil ?_ | refine WC.skip ?_ | refine WC.block ?_ | refine WC.condT rfl ?_ | refine WC.condF rfl ?_ | refine WL.off rfl rfl rfl ?_ | refine WL.off0 rfl rfl ?_ | refine WC.exit ?_ | refine blk_hit ?_ | refine blk_miss rfl ?_ | refine WC.ret ?_)
  refine WL.split 46 rfl (fun h1 => ?_) (fun h1 => ?_)
  · have h1 : sysB L = false := by simpa using h1
    obtain ⟨rfl, rfl, rfl, rfl⟩ := hbad (by rw [hcb, h1]; rfl)
    repeat (first | refine WC.seq ?_ | refine WC.reg ?_ | refine WL.pure rfl rfl rfl ?_ | refine WL.nil ?_ | refine WC.skip ?_ | refine WC.block ?_ | refine WC.condT rfl ?_ | refine WC.condF rfl ?_ | refine WL.off rfl rfl rfl ?_ | refine WL.off0 rfl rfl ?_ | refine WC.exit ?_ | refine blk_hit ?_ | refine blk_miss rfl ?_ | refine WC.ret ?_)
    refine WL.call rfl rfl rfl rfl rfl ent16 (awake_any w7 (hmx.hp hp7)) ?_
    rintro _ w9 ⟨rfl, hp9⟩
    repeat (first | refine WC.seq ?_ | refine WC.reg ?_ | refine WL.pure rfl rfl rfl ?_ | refine WL.nil ?_ | refine WC.skip ?_ | refine WC.block ?_ | refine WC.condT rfl ?_ | refine WC.condF rfl ?_ | refine WL.off rfl rfl rfl ?_ | refine WL.off0 rfl rfl ?_ | refine WC.exit ?_ | refine blk_hit ?_ | refine blk_miss rfl ?_ | refine WC.ret ?_)
    exact Res.one rfl rfl rfl ⟨rfl, (hp7.comb hp9).nil'⟩
  have h1 : sysB L = true := by simpa using h1
  repeat (first | refine WC.seq ?_ | refine WC.reg ?_ | refine WL.pure rfl rfl rfl ?_ | refine WL.nil ?_ | refine WC.skip ?_ | refine WC.block ?_ | refine WC.condT rfl ?_ | refine WC.condF rfl ?_ | refine WL.off rfl rfl rfl ?_ | refine WL.off0 rfl rfl ?_ | refine WC.exit ?_ | refine blk_hit ?_ | refine blk_miss rfl ?_ | refine WC.ret ?_)
  refine WL.split 50 rfl (fun h2 => ?_) (fun h2 => ?_)
  · have h2 : ¬ 1 ≤ k := by have := of_decide_eq_true h2; omega
    obtain ⟨rfl, rfl, rfl, rfl⟩ := hbad (by rw [hcb, decide_eq_false h2, Bool.and_false, Bool.false_and])
    repeat (first | refine WC.seq ?_ | refine WC.reg ?_ | refine WL.pure rfl rfl rfl ?_ | refine WL.nil ?_ | refine WC.skip ?_ | refine WC.block ?_ | refine WC.condT rfl ?_ | refine WC.condF rfl ?_ | refine WL.off rfl rfl rfl ?_ | refine WL.off0 rfl rfl ?_ | refine WC.exit ?_ | refine blk_hit ?_ | refine blk_miss rfl ?_ | refine WC.ret ?_)
    refine WL.call rfl rfl rfl rfl rfl ent16 (awake_any w7 (hmx.hp hp7)) ?_
    rintro _ w9 ⟨rfl, hp9⟩
    repeat (first | refine WC.seq ?_ | refine WC.reg ?_ | refine WL.pure rfl rfl rfl ?_ | refine WL.nil ?_ | refine WC.skip ?_ | refine WC.block ?_ | refine WC.condT rfl ?_ | refine WC.condF rfl ?_ | refine WL.off rfl rfl rfl ?_ | refine WL.off0 rfl rfl ?_ | refine WC.exit ?_ | refine blk_hit ?_ | refine blk_miss rfl ?_ | refine WC.ret ?_)
    exact Res.one rfl rfl rfl ⟨rfl, (hp7.comb hp9).nil'⟩
  have h2 : 1 ≤ k := by have := of_decide_eq_false h2; omega
  repeat (first | refine WC.seq ?_ | refine WC.reg ?_ | refine WL.pure rfl rfl rfl ?_ | refine WL.nil ?_ | refine WC.skip ?_ | refine WC.block ?_ | refine WC.condT rfl ?_ | refine WC.condF rfl ?_ | refine WL.off rfl rfl rfl ?_ | refine WL.off0 rfl rfl ?_ | refine WC.exit ?_ | refine blk_hit ?_ | refine blk_miss rfl ?_ | refine WC.ret ?_)
  refine WC.cond rfl (fun h3 => ?_) (fun h3 => ?_)
  · have h3 : ¬ k ≤ 8 := by have := of_decide_eq_true h3; omega
    obtain ⟨rfl, rfl, rfl, rfl⟩ := hbad (by rw [hcb, decide_eq_false h3, Bool.and_false])
    repeat (first | refine WC.seq ?_ | refine WC.reg ?_ | refine WL.pure rfl rfl rfl ?_ | refine WL.nil ?_ | refine WC.skip ?_ | refine WC.block ?_ | refine WC.condT rfl ?_ | refine WC.condF rfl ?_ | refine WL.off rfl rfl rfl ?_ | refine WL.off0 rfl rfl ?_ | refine WC.exit ?_ | refine blk_hit ?_ | refine blk_miss rfl ?_ | refine WC.ret ?_)
    refine WL.call rfl rfl rfl rfl rfl ent16 (awake_any w7 (hmx.hp hp7)) ?_
    rintro _ w9 ⟨rfl, hp9⟩
    repeat (first | refine WC.seq ?_ | refine WC.reg ?_ | refine WL.pure rfl rfl rfl ?_ | refine WL.nil ?_ | refine WC.skip ?_ | refine WC.block ?_ | refine WC.condT rfl ?_ | refine WC.condF rfl ?_ | refine WL.off rfl rfl rfl ?_ | refine WL.off0 rfl rfl ?_ | refine WC.exit ?_ | refine blk_hit ?_ | refine blk_miss rfl ?_ | refine WC.ret ?_)
    exact Res.one rfl rfl rfl ⟨rfl, (hp7.comb hp9).nil'⟩
  have h3 : k ≤ 8 := by have := of_decide_eq_false h3; omega
  obtain ⟨kk, rfl⟩ : ∃ kk : Nat, k = (kk : Int) := ⟨k.toNat, by omega⟩
  have hgood : cntB L (kk : Nat) = true := by rw [hcb, h1, decide_eq_true h2, decide_eq_true h3]; rfl
  have hln : L.length ≤ 64 := of_decide_eq_true (Bool.and_eq_true_iff.1 h1).1
  have hsd : Sm 24 L := fun r hr => sys_side h1 r hr
  have hdc := sys_dc h1
  clear hbad hcb
  have hYm : (y, f) = match sizeM L kk with
    | some z => (z, 0)
    | none => (0, 6) := by
    rw [← hY]
    unfold SizR
    rw [if_pos hgood, Int.toNat_natCast]
  repeat (first | refine WC.seq ?_ | refine WC.reg ?_ | refine WL.pure rfl rfl rfl ?_ | refine WL.nil ?_ | refine WC.skip ?_ | refine WC.block ?_ | refine WC.condT rfl ?_ | refine WC.condF rfl ?_ | refine WL.off rfl rfl rfl ?_ | refine WL.off0 rfl rfl ?_ | refine WC.exit ?_ | refine blk_hit ?_ | refine blk_miss rfl ?_ | refine WC.ret ?_)
  refine WL.call rfl rfl rfl rfl rfl ent31 (rSize_any oa oc L kk (by omega) (by omega) hln hsd hdc w7 (Sl.of_row (hp7.at 2 rfl))) ?_
  rintro _ w8 ⟨rfl, hp8⟩
  have hp8 := hp7.comb hp8
  have hp8 : Hp w w8 [Ri (.slice ca C.length cc) C, Rt (.slice ga L.length gc) L, Rt (.slice oa L.length oc) L] := hp8
  clear hp7
  have hbad2 : (cntB L (kk : Nat) && decide (0 ≤ n) && decide (n ≤ 40)) = false → C = [] ∧ e = 2 := fun h => by
    unfold CouR at hC
    rw [h] at hC
    simp only [Bool.false_eq_true, if_false, Prod.mk.injEq] at hC
    exact ⟨hC.1.symm, hC.2.symm⟩
  clear hY
  cases hsz : sizeM L kk with
  | some T =>
    rw [hsz] at hYm
    simp only [Prod.mk.injEq] at hYm
    obtain ⟨rfl, rfl⟩ := hYm
    unfold rsizV
    repeat (first | refine WC.seq ?_ | refine WC.reg ?_ | refine WL.pure rfl rfl rfl ?_ | refine WL.nil ?_ | refine WC.skip ?_ | refine WC.block ?_ | refine WC.condT rfl ?_ | refine WC.condF rfl ?_ | refine WL.off rfl rfl rfl ?_ | refine WL.off0 rfl rfl ?_ | refine WC.exit ?_ | refine blk_hit ?_ | refine blk_miss rfl ?_ | refine WC.ret ?_)
    refine WL.split 83 rfl (fun h => ?_) (fun _ => ?_)
    · exfalso
      have h : (y != y) = true := h
      simp at h
    repeat (first | refine WC.seq ?_ | refine WC.reg ?_ | refine WL.pure rfl rfl rfl ?_ | refine WL.nil ?_ | refine WC.skip ?_ | refine WC.block ?_ | refine WC.condT rfl ?_ | refine WC.condF rfl ?_ | refine WL.off rfl rfl rfl ?_ | refine WL.off0 rfl rfl ?_ | refine WC.exit ?_ | refine blk_hit ?_ | refine blk_miss rfl ?_ | refine WC.ret ?_)
    refine WL.split 102 rfl (fun h4 => ?_) (fun h4 => ?_)
    · have h4 : ¬ 0 ≤ n := by have := of_decide_eq_true h4; omega
      obtain ⟨rfl, rfl⟩ := hbad2 (by rw [decide_eq_false h4, Bool.and_false, Bool.false_and])
      repeat (first | refine WC.seq ?_ | refine WC.reg ?_ | refine WL.pure rfl rfl rfl ?_ | refine WL.nil ?_ | refine WC.skip ?_ | refine WC.block ?_ | refine WC.condT rfl ?_ | refine WC.condF rfl ?_ | refine WL.off rfl rfl rfl ?_ | refine WL.off0 rfl rfl ?_ | refine WC.exit ?_ | refine blk_hit ?_ | refine blk_miss rfl ?_ | refine WC.ret ?_)
      refine WL.call rfl rfl rfl rfl rfl ent16 (awake_any w8 (hmx.hp hp8)) ?_
      rintro _ w9 ⟨rfl, hp9⟩
      repeat (first | refine WC.seq ?_ | refine WC.reg ?_ | refine WL.pure rfl rfl rfl ?_ | refine WL.nil ?_ | refine WC.skip ?_ | refine WC.block ?_ | refine WC.condT rfl ?_ | refine WC.condF rfl ?_ | refine WL.off rfl rfl rfl ?_ | refine WL.off0 rfl rfl ?_ | refine WC.exit ?_ | refine blk_hit ?_ | refine blk_miss rfl ?_ | refine WC.ret ?_)
      exact Res.one rfl rfl rfl ⟨rfl, (hp8.comb hp9).nil'⟩
    have h4 : 0 ≤ n := by have := of_decide_eq_false h4; omega
    repeat (first | refine WC.seq ?_ | refine WC.reg ?_ | refine WL.pure rfl rfl rfl ?_ | refine WL.nil ?_ | refine WC.skip ?_ | refine WC.block ?_ | refine WC.condT rfl ?_ | refine WC.condF rfl ?_ | refine WL.off rfl rfl rfl ?_ | refine WL.off0 rfl rfl ?_ | refine WC.exit ?_ | refine blk_hit ?_ | refine blk_miss rfl ?_ | refine WC.ret ?_)
    refine WC.cond rfl (fun h5 => ?_) (fun h5 => ?_)
    · have h5 : ¬ n ≤ 40 := by have := of_decide_eq_true h5; omega
      obtain ⟨rfl, rfl⟩ := hbad2 (by rw [decide_eq_false h5, Bool.and_false])
      repeat (first | refine WC.seq ?_ | refine WC.reg ?_ | refine WL.pure rfl rfl rfl ?_ | refine WL.nil ?_ | refine WC.skip ?_ | refine WC.block ?_ | refine WC.condT rfl ?_ | refine WC.condF rfl ?_ | refine WL.off rfl rfl rfl ?_ | refine WL.off0 rfl rfl ?_ | refine WC.exit ?_ | refine blk_hit ?_ | refine blk_miss rfl ?_ | refine WC.ret ?_)
      refine WL.call rfl rfl rfl rfl rfl ent16 (awake_any w8 (hmx.hp hp8)) ?_
      rintro _ w9 ⟨rfl, hp9⟩
      repeat (first | refine WC.seq ?_ | refine WC.reg ?_ | refine WL.pure rfl rfl rfl ?_ | refine WL.nil ?_ | refine WC.skip ?_ | refine WC.block ?_ | refine WC.condT rfl ?_ | refine WC.condF rfl ?_ | refine WL.off rfl rfl rfl ?_ | refine WL.off0 rfl rfl ?_ | refine WC.exit ?_ | refine blk_hit ?_ | refine blk_miss rfl ?_ | refine WC.ret ?_)
      exact Res.one rfl rfl rfl ⟨rfl, (hp8.comb hp9).nil'⟩
    have h5 : n ≤ 40 := by have := of_decide_eq_false h5; omega
    obtain ⟨nn, rfl⟩ : ∃ nn : Nat, n = (nn : Int) := ⟨n.toNat, by omega⟩
    have hCm : (C, e) = match countM L kk nn with
      | some o => (o, 0)
      | none => ([], 5) := by
      rw [← hC]
      unfold CouR
      rw [hgood, decide_eq_true h4, decide_eq_true h5, if_pos (show (true && true && true) = true from rfl), Int.toNat_natCast, Int.toNat_natCast]
    repeat (first | refine WC.seq ?_ | refine WC.reg ?_ | refine WL.pure rfl rfl rfl ?_ | refine WL.nil ?_ | refine WC.skip ?_ | refine WC.block ?_ | refine WC.condT rfl ?_ | refine WC.condF rfl ?_ | refine WL.off rfl rfl rfl ?_ | refine WL.off0 rfl rfl ?_ | refine WC.exit ?_ | refine blk_hit ?_ | refine blk_miss rfl ?_ | refine WC.ret ?_)
    refine WL.call rfl rfl rfl rfl rfl ent32 (rCount_any oa oc L kk nn (by omega) (by omega) (by omega) hln hsd hdc w8 (Sl.of_row (hp8.at 2 rfl))) ?_
    intro u w9 hu
    unfold RCouP at hu
    cases hcm : countM L kk nn with
    | none =>
      rw [hcm] at hu hCm
      simp only [Prod.mk.injEq] at hCm
      obtain ⟨rfl, rfl⟩ := hCm
      obtain ⟨rfl, hp9⟩ := hu
      have hp9 := hp8.comb hp9
      repeat (first | refine WC.seq ?_ | refine WC.reg ?_ | refine WL.pure rfl rfl rfl ?_ | refine WL.nil ?_ | refine WC.skip ?_ | refine WC.block ?_ | refine WC.condT rfl ?_ | refine WC.condF rfl ?_ | refine WL.off rfl rfl rfl ?_ | refine WL.off0 rfl rfl ?_ | refine WC.exit ?_ | refine blk_hit ?_ | refine blk_miss rfl ?_ | refine WC.ret ?_)
      refine WL.call rfl rfl rfl rfl rfl ent16 (awake_any w9 (hmx.hp hp9)) ?_
      rintro _ w10 ⟨rfl, hp10⟩
      repeat (first | refine WC.seq ?_ | refine WC.reg ?_ | refine WL.pure rfl rfl rfl ?_ | refine WL.nil ?_ | refine WC.skip ?_ | refine WC.block ?_ | refine WC.condT rfl ?_ | refine WC.condF rfl ?_ | refine WL.off rfl rfl rfl ?_ | refine WL.off0 rfl rfl ?_ | refine WC.exit ?_ | refine blk_hit ?_ | refine blk_miss rfl ?_ | refine WC.ret ?_)
      exact Res.one rfl rfl rfl ⟨rfl, (hp9.comb hp10).nil'⟩
    | some o =>
      have hol := countM_len hdc hcm
      rw [hcm] at hu hCm
      simp only [Prod.mk.injEq] at hCm
      obtain ⟨rfl, rfl⟩ := hCm
      obtain ⟨wa, wc, rfl, hp9⟩ := hu
      have hp9 := hp8.comb hp9
      have hp9 : Hp w w9 [Ri (.slice wa C.length wc) C, Ri (.slice ca C.length cc) C, Rt (.slice ga L.length gc) L, Rt (.slice oa L.length oc) L] := hp9
      clear hp8 hcm
      repeat (first | refine WC.seq ?_ | refine WC.reg ?_ | refine WL.pure rfl rfl rfl ?_ | refine WL.nil ?_ | refine WC.skip ?_ | refine WC.block ?_ | refine WC.condT rfl ?_ | refine WC.condF rfl ?_ | refine WL.off rfl rfl rfl ?_ | refine WL.off0 rfl rfl ?_ | refine WC.exit ?_ | refine blk_hit ?_ | refine blk_miss rfl ?_ | refine WC.ret ?_)
      refine WC.cond rfl (fun h6 => ?_) (fun _ => ?_)
      · exfalso
        have h6 : (((C.length : Nat) : Int) != ((C.length : Nat) : Int)) = true := h6
        simp at h6
      repeat (first | refine WC.seq ?_ | refine WC.reg ?_ | refine WL.pure rfl rfl rfl ?_ | refine WL.nil ?_ | refine WC.skip ?_ | refine WC.block ?_ | refine WC.condT rfl ?_ | refine WC.condF rfl ?_ | refine WL.off rfl rfl rfl ?_ | refine WL.off0 rfl rfl ?_ | refine WC.exit ?_ | refine blk_hit ?_ | refine blk_miss rfl ?_ | refine WC.ret ?_)
      refine WC.loop Nat (fun i => [(9, .slice ca C.length cc), (15, .slice wa C.length wc), (17, .int .i64 (i : Nat))])
        (fun i w' => i ≤ C.length ∧ Hp w w' [Ri (.slice wa C.length wc) C, Ri (.slice ca C.length cc) C, Rt (.slice ga L.length gc) L, Rt (.slice oa L.length oc) L]) (fun i => C.length - i) 0 ⟨rfl, rfl, rfl, rfl⟩ ⟨Nat.zero_le _, hp9⟩ ?_
      clear hp9
      rintro i w10 ⟨hi, hp10⟩
      repeat (first | refine WC.seq ?_ | refine WC.reg ?_ | refine WL.pure rfl rfl rfl ?_ | refine WL.nil ?_ | refine WC.skip ?_ | refine WC.block ?_ | refine WC.condT rfl ?_ | refine WC.condF rfl ?_ | refine WL.off rfl rfl rfl ?_ | refine WL.off0 rfl rfl ?_ | refine WC.exit ?_ | refine blk_hit ?_ | refine blk_miss rfl ?_ | refine WC.ret ?_)
      refine WC.cond rfl (fun hc => ?_) (fun hc => ?_)
      · have hi : i < C.length := by have := of_decide_eq_true hc; omega
        have step := wrap_succ hi (by omega)
        obtain ⟨wb, wo, rfl, _⟩ := zs_cellS (Sl.of_row (hp10.at 0 rfl)) hi
        obtain ⟨cb, co, rfl, _⟩ := zs_cellS (Sl.of_row (hp10.at 1 rfl)) hi
        repeat (first | refine WC.seq ?_ | refine WC.reg ?_ | refine WL.pure rfl rfl rfl ?_ | refine WL.nil ?_ | refine WC.skip ?_ | refine WC.block ?_ | refine WC.condT rfl ?_ | refine WC.condF rfl ?_ | refine WL.off rfl rfl rfl ?_ | refine WL.off0 rfl rfl ?_ | refine WC.exit ?_ | refine blk_hit ?_ | refine blk_miss rfl ?_ | refine WC.ret ?_)
        refine WC.mid Unit (fun _ => [(9, .slice (some ⟨cb, co, none⟩) C.length cc), (15, .slice (some ⟨wb, wo, none⟩) C.length wc), (17, .int .i64 (i : Nat)), (158, .bool false)])
          (fun _ w' => Hp w w' [Ri (.slice (some ⟨wb, wo, none⟩) C.length wc) C, Ri (.slice (some ⟨cb, co, none⟩) C.length cc) C, Rt (.slice ga L.length gc) L, Rt (.slice oa L.length oc) L]) ?_ ?_
        · refine WC.regQ (fun w' => Hp w w' [Ri (.slice (some ⟨wb, wo, none⟩) C.length wc) C, Ri (.slice (some ⟨cb, co, none⟩) C.length cc) C, Rt (.slice ga L.length gc) L, Rt (.slice oa L.length oc) L]) mixed (by kernel_rfl) (fun w' hw' => hp10.keep hw') ?_
          have hcell : ∀ (w' : World) (b o : Nat), Sl w' (some ⟨b, o, none⟩) (zs C) → w'.cell? ⟨b, o + i * ti3.size, none⟩ = some (.int .i64 C[i]) := fun w' b o h => by
            obtain ⟨b', o', he, hcell⟩ := zs_cellS h hi
            simp only [Option.some.injEq, Addr.mk.injEq, and_true] at he
            obtain ⟨rfl, rfl⟩ := he
            rw [show i * ti3.size = i from Nat.mul_one i]; exact hcell
          have hne : (C[i] != C[i]) = false := by simp
          repeat (first | refine WQ.pure rfl rfl rfl ?_ | refine WQ.off rfl rfl rfl ?_ | refine WQ.nil ?_)
          refine WQ.ix rfl rfl rfl rfl rfl rfl (j := i) hi ?_
          refine WQ.load rfl rfl rfl rfl rfl (fun w' hw' => hcell w' cb co (Sl.of_row (hw'.at 1 rfl))) ?_
          repeat (first | refine WQ.pure rfl rfl rfl ?_ | refine WQ.off rfl rfl rfl ?_ | refine WQ.nil ?_)
          refine WQ.ix rfl rfl rfl rfl rfl rfl (j := i) hi ?_
          refine WQ.load rfl rfl rfl rfl rfl (fun w' hw' => hcell w' wb wo (Sl.of_row (hw'.at 0 rfl))) ?_
          repeat (first | refine WQ.pure rfl rfl rfl ?_ | refine WQ.off rfl rfl rfl ?_ | refine WQ.nil ?_)
          intro w' hw'
          exact ⟨(), ⟨rfl, rfl, rfl, congrArg (fun z => some (Value.bool z)) hne, rfl⟩, hw'⟩
        rintro ⟨⟩ e11 w11 hsub hp11
        refine WC.sub hsub ?_
        repeat (first | refine WC.seq ?_ | refine WC.reg ?_ | refine WL.pure rfl rfl rfl ?_ | refine WL.nil ?_ | refine WC.skip ?_ | refine WC.block ?_ | refine WC.condT rfl ?_ | refine WC.condF rfl ?_ | refine WL.off rfl rfl rfl ?_ | refine WL.off0 rfl rfl ?_ | refine WC.exit ?_ | refine blk_hit ?_ | refine blk_miss rfl ?_ | refine WC.ret ?_)
        exact ⟨i + 1, by omega, ⟨rfl, rfl, congrArg (fun z => some (Value.int .i64 z)) step, rfl⟩, by omega, hp11⟩
      · repeat (first | refine WC.seq ?_ | refine WC.reg ?_ | refine WL.pure rfl rfl rfl ?_ | refine WL.nil ?_ | refine WC.skip ?_ | refine WC.block ?_ | refine WC.condT rfl ?_ | refine WC.condF rfl ?_ | refine WL.off rfl rfl rfl ?_ | refine WL.off0 rfl rfl ?_ | refine WC.exit ?_ | refine blk_hit ?_ | refine blk_miss rfl ?_ | refine WC.ret ?_)
        refine WL.call rfl rfl rfl rfl rfl ent16 (awake_any w10 (hmx.hp hp10)) ?_
        rintro _ w12 ⟨rfl, hp12⟩
        repeat (first | refine WC.seq ?_ | refine WC.reg ?_ | refine WL.pure rfl rfl rfl ?_ | refine WL.nil ?_ | refine WC.skip ?_ | refine WC.block ?_ | refine WC.condT rfl ?_ | refine WC.condF rfl ?_ | refine WL.off rfl rfl rfl ?_ | refine WL.off0 rfl rfl ?_ | refine WC.exit ?_ | refine blk_hit ?_ | refine blk_miss rfl ?_ | refine WC.ret ?_)
        exact Res.one rfl rfl rfl ⟨rfl, (hp10.comb hp12).nil'⟩
  | none =>
    rw [hsz] at hYm
    simp only [Prod.mk.injEq] at hYm
    obtain ⟨rfl, rfl⟩ := hYm
    unfold rsizV
    repeat (first | refine WC.seq ?_ | refine WC.reg ?_ | refine WL.pure rfl rfl rfl ?_ | refine WL.nil ?_ | refine WC.skip ?_ | refine WC.block ?_ | refine WC.condT rfl ?_ | refine WC.condF rfl ?_ | refine WL.off rfl rfl rfl ?_ | refine WL.off0 rfl rfl ?_ | refine WC.exit ?_ | refine blk_hit ?_ | refine blk_miss rfl ?_ | refine WC.ret ?_)
    refine WL.split 102 rfl (fun h4 => ?_) (fun h4 => ?_)
    · have h4 : ¬ 0 ≤ n := by have := of_decide_eq_true h4; omega
      obtain ⟨rfl, rfl⟩ := hbad2 (by rw [decide_eq_false h4, Bool.and_false, Bool.false_and])
      repeat (first | refine WC.seq ?_ | refine WC.reg ?_ | refine WL.pure rfl rfl rfl ?_ | refine WL.nil ?_ | refine WC.skip ?_ | refine WC.block ?_ | refine WC.condT rfl ?_ | refine WC.condF rfl ?_ | refine WL.off rfl rfl rfl ?_ | refine WL.off0 rfl rfl ?_ | refine WC.exit ?_ | refine blk_hit ?_ | refine blk_miss rfl ?_ | refine WC.ret ?_)
      refine WL.call rfl rfl rfl rfl rfl ent16 (awake_any w8 (hmx.hp hp8)) ?_
      rintro _ w9 ⟨rfl, hp9⟩
      repeat (first | refine WC.seq ?_ | refine WC.reg ?_ | refine WL.pure rfl rfl rfl ?_ | refine WL.nil ?_ | refine WC.skip ?_ | refine WC.block ?_ | refine WC.condT rfl ?_ | refine WC.condF rfl ?_ | refine WL.off rfl rfl rfl ?_ | refine WL.off0 rfl rfl ?_ | refine WC.exit ?_ | refine blk_hit ?_ | refine blk_miss rfl ?_ | refine WC.ret ?_)
      exact Res.one rfl rfl rfl ⟨rfl, (hp8.comb hp9).nil'⟩
    have h4 : 0 ≤ n := by have := of_decide_eq_false h4; omega
    repeat (first | refine WC.seq ?_ | refine WC.reg ?_ | refine WL.pure rfl rfl rfl ?_ | refine WL.nil ?_ | refine WC.skip ?_ | refine WC.block ?_ | refine WC.condT rfl ?_ | refine WC.condF rfl ?_ | refine WL.off rfl rfl rfl ?_ | refine WL.off0 rfl rfl ?_ | refine WC.exit ?_ | refine blk_hit ?_ | refine blk_miss rfl ?_ | refine WC.ret ?_)
    refine WC.cond rfl (fun h5 => ?_) (fun h5 => ?_)
    · have h5 : ¬ n ≤ 40 := by have := of_decide_eq_true h5; omega
      obtain ⟨rfl, rfl⟩ := hbad2 (by rw [decide_eq_false h5, Bool.and_false])
      repeat (first | refine WC.seq ?_ | refine WC.reg ?_ | refine WL.pure rfl rfl rfl ?_ | refine WL.nil ?_ | refine WC.skip ?_ | refine WC.block ?_ | refine WC.condT rfl ?_ | refine WC.condF rfl ?_ | refine WL.off rfl rfl rfl ?_ | refine WL.off0 rfl rfl ?_ | refine WC.exit ?_ | refine blk_hit ?_ | refine blk_miss rfl ?_ | refine WC.ret ?_)
      refine WL.call rfl rfl rfl rfl rfl ent16 (awake_any w8 (hmx.hp hp8)) ?_
      rintro _ w9 ⟨rfl, hp9⟩
      repeat (first | refine WC.seq ?_ | refine WC.reg ?_ | refine WL.pure rfl rfl rfl ?_ | refine WL.nil ?_ | refine WC.skip ?_ | refine WC.block ?_ | refine WC.condT rfl ?_ | refine WC.condF rfl ?_ | refine WL.off rfl rfl rfl ?_ | refine WL.off0 rfl rfl ?_ | refine WC.exit ?_ | refine blk_hit ?_ | refine blk_miss rfl ?_ | refine WC.ret ?_)
      exact Res.one rfl rfl rfl ⟨rfl, (hp8.comb hp9).nil'⟩
    have h5 : n ≤ 40 := by have := of_decide_eq_false h5; omega
    obtain ⟨nn, rfl⟩ : ∃ nn : Nat, n = (nn : Int) := ⟨n.toNat, by omega⟩
    have hCm : (C, e) = match countM L kk nn with
      | some o => (o, 0)
      | none => ([], 5) := by
      rw [← hC]
      unfold CouR
      rw [hgood, decide_eq_true h4, decide_eq_true h5, if_pos (show (true && true && true) = true from rfl), Int.toNat_natCast, Int.toNat_natCast]
    repeat (first | refine WC.seq ?_ | refine WC.reg ?_ | refine WL.pure rfl rfl rfl ?_ | refine WL.nil ?_ | refine WC.skip ?_ | refine WC.block ?_ | refine WC.condT rfl ?_ | refine WC.condF rfl ?_ | refine WL.off rfl rfl rfl ?_ | refine WL.off0 rfl rfl ?_ | refine WC.exit ?_ | refine blk_hit ?_ | refine blk_miss rfl ?_ | refine WC.ret ?_)
    refine WL.call rfl rfl rfl rfl rfl ent32 (rCount_any oa oc L kk nn (by omega) (by omega) (by omega) hln hsd hdc w8 (Sl.of_row (hp8.at 2 rfl))) ?_
    intro u w9 hu
    unfold RCouP at hu
    cases hcm : countM L kk nn with
    | none =>
      rw [hcm] at hu hCm
      simp only [Prod.mk.injEq] at hCm
      obtain ⟨rfl, rfl⟩ := hCm
      obtain ⟨rfl, hp9⟩ := hu
      have hp9 := hp8.comb hp9
      repeat (first | refine WC.seq ?_ | refine WC.reg ?_ | refine WL.pure rfl rfl rfl ?_ | refine WL.nil ?_ | refine WC.skip ?_ | refine WC.block ?_ | refine WC.condT rfl ?_ | refine WC.condF rfl ?_ | refine WL.off rfl rfl rfl ?_ | refine WL.off0 rfl rfl ?_ | refine WC.exit ?_ | refine blk_hit ?_ | refine blk_miss rfl ?_ | refine WC.ret ?_)
      refine WL.call rfl rfl rfl rfl rfl ent16 (awake_any w9 (hmx.hp hp9)) ?_
      rintro _ w10 ⟨rfl, hp10⟩
      repeat (first | refine WC.seq ?_ | refine WC.reg ?_ | refine WL.pure rfl rfl rfl ?_ | refine WL.nil ?_ | refine WC.skip ?_ | refine WC.block ?_ | refine WC.condT rfl ?_ | refine WC.condF rfl ?_ | refine WL.off rfl rfl rfl ?_ | refine WL.off0 rfl rfl ?_ | refine WC.exit ?_ | refine blk_hit ?_ | refine blk_miss rfl ?_ | refine WC.ret ?_)
      exact Res.one rfl rfl rfl ⟨rfl, (hp9.comb hp10).nil'⟩
    | some o =>
      have hol := countM_len hdc hcm
      rw [hcm] at hu hCm
      simp only [Prod.mk.injEq] at hCm
      obtain ⟨rfl, rfl⟩ := hCm
      obtain ⟨wa, wc, rfl, hp9⟩ := hu
      have hp9 := hp8.comb hp9
      have hp9 : Hp w w9 [Ri (.slice wa C.length wc) C, Ri (.slice ca C.length cc) C, Rt (.slice ga L.length gc) L, Rt (.slice oa L.length oc) L] := hp9
      clear hp8 hcm
      repeat (first | refine WC.seq ?_ | refine WC.reg ?_ | refine WL.pure rfl rfl rfl ?_ | refine WL.nil ?_ | refine WC.skip ?_ | refine WC.block ?_ | refine WC.condT rfl ?_ | refine WC.condF rfl ?_ | refine WL.off rfl rfl rfl ?_ | refine WL.off0 rfl rfl ?_ | refine WC.exit ?_ | refine blk_hit ?_ | refine blk_miss rfl ?_ | refine WC.ret ?_)
      refine WC.cond rfl (fun h6 => ?_) (fun _ => ?_)
      · exfalso
        have h6 : (((C.length : Nat) : Int) != ((C.length : Nat) : Int)) = true := h6
        simp at h6
      repeat (first | refine WC.seq ?_ | refine WC.reg ?_ | refine WL.pure rfl rfl rfl ?_ | refine WL.nil ?_ | refine WC.skip ?_ | refine WC.block ?_ | refine WC.condT rfl ?_ | refine WC.condF rfl ?_ | refine WL.off rfl rfl rfl ?_ | refine WL.off0 rfl rfl ?_ | refine WC.exit ?_ | refine blk_hit ?_ | refine blk_miss rfl ?_ | refine WC.ret ?_)
      refine WC.loop Nat (fun i => [(9, .slice ca C.length cc), (15, .slice wa C.length wc), (17, .int .i64 (i : Nat))])
        (fun i w' => i ≤ C.length ∧ Hp w w' [Ri (.slice wa C.length wc) C, Ri (.slice ca C.length cc) C, Rt (.slice ga L.length gc) L, Rt (.slice oa L.length oc) L]) (fun i => C.length - i) 0 ⟨rfl, rfl, rfl, rfl⟩ ⟨Nat.zero_le _, hp9⟩ ?_
      clear hp9
      rintro i w10 ⟨hi, hp10⟩
      repeat (first | refine WC.seq ?_ | refine WC.reg ?_ | refine WL.pure rfl rfl rfl ?_ | refine WL.nil ?_ | refine WC.skip ?_ | refine WC.block ?_ | refine WC.condT rfl ?_ | refine WC.condF rfl ?_ | refine WL.off rfl rfl rfl ?_ | refine WL.off0 rfl rfl ?_ | refine WC.exit ?_ | refine blk_hit ?_ | refine blk_miss rfl ?_ | refine WC.ret ?_)
      refine WC.cond rfl (fun hc => ?_) (fun hc => ?_)
      · have hi : i < C.length := by have := of_decide_eq_true hc; omega
        have step := wrap_succ hi (by omega)
        obtain ⟨wb, wo, rfl, _⟩ := zs_cellS (Sl.of_row (hp10.at 0 rfl)) hi
        obtain ⟨cb, co, rfl, _⟩ := zs_cellS (Sl.of_row (hp10.at 1 rfl)) hi
        repeat (first | refine WC.seq ?_ | refine WC.reg ?_ | refine WL.pure rfl rfl rfl ?_ | refine WL.nil ?_ | refine WC.skip ?_ | refine WC.block ?_ | refine WC.condT rfl ?_ | refine WC.condF rfl ?_ | refine WL.off rfl rfl rfl ?_ | refine WL.off0 rfl rfl ?_ | refine WC.exit ?_ | refine blk_hit ?_ | refine blk_miss rfl ?_ | refine WC.ret ?_)
        refine WC.mid Unit (fun _ => [(9, .slice (some ⟨cb, co, none⟩) C.length cc), (15, .slice (some ⟨wb, wo, none⟩) C.length wc), (17, .int .i64 (i : Nat)), (158, .bool false)])
          (fun _ w' => Hp w w' [Ri (.slice (some ⟨wb, wo, none⟩) C.length wc) C, Ri (.slice (some ⟨cb, co, none⟩) C.length cc) C, Rt (.slice ga L.length gc) L, Rt (.slice oa L.length oc) L]) ?_ ?_
        · refine WC.regQ (fun w' => Hp w w' [Ri (.slice (some ⟨wb, wo, none⟩) C.length wc) C, Ri (.slice (some ⟨cb, co, none⟩) C.length cc) C, Rt (.slice ga L.length gc) L, Rt (.slice oa L.length oc) L]) mixed (by kernel_rfl) (fun w' hw' => hp10.keep hw') ?_
          have hcell : ∀ (w' : World) (b o : Nat), Sl w' (some ⟨b, o, none⟩) (zs C) → w'.cell? ⟨b, o + i * ti3.size, none⟩ = some (.int .i64 C[i]) := fun w' b o h => by
            obtain ⟨b', o', he, hcell⟩ := zs_cellS h hi
            simp only [Option.some.injEq, Addr.mk.injEq, and_true] at he
            obtain ⟨rfl, rfl⟩ := he
            rw [show i * ti3.size = i from Nat.mul_one i]; exact hcell
          have hne : (C[i] != C[i]) = false := by simp
          repeat (first | refine WQ.pure rfl rfl rfl ?_ | refine WQ.off rfl rfl rfl ?_ | refine WQ.nil ?_)
          refine WQ.ix rfl rfl rfl rfl rfl rfl (j := i) hi ?_
          refine WQ.load rfl rfl rfl rfl rfl (fun w' hw' => hcell w' cb co (Sl.of_row (hw'.at 1 rfl))) ?_
          repeat (first | refine WQ.pure rfl rfl rfl ?_ | refine WQ.off rfl rfl rfl ?_ | refine WQ.nil ?_)
          refine WQ.ix rfl rfl rfl rfl rfl rfl (j := i) hi ?_
          refine WQ.load rfl rfl rfl rfl rfl (fun w' hw' => hcell w' wb wo (Sl.of_row (hw'.at 0 rfl))) ?_
          repeat (first | refine WQ.pure rfl rfl rfl ?_ | refine WQ.off rfl rfl rfl ?_ | refine WQ.nil ?_)
          intro w' hw'
          exact ⟨(), ⟨rfl, rfl, rfl, congrArg (fun z => some (Value.bool z)) hne, rfl⟩, hw'⟩
        rintro ⟨⟩ e11 w11 hsub hp11
        refine WC.sub hsub ?_
        repeat (first | refine WC.seq ?_ | refine WC.reg ?_ | refine WL.pure rfl rfl rfl ?_ | refine WL.nil ?_ | refine WC.skip ?_ | refine WC.block ?_ | refine WC.condT rfl ?_ | refine WC.condF rfl ?_ | refine WL.off rfl rfl rfl ?_ | refine WL.off0 rfl rfl ?_ | refine WC.exit ?_ | refine blk_hit ?_ | refine blk_miss rfl ?_ | refine WC.ret ?_)
        exact ⟨i + 1, by omega, ⟨rfl, rfl, congrArg (fun z => some (Value.int .i64 z)) step, rfl⟩, by omega, hp11⟩
      · repeat (first | refine WC.seq ?_ | refine WC.reg ?_ | refine WL.pure rfl rfl rfl ?_ | refine WL.nil ?_ | refine WC.skip ?_ | refine WC.block ?_ | refine WC.condT rfl ?_ | refine WC.condF rfl ?_ | refine WL.off rfl rfl rfl ?_ | refine WL.off0 rfl rfl ?_ | refine WC.exit ?_ | refine blk_hit ?_ | refine blk_miss rfl ?_ | refine WC.ret ?_)
        refine WL.call rfl rfl rfl rfl rfl ent16 (awake_any w10 (hmx.hp hp10)) ?_
        rintro _ w12 ⟨rfl, hp12⟩
        repeat (first | refine WC.seq ?_ | refine WC.reg ?_ | refine WL.pure rfl rfl rfl ?_ | refine WL.nil ?_ | refine WC.skip ?_ | refine WC.block ?_ | refine WC.condT rfl ?_ | refine WC.condF rfl ?_ | refine WL.off rfl rfl rfl ?_ | refine WL.off0 rfl rfl ?_ | refine WC.exit ?_ | refine blk_hit ?_ | refine blk_miss rfl ?_ | refine WC.ret ?_)
        exact Res.one rfl rfl rfl ⟨rfl, (hp10.comb hp12).nil'⟩
end Go.Proofs.YtoghnhbjdnjghaaGreat
