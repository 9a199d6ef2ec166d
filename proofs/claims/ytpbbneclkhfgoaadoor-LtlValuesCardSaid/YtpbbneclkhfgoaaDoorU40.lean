/- ltl, fortieth: LtlValues. -/
import Derived.Test.YtpbbneclkhfgoaaDoorU28
import Derived.Test.YtpbbneclkhfgoaaDoorU35
import Derived.Test.YtpbbneclkhfgoaaDoorU39
import Derived.Test.YtpbbneclkhfgoaaDoorU13
namespace Go.Proofs.YtpbbneclkhfgoaaDoor
open Go.W Go.Ltl Go.RowKit
set_option maxRecDepth 100000
set_option linter.unusedSectionVars false
attribute [local irreducible] WC WL WQ WS WH

theorem ints_same (a1 a2 : Option Addr) (c1 c2 : Nat) (l : List Int) (hl : l.length ≤ 1000000) (w : World) (hs1 : Sl w a1 (zs l)) (hs2 : Sl w a2 (zs l)) :
    Ret Tryd.prog 18 [.slice a1 l.length c1, .slice a2 l.length c2] w fun v w' => v = .bool true ∧ Hp w w' [] := by
  refine enter Tryd.func18 rfl rfl ⟨rfl, rfl⟩ rfl ?_
  repeat (first | refine WC.seq ?_ | refine WC.reg ?_ | refine WL.pure rfl rfl rfl ?_ | refine WL.nil ?_ | refine WC.skip ?_ | refine WC.block ?_ | refine WC.condT rfl ?_ | refine WC.condF rfl ?_ | refine WL.off rfl rfl rfl ?_ | refine WL.off0 rfl rfl ?_ | refine WC.exit ?_ | refine blk_hit ?_ | refine blk_miss rfl ?_ | refine WC.ret ?_)
  refine WC.condF (congrArg (fun b => some (Value.bool b)) (show (!(((l.length : Nat) : Int) == ((l.length : Nat) : Int))) = false by simp)) ?_
  repeat (first | refine WC.seq ?_ | refine WC.reg ?_ | refine WL.pure rfl rfl rfl ?_ | refine WL.nil ?_ | refine WC.skip ?_ | refine WC.block ?_ | refine WC.condT rfl ?_ | refine WC.condF rfl ?_ | refine WL.off rfl rfl rfl ?_ | refine WL.off0 rfl rfl ?_ | refine WC.exit ?_ | refine blk_hit ?_ | refine blk_miss rfl ?_ | refine WC.ret ?_)
  refine WC.loop Nat (fun i => [(0, .slice a1 l.length c1), (1, .slice a2 l.length c2), (5, .int .i64 (i : Nat))]) (fun i w' => i ≤ l.length ∧ Hp w w' []) (fun i => l.length - i) 0 ⟨rfl, rfl, rfl, rfl⟩ ⟨Nat.zero_le _, Hp.start w⟩ ?_
  rintro i w2 ⟨hi0, hp2⟩
  repeat (first | refine WC.seq ?_ | refine WC.reg ?_ | refine WL.pure rfl rfl rfl ?_ | refine WL.nil ?_ | refine WC.skip ?_ | refine WC.block ?_ | refine WC.condT rfl ?_ | refine WC.condF rfl ?_ | refine WL.off rfl rfl rfl ?_ | refine WL.off0 rfl rfl ?_ | refine WC.exit ?_ | refine blk_hit ?_ | refine blk_miss rfl ?_ | refine WC.ret ?_)
  refine WC.cond rfl (fun c1 => ?_) (fun c1 => ?_)
  · have hi : i < l.length := by have := of_decide_eq_true c1; omega
    have step := wrap_succ (i := i) (n := i + 1) (by omega) (by omega)
    obtain ⟨b1, o1, rfl, hc1⟩ := hs1 _ _ (zs_at hi)
    obtain ⟨b2, o2, rfl, hc2⟩ := hs2 _ _ (zs_at hi)
    obtain ⟨x, hx⟩ : ∃ x, x = l[i] := ⟨_, rfl⟩
    rw [← hx] at hc1 hc2
    refine WC.skip ?_
    refine WC.seq ?_
    refine WC.block ?_
    refine WC.seq ?_
    refine WC.regQ (fun w' => Hp w w' []) mixed (by kernel_rfl) (fun w' hw' => hp2.keep hw') ?_
    repeat (first | refine WQ.pure rfl rfl rfl ?_ | refine WQ.off rfl rfl rfl ?_ | refine WQ.nil ?_)
    refine WQ.ixload rfl (fun _ => rfl) rfl rfl rfl rfl rfl rfl rfl hi rfl rfl (fun w' h => cell_below h.below hc1) ?_
    repeat (first | refine WQ.pure rfl rfl rfl ?_ | refine WQ.off rfl rfl rfl ?_ | refine WQ.nil ?_)
    refine WQ.ixload rfl (fun _ => rfl) rfl rfl rfl rfl rfl rfl rfl hi rfl rfl (fun w' h => cell_below h.below hc2) ?_
    repeat (first | refine WQ.pure rfl rfl rfl ?_ | refine WQ.off rfl rfl rfl ?_ | refine WQ.nil ?_)
    intro w3 hp3
    refine WC.condF (congrArg (fun b => some (Value.bool b)) (show (!(x == x)) = false by simp)) ?_
    repeat (first | refine WC.seq ?_ | refine WC.reg ?_ | refine WL.pure rfl rfl rfl ?_ | refine WL.nil ?_ | refine WC.skip ?_ | refine WC.block ?_ | refine WC.condT rfl ?_ | refine WC.condF rfl ?_ | refine WL.off rfl rfl rfl ?_ | refine WL.off0 rfl rfl ?_ | refine WC.exit ?_ | refine blk_hit ?_ | refine blk_miss rfl ?_ | refine WC.ret ?_)
    exact ⟨i + 1, (by omega), ⟨rfl, rfl, congrArg (fun z => some (Value.int .i64 z)) step, rfl⟩, hi, hp3⟩
  · have hi : i = l.length := by have := of_decide_eq_false c1; omega
    repeat (first | refine WC.seq ?_ | refine WC.reg ?_ | refine WL.pure rfl rfl rfl ?_ | refine WL.nil ?_ | refine WC.skip ?_ | refine WC.block ?_ | refine WC.condT rfl ?_ | refine WC.condF rfl ?_ | refine WL.off rfl rfl rfl ?_ | refine WL.off0 rfl rfl ?_ | refine WC.exit ?_ | refine blk_hit ?_ | refine blk_miss rfl ?_ | refine WC.ret ?_)
    exact Res.one rfl rfl rfl ⟨rfl, hp2⟩
theorem any_take {l : List Int} {i : Nat} (h : i < l.length) : (l.take (i + 1)).any (fun z => !markB z) = ((l.take i).any (fun z => !markB z) || !markB l[i]) := by
  rw [List.take_succ_eq_append_getElem h, List.any_append]
  simp
theorem markB_neg {z : Int} (h : z < 0) : (!markB z) = true := by unfold markB; rw [decide_eq_false (by omega)]; rfl
theorem markB_big {z : Int} (h : ¬ z < 0) : (!markB z) = decide (15 < z) := by
  unfold markB
  rw [decide_eq_true (by omega), Bool.true_and, ← decide_not]
  exact decide_eq_decide.2 (by omega)
def badR (A B : List Int) : Bool := (((B.length : Nat) : Int) == 0) || A.any (fun z => !markB z) || B.any (fun z => !markB z)
theorem bad_true {A B : List Int} {t : Str} (hA : A.length ≤ 200) (hB : B.length ≤ 200) (h : badR A B = true) : ValueM A B t = (false, 2) := by
  unfold ValueM
  rw [if_neg]
  rintro ⟨h1, h2⟩
  rw [List.any_append, Bool.or_eq_false_iff] at h2
  unfold badR at h
  rw [h2.1, h2.2, Bool.or_false, Bool.or_false] at h
  have h3 : ((B.length : Nat) : Int) = 0 := eq_of_beq h
  have h4 : B.length = 0 := by omega
  rw [h4] at h1
  unfold lassoB at h1
  rw [decide_eq_false (show ¬ 1 ≤ 0 by decide)] at h1
  simp at h1
theorem bad_false {A B : List Int} (hA : A.length ≤ 200) (hB : B.length ≤ 200) (h : badR A B = false) : B ≠ [] ∧ (∀ m ∈ A ++ B, 0 ≤ m ∧ m ≤ 15) ∧ ∀ t, ValueM A B t = match parseM t with
    | some f => ((valsM (A ++ B) A.length f).getD 0 false, 0)
    | none => (false, 4) := by
  unfold badR at h
  rw [Bool.or_eq_false_iff, Bool.or_eq_false_iff] at h
  obtain ⟨⟨h1, h2⟩, h3⟩ := h
  have hB0 : B.length ≠ 0 := fun h0 => by rw [h0] at h1; cases h1
  have hany : (A ++ B).any (fun z => !markB z) = false := by rw [List.any_append, h2, h3]; rfl
  refine ⟨fun h0 => hB0 (by rw [h0]; rfl), fun m hm => ?_, fun t => ?_⟩
  · have h4 := List.any_eq_false.1 hany m hm
    have h5 : markB m = true := by simpa using h4
    unfold markB at h5
    simp only [Bool.and_eq_true, decide_eq_true_eq] at h5
    exact h5
  · have hc : lassoB A.length B.length = true := by
      unfold lassoB
      rw [decide_eq_true (by omega), decide_eq_true (by omega), decide_eq_true (by omega)]
      rfl
    exact (if_pos ⟨hc, hany⟩).trans (by cases parseM t <;> rfl)
theorem LtlValues_any (a1 a2 : Option Addr) (k1 k2 : Nat) (l1 l2 : List Int) (h1 : l1.length ≤ 9223372036854775807) (h2 : l2.length ≤ 9223372036854775807) (hk1 : l1.length ≤ k1) (hk2 : l2.length ≤ k2) (s : Str) (hsl : s.length ≤ 9223372036854775807) (w : World) (hG : Gl w) (hs1 : Sl w a1 (zs l1)) (hs2 : Sl w a2 (zs l2)) :
    Ret Tryd.prog 3 [.agg #[.slice a1 l1.length k1, .slice a2 l2.length k2], st s] w fun u w' => u = .bool true ∧ Hp w w' [] := by
  obtain ⟨A, hA⟩ : ∃ A, A = listM l1 := ⟨_, rfl⟩
  obtain ⟨B, hB⟩ : ∃ B, B = listM l2 := ⟨_, rfl⟩
  have hAl : A.length ≤ 200 := by rw [hA]; unfold listM; rw [List.length_take]; omega
  have hBl : B.length ≤ 200 := by rw [hB]; unfold listM; rw [List.length_take]; omega
  have hL1 := list_any a1 k1 l1 h1 hk1
  have hL2 := list_any a2 k2 l2 h2 hk2
  rw [← hA] at hL1
  rw [← hB] at hL2
  clear hA hB
  refine enter Tryd.func3 rfl rfl ⟨rfl, rfl⟩ rfl ?_
  repeat (first | refine WC.seq ?_ | refine WC.reg ?_ | refine WL.pure rfl rfl rfl ?_ | refine WL.nil ?_ | refine WC.skip ?_ | refine WC.block ?_ | refine WC.condT rfl ?_ | refine WC.condF rfl ?_ | refine WL.off rfl rfl rfl ?_ | refine WL.off0 rfl rfl ?_ | refine WC.exit ?_ | refine blk_hit ?_ | refine blk_miss rfl ?_ | refine WC.ret ?_)
  refine WL.box rfl rfl rfl (fun bx w1 hbx => ?_)
  have hp1 : Hp w w1 [Mkb bx (.slice a1 l1.length k1) (.slice a2 l2.length k2)] := (Hp.start w).new hbx
  refine WL.pure rfl rfl rfl ?_
  refine WL.nil ?_
  refine WC.seq ?_
  refine WC.mid (Option Addr × Nat × Option Addr × Nat) (fun (p1, q1, p2, q2) => [(1, st s), (2, ptr bx), (4, .bool false), (5, .slice p1 A.length q1), (6, .slice p2 B.length q2)])
    (fun (p1, q1, p2, q2) w' => Hp w w' [Ri (.slice p2 B.length q2) B, Ri (.slice p1 A.length q1) A, Mkb bx (.slice a1 l1.length k1) (.slice a2 l2.length k2)]) ?_ ?_
  · refine WC.regH (fun w' => Hp w w' [Mkb bx (.slice a1 l1.length k1) (.slice a2 l2.length k2)]) mixed (by kernel_rfl) (fun w2 hw2 hh2 => ?_)
    have hp2 := hp1.keep hw2
    refine WH.pure 0 (by kernel_rfl) rfl (by kernel_rfl) rfl rfl rfl (hp2) ?_
    refine WH.load 1 (by kernel_rfl) rfl (by kernel_rfl) rfl rfl rfl rfl rfl (fun w' h => cell_of_obj (h.obj 0 rfl) (j := 0) rfl) hp2 ?_
    refine WH.pure 3 (by kernel_rfl) rfl (by kernel_rfl) rfl rfl rfl (hp2) ?_
    refine WH.load 4 (by kernel_rfl) rfl (by kernel_rfl) rfl rfl rfl rfl rfl (fun w' h => cell_of_obj (h.obj 0 rfl) (j := 1) rfl) hp2 ?_
    refine WH.one 2 rfl (by kernel_rfl) ?_
    refine WL.call rfl rfl rfl rfl rfl ent15 (hL1 w2 (hs1.hp hp2)) ?_
    rintro _ w3 ⟨p1, q1, rfl, hp3⟩
    have hp3 := hp2.comb hp3
    have hS3 := hp3.pick [1] (by decide)
    refine WL.nil ⟨hS3, ?_⟩
    refine WH.one 5 rfl (by kernel_rfl) ?_
    refine WL.call rfl rfl rfl rfl rfl ent15 (hL2 w3 (hs2.hp hp3)) ?_
    rintro _ w4 ⟨p2, q2, rfl, hp4⟩
    have hp4 := hp3.comb hp4
    have hS4 := hp4.pick [2] (by decide)
    refine WL.nil ⟨hS4, ?_⟩
    refine WH.pure 6 (by kernel_rfl) rfl (by kernel_rfl) rfl rfl rfl (hS4) ?_
    refine WH.pure 7 (by kernel_rfl) rfl (by kernel_rfl) rfl rfl rfl (hS4) ?_
    refine WH.done (by kernel_rfl) ?_
    exact ⟨(p1, q1, p2, q2), ⟨rfl, rfl, rfl, rfl, rfl, rfl⟩, hp4⟩
  rintro ⟨p1, q1, p2, q2⟩ e2 w2 hsub hp2
  refine WC.sub hsub ?_
  clear hsub e2 hp1
  replace hp2 : Hp w w2 [Ri (.slice p2 B.length q2) B, Ri (.slice p1 A.length q1) A, Mkb bx (.slice a1 l1.length k1) (.slice a2 l2.length k2)] := hp2
  refine WC.seq ?_
  refine WC.mid (Option Addr × Nat × Option Addr × Nat) (fun (p3, q3, p4, q4) => [(1, st s), (2, ptr bx), (4, .bool false), (5, .slice p1 A.length q1), (6, .slice p2 B.length q2), (7, .slice p3 A.length q3), (8, .slice p4 B.length q4)])
    (fun (p3, q3, p4, q4) w' => Hp w w' [Ri (.slice p4 B.length q4) B, Ri (.slice p3 A.length q3) A, Ri (.slice p2 B.length q2) B, Ri (.slice p1 A.length q1) A, Mkb bx (.slice a1 l1.length k1) (.slice a2 l2.length k2)]) ?_ ?_
  · refine WC.regH (fun w' => Hp w w' [Mkb bx (.slice a1 l1.length k1) (.slice a2 l2.length k2)]) mixed (by kernel_rfl) (fun w3 hw3 hh3 => ?_)
    have hp3 := hp2.keep hw3
    have hS3 := hp3.pick [2] (by decide)
    refine WH.pure 0 (by kernel_rfl) rfl (by kernel_rfl) rfl rfl rfl (hS3) ?_
    refine WH.load 1 (by kernel_rfl) rfl (by kernel_rfl) rfl rfl rfl rfl rfl (fun w' h => cell_of_obj (h.obj 0 rfl) (j := 0) rfl) hS3 ?_
    refine WH.pure 3 (by kernel_rfl) rfl (by kernel_rfl) rfl rfl rfl (hS3) ?_
    refine WH.load 4 (by kernel_rfl) rfl (by kernel_rfl) rfl rfl rfl rfl rfl (fun w' h => cell_of_obj (h.obj 0 rfl) (j := 1) rfl) hS3 ?_
    refine WH.one 2 rfl (by kernel_rfl) ?_
    refine WL.call rfl rfl rfl rfl rfl ent15 (hL1 w3 (hs1.hp hp3)) ?_
    rintro _ w4 ⟨p3, q3, rfl, hp4⟩
    have hp4 := hp3.comb hp4
    have hS4 := hp4.pick [3] (by decide)
    refine WL.nil ⟨hS4, ?_⟩
    refine WH.one 5 rfl (by kernel_rfl) ?_
    refine WL.call rfl rfl rfl rfl rfl ent15 (hL2 w4 (hs2.hp hp4)) ?_
    rintro _ w5 ⟨p4, q4, rfl, hp5⟩
    have hp5 := hp4.comb hp5
    have hS5 := hp5.pick [4] (by decide)
    refine WL.nil ⟨hS5, ?_⟩
    refine WH.pure 6 (by kernel_rfl) rfl (by kernel_rfl) rfl rfl rfl (hS5) ?_
    refine WH.pure 7 (by kernel_rfl) rfl (by kernel_rfl) rfl rfl rfl (hS5) ?_
    refine WH.done (by kernel_rfl) ?_
    exact ⟨(p3, q3, p4, q4), ⟨rfl, rfl, rfl, rfl, rfl, rfl, rfl, rfl⟩, hp5⟩
  rintro ⟨p3, q3, p4, q4⟩ e3 w3 hsub hp3
  refine WC.sub hsub ?_
  clear hsub e3 hp2
  replace hp3 : Hp w w3 [Ri (.slice p4 B.length q4) B, Ri (.slice p3 A.length q3) A, Ri (.slice p2 B.length q2) B, Ri (.slice p1 A.length q1) A, Mkb bx (.slice a1 l1.length k1) (.slice a2 l2.length k2)] := hp3
  repeat (first | refine WC.seq ?_ | refine WC.reg ?_ | refine WL.pure rfl rfl rfl ?_ | refine WL.nil ?_ | refine WC.skip ?_ | refine WC.block ?_ | refine WC.condT rfl ?_ | refine WC.condF rfl ?_ | refine WL.off rfl rfl rfl ?_ | refine WL.off0 rfl rfl ?_ | refine WC.exit ?_ | refine blk_hit ?_ | refine blk_miss rfl ?_ | refine WC.ret ?_)
  refine WL.call rfl rfl rfl rfl rfl ent16 (short_any s hsl w3) ?_
  rintro _ w4 ⟨rfl, hw4⟩
  obtain rfl := hw4.symm
  obtain ⟨t, ht⟩ : ∃ t, t = shortM s := ⟨_, rfl⟩
  have htl : t.length ≤ 1000 := by rw [ht]; unfold shortM; rw [List.length_take]; omega
  rw [← ht]
  repeat (first | refine WC.seq ?_ | refine WC.reg ?_ | refine WL.pure rfl rfl rfl ?_ | refine WL.nil ?_ | refine WC.skip ?_ | refine WC.block ?_ | refine WC.condT rfl ?_ | refine WC.condF rfl ?_ | refine WL.off rfl rfl rfl ?_ | refine WL.off0 rfl rfl ?_ | refine WC.exit ?_ | refine blk_hit ?_ | refine blk_miss rfl ?_ | refine WC.ret ?_)
  refine WL.call rfl rfl rfl rfl rfl ent17 (Value_any p3 p4 q3 q4 A B t htl (by omega) w3 (hG.hp hp3) (hp3.sl 1 rfl) (hp3.sl 0 rfl)) ?_
  rintro _ w4 ⟨rfl, hp4⟩
  have hp4 := hp3.call hp4.below
  clear hp3
  obtain ⟨vm, hvm⟩ : ∃ vm, vm = ValueM A B t := ⟨_, rfl⟩
  rw [← hvm]
  repeat (first | refine WC.seq ?_ | refine WC.reg ?_ | refine WL.pure rfl rfl rfl ?_ | refine WL.nil ?_ | refine WC.skip ?_ | refine WC.block ?_ | refine WC.condT rfl ?_ | refine WC.condF rfl ?_ | refine WL.off rfl rfl rfl ?_ | refine WL.off0 rfl rfl ?_ | refine WC.exit ?_ | refine blk_hit ?_ | refine blk_miss rfl ?_ | refine WC.ret ?_)
  refine WL.call rfl rfl rfl rfl rfl ent18 (ints_same p3 p1 q3 q1 A (by omega) w4 (hp4.sl 1 rfl) (hp4.sl 3 rfl)) ?_
  rintro _ w5 ⟨rfl, hp5⟩
  have hp5 := hp4.call hp5.below
  repeat (first | refine WC.seq ?_ | refine WC.reg ?_ | refine WL.pure rfl rfl rfl ?_ | refine WL.nil ?_ | refine WC.skip ?_ | refine WC.block ?_ | refine WC.condT rfl ?_ | refine WC.condF rfl ?_ | refine WL.off rfl rfl rfl ?_ | refine WL.off0 rfl rfl ?_ | refine WC.exit ?_ | refine blk_hit ?_ | refine blk_miss rfl ?_ | refine WC.ret ?_)
  refine WL.call rfl rfl rfl rfl rfl ent18 (ints_same p4 p2 q4 q2 B (by omega) w5 (hp5.sl 0 rfl) (hp5.sl 2 rfl)) ?_
  rintro _ w6 ⟨rfl, hp6⟩
  have hp6 := hp5.call hp6.below
  clear hp4 hp5
  repeat (first | refine WC.seq ?_ | refine WC.reg ?_ | refine WL.pure rfl rfl rfl ?_ | refine WL.nil ?_ | refine WC.skip ?_ | refine WC.block ?_ | refine WC.condT rfl ?_ | refine WC.condF rfl ?_ | refine WL.off rfl rfl rfl ?_ | refine WL.off0 rfl rfl ?_ | refine WC.exit ?_ | refine blk_hit ?_ | refine blk_miss rfl ?_ | refine WC.ret ?_)
  refine WL.call rfl rfl rfl rfl rfl ent19 (Parse_any t htl w6) ?_
  intro pv w7 hpv
  obtain ⟨fa, fn, fc, ok, rfl, hpr, hp7⟩ : ∃ fa fn fc ok, pv = .tuple #[.slice fa fn fc, .bool ok] ∧ (match parseM t with
      | some f => fn = (nodesN 0 f).length ∧ ok = true ∧ Sl w7 fa (ndC (nodesN 0 f))
      | none => ok = false) ∧ Hp w w7 [Ri (.slice p4 B.length q4) B, Ri (.slice p3 A.length q3) A, Ri (.slice p2 B.length q2) B, Ri (.slice p1 A.length q1) A, Mkb bx (.slice a1 l1.length k1) (.slice a2 l2.length k2)] := by
    cases hf : parseM t with
    | none =>
      rw [hf] at hpv
      obtain ⟨a, n, c, rfl, h⟩ := hpv
      exact ⟨a, n, c, false, rfl, rfl, hp6.call h.below⟩
    | some f =>
      rw [hf] at hpv
      obtain ⟨a, c, rfl, h⟩ := hpv
      exact ⟨a, _, c, true, rfl, ⟨rfl, rfl, Sl.of_row (h.at 0 rfl)⟩, hp6.call h.below⟩
  clear hpv hp6
  have hSA : Sl w7 p1 (zs A) := hp7.sl 3 rfl
  have hSB : Sl w7 p2 (zs B) := hp7.sl 2 rfl
  repeat (first | refine WC.seq ?_ | refine WC.reg ?_ | refine WL.pure rfl rfl rfl ?_ | refine WL.nil ?_ | refine WC.skip ?_ | refine WC.block ?_ | refine WC.condT rfl ?_ | refine WC.condF rfl ?_ | refine WL.off rfl rfl rfl ?_ | refine WL.off0 rfl rfl ?_ | refine WC.exit ?_ | refine blk_hit ?_ | refine blk_miss rfl ?_ | refine WC.ret ?_)
  refine WC.loop Nat (fun i => [(5, .slice p1 A.length q1), (6, .slice p2 B.length q2), (9, .bool vm.1), (10, .int .i64 vm.2), (11, .slice fa fn fc), (12, .bool ok), (13, .bool ((((B.length : Nat) : Int) == 0) || (A.take i).any (fun z => !markB z))), (14, .int .i64 (i : Nat))])
    (fun i w' => i ≤ A.length ∧ w' = w7) (fun i => A.length - i) 0 ⟨rfl, rfl, rfl, rfl, rfl, rfl, congrArg (fun b => some (Value.bool b)) (Bool.or_false _).symm, rfl, rfl⟩ ⟨Nat.zero_le _, rfl⟩ ?_
  rintro i w8 ⟨hi0, rfl⟩
  repeat (first | refine WC.seq ?_ | refine WC.reg ?_ | refine WL.pure rfl rfl rfl ?_ | refine WL.nil ?_ | refine WC.skip ?_ | refine WC.block ?_ | refine WC.condT rfl ?_ | refine WC.condF rfl ?_ | refine WL.off rfl rfl rfl ?_ | refine WL.off0 rfl rfl ?_ | refine WC.exit ?_ | refine blk_hit ?_ | refine blk_miss rfl ?_ | refine WC.ret ?_)
  refine WC.cond rfl (fun c1 => ?_) (fun c1 => ?_)
  · have hi : i < A.length := by have := of_decide_eq_true c1; omega
    have step := wrap_succ (i := i) (n := i + 1) (by omega) (by omega)
    have htk := any_take hi
    obtain ⟨x, hx⟩ : ∃ x, x = A[i] := ⟨_, rfl⟩
    rw [← hx] at htk
    obtain ⟨q, hq⟩ : ∃ q, q = ((((B.length : Nat) : Int) == 0) || (A.take i).any (fun z => !markB z)) := ⟨_, rfl⟩
    have hn : ((((B.length : Nat) : Int) == 0) || (A.take (i + 1)).any (fun z => !markB z)) = (q || !markB x) := by rw [htk, ← Bool.or_assoc, ← hq]
    rw [← hq]
    cases q
    · repeat (first | refine WC.seq ?_ | refine WC.reg ?_ | refine WL.pure rfl rfl rfl ?_ | refine WL.nil ?_ | refine WC.skip ?_ | refine WC.block ?_ | refine WC.condT rfl ?_ | refine WC.condF rfl ?_ | refine WL.off rfl rfl rfl ?_ | refine WL.off0 rfl rfl ?_ | refine WC.exit ?_ | refine blk_hit ?_ | refine blk_miss rfl ?_ | refine WC.ret ?_)
      refine WL.ixload (j := i) rfl (fun _ => rfl) rfl rfl rfl rfl rfl rfl rfl hi rfl rfl hSA (zs_at hi) ?_
      intro q0
      rw [← hx]
      repeat (first | refine WC.seq ?_ | refine WC.reg ?_ | refine WL.pure rfl rfl rfl ?_ | refine WL.nil ?_ | refine WC.skip ?_ | refine WC.block ?_ | refine WC.condT rfl ?_ | refine WC.condF rfl ?_ | refine WL.off rfl rfl rfl ?_ | refine WL.off0 rfl rfl ?_ | refine WC.exit ?_ | refine blk_hit ?_ | refine blk_miss rfl ?_ | refine WC.ret ?_)
      refine WL.split 69 rfl (fun c2 => ?_) (fun c2 => ?_)
      · have c2 : x < 0 := of_decide_eq_true c2
        repeat (first | refine WC.seq ?_ | refine WC.reg ?_ | refine WL.pure rfl rfl rfl ?_ | refine WL.nil ?_ | refine WC.skip ?_ | refine WC.block ?_ | refine WC.condT rfl ?_ | refine WC.condF rfl ?_ | refine WL.off rfl rfl rfl ?_ | refine WL.off0 rfl rfl ?_ | refine WC.exit ?_ | refine blk_hit ?_ | refine blk_miss rfl ?_ | refine WC.ret ?_)
        exact ⟨i + 1, (by omega), ⟨rfl, rfl, rfl, rfl, rfl, rfl, congrArg (fun b => some (Value.bool b)) (show true = _ from (hn.trans (by rw [markB_neg c2]; rfl)).symm), congrArg (fun z => some (Value.int .i64 z)) step, rfl⟩, hi, rfl⟩
      · have c2 : ¬ x < 0 := of_decide_eq_false c2
        repeat (first | refine WC.seq ?_ | refine WC.reg ?_ | refine WL.pure rfl rfl rfl ?_ | refine WL.nil ?_ | refine WC.skip ?_ | refine WC.block ?_ | refine WC.condT rfl ?_ | refine WC.condF rfl ?_ | refine WL.off rfl rfl rfl ?_ | refine WL.off0 rfl rfl ?_ | refine WC.exit ?_ | refine blk_hit ?_ | refine blk_miss rfl ?_ | refine WC.ret ?_)
        refine WL.ixload (j := i) rfl (fun _ => rfl) rfl rfl rfl rfl rfl rfl rfl hi rfl rfl hSA (zs_at hi) ?_
        intro q1
        rw [← hx]
        repeat (first | refine WC.seq ?_ | refine WC.reg ?_ | refine WL.pure rfl rfl rfl ?_ | refine WL.nil ?_ | refine WC.skip ?_ | refine WC.block ?_ | refine WC.condT rfl ?_ | refine WC.condF rfl ?_ | refine WL.off rfl rfl rfl ?_ | refine WL.off0 rfl rfl ?_ | refine WC.exit ?_ | refine blk_hit ?_ | refine blk_miss rfl ?_ | refine WC.ret ?_)
        exact ⟨i + 1, (by omega), ⟨rfl, rfl, rfl, rfl, rfl, rfl, congrArg (fun b => some (Value.bool b)) (show decide (15 < x) = _ from (hn.trans (by rw [markB_big c2]; rfl)).symm), congrArg (fun z => some (Value.int .i64 z)) step, rfl⟩, hi, rfl⟩
    · repeat (first | refine WC.seq ?_ | refine WC.reg ?_ | refine WL.pure rfl rfl rfl ?_ | refine WL.nil ?_ | refine WC.skip ?_ | refine WC.block ?_ | refine WC.condT rfl ?_ | refine WC.condF rfl ?_ | refine WL.off rfl rfl rfl ?_ | refine WL.off0 rfl rfl ?_ | refine WC.exit ?_ | refine blk_hit ?_ | refine blk_miss rfl ?_ | refine WC.ret ?_)
      exact ⟨i + 1, (by omega), ⟨rfl, rfl, rfl, rfl, rfl, rfl, congrArg (fun b => some (Value.bool b)) (show true = _ from hn.symm), congrArg (fun z => some (Value.int .i64 z)) step, rfl⟩, hi, rfl⟩
  have hi : i = A.length := by have := of_decide_eq_false c1; omega
  subst hi
  rw [List.take_length]
  clear c1 hi0
  repeat (first | refine WC.seq ?_ | refine WC.reg ?_ | refine WL.pure rfl rfl rfl ?_ | refine WL.nil ?_ | refine WC.skip ?_ | refine WC.block ?_ | refine WC.condT rfl ?_ | refine WC.condF rfl ?_ | refine WL.off rfl rfl rfl ?_ | refine WL.off0 rfl rfl ?_ | refine WC.exit ?_ | refine blk_hit ?_ | refine blk_miss rfl ?_ | refine WC.ret ?_)
  refine WC.loop Nat (fun i => [(5, .slice p1 A.length q1), (6, .slice p2 B.length q2), (9, .bool vm.1), (10, .int .i64 vm.2), (11, .slice fa fn fc), (12, .bool ok), (13, .bool (((((B.length : Nat) : Int) == 0) || A.any (fun z => !markB z)) || (B.take i).any (fun z => !markB z))), (15, .int .i64 (i : Nat))])
    (fun i w' => i ≤ B.length ∧ w' = w8) (fun i => B.length - i) 0 ⟨rfl, rfl, rfl, rfl, rfl, rfl, congrArg (fun b => some (Value.bool b)) (Bool.or_false _).symm, rfl, rfl⟩ ⟨Nat.zero_le _, rfl⟩ ?_
  rintro i w9 ⟨hi0, rfl⟩
  repeat (first | refine WC.seq ?_ | refine WC.reg ?_ | refine WL.pure rfl rfl rfl ?_ | refine WL.nil ?_ | refine WC.skip ?_ | refine WC.block ?_ | refine WC.condT rfl ?_ | refine WC.condF rfl ?_ | refine WL.off rfl rfl rfl ?_ | refine WL.off0 rfl rfl ?_ | refine WC.exit ?_ | refine blk_hit ?_ | refine blk_miss rfl ?_ | refine WC.ret ?_)
  refine WC.cond rfl (fun c1 => ?_) (fun c1 => ?_)
  · have hi : i < B.length := by have := of_decide_eq_true c1; omega
    have step := wrap_succ (i := i) (n := i + 1) (by omega) (by omega)
    have htk := any_take hi
    obtain ⟨x, hx⟩ : ∃ x, x = B[i] := ⟨_, rfl⟩
    rw [← hx] at htk
    obtain ⟨q, hq⟩ : ∃ q, q = (((((B.length : Nat) : Int) == 0) || A.any (fun z => !markB z)) || (B.take i).any (fun z => !markB z)) := ⟨_, rfl⟩
    have hn : (((((B.length : Nat) : Int) == 0) || A.any (fun z => !markB z)) || (B.take (i + 1)).any (fun z => !markB z)) = (q || !markB x) := by rw [htk, ← Bool.or_assoc, ← hq]
    rw [← hq]
    cases q
    · repeat (first | refine WC.seq ?_ | refine WC.reg ?_ | refine WL.pure rfl rfl rfl ?_ | refine WL.nil ?_ | refine WC.skip ?_ | refine WC.block ?_ | refine WC.condT rfl ?_ | refine WC.condF rfl ?_ | refine WL.off rfl rfl rfl ?_ | refine WL.off0 rfl rfl ?_ | refine WC.exit ?_ | refine blk_hit ?_ | refine blk_miss rfl ?_ | refine WC.ret ?_)
      refine WL.ixload (j := i) rfl (fun _ => rfl) rfl rfl rfl rfl rfl rfl rfl hi rfl rfl hSB (zs_at hi) ?_
      intro q0
      rw [← hx]
      repeat (first | refine WC.seq ?_ | refine WC.reg ?_ | refine WL.pure rfl rfl rfl ?_ | refine WL.nil ?_ | refine WC.skip ?_ | refine WC.block ?_ | refine WC.condT rfl ?_ | refine WC.condF rfl ?_ | refine WL.off rfl rfl rfl ?_ | refine WL.off0 rfl rfl ?_ | refine WC.exit ?_ | refine blk_hit ?_ | refine blk_miss rfl ?_ | refine WC.ret ?_)
      refine WL.split 90 rfl (fun c2 => ?_) (fun c2 => ?_)
      · have c2 : x < 0 := of_decide_eq_true c2
        repeat (first | refine WC.seq ?_ | refine WC.reg ?_ | refine WL.pure rfl rfl rfl ?_ | refine WL.nil ?_ | refine WC.skip ?_ | refine WC.block ?_ | refine WC.condT rfl ?_ | refine WC.condF rfl ?_ | refine WL.off rfl rfl rfl ?_ | refine WL.off0 rfl rfl ?_ | refine WC.exit ?_ | refine blk_hit ?_ | refine blk_miss rfl ?_ | refine WC.ret ?_)
        exact ⟨i + 1, (by omega), ⟨rfl, rfl, rfl, rfl, rfl, rfl, congrArg (fun b => some (Value.bool b)) (show true = _ from (hn.trans (by rw [markB_neg c2]; rfl)).symm), congrArg (fun z => some (Value.int .i64 z)) step, rfl⟩, hi, rfl⟩
      · have c2 : ¬ x < 0 := of_decide_eq_false c2
        repeat (first | refine WC.seq ?_ | refine WC.reg ?_ | refine WL.pure rfl rfl rfl ?_ | refine WL.nil ?_ | refine WC.skip ?_ | refine WC.block ?_ | refine WC.condT rfl ?_ | refine WC.condF rfl ?_ | refine WL.off rfl rfl rfl ?_ | refine WL.off0 rfl rfl ?_ | refine WC.exit ?_ | refine blk_hit ?_ | refine blk_miss rfl ?_ | refine WC.ret ?_)
        refine WL.ixload (j := i) rfl (fun _ => rfl) rfl rfl rfl rfl rfl rfl rfl hi rfl rfl hSB (zs_at hi) ?_
        intro q1
        rw [← hx]
        repeat (first | refine WC.seq ?_ | refine WC.reg ?_ | refine WL.pure rfl rfl rfl ?_ | refine WL.nil ?_ | refine WC.skip ?_ | refine WC.block ?_ | refine WC.condT rfl ?_ | refine WC.condF rfl ?_ | refine WL.off rfl rfl rfl ?_ | refine WL.off0 rfl rfl ?_ | refine WC.exit ?_ | refine blk_hit ?_ | refine blk_miss rfl ?_ | refine WC.ret ?_)
        exact ⟨i + 1, (by omega), ⟨rfl, rfl, rfl, rfl, rfl, rfl, congrArg (fun b => some (Value.bool b)) (show decide (15 < x) = _ from (hn.trans (by rw [markB_big c2]; rfl)).symm), congrArg (fun z => some (Value.int .i64 z)) step, rfl⟩, hi, rfl⟩
    · repeat (first | refine WC.seq ?_ | refine WC.reg ?_ | refine WL.pure rfl rfl rfl ?_ | refine WL.nil ?_ | refine WC.skip ?_ | refine WC.block ?_ | refine WC.condT rfl ?_ | refine WC.condF rfl ?_ | refine WL.off rfl rfl rfl ?_ | refine WL.off0 rfl rfl ?_ | refine WC.exit ?_ | refine blk_hit ?_ | refine blk_miss rfl ?_ | refine WC.ret ?_)
      exact ⟨i + 1, (by omega), ⟨rfl, rfl, rfl, rfl, rfl, rfl, congrArg (fun b => some (Value.bool b)) (show true = _ from hn.symm), congrArg (fun z => some (Value.int .i64 z)) step, rfl⟩, hi, rfl⟩
  have hi : i = B.length := by have := of_decide_eq_false c1; omega
  subst hi
  rw [List.take_length]
  obtain ⟨bd, hbd⟩ : ∃ b, b = badR A B := ⟨_, rfl⟩
  have hbd2 : (((((B.length : Nat) : Int) == 0) || A.any (fun z => !markB z)) || B.any (fun z => !markB z)) = bd := hbd.symm
  rw [hbd2]
  clear c1 hi0 hbd2
  cases bd
  · obtain ⟨hB0, hmk, hV⟩ := bad_false hAl hBl hbd.symm
    have hV := hV t
    cases hf : parseM t with
    | none =>
      rw [hf] at hpr hV
      obtain rfl : ok = false := hpr
      obtain rfl : vm = (false, 4) := hvm.trans hV
      repeat (first | refine WC.seq ?_ | refine WC.reg ?_ | refine WL.pure rfl rfl rfl ?_ | refine WL.nil ?_ | refine WC.skip ?_ | refine WC.block ?_ | refine WC.condT rfl ?_ | refine WC.condF rfl ?_ | refine WL.off rfl rfl rfl ?_ | refine WL.off0 rfl rfl ?_ | refine WC.exit ?_ | refine blk_hit ?_ | refine blk_miss rfl ?_ | refine WC.ret ?_)
      refine WL.call rfl rfl rfl rfl rfl ent20 (awake_any w9 (hG.hp hp7)) ?_
      rintro _ w10 ⟨rfl, hp10⟩
      repeat (first | refine WC.seq ?_ | refine WC.reg ?_ | refine WL.pure rfl rfl rfl ?_ | refine WL.nil ?_ | refine WC.skip ?_ | refine WC.block ?_ | refine WC.condT rfl ?_ | refine WC.condF rfl ?_ | refine WL.off rfl rfl rfl ?_ | refine WL.off0 rfl rfl ?_ | refine WC.exit ?_ | refine blk_hit ?_ | refine blk_miss rfl ?_ | refine WC.ret ?_)
      exact Res.one rfl rfl rfl ⟨rfl, (hp7.call hp10.below).nil'⟩
    | some f =>
      rw [hf] at hpr hV
      obtain ⟨rfl, rfl, hSf⟩ := hpr
      obtain ⟨hsh, hsz⟩ := parseM_sz hf
      have hwf := parseM_wf hf
      have hpos := sizeF_pos f
      have hat : AtN (nodesN 0 f) (sizeF f - 1) f := by have := AtN_nodes f []; rwa [List.nil_append, List.length_nil, Nat.zero_add] at this
      have hok : OkN (nodesN 0 f) := by have := OkN_nodes f [] hwf (fun i x hx => by simp at hx); rwa [List.nil_append, List.length_nil] at this
      have hV : vm = ((valsM (A ++ B) A.length f).getD 0 false, 0) := hvm.trans hV
      have hR := RValue_any (nodesN 0 f) fa fc f (nodesN_len f 0) hwf hok hat (by omega) p1 p2 q1 q2 A B (by omega) (by omega) hB0 hmk w9 hSf hSA hSB
      obtain ⟨x, hx⟩ : ∃ x, x = (valsM (A ++ B) A.length f).getD 0 false := ⟨_, rfl⟩
      rw [← hx] at hV hR
      subst hV
      cases x <;>
      · repeat (first | refine WC.seq ?_ | refine WC.reg ?_ | refine WL.pure rfl rfl rfl ?_ | refine WL.nil ?_ | refine WC.skip ?_ | refine WC.block ?_ | refine WC.condT rfl ?_ | refine WC.condF rfl ?_ | refine WL.off rfl rfl rfl ?_ | refine WL.off0 rfl rfl ?_ | refine WC.exit ?_ | refine blk_hit ?_ | refine blk_miss rfl ?_ | refine WC.ret ?_)
        refine WL.call rfl rfl rfl rfl rfl ent21 hR ?_
        rintro _ w10 ⟨rfl, hp10⟩
        have hp10 := hp7.call hp10.below
        repeat (first | refine WC.seq ?_ | refine WC.reg ?_ | refine WL.pure rfl rfl rfl ?_ | refine WL.nil ?_ | refine WC.skip ?_ | refine WC.block ?_ | refine WC.condT rfl ?_ | refine WC.condF rfl ?_ | refine WL.off rfl rfl rfl ?_ | refine WL.off0 rfl rfl ?_ | refine WC.exit ?_ | refine blk_hit ?_ | refine blk_miss rfl ?_ | refine WC.ret ?_)
        refine WL.call rfl rfl rfl rfl rfl ent20 (awake_any w10 (hG.hp hp10)) ?_
        rintro _ w11 ⟨rfl, hp11⟩
        repeat (first | refine WC.seq ?_ | refine WC.reg ?_ | refine WL.pure rfl rfl rfl ?_ | refine WL.nil ?_ | refine WC.skip ?_ | refine WC.block ?_ | refine WC.condT rfl ?_ | refine WC.condF rfl ?_ | refine WL.off rfl rfl rfl ?_ | refine WL.off0 rfl rfl ?_ | refine WC.exit ?_ | refine blk_hit ?_ | refine blk_miss rfl ?_ | refine WC.ret ?_)
        exact Res.one rfl rfl rfl ⟨rfl, (hp10.call hp11.below).nil'⟩
  · obtain rfl : vm = (false, 2) := hvm.trans (bad_true hAl hBl hbd.symm)
    repeat (first | refine WC.seq ?_ | refine WC.reg ?_ | refine WL.pure rfl rfl rfl ?_ | refine WL.nil ?_ | refine WC.skip ?_ | refine WC.block ?_ | refine WC.condT rfl ?_ | refine WC.condF rfl ?_ | refine WL.off rfl rfl rfl ?_ | refine WL.off0 rfl rfl ?_ | refine WC.exit ?_ | refine blk_hit ?_ | refine blk_miss rfl ?_ | refine WC.ret ?_)
    refine WL.call rfl rfl rfl rfl rfl ent20 (awake_any w9 (hG.hp hp7)) ?_
    rintro _ w10 ⟨rfl, hp10⟩
    repeat (first | refine WC.seq ?_ | refine WC.reg ?_ | refine WL.pure rfl rfl rfl ?_ | refine WL.nil ?_ | refine WC.skip ?_ | refine WC.block ?_ | refine WC.condT rfl ?_ | refine WC.condF rfl ?_ | refine WL.off rfl rfl rfl ?_ | refine WL.off0 rfl rfl ?_ | refine WC.exit ?_ | refine blk_hit ?_ | refine blk_miss rfl ?_ | refine WC.ret ?_)
    exact Res.one rfl rfl rfl ⟨rfl, (hp7.call hp10.below).nil'⟩
end Go.Proofs.YtpbbneclkhfgoaaDoor
