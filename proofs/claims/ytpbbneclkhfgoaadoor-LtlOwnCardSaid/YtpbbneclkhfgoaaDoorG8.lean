/- Texts on the way to LtlOwn, one behind the other: U48 U49 U50 ClL ClLw ClLwC. -/
import Derived.Test.YtpbbneclkhfgoaaDoorG7
import Derived.Test.YtpbbneclkhfgoaaDoorCards
import Derived.Test.YtpbbneclkhfgoaaDoorTie
import Derived.WalkKit
import Derived.ProofKit
import Derived.OpenShut
import Derived.Carry
import Derived.Deep.Slices
import Derived.Deep.DeepHandedRow
import Derived.Lib.LaidTab
import Derived.Lib.LaidU8
import Derived.Stop.LaidErr
import Derived.WideKeyElems2
import Derived.Deep.DeepWitnessRowRef
section
/- ltl, forty-eighth: the reference's Lasso, IsRun, Marks. -/
namespace Go.Proofs.YtpbbneclkhfgoaaDoor
open Go.W Go.Ltl Go.RowKit
set_option maxRecDepth 100000
set_option linter.unusedSectionVars false
attribute [local irreducible] WC WL WQ WS WH

theorem rLasso_any (a1 a2 : Option Addr) (c1 c2 n1 n2 : Nat) (w : World) :
    Ret Tryd.prog 36 [.slice a1 n1 c1, .slice a2 n2 c2] w fun v w' => v = .bool (lassoB n1 n2) ∧ w' = w := by
  refine enter Tryd.func36 rfl rfl ⟨rfl, rfl⟩ rfl ?_
  repeat (first | refine WC.seq ?_ | refine WC.reg ?_ | refine WL.pure rfl rfl rfl ?_ | refine WL.nil ?_ | refine WC.skip ?_ | refine WC.block ?_ | refine WC.condT rfl ?_ | refine WC.condF rfl ?_ | refine WL.off rfl rfl rfl ?_ | refine WL.off0 rfl rfl ?_ | refine WC.exit ?_ | refine blk_hit ?_ | refine blk_miss rfl ?_ | refine WC.ret ?_)
  refine WL.split 8 rfl (fun h1 => ?_) (fun h1 => ?_)
  · have h1 : n1 ≤ 65536 := by have := of_decide_eq_true h1; omega
    repeat (first | refine WC.seq ?_ | refine WC.reg ?_ | refine WL.pure rfl rfl rfl ?_ | refine WL.nil ?_ | refine WC.skip ?_ | refine WC.block ?_ | refine WC.condT rfl ?_ | refine WC.condF rfl ?_ | refine WL.off rfl rfl rfl ?_ | refine WL.off0 rfl rfl ?_ | refine WC.exit ?_ | refine blk_hit ?_ | refine blk_miss rfl ?_ | refine WC.ret ?_)
    refine WL.split 13 rfl (fun h2 => ?_) (fun h2 => ?_)
    · have h2 : n2 ≤ 65536 := by have := of_decide_eq_true h2; omega
      repeat (first | refine WC.seq ?_ | refine WC.reg ?_ | refine WL.pure rfl rfl rfl ?_ | refine WL.nil ?_ | refine WC.skip ?_ | refine WC.block ?_ | refine WC.condT rfl ?_ | refine WC.condF rfl ?_ | refine WL.off rfl rfl rfl ?_ | refine WL.off0 rfl rfl ?_ | refine WC.exit ?_ | refine blk_hit ?_ | refine blk_miss rfl ?_ | refine WC.ret ?_)
      refine Res.one rfl rfl rfl ⟨?_, rfl⟩
      unfold lassoB
      rw [decide_eq_true h1, decide_eq_true h2]
      by_cases h3 : 1 ≤ n2
      · rw [decide_eq_true h3, decide_eq_true (by omega)]; rfl
      · rw [decide_eq_false h3, decide_eq_false (by omega)]; rfl
    · have h2 : ¬ n2 ≤ 65536 := by have := of_decide_eq_false h2; omega
      repeat (first | refine WC.seq ?_ | refine WC.reg ?_ | refine WL.pure rfl rfl rfl ?_ | refine WL.nil ?_ | refine WC.skip ?_ | refine WC.block ?_ | refine WC.condT rfl ?_ | refine WC.condF rfl ?_ | refine WL.off rfl rfl rfl ?_ | refine WL.off0 rfl rfl ?_ | refine WC.exit ?_ | refine blk_hit ?_ | refine blk_miss rfl ?_ | refine WC.ret ?_)
      exact Res.one rfl rfl rfl ⟨by unfold lassoB; rw [decide_eq_false h2]; simp, rfl⟩
  · have h1 : ¬ n1 ≤ 65536 := by have := of_decide_eq_false h1; omega
    repeat (first | refine WC.seq ?_ | refine WC.reg ?_ | refine WL.pure rfl rfl rfl ?_ | refine WL.nil ?_ | refine WC.skip ?_ | refine WC.block ?_ | refine WC.condT rfl ?_ | refine WC.condF rfl ?_ | refine WL.off rfl rfl rfl ?_ | refine WL.off0 rfl rfl ?_ | refine WC.exit ?_ | refine blk_hit ?_ | refine blk_miss rfl ?_ | refine WC.ret ?_)
    exact Res.one rfl rfl rfl ⟨by unfold lassoB; rw [decide_eq_false h1]; simp, rfl⟩
/-- Whether a lasso of states is a run. -/
def stepB (R : List (List Int)) (l : List Int) (i : Nat) : Bool := (R.getD (l.getD i 0).toNat []).any fun z => decide (z = l.getD (i + 1) 0)
def inB (n : Nat) (z : Int) : Bool := decide (0 ≤ z) && decide (z < (n : Int))
def walkB (R : List (List Int)) (l : List Int) : Bool := decide (l.getD 0 0 = 0) && l.all (inB R.length) && (List.range (l.length - 1)).all (stepB R l)
def runB (R : List (List Int)) (stem loop : List Int) : Bool := lassoB stem.length loop.length && walkB R (stem ++ loop ++ [loop.getD 0 0])
theorem stepB_row {vs : Vs} {l : List Int} {i q : Nat} (hq : q < vs.length) (hl : l.getD i 0 = ((q : Nat) : Int)) : stepB (vs.map fun x => x.2.2) l i = vs[q].2.2.any fun z => decide (z = l.getD (i + 1) 0) := by
  unfold stepB
  rw [hl, Int.toNat_natCast, List.getD_eq_getElem?_getD, List.getElem?_map, List.getElem?_eq_getElem hq]
  rfl
theorem IsRun_any (an : Option Addr) (cn : Nat) (am : Option Addr) (cm : Nat) (vs : Vs) (ms : List Int) (hvl : vs.length ≤ 1000000) (hvs : ∀ x ∈ vs, x.2.2.length ≤ 1000000) (a1 a2 : Option Addr) (c1 c2 : Nat) (stem loop : List Int) (w : World) (hst : Stc w an am vs ms) (hs1 : Sl w a1 (zs stem)) (hs2 : Sl w a2 (zs loop)) :
    Ret Tryd.prog 28 [stV an cn am cm vs ms, .slice a1 stem.length c1, .slice a2 loop.length c2] w fun v w' => v = .bool (runB (vs.map fun x => x.2.2) stem loop) ∧ Hp w w' [] := by
  refine enter Tryd.func28 rfl rfl ⟨rfl, rfl⟩ rfl ?_
  repeat (first | refine WC.seq ?_ | refine WC.reg ?_ | refine WL.pure rfl rfl rfl ?_ | refine WL.nil ?_ | refine WC.skip ?_ | refine WC.block ?_ | refine WC.condT rfl ?_ | refine WC.condF rfl ?_ | refine WL.off rfl rfl rfl ?_ | refine WL.off0 rfl rfl ?_ | refine WC.exit ?_ | refine blk_hit ?_ | refine blk_miss rfl ?_ | refine WC.ret ?_)
  refine WL.box rfl rfl rfl (fun b w1 h1 => ?_)
  have hp1 : Hp w w1 [Sb b an cn am cm vs ms] := (Hp.start w).new h1
  repeat (first | refine WC.seq ?_ | refine WC.reg ?_ | refine WL.pure rfl rfl rfl ?_ | refine WL.nil ?_ | refine WC.skip ?_ | refine WC.block ?_ | refine WC.condT rfl ?_ | refine WC.condF rfl ?_ | refine WL.off rfl rfl rfl ?_ | refine WL.off0 rfl rfl ?_ | refine WC.exit ?_ | refine blk_hit ?_ | refine blk_miss rfl ?_ | refine WC.ret ?_)
  refine WL.call rfl rfl rfl rfl rfl ent36 (rLasso_any a1 a2 c1 c2 stem.length loop.length w1) ?_
  rintro _ w2 ⟨rfl, hw2⟩
  obtain rfl := hw2.symm
  cases hla : lassoB stem.length loop.length with
  | false =>
    repeat (first | refine WC.seq ?_ | refine WC.reg ?_ | refine WL.pure rfl rfl rfl ?_ | refine WL.nil ?_ | refine WC.skip ?_ | refine WC.block ?_ | refine WC.condT rfl ?_ | refine WC.condF rfl ?_ | refine WL.off rfl rfl rfl ?_ | refine WL.off0 rfl rfl ?_ | refine WC.exit ?_ | refine blk_hit ?_ | refine blk_miss rfl ?_ | refine WC.ret ?_)
    exact Res.one rfl rfl rfl ⟨by unfold runB; rw [hla]; rfl, hp1.nil'⟩
  | true =>
  have hl3 : stem.length ≤ 65536 ∧ 1 ≤ loop.length ∧ loop.length ≤ 65536 := by
    unfold lassoB at hla
    simp only [Bool.and_eq_true, decide_eq_true_eq] at hla
    exact ⟨hla.1.1, hla.1.2, hla.2⟩
  obtain ⟨l1, l2, l3⟩ := hl3
  obtain ⟨l, hl⟩ : ∃ l, l = stem ++ loop ++ [loop.getD 0 0] := ⟨_, rfl⟩
  have hN : l.length = stem.length + loop.length + 1 := by rw [hl, List.length_append, List.length_append]; rfl
  have hzl : zs l = zs stem ++ zs loop ++ [.int .i64 (loop.getD 0 0)] := by rw [hl, zs_app, zs_app]; rfl
  have hrun : runB (vs.map fun x => x.2.2) stem loop = walkB (vs.map fun x => x.2.2) l := by unfold runB; rw [hla, hl]; rfl
  rw [hrun]
  repeat (first | refine WC.seq ?_ | refine WC.reg ?_ | refine WL.pure rfl rfl rfl ?_ | refine WL.nil ?_ | refine WC.skip ?_ | refine WC.block ?_ | refine WC.condT rfl ?_ | refine WC.condF rfl ?_ | refine WL.off rfl rfl rfl ?_ | refine WL.off0 rfl rfl ?_ | refine WC.exit ?_ | refine blk_hit ?_ | refine blk_miss rfl ?_ | refine WC.ret ?_)
  refine WL.append 0 (hp1.nilrow 3 1) rfl rfl rfl rfl rfl (by decide) rfl rfl rfl (news := zs stem) (hs1.hp hp1) (by rw [zs_len]; exact (Nat.mul_one _).symm) (zs_cells _) (by unfold maxLen; omega) (by show (0 + stem.length) * 8 ≤ _; omega) ?_
  intro pa pc w2 hp2 _
  rw [Nat.zero_add] at hp2 ⊢
  replace hp2 : Hp w w2 [.row 3 1 (.slice pa stem.length pc) stem.length (zs stem), Sb b an cn am cm vs ms] := hp2
  repeat (first | refine WC.seq ?_ | refine WC.reg ?_ | refine WL.pure rfl rfl rfl ?_ | refine WL.nil ?_ | refine WC.skip ?_ | refine WC.block ?_ | refine WC.condT rfl ?_ | refine WC.condF rfl ?_ | refine WL.off rfl rfl rfl ?_ | refine WL.off0 rfl rfl ?_ | refine WC.exit ?_ | refine blk_hit ?_ | refine blk_miss rfl ?_ | refine WC.ret ?_)
  refine WL.append 0 hp2 rfl rfl rfl rfl rfl (by decide) rfl rfl rfl (news := zs loop) (hs2.hp hp2) (by rw [zs_len]; exact (Nat.mul_one _).symm) (zs_cells _) (by unfold maxLen; omega) (by show (stem.length + loop.length) * 8 ≤ _; omega) ?_
  intro pb pd w3 hp3 _
  replace hp3 : Hp w w3 [.row 3 1 (.slice pb (stem.length + loop.length) pd) (stem.length + loop.length) (zs stem ++ zs loop), Sb b an cn am cm vs ms] := hp3
  refine WL.pure rfl rfl rfl ?_
  refine WL.nil ?_
  refine WC.seq ?_
  refine WC.reg ?_
  refine WL.pure rfl rfl rfl ?_
  refine WL.pure rfl rfl rfl ?_
  refine WL.ixload (j := 0) rfl (fun _ => rfl) rfl rfl rfl rfl rfl rfl rfl (by omega) rfl rfl (hs2.hp hp3) (zs_getD (by omega)) ?_
  intro q0
  refine WL.buildS (cs := [.int .i64 (loop.getD 0 0)]) rfl rfl rfl rfl rfl rfl rfl rfl rfl (fun b27 w4 h4 => ?_)
  have hp4 := hp3.new h4
  refine WL.append 1 hp4 rfl rfl rfl rfl rfl (by decide) rfl rfl rfl (news := [.int .i64 (loop.getD 0 0)]) (Sl.of_obj (hp4.obj 0 rfl) (fun q u hq => by simpa using hq)) rfl (zs_cells [_]) (by unfold maxLen; omega) (by show (stem.length + loop.length + 1) * 8 ≤ _; omega) ?_
  intro pe pf w5 hp5 _
  replace hp5 : Hp w w5 [.row 3 1 (.slice pe (stem.length + loop.length + 1) pf) (stem.length + loop.length + 1) (zs stem ++ zs loop ++ [.int .i64 (loop.getD 0 0)]), Sb b an cn am cm vs ms] := hp5.tail
  rw [← hzl, ← hN] at hp5
  rw [← hN]
  clear hp1 hp2 hp3 hp4 h1 h4 hrun
  obtain ⟨bl, ol, hle, _⟩ := (Hp.sl hp5 0 rfl) 0 _ (zs_getD (by omega))
  subst hle
  have cE : ∀ {w' : World}, Hp w w' [.row 3 1 (.slice (some ⟨bl, ol, none⟩) l.length pf) l.length (zs l), Sb b an cn am cm vs ms] → ∀ {i : Nat}, i < l.length → w'.cell? ⟨bl, ol + i, none⟩ = some (.int .i64 (l.getD i 0)) := fun {w'} h {i} hi => Sl.cell (Hp.sl h 0 rfl) (zs_getD hi)
  repeat (first | refine WC.seq ?_ | refine WC.reg ?_ | refine WL.pure rfl rfl rfl ?_ | refine WL.nil ?_ | refine WC.skip ?_ | refine WC.block ?_ | refine WC.condT rfl ?_ | refine WC.condF rfl ?_ | refine WL.off rfl rfl rfl ?_ | refine WL.off0 rfl rfl ?_ | refine WC.exit ?_ | refine blk_hit ?_ | refine blk_miss rfl ?_ | refine WC.ret ?_)
  refine WL.ixload (j := 0) rfl (fun _ => rfl) rfl rfl rfl rfl rfl rfl rfl (by omega) rfl rfl (Hp.sl hp5 0 rfl) (zs_getD (by omega)) ?_
  intro q1
  repeat (first | refine WC.seq ?_ | refine WC.reg ?_ | refine WL.pure rfl rfl rfl ?_ | refine WL.nil ?_ | refine WC.skip ?_ | refine WC.block ?_ | refine WC.condT rfl ?_ | refine WC.condF rfl ?_ | refine WL.off rfl rfl rfl ?_ | refine WL.off0 rfl rfl ?_ | refine WC.exit ?_ | refine blk_hit ?_ | refine blk_miss rfl ?_ | refine WC.ret ?_)
  refine WC.cond rfl (fun g0 => ?_) (fun g0 => ?_)
  · have g0 : ¬ l.getD 0 0 = 0 := by
      have g0 : (!(l.getD 0 0 == 0)) = true := g0
      simpa using g0
    have e : walkB (vs.map fun x => x.2.2) l = false := by unfold walkB; rw [decide_eq_false g0]; rfl
    rw [e]
    repeat (first | refine WC.seq ?_ | refine WC.reg ?_ | refine WL.pure rfl rfl rfl ?_ | refine WL.nil ?_ | refine WC.skip ?_ | refine WC.block ?_ | refine WC.condT rfl ?_ | refine WC.condF rfl ?_ | refine WL.off rfl rfl rfl ?_ | refine WL.off0 rfl rfl ?_ | refine WC.exit ?_ | refine blk_hit ?_ | refine blk_miss rfl ?_ | refine WC.ret ?_)
    exact Res.one rfl rfl rfl ⟨rfl, hp5.nil'⟩
  have g0 : l.getD 0 0 = 0 := by
    have g0 : (!(l.getD 0 0 == 0)) = false := g0
    simpa using g0
  have hw1 : walkB (vs.map fun x => x.2.2) l = (l.all (inB vs.length) && (List.range (l.length - 1)).all (stepB (vs.map fun x => x.2.2) l)) := by
    unfold walkB; rw [decide_eq_true g0, List.length_map]; rfl
  rw [hw1]
  clear hw1
  repeat (first | refine WC.seq ?_ | refine WC.reg ?_ | refine WL.pure rfl rfl rfl ?_ | refine WL.nil ?_ | refine WC.skip ?_ | refine WC.block ?_ | refine WC.condT rfl ?_ | refine WC.condF rfl ?_ | refine WL.off rfl rfl rfl ?_ | refine WL.off0 rfl rfl ?_ | refine WC.exit ?_ | refine blk_hit ?_ | refine blk_miss rfl ?_ | refine WC.ret ?_)
  refine WC.loop Nat (fun i => [(3, ptr b), (7, .slice (some ⟨bl, ol, none⟩) l.length pf), (8, .int .i64 (i : Nat))])
    (fun i w' => i ≤ l.length ∧ (∀ k, k < i → inB vs.length (l.getD k 0) = true) ∧ Hp w w' [.row 3 1 (.slice (some ⟨bl, ol, none⟩) l.length pf) l.length (zs l), Sb b an cn am cm vs ms]) (fun i => l.length - i) 0 ⟨rfl, rfl, rfl, rfl⟩ ⟨Nat.zero_le _, fun k hk => by omega, hp5⟩ ?_
  clear hp5
  rintro i w6 ⟨hi0, hin, hp6⟩
  replace hi0 : i ≤ l.length := hi0
  replace hp6 : Hp w w6 [.row 3 1 (.slice (some ⟨bl, ol, none⟩) l.length pf) l.length (zs l), Sb b an cn am cm vs ms] := hp6
  repeat (first | refine WC.seq ?_ | refine WC.reg ?_ | refine WL.pure rfl rfl rfl ?_ | refine WL.nil ?_ | refine WC.skip ?_ | refine WC.block ?_ | refine WC.condT rfl ?_ | refine WC.condF rfl ?_ | refine WL.off rfl rfl rfl ?_ | refine WL.off0 rfl rfl ?_ | refine WC.exit ?_ | refine blk_hit ?_ | refine blk_miss rfl ?_ | refine WC.ret ?_)
  refine WC.cond rfl (fun g1 => ?_) (fun g1 => ?_)
  · have hi : i < l.length := by have := of_decide_eq_true g1; omega
    have step := wrap_succ (i := i) (n := i + 1) (by omega) (by omega)
    repeat (first | refine WC.seq ?_ | refine WC.reg ?_ | refine WL.pure rfl rfl rfl ?_ | refine WL.nil ?_ | refine WC.skip ?_ | refine WC.block ?_ | refine WC.condT rfl ?_ | refine WC.condF rfl ?_ | refine WL.off rfl rfl rfl ?_ | refine WL.off0 rfl rfl ?_ | refine WC.exit ?_ | refine blk_hit ?_ | refine blk_miss rfl ?_ | refine WC.ret ?_)
    refine WC.mid Bool (fun r => [(3, ptr b), (7, .slice (some ⟨bl, ol, none⟩) l.length pf), (8, .int .i64 (i : Nat)), (53, .bool r)])
      (fun r w' => r = !inB vs.length (l.getD i 0) ∧ Hp w w' [.row 3 1 (.slice (some ⟨bl, ol, none⟩) l.length pf) l.length (zs l), Sb b an cn am cm vs ms]) ?_ ?_
    · refine WC.regQ (fun w' => Hp w w' [.row 3 1 (.slice (some ⟨bl, ol, none⟩) l.length pf) l.length (zs l), Sb b an cn am cm vs ms]) mixed (by kernel_rfl) (fun w' hw' => hp6.keep hw') ?_
      repeat (first | refine WQ.pure rfl rfl rfl ?_ | refine WQ.off rfl rfl rfl ?_ | refine WQ.nil ?_)
      refine WQ.ixload rfl (fun _ => rfl) rfl rfl rfl rfl rfl rfl rfl hi rfl rfl (fun w' h => cE h hi) ?_
      repeat (first | refine WQ.pure rfl rfl rfl ?_ | refine WQ.off rfl rfl rfl ?_ | refine WQ.nil ?_)
      refine WQ.split 44 rfl (fun c5 => ?_) (fun c5 => ?_)
      · have c5 : l.getD i 0 < 0 := of_decide_eq_true c5
        repeat (first | refine WQ.pure rfl rfl rfl ?_ | refine WQ.off rfl rfl rfl ?_ | refine WQ.nil ?_)
        intro w' h
        exact ⟨_, ⟨rfl, rfl, rfl, rfl, rfl⟩, by unfold inB; rw [decide_eq_false (show ¬ 0 ≤ l.getD i 0 by omega)]; rfl, h⟩
      have c5 : 0 ≤ l.getD i 0 := by have := of_decide_eq_false c5; omega
      repeat (first | refine WQ.pure rfl rfl rfl ?_ | refine WQ.off rfl rfl rfl ?_ | refine WQ.nil ?_)
      refine WQ.ixload rfl (fun _ => rfl) rfl rfl rfl rfl rfl rfl rfl hi rfl rfl (fun w' h => cE h hi) ?_
      repeat (first | refine WQ.pure rfl rfl rfl ?_ | refine WQ.off rfl rfl rfl ?_ | refine WQ.nil ?_)
      refine WQ.load rfl rfl rfl rfl rfl (fun w' h => cell_of_obj (h.obj 1 rfl) (j := 0) rfl) ?_
      repeat (first | refine WQ.pure rfl rfl rfl ?_ | refine WQ.off rfl rfl rfl ?_ | refine WQ.nil ?_)
      intro w' h
      refine ⟨_, ⟨rfl, rfl, rfl, rfl, rfl⟩, ?_, h⟩
      unfold inB
      rw [decide_eq_true c5, Bool.true_and]
      by_cases c6 : l.getD i 0 < (vs.length : Int)
      · rw [decide_eq_true c6, decide_eq_false (by omega)]; rfl
      · rw [decide_eq_false c6, decide_eq_true (by omega)]; rfl
    · rintro r e7 w7 hsub ⟨hr, hp7⟩
      refine WC.sub hsub ?_
      clear hsub e7 hp6
      replace hp7 : Hp w w7 [.row 3 1 (.slice (some ⟨bl, ol, none⟩) l.length pf) l.length (zs l), Sb b an cn am cm vs ms] := hp7
      have hr : r = !inB vs.length (l.getD i 0) := hr
      subst hr
      cases hb : inB vs.length (l.getD i 0) with
      | false =>
        have e : l.all (inB vs.length) = false := List.all_eq_false.2 ⟨l[i], List.getElem_mem hi, by rw [show l[i] = l.getD i 0 by simp [hi], hb]; simp⟩
        rw [e]
        repeat (first | refine WC.seq ?_ | refine WC.reg ?_ | refine WL.pure rfl rfl rfl ?_ | refine WL.nil ?_ | refine WC.skip ?_ | refine WC.block ?_ | refine WC.condT rfl ?_ | refine WC.condF rfl ?_ | refine WL.off rfl rfl rfl ?_ | refine WL.off0 rfl rfl ?_ | refine WC.exit ?_ | refine blk_hit ?_ | refine blk_miss rfl ?_ | refine WC.ret ?_)
        exact Res.one rfl rfl rfl ⟨rfl, hp7.nil'⟩
      | true =>
        repeat (first | refine WC.seq ?_ | refine WC.reg ?_ | refine WL.pure rfl rfl rfl ?_ | refine WL.nil ?_ | refine WC.skip ?_ | refine WC.block ?_ | refine WC.condT rfl ?_ | refine WC.condF rfl ?_ | refine WL.off rfl rfl rfl ?_ | refine WL.off0 rfl rfl ?_ | refine WC.exit ?_ | refine blk_hit ?_ | refine blk_miss rfl ?_ | refine WC.ret ?_)
        refine ⟨i + 1, (by omega), ⟨rfl, rfl, congrArg (fun z => some (Value.int .i64 z)) step, rfl⟩, hi, fun k hk => ?_, hp7⟩
        rcases Nat.lt_or_ge k i with h | h
        · exact hin k h
        · rw [show k = i by omega]; exact hb
  have hi : i = l.length := by have := of_decide_eq_false g1; omega
  rw [hi] at hin
  have hall : l.all (inB vs.length) = true := by
    rw [List.all_eq_true]
    intro z hz
    obtain ⟨k, hk, rfl⟩ := List.getElem_of_mem hz
    have := hin k hk
    rwa [show l.getD k 0 = l[k] by simp [hk]] at this
  rw [hall, Bool.true_and]
  clear hall
  repeat (first | refine WC.seq ?_ | refine WC.reg ?_ | refine WL.pure rfl rfl rfl ?_ | refine WL.nil ?_ | refine WC.skip ?_ | refine WC.block ?_ | refine WC.condT rfl ?_ | refine WC.condF rfl ?_ | refine WL.off rfl rfl rfl ?_ | refine WL.off0 rfl rfl ?_ | refine WC.exit ?_ | refine blk_hit ?_ | refine blk_miss rfl ?_ | refine WC.ret ?_)
  refine WC.loop Nat (fun i => [(3, ptr b), (7, .slice (some ⟨bl, ol, none⟩) l.length pf), (9, .int .i64 (i : Nat))])
    (fun i w' => i + 1 ≤ l.length ∧ (List.range i).all (stepB (vs.map fun x => x.2.2) l) = true ∧ Hp w w' [.row 3 1 (.slice (some ⟨bl, ol, none⟩) l.length pf) l.length (zs l), Sb b an cn am cm vs ms]) (fun i => l.length - i) 0 ⟨rfl, rfl, rfl, rfl⟩ ⟨by omega, rfl, hp6⟩ ?_
  clear hp6 hi hi0 g1 i
  rintro i w6 ⟨hi, hsa, hp6⟩
  replace hi : i + 1 ≤ l.length := hi
  replace hsa : (List.range i).all (stepB (vs.map fun x => x.2.2) l) = true := hsa
  replace hp6 : Hp w w6 [.row 3 1 (.slice (some ⟨bl, ol, none⟩) l.length pf) l.length (zs l), Sb b an cn am cm vs ms] := hp6
  have step := wrap_succ (i := i) (n := i + 1) (by omega) (by omega)
  repeat (first | refine WC.seq ?_ | refine WC.reg ?_ | refine WL.pure rfl rfl rfl ?_ | refine WL.nil ?_ | refine WC.skip ?_ | refine WC.block ?_ | refine WC.condT rfl ?_ | refine WC.condF rfl ?_ | refine WL.off rfl rfl rfl ?_ | refine WL.off0 rfl rfl ?_ | refine WC.exit ?_ | refine blk_hit ?_ | refine blk_miss rfl ?_ | refine WC.ret ?_)
  refine WC.cond rfl (fun g1 => ?_) (fun g1 => ?_)
  · have hi1 : i + 1 < l.length := by
      have g1 : IntKind.i64.wrap ((i : Int) + 1) < ((l.length : Nat) : Int) := of_decide_eq_true g1
      rw [step] at g1; omega
    have hi0 : i < l.length := by omega
    obtain ⟨q, hq⟩ : ∃ q : Nat, l.getD i 0 = ((q : Nat) : Int) := ⟨(l.getD i 0).toNat, by
      have := hin i hi0
      simp only [inB, Bool.and_eq_true, decide_eq_true_eq] at this
      omega⟩
    have hqv : q < vs.length := by
      have := hin i hi0
      simp only [inB, Bool.and_eq_true, decide_eq_true_eq, hq] at this
      omega
    have hxm := List.getElem_mem hqv
    have hlen := hvs _ hxm
    have hslw := hst.rows _ hxm
    have hcat := catV_at hqv
    have hstep := stepB_row (l := l) (i := i) hqv hq
    obtain ⟨x, hx⟩ : ∃ x, x = vs[q] := ⟨_, rfl⟩
    rw [← hx] at hlen hslw hcat hstep
    clear hx hxm
    obtain ⟨ra, rc, r⟩ := x
    replace hlen : r.length ≤ 1000000 := hlen
    replace hslw : Sl w ra (zs r) := hslw
    replace hcat : (catV vs)[q]? = some (.slice ra r.length rc) := hcat
    replace hstep : stepB (vs.map fun x => x.2.2) l i = r.any fun z => decide (z = l.getD (i + 1) 0) := hstep
    obtain ⟨ba, oa, hae, hac⟩ := hst.nx q _ hcat
    subst hae
    repeat (first | refine WC.seq ?_ | refine WC.reg ?_ | refine WL.pure rfl rfl rfl ?_ | refine WL.nil ?_ | refine WC.skip ?_ | refine WC.block ?_ | refine WC.condT rfl ?_ | refine WC.condF rfl ?_ | refine WL.off rfl rfl rfl ?_ | refine WL.off0 rfl rfl ?_ | refine WC.exit ?_ | refine blk_hit ?_ | refine blk_miss rfl ?_ | refine WC.ret ?_)
    refine WC.mid Unit (fun _ => [(3, ptr b), (7, .slice (some ⟨bl, ol, none⟩) l.length pf), (9, .int .i64 (i : Nat)), (10, .bool false), (11, .slice ra r.length rc)])
      (fun _ w' => Hp w w' [.row 3 1 (.slice (some ⟨bl, ol, none⟩) l.length pf) l.length (zs l), Sb b (some ⟨ba, oa, none⟩) cn am cm vs ms]) ?_ ?_
    · refine WC.regQ (fun w' => Hp w w' [.row 3 1 (.slice (some ⟨bl, ol, none⟩) l.length pf) l.length (zs l), Sb b (some ⟨ba, oa, none⟩) cn am cm vs ms]) mixed (by kernel_rfl) (fun w' hw' => hp6.keep hw') ?_
      repeat (first | refine WQ.pure rfl rfl rfl ?_ | refine WQ.off rfl rfl rfl ?_ | refine WQ.nil ?_)
      refine WQ.load rfl rfl rfl rfl rfl (fun w' h => cell_of_obj (h.obj 1 rfl) (j := 0) rfl) ?_
      repeat (first | refine WQ.pure rfl rfl rfl ?_ | refine WQ.off rfl rfl rfl ?_ | refine WQ.nil ?_)
      refine WQ.ixload rfl (fun _ => rfl) rfl rfl rfl rfl rfl rfl rfl hi0 rfl rfl (fun w' h => cE h hi0) ?_
      refine WQ.known (d := 66) (congrArg (fun z => some (Value.int .i64 z)) hq) ?_
      refine WQ.ixload (j := q) rfl (fun _ => rfl) rfl rfl rfl rfl rfl rfl rfl hqv rfl rfl (fun w' h => cell_below h.below hac) ?_
      repeat (first | refine WQ.pure rfl rfl rfl ?_ | refine WQ.off rfl rfl rfl ?_ | refine WQ.nil ?_)
      intro w' h
      exact ⟨(), ⟨rfl, rfl, rfl, rfl, rfl, rfl⟩, h⟩
    rintro _ e7 w7 hsub hp7
    refine WC.sub hsub ?_
    clear hsub e7 hp6
    replace hp7 : Hp w w7 [.row 3 1 (.slice (some ⟨bl, ol, none⟩) l.length pf) l.length (zs l), Sb b (some ⟨ba, oa, none⟩) cn am cm vs ms] := hp7
    repeat (first | refine WC.seq ?_ | refine WC.reg ?_ | refine WL.pure rfl rfl rfl ?_ | refine WL.nil ?_ | refine WC.skip ?_ | refine WC.block ?_ | refine WC.condT rfl ?_ | refine WC.condF rfl ?_ | refine WL.off rfl rfl rfl ?_ | refine WL.off0 rfl rfl ?_ | refine WC.exit ?_ | refine blk_hit ?_ | refine blk_miss rfl ?_ | refine WC.ret ?_)
    refine WC.loop Nat (fun k => [(3, ptr b), (7, .slice (some ⟨bl, ol, none⟩) l.length pf), (9, .int .i64 (i : Nat)), (10, .bool ((r.take k).any fun z => decide (z = l.getD (i + 1) 0))), (11, .slice ra r.length rc), (12, .int .i64 (k : Nat))])
      (fun k w' => k ≤ r.length ∧ Hp w w' [.row 3 1 (.slice (some ⟨bl, ol, none⟩) l.length pf) l.length (zs l), Sb b (some ⟨ba, oa, none⟩) cn am cm vs ms]) (fun k => r.length - k) 0 ⟨rfl, rfl, rfl, rfl, rfl, rfl, rfl⟩ ⟨Nat.zero_le _, hp7⟩ ?_
    clear hp7
    rintro k w7 ⟨hk, hp7⟩
    replace hk : k ≤ r.length := hk
    replace hp7 : Hp w w7 [.row 3 1 (.slice (some ⟨bl, ol, none⟩) l.length pf) l.length (zs l), Sb b (some ⟨ba, oa, none⟩) cn am cm vs ms] := hp7
    repeat (first | refine WC.seq ?_ | refine WC.reg ?_ | refine WL.pure rfl rfl rfl ?_ | refine WL.nil ?_ | refine WC.skip ?_ | refine WC.block ?_ | refine WC.condT rfl ?_ | refine WC.condF rfl ?_ | refine WL.off rfl rfl rfl ?_ | refine WL.off0 rfl rfl ?_ | refine WC.exit ?_ | refine blk_hit ?_ | refine blk_miss rfl ?_ | refine WC.ret ?_)
    refine WC.cond rfl (fun g2 => ?_) (fun g2 => ?_)
    · have hk : k < r.length := by have := of_decide_eq_true g2; omega
      have stepk := wrap_succ (i := k) (n := k + 1) (by omega) (by omega)
      have htk : (r.take (k + 1)).any (fun z => decide (z = l.getD (i + 1) 0)) = ((r.take k).any (fun z => decide (z = l.getD (i + 1) 0)) || decide (r.getD k 0 = l.getD (i + 1) 0)) := by
        rw [List.take_succ_eq_append_getElem hk, List.any_append]
        simp [hk]
      obtain ⟨br, orr, hre, hrc⟩ := hslw k _ (zs_getD hk)
      subst hre
      repeat (first | refine WC.seq ?_ | refine WC.reg ?_ | refine WL.pure rfl rfl rfl ?_ | refine WL.nil ?_ | refine WC.skip ?_ | refine WC.block ?_ | refine WC.condT rfl ?_ | refine WC.condF rfl ?_ | refine WL.off rfl rfl rfl ?_ | refine WL.off0 rfl rfl ?_ | refine WC.exit ?_ | refine blk_hit ?_ | refine blk_miss rfl ?_ | refine WC.ret ?_)
      refine WC.mid Unit (fun _ => [(3, ptr b), (7, .slice (some ⟨bl, ol, none⟩) l.length pf), (9, .int .i64 (i : Nat)), (10, .bool ((r.take (k + 1)).any fun z => decide (z = l.getD (i + 1) 0))), (11, .slice (some ⟨br, orr, none⟩) r.length rc), (12, .int .i64 (k : Nat))])
        (fun _ w' => Hp w w' [.row 3 1 (.slice (some ⟨bl, ol, none⟩) l.length pf) l.length (zs l), Sb b (some ⟨ba, oa, none⟩) cn am cm vs ms]) ?_ ?_
      · refine WC.regQ (fun w' => Hp w w' [.row 3 1 (.slice (some ⟨bl, ol, none⟩) l.length pf) l.length (zs l), Sb b (some ⟨ba, oa, none⟩) cn am cm vs ms]) mixed (by kernel_rfl) (fun w' hw' => hp7.keep hw') ?_
        repeat (first | refine WQ.pure rfl rfl rfl ?_ | refine WQ.off rfl rfl rfl ?_ | refine WQ.nil ?_)
        refine WQ.split 76 rfl (fun c5 => ?_) (fun c5 => ?_)
        · have c5 : (r.take k).any (fun z => decide (z = l.getD (i + 1) 0)) = true := c5
          repeat (first | refine WQ.pure rfl rfl rfl ?_ | refine WQ.off rfl rfl rfl ?_ | refine WQ.nil ?_)
          intro w' h
          exact ⟨(), ⟨rfl, rfl, rfl, by rw [htk, c5]; rfl, rfl, rfl, rfl⟩, h⟩
        · have c5 : (r.take k).any (fun z => decide (z = l.getD (i + 1) 0)) = false := c5
          repeat (first | refine WQ.pure rfl rfl rfl ?_ | refine WQ.off rfl rfl rfl ?_ | refine WQ.nil ?_)
          refine WQ.ixload rfl (fun _ => rfl) rfl rfl rfl rfl rfl rfl rfl hk rfl rfl (fun w' h => cell_below h.below hrc) ?_
          repeat (first | refine WQ.pure rfl rfl rfl ?_ | refine WQ.off rfl rfl rfl ?_ | refine WQ.nil ?_)
          refine WQ.known (d := 83) (congrArg (fun z => some (Value.int .i64 z)) step) ?_
          refine WQ.ixload (j := i + 1) rfl (fun _ => rfl) rfl rfl rfl rfl rfl rfl rfl hi1 rfl rfl (fun w' h => cE h hi1) ?_
          repeat (first | refine WQ.pure rfl rfl rfl ?_ | refine WQ.off rfl rfl rfl ?_ | refine WQ.nil ?_)
          intro w' h
          exact ⟨(), ⟨rfl, rfl, rfl, congrArg (fun z => some (Value.bool z)) (show (r.getD k 0 == l.getD (i + 1) 0) = _ by rw [htk, c5, Bool.false_or]; rfl), rfl, rfl, rfl⟩, h⟩
      · rintro _ e8 w8 hsub hp8
        refine WC.sub hsub ?_
        repeat (first | refine WC.seq ?_ | refine WC.reg ?_ | refine WL.pure rfl rfl rfl ?_ | refine WL.nil ?_ | refine WC.skip ?_ | refine WC.block ?_ | refine WC.condT rfl ?_ | refine WC.condF rfl ?_ | refine WL.off rfl rfl rfl ?_ | refine WL.off0 rfl rfl ?_ | refine WC.exit ?_ | refine blk_hit ?_ | refine blk_miss rfl ?_ | refine WC.ret ?_)
        exact ⟨k + 1, (by omega), ⟨rfl, rfl, rfl, rfl, rfl, congrArg (fun z => some (Value.int .i64 z)) stepk, rfl⟩, hk, hp8⟩
    · have hk : k = r.length := by have := of_decide_eq_false g2; omega
      subst hk
      rw [List.take_length, ← hstep]
      cases hsb : stepB (vs.map fun x => x.2.2) l i with
      | false =>
        have e : (List.range (l.length - 1)).all (stepB (vs.map fun x => x.2.2) l) = false := List.all_eq_false.2 ⟨i, List.mem_range.2 (by omega), by rw [hsb]; simp⟩
        rw [e]
        repeat (first | refine WC.seq ?_ | refine WC.reg ?_ | refine WL.pure rfl rfl rfl ?_ | refine WL.nil ?_ | refine WC.skip ?_ | refine WC.block ?_ | refine WC.condT rfl ?_ | refine WC.condF rfl ?_ | refine WL.off rfl rfl rfl ?_ | refine WL.off0 rfl rfl ?_ | refine WC.exit ?_ | refine blk_hit ?_ | refine blk_miss rfl ?_ | refine WC.ret ?_)
        exact Res.one rfl rfl rfl ⟨rfl, hp7.nil'⟩
      | true =>
        repeat (first | refine WC.seq ?_ | refine WC.reg ?_ | refine WL.pure rfl rfl rfl ?_ | refine WL.nil ?_ | refine WC.skip ?_ | refine WC.block ?_ | refine WC.condT rfl ?_ | refine WC.condF rfl ?_ | refine WL.off rfl rfl rfl ?_ | refine WL.off0 rfl rfl ?_ | refine WC.exit ?_ | refine blk_hit ?_ | refine blk_miss rfl ?_ | refine WC.ret ?_)
        exact ⟨i + 1, (by omega), ⟨rfl, rfl, congrArg (fun z => some (Value.int .i64 z)) step, rfl⟩, hi1, (by rw [List.range_succ, List.all_append, hsa, List.all_cons, hsb]; rfl), hp7⟩
  · have hi1 : i = l.length - 1 := by
      have g1 : ¬ IntKind.i64.wrap ((i : Int) + 1) < ((l.length : Nat) : Int) := of_decide_eq_false g1
      rw [step] at g1; omega
    rw [hi1] at hsa
    rw [hsa]
    repeat (first | refine WC.seq ?_ | refine WC.reg ?_ | refine WL.pure rfl rfl rfl ?_ | refine WL.nil ?_ | refine WC.skip ?_ | refine WC.block ?_ | refine WC.condT rfl ?_ | refine WC.condF rfl ?_ | refine WL.off rfl rfl rfl ?_ | refine WL.off0 rfl rfl ?_ | refine WC.exit ?_ | refine blk_hit ?_ | refine blk_miss rfl ?_ | refine WC.ret ?_)
    exact Res.one rfl rfl rfl ⟨rfl, hp6.nil'⟩
end Go.Proofs.YtpbbneclkhfgoaaDoor
end
section
/- ltl, forty-ninth: lassos that are runs, in plain words. -/
namespace Go.Proofs.YtpbbneclkhfgoaaDoor
open Go.W Go.Ltl Go.RowKit
set_option maxRecDepth 100000

theorem get_getD {l : List Int} {q : Nat} (hq : q < l.length) : l[q] = l.getD q 0 := by simp [hq]
def upN (l : List Nat) : List Int := l.map fun n : Nat => (n : Int)
theorem upN_len (l : List Nat) : (upN l).length = l.length := List.length_map _
theorem upN_get (l : List Nat) (i : Nat) : (upN l).getD i 0 = ((l.getD i 0 : Nat) : Int) := by
  unfold upN
  rw [List.getD_eq_getElem?_getD, List.getElem?_map, List.getD_eq_getElem?_getD]
  cases l[i]? <;> rfl
theorem upN_app (a b : List Nat) : upN (a ++ b) = upN a ++ upN b := List.map_append
theorem nx_mem {vs : Vs} {ms : List Int} (hok : StrOk vs ms) (v u : Nat) : u ∈ (nxOf vs).getD v [] ↔ ((u : Nat) : Int) ∈ (rowsOf vs).getD v [] := by
  by_cases hv : v < vs.length
  · have e1 : (nxOf vs).getD v [] = vs[v].2.2.map Int.toNat := by
      unfold nxOf; rw [List.getD_eq_getElem?_getD, List.getElem?_map, List.getElem?_eq_getElem hv]; rfl
    have e2 : (rowsOf vs).getD v [] = vs[v].2.2 := by
      rw [List.getD_eq_getElem?_getD, List.getElem?_map, List.getElem?_eq_getElem hv]; rfl
    rw [e1, e2, List.mem_map]
    constructor
    · rintro ⟨z, hz, rfl⟩
      rwa [Int.toNat_of_nonneg (hok.ent _ (List.getElem_mem hv) z hz).1]
    · intro h
      exact ⟨_, h, Int.toNat_natCast u⟩
  · have e1 : (nxOf vs).getD v [] = [] := by rw [List.getD_eq_getElem?_getD, List.getElem?_eq_none (by rw [nxOf_len]; omega)]; rfl
    have e2 : (rowsOf vs).getD v [] = [] := by rw [List.getD_eq_getElem?_getD, List.getElem?_eq_none (by rw [List.length_map]; omega)]; rfl
    rw [e1, e2]
    simp
theorem pos_small {n lp i : Nat} (h : lp < n) (hi : i < n) : pos n lp i = i := by
  rw [pos_eq h]
  split
  · rfl
  · rw [Nat.mod_eq_of_lt (by omega)]; omega
/-- The lists of a lasso, closed by the loop's first state. -/
theorem clo_get (stem loop : List Nat) (h2 : 1 ≤ loop.length) {q : Nat} (hq : q < (stem ++ loop).length) :
    (upN stem ++ upN loop ++ [(upN loop).getD 0 0]).getD q 0 = (((stem ++ loop).getD q 0 : Nat) : Int) ∧ (upN stem ++ upN loop ++ [(upN loop).getD 0 0]).getD (q + 1) 0 = (((stem ++ loop).getD (aft (stem ++ loop).length stem.length q) 0 : Nat) : Int) := by
  rw [← upN_app]
  have hl := upN_len (stem ++ loop)
  have g : ∀ k, k < (stem ++ loop).length → (upN (stem ++ loop) ++ [(upN loop).getD 0 0]).getD k 0 = (((stem ++ loop).getD k 0 : Nat) : Int) := fun k hk => by
    rw [← upN_get, List.getD_eq_getElem?_getD, List.getElem?_append_left (by omega), List.getD_eq_getElem?_getD]
  refine ⟨g q hq, ?_⟩
  unfold aft
  by_cases h : q + 1 < (stem ++ loop).length
  · rw [if_pos h]; exact g _ h
  · rw [if_neg h, List.getD_eq_getElem?_getD, List.getElem?_append_right (by omega), show q + 1 - (upN (stem ++ loop)).length = 0 by omega]
    show (upN loop).getD 0 0 = _
    rw [upN_get]
    congr 1
    rw [List.getD_eq_getElem?_getD, List.getD_eq_getElem?_getD, List.getElem?_append_right (Nat.le_refl _), Nat.sub_self]
theorem run_nat {vs : Vs} {ms : List Int} (hok : StrOk vs ms) (stem loop : List Nat) (h1 : stem.length ≤ 65536) (h2 : 1 ≤ loop.length) (h3 : loop.length ≤ 65536) :
    runB (rowsOf vs) (upN stem) (upN loop) = true ↔ RunS (nxOf vs) 1 (fun i => (stem ++ loop).getD (pos (stem ++ loop).length stem.length i) 0) := by
  have hlp : stem.length < (stem ++ loop).length := by rw [List.length_append]; omega
  have hla : lassoB (upN stem).length (upN loop).length = true := by
    unfold lassoB; rw [upN_len, upN_len, decide_eq_true h1, decide_eq_true h2, decide_eq_true h3]; rfl
  have hlen : (upN stem ++ upN loop ++ [(upN loop).getD 0 0]).length = (stem ++ loop).length + 1 := by
    rw [List.length_append, List.length_append, upN_len, upN_len, List.length_append]; rfl
  have hn : 0 < (stem ++ loop).length := by omega
  have h0 := (clo_get stem loop h2 hn).1
  have hst : ∀ q, q < (stem ++ loop).length → (stepB (rowsOf vs) (upN stem ++ upN loop ++ [(upN loop).getD 0 0]) q = true ↔ (stem ++ loop).getD (aft (stem ++ loop).length stem.length q) 0 ∈ (nxOf vs).getD ((stem ++ loop).getD q 0) []) := fun q hq => by
    obtain ⟨k1, k2⟩ := clo_get stem loop h2 hq
    unfold stepB
    rw [k1, k2, Int.toNat_natCast, List.any_eq_true, nx_mem hok]
    constructor
    · rintro ⟨z, hz, he⟩; rw [decide_eq_true_eq] at he; rwa [← he]
    · intro h; exact ⟨_, h, decide_eq_true rfl⟩
  unfold runB
  rw [hla, Bool.true_and]
  unfold walkB
  rw [Bool.and_eq_true, Bool.and_eq_true, decide_eq_true_eq, List.all_eq_true, List.all_eq_true, hlen, Nat.add_sub_cancel, h0]
  constructor
  · rintro ⟨⟨k1, _⟩, k3⟩
    refine ⟨by show (stem ++ loop).getD 0 0 < 1; omega, fun i => ?_⟩
    have hp := pos_lt hlp i
    exact (hst _ hp).1 (k3 _ (List.mem_range.2 hp))
  · rintro ⟨k1, k2⟩
    have k1 : (stem ++ loop).getD 0 0 < 1 := k1
    have edge : ∀ q, q < (stem ++ loop).length → (stem ++ loop).getD (aft (stem ++ loop).length stem.length q) 0 ∈ (nxOf vs).getD ((stem ++ loop).getD q 0) [] := fun q hq => by
      have := k2 q
      simp only [pos_small hlp hq] at this
      rw [show pos (stem ++ loop).length stem.length (q + 1) = aft (stem ++ loop).length stem.length q from by
        show aft _ _ (pos _ _ q) = _; rw [pos_small hlp hq]] at this
      exact this
    have hin : ∀ q, q < (stem ++ loop).length → inB (rowsOf vs).length (((stem ++ loop).getD q 0 : Nat) : Int) = true := fun q hq => by
      have := (getD_row (edge q hq)).1
      rw [nxOf_len] at this
      unfold inB
      rw [decide_eq_true (by omega), decide_eq_true (by rw [List.length_map]; omega)]; rfl
    refine ⟨⟨by omega, fun z hz => ?_⟩, fun q hq => (hst q (List.mem_range.1 hq)).2 (edge q (List.mem_range.1 hq))⟩
    obtain ⟨q, hq, rfl⟩ := List.getElem_of_mem hz
    have e : (upN stem ++ upN loop ++ [(upN loop).getD 0 0])[q] = (upN stem ++ upN loop ++ [(upN loop).getD 0 0]).getD q 0 := get_getD hq
    rw [hlen] at hq
    rw [e]
    by_cases h : q < (stem ++ loop).length
    · rw [(clo_get stem loop h2 h).1]; exact hin q h
    · obtain ⟨q2, rfl⟩ : ∃ q2, q = q2 + 1 := ⟨q - 1, by omega⟩
      rw [(clo_get stem loop h2 (q := q2) (by omega)).2]
      exact hin _ (aft_lt hlp)
theorem LassoA.runs {vs : Vs} {ms : List Int} (hok : StrOk vs ms) {f : Fm} {stem loop : List Nat} (h : LassoA vs ms f stem loop) : runB (rowsOf vs) (upN stem) (upN loop) = true :=
  (run_nat hok stem loop (by have := h.l1; omega) (List.length_pos_iff.2 h.ne2) (by have := h.l2; omega)).2 h.run
end Go.Proofs.YtpbbneclkhfgoaaDoor
end
section
/- ltl, fiftieth: LtlOwn. -/
namespace Go.Proofs.YtpbbneclkhfgoaaDoor
open Go.W Go.Ltl Go.RowKit
set_option maxRecDepth 100000
set_option linter.unusedSectionVars false
attribute [local irreducible] WC WL WQ WS WH

theorem Hp.toTail {w0 w : World} {A L Y : List Ent} (h : Hp w0 w (A ++ (L ++ Y))) : Hp w0 w (L ++ (A ++ Y)) := permE h (by
  rw [← List.append_assoc, ← List.append_assoc]
  exact List.Perm.append_right Y List.perm_append_comm)
abbrev Rb (b : Nat) (hb : Bool) (sa : Option Addr) (sl sc : Nat) (pa : Option Addr) (pl pc : Nat) : Ent := .blk b (.cells #[.bool hb, .slice sa sl sc, .slice pa pl pc] 48 (0, 0))
/-- What a result's lists own, to be written into. -/
def ResE (sa : Option Addr) (sl : Nat) (pa : Option Addr) (pl : Nat) (E : List Ent) : Prop := (sl = 0 ∧ pl = 0 ∧ E = []) ∨ ∃ (bs : Nat) (xs : Array Value) (bp : Nat) (ys : Array Value), sa = some ⟨bs, 0, none⟩ ∧ pa = some ⟨bp, 0, none⟩ ∧ sl ≤ xs.size ∧ pl ≤ ys.size ∧ E = [.blk bs (.cells xs 3 (0, 0)), .blk bp (.cells ys 3 (0, 0))]
theorem LtlOwn_any (an : Option Addr) (cn : Nat) (am : Option Addr) (cm : Nat) (vs : Vs) (ms : List Int) (hB : StcB an cn am cm vs ms) (s : Str) (hsl : s.length ≤ 9223372036854775807) (w : World) (hG : Gl w) (hst : Stc w an am vs ms) :
    Ret Tryd.prog 8 [stV an cn am cm vs ms, st s] w fun u w' => u = .bool true ∧ Hp w w' [] := by
  refine enter Tryd.func8 rfl rfl ⟨rfl, rfl⟩ rfl ?_
  repeat (first | refine WC.seq ?_ | refine WC.reg ?_ | refine WL.pure rfl rfl rfl ?_ | refine WL.nil ?_ | refine WC.skip ?_ | refine WC.block ?_ | refine WC.condT rfl ?_ | refine WC.condF rfl ?_ | refine WL.off rfl rfl rfl ?_ | refine WL.off0 rfl rfl ?_ | refine WC.exit ?_ | refine blk_hit ?_ | refine blk_miss rfl ?_ | refine WC.ret ?_)
  refine WL.box rfl rfl rfl (fun b2 w1 hb2 => ?_)
  have hp1 : Hp w w1 [Sb b2 an cn am cm vs ms] := (Hp.start w).new hb2
  obtain ⟨hC1, hC2, hC3⟩ := tameC_ok (takeV (rowsOf vs)) (ms.take 20) (most := 6) (by decide) (by decide)
  have hT := fun w' (h : Stc w' an am vs ms) => tame_any an cn am cm vs ms hB 6 (by decide) (by decide) w' h
  obtain ⟨R, hR⟩ : ∃ R, R = (tameC (takeV (rowsOf vs)) (ms.take 20) 6).1 := ⟨_, rfl⟩
  obtain ⟨M, hM⟩ : ∃ M, M = (tameC (takeV (rowsOf vs)) (ms.take 20) 6).2 := ⟨_, rfl⟩
  rw [← hR, ← hM] at hC1 hC3
  rw [← hR] at hC2
  simp only [← hR, ← hM] at hT
  clear hR hM
  repeat (first | refine WC.seq ?_ | refine WC.reg ?_ | refine WL.pure rfl rfl rfl ?_ | refine WL.nil ?_ | refine WC.skip ?_ | refine WC.block ?_ | refine WC.condT rfl ?_ | refine WC.condF rfl ?_ | refine WL.off rfl rfl rfl ?_ | refine WL.off0 rfl rfl ?_ | refine WC.exit ?_ | refine blk_hit ?_ | refine blk_miss rfl ?_ | refine WC.ret ?_)
  refine WC.mid (Nat × Nat × (Option Addr × Nat × Option Addr × Nat × Vs) × (Option Addr × Nat × Option Addr × Nat × Vs)) (fun (b5, b6, _, _) => [(1, st s), (5, ptr b5), (6, ptr b6)])
    (fun (b5, b6, (na, nc, ma, mc, v1), (oa, oc, pa, pc, v2)) w' => rowsOf v1 = R ∧ rowsOf v2 = R ∧ Hp w w' ([Stb b5 na v1.length nc ma M.length mc, Stb b6 oa v2.length oc pa M.length pc] ++ (OwnS na nc ma mc v1 M ++ OwnS oa oc pa pc v2 M))) ?_ ?_
  · refine WC.regH (fun w' => Hp w w' [Sb b2 an cn am cm vs ms]) mixed (by kernel_rfl) (fun w2 hw2 hh2 => ?_)
    have hp2 : Hp w w2 ([Sb b2 an cn am cm vs ms] ++ []) := hp1.keep hw2
    have hS := hp1.keep hw2
    refine WH.take 0 (by kernel_rfl) rfl (by kernel_rfl) rfl rfl (fun w' h => run_loadN (cs := [.slice an vs.length cn, .slice am ms.length cm]) rfl rfl rfl rfl (fun q v hq => by rw [Addr.add_lit]; exact cell_of_obj (h.obj 0 rfl) (by rw [Nat.zero_add]; simpa using hq))) hS ?_
    refine WH.take 2 (by kernel_rfl) rfl (by kernel_rfl) rfl rfl (fun w' h => run_loadN (cs := [.slice an vs.length cn, .slice am ms.length cm]) rfl rfl rfl rfl (fun q v hq => by rw [Addr.add_lit]; exact cell_of_obj (h.obj 0 rfl) (by rw [Nat.zero_add]; simpa using hq))) hS ?_
    clear hp1 hS
    refine WH.many [1, 4, 5] (by kernel_rfl) (by decide) ?_
    intro iord hiord
    simp only [List.mem_cons, List.not_mem_nil, or_false] at hiord
    rcases hiord with rfl | rfl | rfl
    · refine ⟨_, rfl, ?_⟩
      refine WL.call rfl rfl rfl rfl rfl ent24 (hT w2 (hst.hp hp2)) ?_
      rintro _ wo1 ⟨na, nc, ma, mc, v1, rfl, hv1, hr1⟩
      have ho1 := Hp.toTail (L := [_]) (hp2.comb hr1)
      refine WL.nil ⟨(Hp.frontT (L := [_]) ho1).pick [0] (by decide), ?_⟩
      refine WH.many [3, 4, 5] (by kernel_rfl) (by decide) ?_
      intro iord hiord
      simp only [List.mem_cons, List.not_mem_nil, or_false] at hiord
      rcases hiord with rfl | rfl | rfl
      · refine ⟨_, rfl, ?_⟩
        refine WL.call rfl rfl rfl rfl rfl ent24 (hT wo1 (hst.hp ho1)) ?_
        rintro _ wo2 ⟨oa, oc, pa, pc, v2, rfl, hv2, hr2⟩
        have ho2 := Hp.toTail (L := [_]) (ho1.comb hr2)
        refine WL.nil ⟨(Hp.frontT (L := [_]) ho2).pick [0] (by decide), ?_⟩
        refine WH.many [4, 5] (by kernel_rfl) (by decide) ?_
        intro iord hiord
        simp only [List.mem_cons, List.not_mem_nil, or_false] at hiord
        rcases hiord with rfl | rfl
        · refine ⟨_, rfl, ?_⟩
          refine WL.alloc rfl rfl rfl (fun b5 wo3 hr3 => ?_)
          have ho3 := ho2.new hr3
          refine WL.nil ⟨(Hp.frontT (L := [_, _]) ho3).pick [1] (by decide), ?_⟩
          refine WH.one 5 rfl (by kernel_rfl) ?_
          refine WL.alloc rfl rfl rfl (fun b6 wo4 hr4 => ?_)
          have ho4 := ho3.new hr4
          refine WL.nil ⟨(Hp.frontT (L := [_, _, _]) ho4).pick [2] (by decide), ?_⟩
          refine WH.one 6 rfl (by kernel_rfl) ?_
          refine WL.storeN rfl rfl rfl rfl rfl (by simp [Value.oneCell']) (ho4.obj 1 rfl) (Nat.le_refl _) rfl (fun wo5 hr5 => ?_)
          have ho5 := ho4.set 1 rfl rfl hr5
          refine WL.nil ⟨(Hp.frontT (L := [_, _, _]) ho5).pick [2] (by decide), ?_⟩
          refine WH.one 7 rfl (by kernel_rfl) ?_
          refine WL.storeN rfl rfl rfl rfl rfl (by simp [Value.oneCell']) (ho5.obj 0 rfl) (Nat.le_refl _) rfl (fun wo6 hr6 => ?_)
          have ho6 := ho5.set 0 rfl rfl hr6
          refine WL.nil ⟨(Hp.frontT (L := [_, _, _]) ho6).pick [2] (by decide), ?_⟩
          refine WH.done (by kernel_rfl) ?_
          have hz := Hp.pickT (T := OwnS oa oc pa pc v2 M ++ (OwnS na nc ma mc v1 M ++ [])) [_, _, _] [1, 0] ho6 (by decide)
          exact ⟨(b5, b6, (na, nc, ma, mc, v1), (oa, oc, pa, pc, v2)), ⟨rfl, rfl, rfl, rfl⟩, hv1, hv2, permE hz (List.Perm.append_left _ (by rw [List.append_nil]; exact List.perm_append_comm))⟩
        · refine ⟨_, rfl, ?_⟩
          refine WL.alloc rfl rfl rfl (fun b6 wo7 hr7 => ?_)
          have ho7 := ho2.new hr7
          refine WL.nil ⟨(Hp.frontT (L := [_, _]) ho7).pick [1] (by decide), ?_⟩
          refine WH.one 4 rfl (by kernel_rfl) ?_
          refine WL.alloc rfl rfl rfl (fun b5 wo8 hr8 => ?_)
          have ho8 := ho7.new hr8
          refine WL.nil ⟨(Hp.frontT (L := [_, _, _]) ho8).pick [2] (by decide), ?_⟩
          refine WH.one 6 rfl (by kernel_rfl) ?_
          refine WL.storeN rfl rfl rfl rfl rfl (by simp [Value.oneCell']) (ho8.obj 0 rfl) (Nat.le_refl _) rfl (fun wo9 hr9 => ?_)
          have ho9 := ho8.set 0 rfl rfl hr9
          refine WL.nil ⟨(Hp.frontT (L := [_, _, _]) ho9).pick [2] (by decide), ?_⟩
          refine WH.one 7 rfl (by kernel_rfl) ?_
          refine WL.storeN rfl rfl rfl rfl rfl (by simp [Value.oneCell']) (ho9.obj 1 rfl) (Nat.le_refl _) rfl (fun wo10 hr10 => ?_)
          have ho10 := ho9.set 1 rfl rfl hr10
          refine WL.nil ⟨(Hp.frontT (L := [_, _, _]) ho10).pick [2] (by decide), ?_⟩
          refine WH.done (by kernel_rfl) ?_
          have hz := Hp.pickT (T := OwnS oa oc pa pc v2 M ++ (OwnS na nc ma mc v1 M ++ [])) [_, _, _] [0, 1] ho10 (by decide)
          exact ⟨(b5, b6, (na, nc, ma, mc, v1), (oa, oc, pa, pc, v2)), ⟨rfl, rfl, rfl, rfl⟩, hv1, hv2, permE hz (List.Perm.append_left _ (by rw [List.append_nil]; exact List.perm_append_comm))⟩
      · refine ⟨_, rfl, ?_⟩
        refine WL.alloc rfl rfl rfl (fun b5 wo11 hr11 => ?_)
        have ho11 := ho1.new hr11
        refine WL.nil ⟨(Hp.frontT (L := [_, _]) ho11).pick [1] (by decide), ?_⟩
        refine WH.many [3, 5] (by kernel_rfl) (by decide) ?_
        intro iord hiord
        simp only [List.mem_cons, List.not_mem_nil, or_false] at hiord
        rcases hiord with rfl | rfl
        · refine ⟨_, rfl, ?_⟩
          refine WL.call rfl rfl rfl rfl rfl ent24 (hT wo11 (hst.hp ho11)) ?_
          rintro _ wo12 ⟨oa, oc, pa, pc, v2, rfl, hv2, hr12⟩
          have ho12 := Hp.toTail (L := [_, _]) (ho11.comb hr12)
          refine WL.nil ⟨(Hp.frontT (L := [_, _]) ho12).pick [1] (by decide), ?_⟩
          refine WH.one 5 rfl (by kernel_rfl) ?_
          refine WL.alloc rfl rfl rfl (fun b6 wo13 hr13 => ?_)
          have ho13 := ho12.new hr13
          refine WL.nil ⟨(Hp.frontT (L := [_, _, _]) ho13).pick [2] (by decide), ?_⟩
          refine WH.one 6 rfl (by kernel_rfl) ?_
          refine WL.storeN rfl rfl rfl rfl rfl (by simp [Value.oneCell']) (ho13.obj 1 rfl) (Nat.le_refl _) rfl (fun wo14 hr14 => ?_)
          have ho14 := ho13.set 1 rfl rfl hr14
          refine WL.nil ⟨(Hp.frontT (L := [_, _, _]) ho14).pick [2] (by decide), ?_⟩
          refine WH.one 7 rfl (by kernel_rfl) ?_
          refine WL.storeN rfl rfl rfl rfl rfl (by simp [Value.oneCell']) (ho14.obj 0 rfl) (Nat.le_refl _) rfl (fun wo15 hr15 => ?_)
          have ho15 := ho14.set 0 rfl rfl hr15
          refine WL.nil ⟨(Hp.frontT (L := [_, _, _]) ho15).pick [2] (by decide), ?_⟩
          refine WH.done (by kernel_rfl) ?_
          have hz := Hp.pickT (T := OwnS oa oc pa pc v2 M ++ (OwnS na nc ma mc v1 M ++ [])) [_, _, _] [1, 0] ho15 (by decide)
          exact ⟨(b5, b6, (na, nc, ma, mc, v1), (oa, oc, pa, pc, v2)), ⟨rfl, rfl, rfl, rfl⟩, hv1, hv2, permE hz (List.Perm.append_left _ (by rw [List.append_nil]; exact List.perm_append_comm))⟩
        · refine ⟨_, rfl, ?_⟩
          refine WL.alloc rfl rfl rfl (fun b6 wo16 hr16 => ?_)
          have ho16 := ho11.new hr16
          refine WL.nil ⟨(Hp.frontT (L := [_, _, _]) ho16).pick [2] (by decide), ?_⟩
          refine WH.one 3 rfl (by kernel_rfl) ?_
          refine WL.call rfl rfl rfl rfl rfl ent24 (hT wo16 (hst.hp ho16)) ?_
          rintro _ wo17 ⟨oa, oc, pa, pc, v2, rfl, hv2, hr17⟩
          have ho17 := Hp.toTail (L := [_, _, _]) (ho16.comb hr17)
          refine WL.nil ⟨(Hp.frontT (L := [_, _, _]) ho17).pick [2] (by decide), ?_⟩
          refine WH.one 6 rfl (by kernel_rfl) ?_
          refine WL.storeN rfl rfl rfl rfl rfl (by simp [Value.oneCell']) (ho17.obj 1 rfl) (Nat.le_refl _) rfl (fun wo18 hr18 => ?_)
          have ho18 := ho17.set 1 rfl rfl hr18
          refine WL.nil ⟨(Hp.frontT (L := [_, _, _]) ho18).pick [2] (by decide), ?_⟩
          refine WH.one 7 rfl (by kernel_rfl) ?_
          refine WL.storeN rfl rfl rfl rfl rfl (by simp [Value.oneCell']) (ho18.obj 0 rfl) (Nat.le_refl _) rfl (fun wo19 hr19 => ?_)
          have ho19 := ho18.set 0 rfl rfl hr19
          refine WL.nil ⟨(Hp.frontT (L := [_, _, _]) ho19).pick [2] (by decide), ?_⟩
          refine WH.done (by kernel_rfl) ?_
          have hz := Hp.pickT (T := OwnS oa oc pa pc v2 M ++ (OwnS na nc ma mc v1 M ++ [])) [_, _, _] [1, 0] ho19 (by decide)
          exact ⟨(b5, b6, (na, nc, ma, mc, v1), (oa, oc, pa, pc, v2)), ⟨rfl, rfl, rfl, rfl⟩, hv1, hv2, permE hz (List.Perm.append_left _ (by rw [List.append_nil]; exact List.perm_append_comm))⟩
      · refine ⟨_, rfl, ?_⟩
        refine WL.alloc rfl rfl rfl (fun b6 wo20 hr20 => ?_)
        have ho20 := ho1.new hr20
        refine WL.nil ⟨(Hp.frontT (L := [_, _]) ho20).pick [1] (by decide), ?_⟩
        refine WH.many [3, 4] (by kernel_rfl) (by decide) ?_
        intro iord hiord
        simp only [List.mem_cons, List.not_mem_nil, or_false] at hiord
        rcases hiord with rfl | rfl
        · refine ⟨_, rfl, ?_⟩
          refine WL.call rfl rfl rfl rfl rfl ent24 (hT wo20 (hst.hp ho20)) ?_
          rintro _ wo21 ⟨oa, oc, pa, pc, v2, rfl, hv2, hr21⟩
          have ho21 := Hp.toTail (L := [_, _]) (ho20.comb hr21)
          refine WL.nil ⟨(Hp.frontT (L := [_, _]) ho21).pick [1] (by decide), ?_⟩
          refine WH.one 4 rfl (by kernel_rfl) ?_
          refine WL.alloc rfl rfl rfl (fun b5 wo22 hr22 => ?_)
          have ho22 := ho21.new hr22
          refine WL.nil ⟨(Hp.frontT (L := [_, _, _]) ho22).pick [2] (by decide), ?_⟩
          refine WH.one 6 rfl (by kernel_rfl) ?_
          refine WL.storeN rfl rfl rfl rfl rfl (by simp [Value.oneCell']) (ho22.obj 0 rfl) (Nat.le_refl _) rfl (fun wo23 hr23 => ?_)
          have ho23 := ho22.set 0 rfl rfl hr23
          refine WL.nil ⟨(Hp.frontT (L := [_, _, _]) ho23).pick [2] (by decide), ?_⟩
          refine WH.one 7 rfl (by kernel_rfl) ?_
          refine WL.storeN rfl rfl rfl rfl rfl (by simp [Value.oneCell']) (ho23.obj 1 rfl) (Nat.le_refl _) rfl (fun wo24 hr24 => ?_)
          have ho24 := ho23.set 1 rfl rfl hr24
          refine WL.nil ⟨(Hp.frontT (L := [_, _, _]) ho24).pick [2] (by decide), ?_⟩
          refine WH.done (by kernel_rfl) ?_
          have hz := Hp.pickT (T := OwnS oa oc pa pc v2 M ++ (OwnS na nc ma mc v1 M ++ [])) [_, _, _] [0, 1] ho24 (by decide)
          exact ⟨(b5, b6, (na, nc, ma, mc, v1), (oa, oc, pa, pc, v2)), ⟨rfl, rfl, rfl, rfl⟩, hv1, hv2, permE hz (List.Perm.append_left _ (by rw [List.append_nil]; exact List.perm_append_comm))⟩
        · refine ⟨_, rfl, ?_⟩
          refine WL.alloc rfl rfl rfl (fun b5 wo25 hr25 => ?_)
          have ho25 := ho20.new hr25
          refine WL.nil ⟨(Hp.frontT (L := [_, _, _]) ho25).pick [2] (by decide), ?_⟩
          refine WH.one 3 rfl (by kernel_rfl) ?_
          refine WL.call rfl rfl rfl rfl rfl ent24 (hT wo25 (hst.hp ho25)) ?_
          rintro _ wo26 ⟨oa, oc, pa, pc, v2, rfl, hv2, hr26⟩
          have ho26 := Hp.toTail (L := [_, _, _]) (ho25.comb hr26)
          refine WL.nil ⟨(Hp.frontT (L := [_, _, _]) ho26).pick [2] (by decide), ?_⟩
          refine WH.one 6 rfl (by kernel_rfl) ?_
          refine WL.storeN rfl rfl rfl rfl rfl (by simp [Value.oneCell']) (ho26.obj 0 rfl) (Nat.le_refl _) rfl (fun wo27 hr27 => ?_)
          have ho27 := ho26.set 0 rfl rfl hr27
          refine WL.nil ⟨(Hp.frontT (L := [_, _, _]) ho27).pick [2] (by decide), ?_⟩
          refine WH.one 7 rfl (by kernel_rfl) ?_
          refine WL.storeN rfl rfl rfl rfl rfl (by simp [Value.oneCell']) (ho27.obj 1 rfl) (Nat.le_refl _) rfl (fun wo28 hr28 => ?_)
          have ho28 := ho27.set 1 rfl rfl hr28
          refine WL.nil ⟨(Hp.frontT (L := [_, _, _]) ho28).pick [2] (by decide), ?_⟩
          refine WH.done (by kernel_rfl) ?_
          have hz := Hp.pickT (T := OwnS oa oc pa pc v2 M ++ (OwnS na nc ma mc v1 M ++ [])) [_, _, _] [0, 1] ho28 (by decide)
          exact ⟨(b5, b6, (na, nc, ma, mc, v1), (oa, oc, pa, pc, v2)), ⟨rfl, rfl, rfl, rfl⟩, hv1, hv2, permE hz (List.Perm.append_left _ (by rw [List.append_nil]; exact List.perm_append_comm))⟩
    · refine ⟨_, rfl, ?_⟩
      refine WL.alloc rfl rfl rfl (fun b5 wo29 hr29 => ?_)
      have ho29 := hp2.new hr29
      refine WL.nil ⟨(Hp.frontT (L := [_, _]) ho29).pick [1] (by decide), ?_⟩
      refine WH.many [1, 5] (by kernel_rfl) (by decide) ?_
      intro iord hiord
      simp only [List.mem_cons, List.not_mem_nil, or_false] at hiord
      rcases hiord with rfl | rfl
      · refine ⟨_, rfl, ?_⟩
        refine WL.call rfl rfl rfl rfl rfl ent24 (hT wo29 (hst.hp ho29)) ?_
        rintro _ wo30 ⟨na, nc, ma, mc, v1, rfl, hv1, hr30⟩
        have ho30 := Hp.toTail (L := [_, _]) (ho29.comb hr30)
        refine WL.nil ⟨(Hp.frontT (L := [_, _]) ho30).pick [1] (by decide), ?_⟩
        refine WH.many [3, 5] (by kernel_rfl) (by decide) ?_
        intro iord hiord
        simp only [List.mem_cons, List.not_mem_nil, or_false] at hiord
        rcases hiord with rfl | rfl
        · refine ⟨_, rfl, ?_⟩
          refine WL.call rfl rfl rfl rfl rfl ent24 (hT wo30 (hst.hp ho30)) ?_
          rintro _ wo31 ⟨oa, oc, pa, pc, v2, rfl, hv2, hr31⟩
          have ho31 := Hp.toTail (L := [_, _]) (ho30.comb hr31)
          refine WL.nil ⟨(Hp.frontT (L := [_, _]) ho31).pick [1] (by decide), ?_⟩
          refine WH.one 5 rfl (by kernel_rfl) ?_
          refine WL.alloc rfl rfl rfl (fun b6 wo32 hr32 => ?_)
          have ho32 := ho31.new hr32
          refine WL.nil ⟨(Hp.frontT (L := [_, _, _]) ho32).pick [2] (by decide), ?_⟩
          refine WH.one 6 rfl (by kernel_rfl) ?_
          refine WL.storeN rfl rfl rfl rfl rfl (by simp [Value.oneCell']) (ho32.obj 1 rfl) (Nat.le_refl _) rfl (fun wo33 hr33 => ?_)
          have ho33 := ho32.set 1 rfl rfl hr33
          refine WL.nil ⟨(Hp.frontT (L := [_, _, _]) ho33).pick [2] (by decide), ?_⟩
          refine WH.one 7 rfl (by kernel_rfl) ?_
          refine WL.storeN rfl rfl rfl rfl rfl (by simp [Value.oneCell']) (ho33.obj 0 rfl) (Nat.le_refl _) rfl (fun wo34 hr34 => ?_)
          have ho34 := ho33.set 0 rfl rfl hr34
          refine WL.nil ⟨(Hp.frontT (L := [_, _, _]) ho34).pick [2] (by decide), ?_⟩
          refine WH.done (by kernel_rfl) ?_
          have hz := Hp.pickT (T := OwnS oa oc pa pc v2 M ++ (OwnS na nc ma mc v1 M ++ [])) [_, _, _] [1, 0] ho34 (by decide)
          exact ⟨(b5, b6, (na, nc, ma, mc, v1), (oa, oc, pa, pc, v2)), ⟨rfl, rfl, rfl, rfl⟩, hv1, hv2, permE hz (List.Perm.append_left _ (by rw [List.append_nil]; exact List.perm_append_comm))⟩
        · refine ⟨_, rfl, ?_⟩
          refine WL.alloc rfl rfl rfl (fun b6 wo35 hr35 => ?_)
          have ho35 := ho30.new hr35
          refine WL.nil ⟨(Hp.frontT (L := [_, _, _]) ho35).pick [2] (by decide), ?_⟩
          refine WH.one 3 rfl (by kernel_rfl) ?_
          refine WL.call rfl rfl rfl rfl rfl ent24 (hT wo35 (hst.hp ho35)) ?_
          rintro _ wo36 ⟨oa, oc, pa, pc, v2, rfl, hv2, hr36⟩
          have ho36 := Hp.toTail (L := [_, _, _]) (ho35.comb hr36)
          refine WL.nil ⟨(Hp.frontT (L := [_, _, _]) ho36).pick [2] (by decide), ?_⟩
          refine WH.one 6 rfl (by kernel_rfl) ?_
          refine WL.storeN rfl rfl rfl rfl rfl (by simp [Value.oneCell']) (ho36.obj 1 rfl) (Nat.le_refl _) rfl (fun wo37 hr37 => ?_)
          have ho37 := ho36.set 1 rfl rfl hr37
          refine WL.nil ⟨(Hp.frontT (L := [_, _, _]) ho37).pick [2] (by decide), ?_⟩
          refine WH.one 7 rfl (by kernel_rfl) ?_
          refine WL.storeN rfl rfl rfl rfl rfl (by simp [Value.oneCell']) (ho37.obj 0 rfl) (Nat.le_refl _) rfl (fun wo38 hr38 => ?_)
          have ho38 := ho37.set 0 rfl rfl hr38
          refine WL.nil ⟨(Hp.frontT (L := [_, _, _]) ho38).pick [2] (by decide), ?_⟩
          refine WH.done (by kernel_rfl) ?_
          have hz := Hp.pickT (T := OwnS oa oc pa pc v2 M ++ (OwnS na nc ma mc v1 M ++ [])) [_, _, _] [1, 0] ho38 (by decide)
          exact ⟨(b5, b6, (na, nc, ma, mc, v1), (oa, oc, pa, pc, v2)), ⟨rfl, rfl, rfl, rfl⟩, hv1, hv2, permE hz (List.Perm.append_left _ (by rw [List.append_nil]; exact List.perm_append_comm))⟩
      · refine ⟨_, rfl, ?_⟩
        refine WL.alloc rfl rfl rfl (fun b6 wo39 hr39 => ?_)
        have ho39 := ho29.new hr39
        refine WL.nil ⟨(Hp.frontT (L := [_, _, _]) ho39).pick [2] (by decide), ?_⟩
        refine WH.one 1 rfl (by kernel_rfl) ?_
        refine WL.call rfl rfl rfl rfl rfl ent24 (hT wo39 (hst.hp ho39)) ?_
        rintro _ wo40 ⟨na, nc, ma, mc, v1, rfl, hv1, hr40⟩
        have ho40 := Hp.toTail (L := [_, _, _]) (ho39.comb hr40)
        refine WL.nil ⟨(Hp.frontT (L := [_, _, _]) ho40).pick [2] (by decide), ?_⟩
        refine WH.one 3 rfl (by kernel_rfl) ?_
        refine WL.call rfl rfl rfl rfl rfl ent24 (hT wo40 (hst.hp ho40)) ?_
        rintro _ wo41 ⟨oa, oc, pa, pc, v2, rfl, hv2, hr41⟩
        have ho41 := Hp.toTail (L := [_, _, _]) (ho40.comb hr41)
        refine WL.nil ⟨(Hp.frontT (L := [_, _, _]) ho41).pick [2] (by decide), ?_⟩
        refine WH.one 6 rfl (by kernel_rfl) ?_
        refine WL.storeN rfl rfl rfl rfl rfl (by simp [Value.oneCell']) (ho41.obj 1 rfl) (Nat.le_refl _) rfl (fun wo42 hr42 => ?_)
        have ho42 := ho41.set 1 rfl rfl hr42
        refine WL.nil ⟨(Hp.frontT (L := [_, _, _]) ho42).pick [2] (by decide), ?_⟩
        refine WH.one 7 rfl (by kernel_rfl) ?_
        refine WL.storeN rfl rfl rfl rfl rfl (by simp [Value.oneCell']) (ho42.obj 0 rfl) (Nat.le_refl _) rfl (fun wo43 hr43 => ?_)
        have ho43 := ho42.set 0 rfl rfl hr43
        refine WL.nil ⟨(Hp.frontT (L := [_, _, _]) ho43).pick [2] (by decide), ?_⟩
        refine WH.done (by kernel_rfl) ?_
        have hz := Hp.pickT (T := OwnS oa oc pa pc v2 M ++ (OwnS na nc ma mc v1 M ++ [])) [_, _, _] [1, 0] ho43 (by decide)
        exact ⟨(b5, b6, (na, nc, ma, mc, v1), (oa, oc, pa, pc, v2)), ⟨rfl, rfl, rfl, rfl⟩, hv1, hv2, permE hz (List.Perm.append_left _ (by rw [List.append_nil]; exact List.perm_append_comm))⟩
    · refine ⟨_, rfl, ?_⟩
      refine WL.alloc rfl rfl rfl (fun b6 wo44 hr44 => ?_)
      have ho44 := hp2.new hr44
      refine WL.nil ⟨(Hp.frontT (L := [_, _]) ho44).pick [1] (by decide), ?_⟩
      refine WH.many [1, 4] (by kernel_rfl) (by decide) ?_
      intro iord hiord
      simp only [List.mem_cons, List.not_mem_nil, or_false] at hiord
      rcases hiord with rfl | rfl
      · refine ⟨_, rfl, ?_⟩
        refine WL.call rfl rfl rfl rfl rfl ent24 (hT wo44 (hst.hp ho44)) ?_
        rintro _ wo45 ⟨na, nc, ma, mc, v1, rfl, hv1, hr45⟩
        have ho45 := Hp.toTail (L := [_, _]) (ho44.comb hr45)
        refine WL.nil ⟨(Hp.frontT (L := [_, _]) ho45).pick [1] (by decide), ?_⟩
        refine WH.many [3, 4] (by kernel_rfl) (by decide) ?_
        intro iord hiord
        simp only [List.mem_cons, List.not_mem_nil, or_false] at hiord
        rcases hiord with rfl | rfl
        · refine ⟨_, rfl, ?_⟩
          refine WL.call rfl rfl rfl rfl rfl ent24 (hT wo45 (hst.hp ho45)) ?_
          rintro _ wo46 ⟨oa, oc, pa, pc, v2, rfl, hv2, hr46⟩
          have ho46 := Hp.toTail (L := [_, _]) (ho45.comb hr46)
          refine WL.nil ⟨(Hp.frontT (L := [_, _]) ho46).pick [1] (by decide), ?_⟩
          refine WH.one 4 rfl (by kernel_rfl) ?_
          refine WL.alloc rfl rfl rfl (fun b5 wo47 hr47 => ?_)
          have ho47 := ho46.new hr47
          refine WL.nil ⟨(Hp.frontT (L := [_, _, _]) ho47).pick [2] (by decide), ?_⟩
          refine WH.one 6 rfl (by kernel_rfl) ?_
          refine WL.storeN rfl rfl rfl rfl rfl (by simp [Value.oneCell']) (ho47.obj 0 rfl) (Nat.le_refl _) rfl (fun wo48 hr48 => ?_)
          have ho48 := ho47.set 0 rfl rfl hr48
          refine WL.nil ⟨(Hp.frontT (L := [_, _, _]) ho48).pick [2] (by decide), ?_⟩
          refine WH.one 7 rfl (by kernel_rfl) ?_
          refine WL.storeN rfl rfl rfl rfl rfl (by simp [Value.oneCell']) (ho48.obj 1 rfl) (Nat.le_refl _) rfl (fun wo49 hr49 => ?_)
          have ho49 := ho48.set 1 rfl rfl hr49
          refine WL.nil ⟨(Hp.frontT (L := [_, _, _]) ho49).pick [2] (by decide), ?_⟩
          refine WH.done (by kernel_rfl) ?_
          have hz := Hp.pickT (T := OwnS oa oc pa pc v2 M ++ (OwnS na nc ma mc v1 M ++ [])) [_, _, _] [0, 1] ho49 (by decide)
          exact ⟨(b5, b6, (na, nc, ma, mc, v1), (oa, oc, pa, pc, v2)), ⟨rfl, rfl, rfl, rfl⟩, hv1, hv2, permE hz (List.Perm.append_left _ (by rw [List.append_nil]; exact List.perm_append_comm))⟩
        · refine ⟨_, rfl, ?_⟩
          refine WL.alloc rfl rfl rfl (fun b5 wo50 hr50 => ?_)
          have ho50 := ho45.new hr50
          refine WL.nil ⟨(Hp.frontT (L := [_, _, _]) ho50).pick [2] (by decide), ?_⟩
          refine WH.one 3 rfl (by kernel_rfl) ?_
          refine WL.call rfl rfl rfl rfl rfl ent24 (hT wo50 (hst.hp ho50)) ?_
          rintro _ wo51 ⟨oa, oc, pa, pc, v2, rfl, hv2, hr51⟩
          have ho51 := Hp.toTail (L := [_, _, _]) (ho50.comb hr51)
          refine WL.nil ⟨(Hp.frontT (L := [_, _, _]) ho51).pick [2] (by decide), ?_⟩
          refine WH.one 6 rfl (by kernel_rfl) ?_
          refine WL.storeN rfl rfl rfl rfl rfl (by simp [Value.oneCell']) (ho51.obj 0 rfl) (Nat.le_refl _) rfl (fun wo52 hr52 => ?_)
          have ho52 := ho51.set 0 rfl rfl hr52
          refine WL.nil ⟨(Hp.frontT (L := [_, _, _]) ho52).pick [2] (by decide), ?_⟩
          refine WH.one 7 rfl (by kernel_rfl) ?_
          refine WL.storeN rfl rfl rfl rfl rfl (by simp [Value.oneCell']) (ho52.obj 1 rfl) (Nat.le_refl _) rfl (fun wo53 hr53 => ?_)
          have ho53 := ho52.set 1 rfl rfl hr53
          refine WL.nil ⟨(Hp.frontT (L := [_, _, _]) ho53).pick [2] (by decide), ?_⟩
          refine WH.done (by kernel_rfl) ?_
          have hz := Hp.pickT (T := OwnS oa oc pa pc v2 M ++ (OwnS na nc ma mc v1 M ++ [])) [_, _, _] [0, 1] ho53 (by decide)
          exact ⟨(b5, b6, (na, nc, ma, mc, v1), (oa, oc, pa, pc, v2)), ⟨rfl, rfl, rfl, rfl⟩, hv1, hv2, permE hz (List.Perm.append_left _ (by rw [List.append_nil]; exact List.perm_append_comm))⟩
      · refine ⟨_, rfl, ?_⟩
        refine WL.alloc rfl rfl rfl (fun b5 wo54 hr54 => ?_)
        have ho54 := ho44.new hr54
        refine WL.nil ⟨(Hp.frontT (L := [_, _, _]) ho54).pick [2] (by decide), ?_⟩
        refine WH.one 1 rfl (by kernel_rfl) ?_
        refine WL.call rfl rfl rfl rfl rfl ent24 (hT wo54 (hst.hp ho54)) ?_
        rintro _ wo55 ⟨na, nc, ma, mc, v1, rfl, hv1, hr55⟩
        have ho55 := Hp.toTail (L := [_, _, _]) (ho54.comb hr55)
        refine WL.nil ⟨(Hp.frontT (L := [_, _, _]) ho55).pick [2] (by decide), ?_⟩
        refine WH.one 3 rfl (by kernel_rfl) ?_
        refine WL.call rfl rfl rfl rfl rfl ent24 (hT wo55 (hst.hp ho55)) ?_
        rintro _ wo56 ⟨oa, oc, pa, pc, v2, rfl, hv2, hr56⟩
        have ho56 := Hp.toTail (L := [_, _, _]) (ho55.comb hr56)
        refine WL.nil ⟨(Hp.frontT (L := [_, _, _]) ho56).pick [2] (by decide), ?_⟩
        refine WH.one 6 rfl (by kernel_rfl) ?_
        refine WL.storeN rfl rfl rfl rfl rfl (by simp [Value.oneCell']) (ho56.obj 0 rfl) (Nat.le_refl _) rfl (fun wo57 hr57 => ?_)
        have ho57 := ho56.set 0 rfl rfl hr57
        refine WL.nil ⟨(Hp.frontT (L := [_, _, _]) ho57).pick [2] (by decide), ?_⟩
        refine WH.one 7 rfl (by kernel_rfl) ?_
        refine WL.storeN rfl rfl rfl rfl rfl (by simp [Value.oneCell']) (ho57.obj 1 rfl) (Nat.le_refl _) rfl (fun wo58 hr58 => ?_)
        have ho58 := ho57.set 1 rfl rfl hr58
        refine WL.nil ⟨(Hp.frontT (L := [_, _, _]) ho58).pick [2] (by decide), ?_⟩
        refine WH.done (by kernel_rfl) ?_
        have hz := Hp.pickT (T := OwnS oa oc pa pc v2 M ++ (OwnS na nc ma mc v1 M ++ [])) [_, _, _] [0, 1] ho58 (by decide)
        exact ⟨(b5, b6, (na, nc, ma, mc, v1), (oa, oc, pa, pc, v2)), ⟨rfl, rfl, rfl, rfl⟩, hv1, hv2, permE hz (List.Perm.append_left _ (by rw [List.append_nil]; exact List.perm_append_comm))⟩
  rintro ⟨b5, b6, ⟨na, nc, ma, mc, v1⟩, ⟨oa, oc, pa, pc, v2⟩⟩ e2 w2 hsub ⟨hv1, hv2, hp2⟩
  refine WC.sub hsub ?_
  clear hsub e2 hp1 hT
  replace hv1 : rowsOf v1 = R := hv1
  replace hv2 : rowsOf v2 = R := hv2
  obtain ⟨Y, hY⟩ : ∃ Y, Y = OwnS na nc ma mc v1 M ++ OwnS oa oc pa pc v2 M := ⟨_, rfl⟩
  replace hp2 : Hp w w2 ([Stb b5 na v1.length nc ma M.length mc, Stb b6 oa v2.length oc pa M.length pc] ++ (OwnS na nc ma mc v1 M ++ OwnS oa oc pa pc v2 M)) := hp2
  rw [← hY] at hp2
  have hs1 : ∀ {w' : World} {A : List Ent}, Hp w w' (A ++ Y) → Stc w' na ma v1 M := fun {w' A} h => by
    subst hY
    exact Stc.own (n := v1.length) (nc := nc) (m := M.length) (mc := mc) h (by simp) (by simp) (fun x hx => by simp [hx])
  have hs2 : ∀ {w' : World} {A : List Ent}, Hp w w' (A ++ Y) → Stc w' oa pa v2 M := fun {w' A} h => by
    subst hY
    exact Stc.inB h
  have hl1 : v1.length = R.length := by rw [← hv1, List.length_map]
  have hl2 : v2.length = R.length := by rw [← hv2, List.length_map]
  have hsb1 : strB v1 M = true := by rw [strB_R, hv1]; exact hC1
  have hsb2 : strB v2 M = true := by rw [strB_R, hv2]; exact hC1
  have hok1 := strB_ok hsb1
  have hok2 := strB_ok hsb2
  have hr1 : ∀ x ∈ v1, x.2.2.length ≤ 1000000 := fun x hx => by have := hok1.len x hx; omega
  have hr2 : ∀ x ∈ v2, x.2.2.length ≤ 1000000 := fun x hx => by have := hok2.len x hx; omega
  have hM6 : M.length ≤ 6 := by omega
  repeat (first | refine WC.seq ?_ | refine WC.reg ?_ | refine WL.pure rfl rfl rfl ?_ | refine WL.nil ?_ | refine WC.skip ?_ | refine WC.block ?_ | refine WC.condT rfl ?_ | refine WC.condF rfl ?_ | refine WL.off rfl rfl rfl ?_ | refine WL.off0 rfl rfl ?_ | refine WC.exit ?_ | refine blk_hit ?_ | refine blk_miss rfl ?_ | refine WC.ret ?_)
  refine WL.call rfl rfl rfl rfl rfl ent16 (short_any s hsl w2) ?_
  rintro _ w3 ⟨rfl, hw3⟩
  obtain rfl := hw3.symm
  have hq := shortM_len s
  generalize shortM s = t at *
  have hH := fun w' (hG : Gl w') (h : Stc w' na ma v1 M) => HoldsT_any na nc ma mc v1 M (by omega) hr1 t (by omega) w' hG h
  repeat (first | refine WC.seq ?_ | refine WC.reg ?_ | refine WL.pure rfl rfl rfl ?_ | refine WL.nil ?_ | refine WC.skip ?_ | refine WC.block ?_ | refine WC.condT rfl ?_ | refine WC.condF rfl ?_ | refine WL.off rfl rfl rfl ?_ | refine WL.off0 rfl rfl ?_ | refine WC.exit ?_ | refine blk_hit ?_ | refine blk_miss rfl ?_ | refine WC.ret ?_)
  refine WL.loadN rfl rfl rfl rfl rfl (cs := [.slice na v1.length nc, .slice ma M.length mc]) rfl (fun q v hq => cell_of_obj (hp2.obj 0 rfl) (by rw [Nat.zero_add]; simpa using hq)) ?_
  refine WL.pure rfl rfl rfl ?_
  refine WL.call rfl rfl rfl rfl rfl ent26 (hH w2 (hG.hp hp2) (hs1 hp2)) ?_
  intro hv w3 hHW
  obtain ⟨hb, sa, sl, sc, qa, ql, qc, ec, E, rfl, hp3, hE, hbd, hcase⟩ : ∃ (hb : Bool) (sa : Option Addr) (sl sc : Nat) (qa : Option Addr) (ql qc : Nat) (ec : Int) (E : List Ent), hv = .tuple #[.agg #[.bool hb, .slice sa sl sc, .slice qa ql qc], .int .i64 ec] ∧ Hp w w3 ([Stb b5 na v1.length nc ma M.length mc, Stb b6 oa v2.length oc pa M.length pc] ++ (E ++ Y)) ∧ ResE sa sl qa ql E ∧ (sl ≤ 1000000000 ∧ ql ≤ 1000000000) ∧
      ((parseM t = none ∧ ec = 4) ∨ ∃ f, parseM t = some f ∧ ec = 0 ∧ (hb = true ↔ HoldsA v1 M f)) := by
    unfold HoldsW at hHW
    rw [if_pos hsb1] at hHW
    cases hf : parseM t with
    | none =>
      rw [hf] at hHW
      obtain ⟨rfl, hp3⟩ := hHW
      exact ⟨false, none, 0, 0, none, 0, 0, 4, [], rfl, hp2.call hp3.below, .inl ⟨rfl, rfl, rfl⟩, ⟨by omega, by omega⟩, .inl ⟨rfl, rfl⟩⟩
    | some f =>
      rw [hf] at hHW
      rcases hHW with ⟨hA, rfl, hp3⟩ | ⟨stem, loop, sa, sc, pb, pd, hA, rfl, hp3⟩
      · exact ⟨true, none, 0, 0, none, 0, 0, 0, [], rfl, hp2.call hp3.below, .inl ⟨rfl, rfl, rfl⟩, ⟨by omega, by omega⟩, .inr ⟨f, rfl, rfl, fun _ => hA, fun _ => rfl⟩⟩
      · have h1 := hp2.comb hp3
        obtain ⟨bp, cp, ys, e1, k1, k2, k3, k4, h2⟩ := Hp.unrow h1 (List.length_pos_iff.2 hA.ne2)
        obtain ⟨bs, cs, xs, e2, j1, j2, j3, j4, h3⟩ := Hp.unrow (Hp.swap h2) (List.length_pos_iff.2 hA.ne1)
        simp only [Value.slice.injEq] at e1 e2
        refine ⟨false, sa, stem.length, sc, pb, loop.length, pd, 0, [.blk bs (.cells xs 3 (0, 0)), .blk bp (.cells ys 3 (0, 0))], rfl, ?_, .inr ⟨bs, xs, bp, ys, e2.1, e1.1, by omega, by omega, rfl⟩, ⟨by have := hA.l1; omega, by have := hA.l2; omega⟩, .inr ⟨f, rfl, rfl, fun h => Bool.noConfusion h, fun h => absurd h hA.not⟩⟩
        exact Hp.pickT (T := [_, _] ++ Y) [_, _] [0, 1] (Hp.toTail (A := [_, _]) (L := [_, _]) (Y := Y) h3) (by decide)
  clear hHW hp2
  rcases hcase with ⟨hf, rfl⟩ | ⟨f, hf, rfl, hbA⟩
  · repeat (first | refine WC.seq ?_ | refine WC.reg ?_ | refine WL.pure rfl rfl rfl ?_ | refine WL.nil ?_ | refine WC.skip ?_ | refine WC.block ?_ | refine WC.condT rfl ?_ | refine WC.condF rfl ?_ | refine WL.off rfl rfl rfl ?_ | refine WL.off0 rfl rfl ?_ | refine WC.exit ?_ | refine blk_hit ?_ | refine blk_miss rfl ?_ | refine WC.ret ?_)
    refine WL.alloc rfl rfl rfl (fun b7 w4 h4 => ?_)
    have hp4 := hp3.new h4
    refine WL.storeN rfl rfl rfl rfl rfl (by simp [Value.oneCell']) (hp4.obj 0 rfl) (Nat.le_refl _) rfl (fun w5 h5 => ?_)
    have hp5 := hp4.set 0 rfl rfl h5
    repeat (first | refine WC.seq ?_ | refine WC.reg ?_ | refine WL.pure rfl rfl rfl ?_ | refine WL.nil ?_ | refine WC.skip ?_ | refine WC.block ?_ | refine WC.condT rfl ?_ | refine WC.condF rfl ?_ | refine WL.off rfl rfl rfl ?_ | refine WL.off0 rfl rfl ?_ | refine WC.exit ?_ | refine blk_hit ?_ | refine blk_miss rfl ?_ | refine WC.ret ?_)
    refine WL.call rfl rfl rfl rfl rfl ent20 (awake_any w5 (hG.hp hp5)) ?_
    rintro _ w6 ⟨rfl, hp6⟩
    repeat (first | refine WC.seq ?_ | refine WC.reg ?_ | refine WL.pure rfl rfl rfl ?_ | refine WL.nil ?_ | refine WC.skip ?_ | refine WC.block ?_ | refine WC.condT rfl ?_ | refine WC.condF rfl ?_ | refine WL.off rfl rfl rfl ?_ | refine WL.off0 rfl rfl ?_ | refine WC.exit ?_ | refine blk_hit ?_ | refine blk_miss rfl ?_ | refine WC.ret ?_)
    exact Res.one rfl rfl rfl ⟨rfl, (hp5.call hp6.below).nil'⟩
  repeat (first | refine WC.seq ?_ | refine WC.reg ?_ | refine WL.pure rfl rfl rfl ?_ | refine WL.nil ?_ | refine WC.skip ?_ | refine WC.block ?_ | refine WC.condT rfl ?_ | refine WC.condF rfl ?_ | refine WL.off rfl rfl rfl ?_ | refine WL.off0 rfl rfl ?_ | refine WC.exit ?_ | refine blk_hit ?_ | refine blk_miss rfl ?_ | refine WC.ret ?_)
  refine WL.alloc rfl rfl rfl (fun b7 w4 h4 => ?_)
  have hp4 := hp3.new h4
  refine WL.storeN rfl rfl rfl rfl rfl (by simp [Value.oneCell']) (hp4.obj 0 rfl) (Nat.le_refl _) rfl (fun w5 h5 => ?_)
  have hp5 : Hp w w5 ([Rb b7 hb sa sl sc qa ql qc, Stb b5 na v1.length nc ma M.length mc, Stb b6 oa v2.length oc pa M.length pc] ++ (E ++ Y)) := hp4.set 0 rfl rfl h5
  clear hp3 hp4 h4 h5
  refine WL.pure rfl rfl rfl ?_
  refine WL.nil ?_
  refine WC.seq ?_
  refine WC.seq ?_
  refine WC.reg ?_
  refine WL.pure rfl rfl rfl ?_
  refine WL.pure rfl rfl rfl ?_
  refine WL.nil ?_
  refine WC.condF rfl ?_
  refine WC.skip ?_
  refine WC.seq ?_
  refine WC.mid (List Ent) (fun _ => [(1, st t), (5, ptr b5), (6, ptr b6), (7, ptr b7)])
    (fun E w' => ResE sa sl qa ql E ∧ Hp w w' ([Rb b7 hb sa sl sc qa ql qc, Stb b5 na v1.length nc ma M.length mc, Stb b6 oa v2.length oc pa M.length pc] ++ (E ++ Y))) ?_ ?_
  · rcases hE with ⟨rfl, rfl, rfl⟩ | ⟨bs, xs, bp, ys, rfl, rfl, hx, hy, rfl⟩
    · repeat (first | refine WC.seq ?_ | refine WC.reg ?_ | refine WL.pure rfl rfl rfl ?_ | refine WL.nil ?_ | refine WC.skip ?_ | refine WC.block ?_ | refine WC.condT rfl ?_ | refine WC.condF rfl ?_ | refine WL.off rfl rfl rfl ?_ | refine WL.off0 rfl rfl ?_ | refine WC.exit ?_ | refine blk_hit ?_ | refine blk_miss rfl ?_ | refine WC.ret ?_)
      refine WC.loop Unit (fun _ => [(1, st t), (5, ptr b5), (6, ptr b6), (7, ptr b7), (9, .int .i64 0)]) (fun _ w' => Hp w w' ([Rb b7 hb sa 0 sc qa 0 qc, Stb b5 na v1.length nc ma M.length mc, Stb b6 oa v2.length oc pa M.length pc] ++ ([] ++ Y))) (fun _ => 0) () ⟨rfl, rfl, rfl, rfl, rfl, rfl⟩ hp5 ?_
      rintro _ w6 hp6
      replace hp6 : Hp w w6 ([Rb b7 hb sa 0 sc qa 0 qc, Stb b5 na v1.length nc ma M.length mc, Stb b6 oa v2.length oc pa M.length pc] ++ ([] ++ Y)) := hp6
      repeat (first | refine WC.seq ?_ | refine WC.reg ?_ | refine WL.pure rfl rfl rfl ?_ | refine WL.nil ?_ | refine WC.skip ?_ | refine WC.block ?_ | refine WC.condT rfl ?_ | refine WC.condF rfl ?_ | refine WL.off rfl rfl rfl ?_ | refine WL.off0 rfl rfl ?_ | refine WC.exit ?_ | refine blk_hit ?_ | refine blk_miss rfl ?_ | refine WC.ret ?_)
      refine WL.loadB rfl rfl rfl rfl rfl (hp6.obj 0 rfl) (j := 1) rfl ?_
      repeat (first | refine WC.seq ?_ | refine WC.reg ?_ | refine WL.pure rfl rfl rfl ?_ | refine WL.nil ?_ | refine WC.skip ?_ | refine WC.block ?_ | refine WC.condT rfl ?_ | refine WC.condF rfl ?_ | refine WL.off rfl rfl rfl ?_ | refine WL.off0 rfl rfl ?_ | refine WC.exit ?_ | refine blk_hit ?_ | refine blk_miss rfl ?_ | refine WC.ret ?_)
      exact ⟨[], ⟨rfl, rfl, rfl, rfl, rfl⟩, .inl ⟨rfl, rfl, rfl⟩, hp6⟩
    · have hlen : sl ≤ 1000000000 := hbd.1
      repeat (first | refine WC.seq ?_ | refine WC.reg ?_ | refine WL.pure rfl rfl rfl ?_ | refine WL.nil ?_ | refine WC.skip ?_ | refine WC.block ?_ | refine WC.condT rfl ?_ | refine WC.condF rfl ?_ | refine WL.off rfl rfl rfl ?_ | refine WL.off0 rfl rfl ?_ | refine WC.exit ?_ | refine blk_hit ?_ | refine blk_miss rfl ?_ | refine WC.ret ?_)
      refine WC.loop (Nat × Array Value) (fun (i, _) => [(1, st t), (5, ptr b5), (6, ptr b6), (7, ptr b7), (9, .int .i64 (i : Nat))])
        (fun (i, xs) w' => i ≤ sl ∧ sl ≤ xs.size ∧ Hp w w' ([Rb b7 hb (some ⟨bs, 0, none⟩) sl sc (some ⟨bp, 0, none⟩) ql qc, Stb b5 na v1.length nc ma M.length mc, Stb b6 oa v2.length oc pa M.length pc] ++ ([.blk bs (.cells xs 3 (0, 0)), .blk bp (.cells ys 3 (0, 0))] ++ Y))) (fun (i, _) => sl - i) (0, xs) ⟨rfl, rfl, rfl, rfl, rfl, rfl⟩ ⟨Nat.zero_le _, hx, hp5⟩ ?_
      clear hp5 hx xs
      rintro ⟨i, xs⟩ w6 ⟨hi, hx, hp6⟩
      replace hi : i ≤ sl := hi
      replace hx : sl ≤ xs.size := hx
      replace hp6 : Hp w w6 ([Rb b7 hb (some ⟨bs, 0, none⟩) sl sc (some ⟨bp, 0, none⟩) ql qc, Stb b5 na v1.length nc ma M.length mc, Stb b6 oa v2.length oc pa M.length pc] ++ ([.blk bs (.cells xs 3 (0, 0)), .blk bp (.cells ys 3 (0, 0))] ++ Y)) := hp6
      repeat (first | refine WC.seq ?_ | refine WC.reg ?_ | refine WL.pure rfl rfl rfl ?_ | refine WL.nil ?_ | refine WC.skip ?_ | refine WC.block ?_ | refine WC.condT rfl ?_ | refine WC.condF rfl ?_ | refine WL.off rfl rfl rfl ?_ | refine WL.off0 rfl rfl ?_ | refine WC.exit ?_ | refine blk_hit ?_ | refine blk_miss rfl ?_ | refine WC.ret ?_)
      refine WL.loadB rfl rfl rfl rfl rfl (hp6.obj 0 rfl) (j := 1) rfl ?_
      repeat (first | refine WC.seq ?_ | refine WC.reg ?_ | refine WL.pure rfl rfl rfl ?_ | refine WL.nil ?_ | refine WC.skip ?_ | refine WC.block ?_ | refine WC.condT rfl ?_ | refine WC.condF rfl ?_ | refine WL.off rfl rfl rfl ?_ | refine WL.off0 rfl rfl ?_ | refine WC.exit ?_ | refine blk_hit ?_ | refine blk_miss rfl ?_ | refine WC.ret ?_)
      refine WC.cond rfl (fun g => ?_) (fun g => ?_)
      · have hi : i < sl := by have := of_decide_eq_true g; omega
        have step := wrap_succ (i := i) (n := i + 1) (by omega) (by omega)
        repeat (first | refine WC.seq ?_ | refine WC.reg ?_ | refine WL.pure rfl rfl rfl ?_ | refine WL.nil ?_ | refine WC.skip ?_ | refine WC.block ?_ | refine WC.condT rfl ?_ | refine WC.condF rfl ?_ | refine WL.off rfl rfl rfl ?_ | refine WL.off0 rfl rfl ?_ | refine WC.exit ?_ | refine blk_hit ?_ | refine blk_miss rfl ?_ | refine WC.ret ?_)
        refine WL.loadB rfl rfl rfl rfl rfl (hp6.obj 0 rfl) (j := 1) rfl ?_
        refine WL.pure rfl rfl rfl ?_
        refine WL.ix1 (j := i) rfl rfl rfl rfl rfl rfl rfl hi ?_
        refine WL.store rfl rfl rfl rfl rfl rfl (hp6.obj 3 rfl) (by omega) (fun w7 h7 => ?_)
        have hp7 := hp6.set 3 rfl rfl h7
        repeat (first | refine WC.seq ?_ | refine WC.reg ?_ | refine WL.pure rfl rfl rfl ?_ | refine WL.nil ?_ | refine WC.skip ?_ | refine WC.block ?_ | refine WC.condT rfl ?_ | refine WC.condF rfl ?_ | refine WL.off rfl rfl rfl ?_ | refine WL.off0 rfl rfl ?_ | refine WC.exit ?_ | refine blk_hit ?_ | refine blk_miss rfl ?_ | refine WC.ret ?_)
        exact ⟨(i + 1, _), (by show sl - (i + 1) < sl - i; omega), ⟨rfl, rfl, rfl, rfl, congrArg (fun z => some (Value.int .i64 z)) step, rfl⟩, hi, (by rw [Array.size_setIfInBounds]; exact hx), hp7⟩
      · repeat (first | refine WC.seq ?_ | refine WC.reg ?_ | refine WL.pure rfl rfl rfl ?_ | refine WL.nil ?_ | refine WC.skip ?_ | refine WC.block ?_ | refine WC.condT rfl ?_ | refine WC.condF rfl ?_ | refine WL.off rfl rfl rfl ?_ | refine WL.off0 rfl rfl ?_ | refine WC.exit ?_ | refine blk_hit ?_ | refine blk_miss rfl ?_ | refine WC.ret ?_)
        exact ⟨[.blk bs (.cells xs 3 (0, 0)), .blk bp (.cells ys 3 (0, 0))], ⟨rfl, rfl, rfl, rfl, rfl⟩, .inr ⟨bs, xs, bp, ys, rfl, rfl, hx, hy, rfl⟩, hp6⟩
  rintro E2 e6 w6 hsub ⟨hE, hp6⟩
  refine WC.sub hsub ?_
  clear hsub e6 hp5
  replace hE : ResE sa sl qa ql E2 := hE
  have hp5 : Hp w w6 ([Rb b7 hb sa sl sc qa ql qc, Stb b5 na v1.length nc ma M.length mc, Stb b6 oa v2.length oc pa M.length pc] ++ (E2 ++ Y)) := hp6
  clear hp6
  refine WC.seq ?_
  refine WC.mid (List Ent) (fun _ => [(1, st t), (5, ptr b5), (6, ptr b6), (7, ptr b7)])
    (fun E w' => ResE sa sl qa ql E ∧ Hp w w' ([Rb b7 hb sa sl sc qa ql qc, Stb b5 na v1.length nc ma M.length mc, Stb b6 oa v2.length oc pa M.length pc] ++ (E ++ Y))) ?_ ?_
  · rcases hE with ⟨rfl, rfl, rfl⟩ | ⟨bs, xs, bp, ys, rfl, rfl, hx, hy, rfl⟩
    · repeat (first | refine WC.seq ?_ | refine WC.reg ?_ | refine WL.pure rfl rfl rfl ?_ | refine WL.nil ?_ | refine WC.skip ?_ | refine WC.block ?_ | refine WC.condT rfl ?_ | refine WC.condF rfl ?_ | refine WL.off rfl rfl rfl ?_ | refine WL.off0 rfl rfl ?_ | refine WC.exit ?_ | refine blk_hit ?_ | refine blk_miss rfl ?_ | refine WC.ret ?_)
      refine WC.loop Unit (fun _ => [(1, st t), (5, ptr b5), (6, ptr b6), (7, ptr b7), (10, .int .i64 0)]) (fun _ w' => Hp w w' ([Rb b7 hb sa 0 sc qa 0 qc, Stb b5 na v1.length nc ma M.length mc, Stb b6 oa v2.length oc pa M.length pc] ++ ([] ++ Y))) (fun _ => 0) () ⟨rfl, rfl, rfl, rfl, rfl, rfl⟩ hp5 ?_
      rintro _ w6 hp6
      replace hp6 : Hp w w6 ([Rb b7 hb sa 0 sc qa 0 qc, Stb b5 na v1.length nc ma M.length mc, Stb b6 oa v2.length oc pa M.length pc] ++ ([] ++ Y)) := hp6
      repeat (first | refine WC.seq ?_ | refine WC.reg ?_ | refine WL.pure rfl rfl rfl ?_ | refine WL.nil ?_ | refine WC.skip ?_ | refine WC.block ?_ | refine WC.condT rfl ?_ | refine WC.condF rfl ?_ | refine WL.off rfl rfl rfl ?_ | refine WL.off0 rfl rfl ?_ | refine WC.exit ?_ | refine blk_hit ?_ | refine blk_miss rfl ?_ | refine WC.ret ?_)
      refine WL.loadB rfl rfl rfl rfl rfl (hp6.obj 0 rfl) (j := 2) rfl ?_
      repeat (first | refine WC.seq ?_ | refine WC.reg ?_ | refine WL.pure rfl rfl rfl ?_ | refine WL.nil ?_ | refine WC.skip ?_ | refine WC.block ?_ | refine WC.condT rfl ?_ | refine WC.condF rfl ?_ | refine WL.off rfl rfl rfl ?_ | refine WL.off0 rfl rfl ?_ | refine WC.exit ?_ | refine blk_hit ?_ | refine blk_miss rfl ?_ | refine WC.ret ?_)
      exact ⟨[], ⟨rfl, rfl, rfl, rfl, rfl⟩, .inl ⟨rfl, rfl, rfl⟩, hp6⟩
    · have hlen : ql ≤ 1000000000 := hbd.2
      repeat (first | refine WC.seq ?_ | refine WC.reg ?_ | refine WL.pure rfl rfl rfl ?_ | refine WL.nil ?_ | refine WC.skip ?_ | refine WC.block ?_ | refine WC.condT rfl ?_ | refine WC.condF rfl ?_ | refine WL.off rfl rfl rfl ?_ | refine WL.off0 rfl rfl ?_ | refine WC.exit ?_ | refine blk_hit ?_ | refine blk_miss rfl ?_ | refine WC.ret ?_)
      refine WC.loop (Nat × Array Value) (fun (i, _) => [(1, st t), (5, ptr b5), (6, ptr b6), (7, ptr b7), (10, .int .i64 (i : Nat))])
        (fun (i, ys) w' => i ≤ ql ∧ ql ≤ ys.size ∧ Hp w w' ([Rb b7 hb (some ⟨bs, 0, none⟩) sl sc (some ⟨bp, 0, none⟩) ql qc, Stb b5 na v1.length nc ma M.length mc, Stb b6 oa v2.length oc pa M.length pc] ++ ([.blk bs (.cells xs 3 (0, 0)), .blk bp (.cells ys 3 (0, 0))] ++ Y))) (fun (i, _) => ql - i) (0, ys) ⟨rfl, rfl, rfl, rfl, rfl, rfl⟩ ⟨Nat.zero_le _, hy, hp5⟩ ?_
      clear hp5 hy ys
      rintro ⟨i, ys⟩ w6 ⟨hi, hy, hp6⟩
      replace hi : i ≤ ql := hi
      replace hy : ql ≤ ys.size := hy
      replace hp6 : Hp w w6 ([Rb b7 hb (some ⟨bs, 0, none⟩) sl sc (some ⟨bp, 0, none⟩) ql qc, Stb b5 na v1.length nc ma M.length mc, Stb b6 oa v2.length oc pa M.length pc] ++ ([.blk bs (.cells xs 3 (0, 0)), .blk bp (.cells ys 3 (0, 0))] ++ Y)) := hp6
      repeat (first | refine WC.seq ?_ | refine WC.reg ?_ | refine WL.pure rfl rfl rfl ?_ | refine WL.nil ?_ | refine WC.skip ?_ | refine WC.block ?_ | refine WC.condT rfl ?_ | refine WC.condF rfl ?_ | refine WL.off rfl rfl rfl ?_ | refine WL.off0 rfl rfl ?_ | refine WC.exit ?_ | refine blk_hit ?_ | refine blk_miss rfl ?_ | refine WC.ret ?_)
      refine WL.loadB rfl rfl rfl rfl rfl (hp6.obj 0 rfl) (j := 2) rfl ?_
      repeat (first | refine WC.seq ?_ | refine WC.reg ?_ | refine WL.pure rfl rfl rfl ?_ | refine WL.nil ?_ | refine WC.skip ?_ | refine WC.block ?_ | refine WC.condT rfl ?_ | refine WC.condF rfl ?_ | refine WL.off rfl rfl rfl ?_ | refine WL.off0 rfl rfl ?_ | refine WC.exit ?_ | refine blk_hit ?_ | refine blk_miss rfl ?_ | refine WC.ret ?_)
      refine WC.cond rfl (fun g => ?_) (fun g => ?_)
      · have hi : i < ql := by have := of_decide_eq_true g; omega
        have step := wrap_succ (i := i) (n := i + 1) (by omega) (by omega)
        repeat (first | refine WC.seq ?_ | refine WC.reg ?_ | refine WL.pure rfl rfl rfl ?_ | refine WL.nil ?_ | refine WC.skip ?_ | refine WC.block ?_ | refine WC.condT rfl ?_ | refine WC.condF rfl ?_ | refine WL.off rfl rfl rfl ?_ | refine WL.off0 rfl rfl ?_ | refine WC.exit ?_ | refine blk_hit ?_ | refine blk_miss rfl ?_ | refine WC.ret ?_)
        refine WL.loadB rfl rfl rfl rfl rfl (hp6.obj 0 rfl) (j := 2) rfl ?_
        refine WL.pure rfl rfl rfl ?_
        refine WL.ix1 (j := i) rfl rfl rfl rfl rfl rfl rfl hi ?_
        refine WL.store rfl rfl rfl rfl rfl rfl (hp6.obj 4 rfl) (by omega) (fun w7 h7 => ?_)
        have hp7 := hp6.set 4 rfl rfl h7
        repeat (first | refine WC.seq ?_ | refine WC.reg ?_ | refine WL.pure rfl rfl rfl ?_ | refine WL.nil ?_ | refine WC.skip ?_ | refine WC.block ?_ | refine WC.condT rfl ?_ | refine WC.condF rfl ?_ | refine WL.off rfl rfl rfl ?_ | refine WL.off0 rfl rfl ?_ | refine WC.exit ?_ | refine blk_hit ?_ | refine blk_miss rfl ?_ | refine WC.ret ?_)
        exact ⟨(i + 1, _), (by show ql - (i + 1) < ql - i; omega), ⟨rfl, rfl, rfl, rfl, congrArg (fun z => some (Value.int .i64 z)) step, rfl⟩, hi, (by rw [Array.size_setIfInBounds]; exact hy), hp7⟩
      · repeat (first | refine WC.seq ?_ | refine WC.reg ?_ | refine WL.pure rfl rfl rfl ?_ | refine WL.nil ?_ | refine WC.skip ?_ | refine WC.block ?_ | refine WC.condT rfl ?_ | refine WC.condF rfl ?_ | refine WL.off rfl rfl rfl ?_ | refine WL.off0 rfl rfl ?_ | refine WC.exit ?_ | refine blk_hit ?_ | refine blk_miss rfl ?_ | refine WC.ret ?_)
        exact ⟨[.blk bs (.cells xs 3 (0, 0)), .blk bp (.cells ys 3 (0, 0))], ⟨rfl, rfl, rfl, rfl, rfl⟩, .inr ⟨bs, xs, bp, ys, rfl, rfl, hx, hy, rfl⟩, hp6⟩
  rintro E3 e7 w7 hsub ⟨_, hp7⟩
  refine WC.sub hsub ?_
  clear hsub e7 hp5 hE
  replace hp7 : Hp w w7 ([Rb b7 hb sa sl sc qa ql qc, Stb b5 na v1.length nc ma M.length mc, Stb b6 oa v2.length oc pa M.length pc] ++ (E3 ++ Y)) := hp7
  have hp8 : Hp w w7 ([Rb b7 hb sa sl sc qa ql qc, Stb b5 na v1.length nc ma M.length mc, Stb b6 oa v2.length oc pa M.length pc] ++ Y) := Hp.frontT (T := E3) (permE hp7 (by
    rw [List.append_assoc]
    exact List.Perm.append_left _ List.perm_append_comm))
  clear hp7
  repeat (first | refine WC.seq ?_ | refine WC.reg ?_ | refine WL.pure rfl rfl rfl ?_ | refine WL.nil ?_ | refine WC.skip ?_ | refine WC.block ?_ | refine WC.condT rfl ?_ | refine WC.condF rfl ?_ | refine WL.off rfl rfl rfl ?_ | refine WL.off0 rfl rfl ?_ | refine WC.exit ?_ | refine blk_hit ?_ | refine blk_miss rfl ?_ | refine WC.ret ?_)
  refine WL.loadN rfl rfl rfl rfl rfl (cs := [.slice na v1.length nc, .slice ma M.length mc]) rfl (fun q v hq => cell_of_obj (hp8.obj 1 rfl) (by rw [Nat.zero_add]; simpa using hq)) ?_
  refine WL.pure rfl rfl rfl ?_
  refine WL.call rfl rfl rfl rfl rfl ent26 (hH w7 (hG.hp hp8) (hs1 hp8)) ?_
  intro hv w8 hHW
  obtain ⟨sa2, sl2, sc2, qa2, ql2, qc2, E, rfl, hp9, hres⟩ : ∃ (sa2 : Option Addr) (sl2 sc2 : Nat) (qa2 : Option Addr) (ql2 qc2 : Nat) (E : List Ent), hv = .tuple #[.agg #[.bool hb, .slice sa2 sl2 sc2, .slice qa2 ql2 qc2], .int .i64 0] ∧ Hp w w8 ([Rb b7 hb sa sl sc qa ql qc, Stb b5 na v1.length nc ma M.length mc, Stb b6 oa v2.length oc pa M.length pc] ++ (E ++ Y)) ∧
      (hb = true ∨ ∃ stem loop, LassoA v1 M f stem loop ∧ sl2 = stem.length ∧ ql2 = loop.length ∧ E = [Rna (.slice qa2 loop.length qc2) loop.length loop, Rna (.slice sa2 stem.length sc2) stem.length stem]) := by
    unfold HoldsW at hHW
    rw [if_pos hsb1, hf] at hHW
    rcases hHW with ⟨hA, rfl, hp9⟩ | ⟨stem, loop, sa2, sc2, qa2, qc2, hA, rfl, hp9⟩
    · have : hb = true := hbA.2 hA
      subst this
      exact ⟨none, 0, 0, none, 0, 0, [], rfl, hp8.call hp9.below, .inl rfl⟩
    · have : hb = false := by
        cases hb with
        | false => rfl
        | true => exact absurd (hbA.1 rfl) hA.not
      subst this
      exact ⟨sa2, stem.length, sc2, qa2, loop.length, qc2, _, rfl, Hp.toTail (L := [_, _, _]) (hp8.comb hp9), .inr ⟨stem, loop, hA, rfl, rfl, rfl⟩⟩
  clear hHW hp8 hH
  have hsA : ∀ {w' : World} {A : List Ent}, Hp w w' (A ++ (E ++ Y)) → Stc w' na ma v1 M := fun {w' A} h => hs1 (A := A ++ E) (by rw [List.append_assoc]; exact h)
  have hsB : ∀ {w' : World} {A : List Ent}, Hp w w' (A ++ (E ++ Y)) → Stc w' oa pa v2 M := fun {w' A} h => hs2 (A := A ++ E) (by rw [List.append_assoc]; exact h)
  repeat (first | refine WC.seq ?_ | refine WC.reg ?_ | refine WL.pure rfl rfl rfl ?_ | refine WL.nil ?_ | refine WC.skip ?_ | refine WC.block ?_ | refine WC.condT rfl ?_ | refine WC.condF rfl ?_ | refine WL.off rfl rfl rfl ?_ | refine WL.off0 rfl rfl ?_ | refine WC.exit ?_ | refine blk_hit ?_ | refine blk_miss rfl ?_ | refine WC.ret ?_)
  refine WL.alloc rfl rfl rfl (fun b11 w9 h9 => ?_)
  have hp10 := hp9.new h9
  refine WL.storeN rfl rfl rfl rfl rfl (by simp [Value.oneCell']) (hp10.obj 0 rfl) (Nat.le_refl _) rfl (fun w10 h10 => ?_)
  have hp11 : Hp w w10 ([Rb b11 hb sa2 sl2 sc2 qa2 ql2 qc2, Rb b7 hb sa sl sc qa ql qc, Stb b5 na v1.length nc ma M.length mc, Stb b6 oa v2.length oc pa M.length pc] ++ (E ++ Y)) := hp10.set 0 rfl rfl h10
  clear hp9 hp10 h9 h10 hs1 hs2
  have hlo : 1 ≤ R.length := by have := hok1.lo; omega
  obtain ⟨bn1, on1, rfl, _⟩ := (hsA hp11).nx 0 _ (catV_at (by omega))
  obtain ⟨bn2, on2, rfl, _⟩ := (hsB hp11).nx 0 _ (catV_at (by omega))
  obtain ⟨bm1, om1, rfl, _⟩ := (hsA hp11).mks 0 _ (zs_getD (by omega))
  obtain ⟨bm2, om2, rfl, _⟩ := (hsB hp11).mks 0 _ (zs_getD (by omega))
  repeat (first | refine WC.seq ?_ | refine WC.reg ?_ | refine WL.pure rfl rfl rfl ?_ | refine WL.nil ?_ | refine WC.skip ?_ | refine WC.block ?_ | refine WC.condT rfl ?_ | refine WC.condF rfl ?_ | refine WL.off rfl rfl rfl ?_ | refine WL.off0 rfl rfl ?_ | refine WC.exit ?_ | refine blk_hit ?_ | refine blk_miss rfl ?_ | refine WC.ret ?_)
  refine WL.loadB rfl rfl rfl rfl rfl (hp11.obj 0 rfl) (j := 0) rfl ?_
  refine WL.pure rfl rfl rfl ?_
  refine WL.loadB rfl rfl rfl rfl rfl (hp11.obj 1 rfl) (j := 0) rfl ?_
  refine WL.pure rfl rfl rfl ?_
  refine WL.known (d := 65) (v := .bool false) (by cases hb <;> rfl) ?_
  repeat (first | refine WC.seq ?_ | refine WC.reg ?_ | refine WL.pure rfl rfl rfl ?_ | refine WL.nil ?_ | refine WC.skip ?_ | refine WC.block ?_ | refine WC.condT rfl ?_ | refine WC.condF rfl ?_ | refine WL.off rfl rfl rfl ?_ | refine WL.off0 rfl rfl ?_ | refine WC.exit ?_ | refine blk_hit ?_ | refine blk_miss rfl ?_ | refine WC.ret ?_)
  refine WL.loadB rfl rfl rfl rfl rfl (hp11.obj 2 rfl) (j := 0) rfl ?_
  refine WL.pure rfl rfl rfl ?_
  refine WL.pure rfl rfl rfl ?_
  refine WL.loadB rfl rfl rfl rfl rfl (hp11.obj 3 rfl) (j := 0) rfl ?_
  refine WL.pure rfl rfl rfl ?_
  refine WL.pure rfl rfl rfl ?_
  refine WL.known (d := 74) (v := .bool false) (congrArg (fun z => some (Value.bool z)) (show (!(((v1.length : Nat) : Int) == ((v2.length : Nat) : Int))) = false by rw [hl1, hl2]; simp)) ?_
  repeat (first | refine WC.seq ?_ | refine WC.reg ?_ | refine WL.pure rfl rfl rfl ?_ | refine WL.nil ?_ | refine WC.skip ?_ | refine WC.block ?_ | refine WC.condT rfl ?_ | refine WC.condF rfl ?_ | refine WL.off rfl rfl rfl ?_ | refine WL.off0 rfl rfl ?_ | refine WC.exit ?_ | refine blk_hit ?_ | refine blk_miss rfl ?_ | refine WC.ret ?_)
  refine WC.loop Nat (fun i => [(5, ptr b5), (6, ptr b6), (11, ptr b11), (13, .int .i64 (i : Nat))]) (fun i w' => i ≤ R.length ∧ Hp w w' ([Rb b11 hb sa2 sl2 sc2 qa2 ql2 qc2, Rb b7 hb sa sl sc qa ql qc, Stb b5 (some ⟨bn1, on1, none⟩) v1.length nc (some ⟨bm1, om1, none⟩) M.length mc, Stb b6 (some ⟨bn2, on2, none⟩) v2.length oc (some ⟨bm2, om2, none⟩) M.length pc] ++ (E ++ Y))) (fun i => R.length - i) 0 ⟨rfl, rfl, rfl, rfl, rfl⟩ ⟨Nat.zero_le _, hp11⟩ ?_
  clear hp11
  rintro i w11 ⟨hi, hp11⟩
  replace hi : i ≤ R.length := hi
  replace hp11 : Hp w w11 ([Rb b11 hb sa2 sl2 sc2 qa2 ql2 qc2, Rb b7 hb sa sl sc qa ql qc, Stb b5 (some ⟨bn1, on1, none⟩) v1.length nc (some ⟨bm1, om1, none⟩) M.length mc, Stb b6 (some ⟨bn2, on2, none⟩) v2.length oc (some ⟨bm2, om2, none⟩) M.length pc] ++ (E ++ Y)) := hp11
  repeat (first | refine WC.seq ?_ | refine WC.reg ?_ | refine WL.pure rfl rfl rfl ?_ | refine WL.nil ?_ | refine WC.skip ?_ | refine WC.block ?_ | refine WC.condT rfl ?_ | refine WC.condF rfl ?_ | refine WL.off rfl rfl rfl ?_ | refine WL.off0 rfl rfl ?_ | refine WC.exit ?_ | refine blk_hit ?_ | refine blk_miss rfl ?_ | refine WC.ret ?_)
  refine WL.loadB rfl rfl rfl rfl rfl (hp11.obj 2 rfl) (j := 0) rfl ?_
  repeat (first | refine WC.seq ?_ | refine WC.reg ?_ | refine WL.pure rfl rfl rfl ?_ | refine WL.nil ?_ | refine WC.skip ?_ | refine WC.block ?_ | refine WC.condT rfl ?_ | refine WC.condF rfl ?_ | refine WL.off rfl rfl rfl ?_ | refine WL.off0 rfl rfl ?_ | refine WC.exit ?_ | refine blk_hit ?_ | refine blk_miss rfl ?_ | refine WC.ret ?_)
  refine WC.cond rfl (fun g => ?_) (fun g => ?_)
  · have hi1 : i < v1.length := by have := of_decide_eq_true g; omega
    have hi2 : i < v2.length := by omega
    have hiM : i < M.length := by omega
    have step := wrap_succ (i := i) (n := i + 1) (by omega) (by omega)
    have e1 := rows_get hi1
    have e2 := rows_get hi2
    rw [hv1] at e1
    rw [hv2, e1] at e2
    have hrl := hr1 _ (List.getElem_mem hi1)
    have hc1 : ∀ {w'}, Hp w w' ([Rb b11 hb sa2 sl2 sc2 qa2 ql2 qc2, Rb b7 hb sa sl sc qa ql qc, Stb b5 (some ⟨bn1, on1, none⟩) v1.length nc (some ⟨bm1, om1, none⟩) M.length mc, Stb b6 (some ⟨bn2, on2, none⟩) v2.length oc (some ⟨bm2, om2, none⟩) M.length pc] ++ (E ++ Y)) → w'.cell? ⟨bn1, on1 + i, none⟩ = some (.slice v1[i].1 v1[i].2.2.length v1[i].2.1) := fun {w'} h => Sl.cell (hsA h).nx (catV_at hi1)
    have hc2 : ∀ {w'}, Hp w w' ([Rb b11 hb sa2 sl2 sc2 qa2 ql2 qc2, Rb b7 hb sa sl sc qa ql qc, Stb b5 (some ⟨bn1, on1, none⟩) v1.length nc (some ⟨bm1, om1, none⟩) M.length mc, Stb b6 (some ⟨bn2, on2, none⟩) v2.length oc (some ⟨bm2, om2, none⟩) M.length pc] ++ (E ++ Y)) → w'.cell? ⟨bn2, on2 + i, none⟩ = some (.slice v2[i].1 v2[i].2.2.length v2[i].2.1) := fun {w'} h => Sl.cell (hsB h).nx (catV_at hi2)
    have hd1 : ∀ {w'}, Hp w w' ([Rb b11 hb sa2 sl2 sc2 qa2 ql2 qc2, Rb b7 hb sa sl sc qa ql qc, Stb b5 (some ⟨bn1, on1, none⟩) v1.length nc (some ⟨bm1, om1, none⟩) M.length mc, Stb b6 (some ⟨bn2, on2, none⟩) v2.length oc (some ⟨bm2, om2, none⟩) M.length pc] ++ (E ++ Y)) → Sl w' v1[i].1 (zs v1[i].2.2) := fun {w'} h => (hsA h).rows _ (List.getElem_mem hi1)
    have hd2 : ∀ {w'}, Hp w w' ([Rb b11 hb sa2 sl2 sc2 qa2 ql2 qc2, Rb b7 hb sa sl sc qa ql qc, Stb b5 (some ⟨bn1, on1, none⟩) v1.length nc (some ⟨bm1, om1, none⟩) M.length mc, Stb b6 (some ⟨bn2, on2, none⟩) v2.length oc (some ⟨bm2, om2, none⟩) M.length pc] ++ (E ++ Y)) → Sl w' v2[i].1 (zs v2[i].2.2) := fun {w'} h => (hsB h).rows _ (List.getElem_mem hi2)
    rw [← e2] at hc2 hd2
    obtain ⟨r, hr⟩ : ∃ r, r = v1[i].2.2 := ⟨_, rfl⟩
    obtain ⟨ra1, hra1⟩ : ∃ a, a = v1[i].1 := ⟨_, rfl⟩
    obtain ⟨ra2, hra2⟩ : ∃ a, a = v2[i].1 := ⟨_, rfl⟩
    obtain ⟨rc1, hrc1⟩ : ∃ a, a = v1[i].2.1 := ⟨_, rfl⟩
    obtain ⟨rc2, hrc2⟩ : ∃ a, a = v2[i].2.1 := ⟨_, rfl⟩
    simp only [← hr, ← hra1, ← hra2, ← hrc1, ← hrc2] at hc1 hc2 hd1 hd2 hrl
    clear hr hra1 hra2 hrc1 hrc2 e1 e2
    repeat (first | refine WC.seq ?_ | refine WC.reg ?_ | refine WL.pure rfl rfl rfl ?_ | refine WL.nil ?_ | refine WC.skip ?_ | refine WC.block ?_ | refine WC.condT rfl ?_ | refine WC.condF rfl ?_ | refine WL.off rfl rfl rfl ?_ | refine WL.off0 rfl rfl ?_ | refine WC.exit ?_ | refine blk_hit ?_ | refine blk_miss rfl ?_ | refine WC.ret ?_)
    refine WC.mid Unit (fun _ => [(5, ptr b5), (6, ptr b6), (11, ptr b11), (13, .int .i64 (i : Nat)), (108, .bool false)]) (fun _ w' => Hp w w' ([Rb b11 hb sa2 sl2 sc2 qa2 ql2 qc2, Rb b7 hb sa sl sc qa ql qc, Stb b5 (some ⟨bn1, on1, none⟩) v1.length nc (some ⟨bm1, om1, none⟩) M.length mc, Stb b6 (some ⟨bn2, on2, none⟩) v2.length oc (some ⟨bm2, om2, none⟩) M.length pc] ++ (E ++ Y))) ?_ ?_
    · refine WC.regQ (fun w' => Hp w w' ([Rb b11 hb sa2 sl2 sc2 qa2 ql2 qc2, Rb b7 hb sa sl sc qa ql qc, Stb b5 (some ⟨bn1, on1, none⟩) v1.length nc (some ⟨bm1, om1, none⟩) M.length mc, Stb b6 (some ⟨bn2, on2, none⟩) v2.length oc (some ⟨bm2, om2, none⟩) M.length pc] ++ (E ++ Y))) mixed (by kernel_rfl) (fun w' hw' => hp11.keep hw') ?_
      repeat (first | refine WQ.pure rfl rfl rfl ?_ | refine WQ.off rfl rfl rfl ?_ | refine WQ.nil ?_)
      refine WQ.load rfl rfl rfl rfl rfl (fun w' h => cell_of_obj (h.obj 2 rfl) (j := 1) rfl) ?_
      repeat (first | refine WQ.pure rfl rfl rfl ?_ | refine WQ.off rfl rfl rfl ?_ | refine WQ.nil ?_)
      refine WQ.ixload rfl (fun _ => rfl) rfl rfl rfl rfl rfl rfl rfl hiM rfl rfl (fun w' h => Sl.cell (hsA h).mks (zs_getD hiM)) ?_
      repeat (first | refine WQ.pure rfl rfl rfl ?_ | refine WQ.off rfl rfl rfl ?_ | refine WQ.nil ?_)
      refine WQ.load rfl rfl rfl rfl rfl (fun w' h => cell_of_obj (h.obj 3 rfl) (j := 1) rfl) ?_
      repeat (first | refine WQ.pure rfl rfl rfl ?_ | refine WQ.off rfl rfl rfl ?_ | refine WQ.nil ?_)
      refine WQ.ixload rfl (fun _ => rfl) rfl rfl rfl rfl rfl rfl rfl hiM rfl rfl (fun w' h => Sl.cell (hsB h).mks (zs_getD hiM)) ?_
      refine WQ.pure rfl rfl rfl ?_
      refine WQ.known (d := 93) (v := .bool false) (congrArg (fun z => some (Value.bool z)) (show (!(M.getD i 0 == M.getD i 0)) = false by simp)) ?_
      repeat (first | refine WQ.pure rfl rfl rfl ?_ | refine WQ.off rfl rfl rfl ?_ | refine WQ.nil ?_)
      refine WQ.load rfl rfl rfl rfl rfl (fun w' h => cell_of_obj (h.obj 2 rfl) (j := 0) rfl) ?_
      repeat (first | refine WQ.pure rfl rfl rfl ?_ | refine WQ.off rfl rfl rfl ?_ | refine WQ.nil ?_)
      refine WQ.ixload rfl (fun _ => rfl) rfl rfl rfl rfl rfl rfl rfl hi1 rfl rfl (fun w' h => hc1 h) ?_
      repeat (first | refine WQ.pure rfl rfl rfl ?_ | refine WQ.off rfl rfl rfl ?_ | refine WQ.nil ?_)
      refine WQ.load rfl rfl rfl rfl rfl (fun w' h => cell_of_obj (h.obj 3 rfl) (j := 0) rfl) ?_
      repeat (first | refine WQ.pure rfl rfl rfl ?_ | refine WQ.off rfl rfl rfl ?_ | refine WQ.nil ?_)
      refine WQ.ixload rfl (fun _ => rfl) rfl rfl rfl rfl rfl rfl rfl hi2 rfl rfl (fun w' h => hc2 h) ?_
      refine WQ.pure rfl rfl rfl ?_
      refine WQ.pure rfl rfl rfl ?_
      refine WQ.known (d := 107) (v := .bool false) (congrArg (fun z => some (Value.bool z)) (show (!(((r.length : Nat) : Int) == ((r.length : Nat) : Int))) = false by simp)) ?_
      repeat (first | refine WQ.pure rfl rfl rfl ?_ | refine WQ.off rfl rfl rfl ?_ | refine WQ.nil ?_)
      intro w' h
      exact ⟨(), ⟨rfl, rfl, rfl, rfl, rfl, rfl⟩, h⟩
    rintro _ e12 w12 hsub hp12
    refine WC.sub hsub ?_
    clear hsub e12 hp11
    replace hp12 : Hp w w12 ([Rb b11 hb sa2 sl2 sc2 qa2 ql2 qc2, Rb b7 hb sa sl sc qa ql qc, Stb b5 (some ⟨bn1, on1, none⟩) v1.length nc (some ⟨bm1, om1, none⟩) M.length mc, Stb b6 (some ⟨bn2, on2, none⟩) v2.length oc (some ⟨bm2, om2, none⟩) M.length pc] ++ (E ++ Y)) := hp12
    repeat (first | refine WC.seq ?_ | refine WC.reg ?_ | refine WL.pure rfl rfl rfl ?_ | refine WL.nil ?_ | refine WC.skip ?_ | refine WC.block ?_ | refine WC.condT rfl ?_ | refine WC.condF rfl ?_ | refine WL.off rfl rfl rfl ?_ | refine WL.off0 rfl rfl ?_ | refine WC.exit ?_ | refine blk_hit ?_ | refine blk_miss rfl ?_ | refine WC.ret ?_)
    refine WC.loop Nat (fun j => [(5, ptr b5), (6, ptr b6), (11, ptr b11), (13, .int .i64 (i : Nat)), (14, .int .i64 (j : Nat))]) (fun j w' => j ≤ r.length ∧ Hp w w' ([Rb b11 hb sa2 sl2 sc2 qa2 ql2 qc2, Rb b7 hb sa sl sc qa ql qc, Stb b5 (some ⟨bn1, on1, none⟩) v1.length nc (some ⟨bm1, om1, none⟩) M.length mc, Stb b6 (some ⟨bn2, on2, none⟩) v2.length oc (some ⟨bm2, om2, none⟩) M.length pc] ++ (E ++ Y))) (fun j => r.length - j) 0 ⟨rfl, rfl, rfl, rfl, rfl, rfl⟩ ⟨Nat.zero_le _, hp12⟩ ?_
    clear hp12
    rintro j w12 ⟨hj, hp12⟩
    replace hj : j ≤ r.length := hj
    replace hp12 : Hp w w12 ([Rb b11 hb sa2 sl2 sc2 qa2 ql2 qc2, Rb b7 hb sa sl sc qa ql qc, Stb b5 (some ⟨bn1, on1, none⟩) v1.length nc (some ⟨bm1, om1, none⟩) M.length mc, Stb b6 (some ⟨bn2, on2, none⟩) v2.length oc (some ⟨bm2, om2, none⟩) M.length pc] ++ (E ++ Y)) := hp12
    repeat (first | refine WC.seq ?_ | refine WC.reg ?_ | refine WL.pure rfl rfl rfl ?_ | refine WL.nil ?_ | refine WC.skip ?_ | refine WC.block ?_ | refine WC.condT rfl ?_ | refine WC.condF rfl ?_ | refine WL.off rfl rfl rfl ?_ | refine WL.off0 rfl rfl ?_ | refine WC.exit ?_ | refine blk_hit ?_ | refine blk_miss rfl ?_ | refine WC.ret ?_)
    refine WL.loadB rfl rfl rfl rfl rfl (hp12.obj 2 rfl) (j := 0) rfl ?_
    refine WL.pure rfl rfl rfl ?_
    refine WL.ix1 (j := i) rfl rfl rfl rfl rfl rfl rfl hi1 ?_
    refine WL.load rfl rfl rfl rfl rfl (hc1 hp12) ?_
    repeat (first | refine WC.seq ?_ | refine WC.reg ?_ | refine WL.pure rfl rfl rfl ?_ | refine WL.nil ?_ | refine WC.skip ?_ | refine WC.block ?_ | refine WC.condT rfl ?_ | refine WC.condF rfl ?_ | refine WL.off rfl rfl rfl ?_ | refine WL.off0 rfl rfl ?_ | refine WC.exit ?_ | refine blk_hit ?_ | refine blk_miss rfl ?_ | refine WC.ret ?_)
    refine WC.cond rfl (fun g2 => ?_) (fun g2 => ?_)
    · have hj : j < r.length := by have := of_decide_eq_true g2; omega
      have stepj := wrap_succ (i := j) (n := j + 1) (by omega) (by omega)
      obtain ⟨br1, or1, rfl, _⟩ := (hd1 hp12) 0 _ (zs_getD (by omega))
      obtain ⟨br2, or2, rfl, _⟩ := (hd2 hp12) 0 _ (zs_getD (by omega))
      repeat (first | refine WC.seq ?_ | refine WC.reg ?_ | refine WL.pure rfl rfl rfl ?_ | refine WL.nil ?_ | refine WC.skip ?_ | refine WC.block ?_ | refine WC.condT rfl ?_ | refine WC.condF rfl ?_ | refine WL.off rfl rfl rfl ?_ | refine WL.off0 rfl rfl ?_ | refine WC.exit ?_ | refine blk_hit ?_ | refine blk_miss rfl ?_ | refine WC.ret ?_)
      refine WC.mid Unit (fun _ => [(5, ptr b5), (6, ptr b6), (11, ptr b11), (13, .int .i64 (i : Nat)), (14, .int .i64 (j : Nat)), (135, .bool false)]) (fun _ w' => Hp w w' ([Rb b11 hb sa2 sl2 sc2 qa2 ql2 qc2, Rb b7 hb sa sl sc qa ql qc, Stb b5 (some ⟨bn1, on1, none⟩) v1.length nc (some ⟨bm1, om1, none⟩) M.length mc, Stb b6 (some ⟨bn2, on2, none⟩) v2.length oc (some ⟨bm2, om2, none⟩) M.length pc] ++ (E ++ Y))) ?_ ?_
      · refine WC.regQ (fun w' => Hp w w' ([Rb b11 hb sa2 sl2 sc2 qa2 ql2 qc2, Rb b7 hb sa sl sc qa ql qc, Stb b5 (some ⟨bn1, on1, none⟩) v1.length nc (some ⟨bm1, om1, none⟩) M.length mc, Stb b6 (some ⟨bn2, on2, none⟩) v2.length oc (some ⟨bm2, om2, none⟩) M.length pc] ++ (E ++ Y))) mixed (by kernel_rfl) (fun w' hw' => hp12.keep hw') ?_
        repeat (first | refine WQ.pure rfl rfl rfl ?_ | refine WQ.off rfl rfl rfl ?_ | refine WQ.nil ?_)
        refine WQ.load rfl rfl rfl rfl rfl (fun w' h => cell_of_obj (h.obj 2 rfl) (j := 0) rfl) ?_
        repeat (first | refine WQ.pure rfl rfl rfl ?_ | refine WQ.off rfl rfl rfl ?_ | refine WQ.nil ?_)
        refine WQ.ixload rfl (fun _ => rfl) rfl rfl rfl rfl rfl rfl rfl hi1 rfl rfl (fun w' h => hc1 h) ?_
        repeat (first | refine WQ.pure rfl rfl rfl ?_ | refine WQ.off rfl rfl rfl ?_ | refine WQ.nil ?_)
        refine WQ.ixload rfl (fun _ => rfl) rfl rfl rfl rfl rfl rfl rfl hj rfl rfl (fun w' h => Sl.cell (hd1 h) (zs_getD hj)) ?_
        repeat (first | refine WQ.pure rfl rfl rfl ?_ | refine WQ.off rfl rfl rfl ?_ | refine WQ.nil ?_)
        refine WQ.load rfl rfl rfl rfl rfl (fun w' h => cell_of_obj (h.obj 3 rfl) (j := 0) rfl) ?_
        repeat (first | refine WQ.pure rfl rfl rfl ?_ | refine WQ.off rfl rfl rfl ?_ | refine WQ.nil ?_)
        refine WQ.ixload rfl (fun _ => rfl) rfl rfl rfl rfl rfl rfl rfl hi2 rfl rfl (fun w' h => hc2 h) ?_
        repeat (first | refine WQ.pure rfl rfl rfl ?_ | refine WQ.off rfl rfl rfl ?_ | refine WQ.nil ?_)
        refine WQ.ixload rfl (fun _ => rfl) rfl rfl rfl rfl rfl rfl rfl hj rfl rfl (fun w' h => Sl.cell (hd2 h) (zs_getD hj)) ?_
        refine WQ.pure rfl rfl rfl ?_
        refine WQ.known (d := 135) (v := .bool false) (congrArg (fun z => some (Value.bool z)) (show (!(r.getD j 0 == r.getD j 0)) = false by simp)) ?_
        repeat (first | refine WQ.pure rfl rfl rfl ?_ | refine WQ.off rfl rfl rfl ?_ | refine WQ.nil ?_)
        intro w' h
        exact ⟨(), ⟨rfl, rfl, rfl, rfl, rfl, rfl, rfl⟩, h⟩
      rintro _ e13 w13 hsub hp13
      refine WC.sub hsub ?_
      repeat (first | refine WC.seq ?_ | refine WC.reg ?_ | refine WL.pure rfl rfl rfl ?_ | refine WL.nil ?_ | refine WC.skip ?_ | refine WC.block ?_ | refine WC.condT rfl ?_ | refine WC.condF rfl ?_ | refine WL.off rfl rfl rfl ?_ | refine WL.off0 rfl rfl ?_ | refine WC.exit ?_ | refine blk_hit ?_ | refine blk_miss rfl ?_ | refine WC.ret ?_)
      exact ⟨j + 1, (by omega), ⟨rfl, rfl, rfl, rfl, congrArg (fun z => some (Value.int .i64 z)) stepj, rfl⟩, hj, hp13⟩
    · repeat (first | refine WC.seq ?_ | refine WC.reg ?_ | refine WL.pure rfl rfl rfl ?_ | refine WL.nil ?_ | refine WC.skip ?_ | refine WC.block ?_ | refine WC.condT rfl ?_ | refine WC.condF rfl ?_ | refine WL.off rfl rfl rfl ?_ | refine WL.off0 rfl rfl ?_ | refine WC.exit ?_ | refine blk_hit ?_ | refine blk_miss rfl ?_ | refine WC.ret ?_)
      exact ⟨i + 1, (by omega), ⟨rfl, rfl, rfl, congrArg (fun z => some (Value.int .i64 z)) step, rfl⟩, (by omega), hp12⟩
  · repeat (first | refine WC.seq ?_ | refine WC.reg ?_ | refine WL.pure rfl rfl rfl ?_ | refine WL.nil ?_ | refine WC.skip ?_ | refine WC.block ?_ | refine WC.condT rfl ?_ | refine WC.condF rfl ?_ | refine WL.off rfl rfl rfl ?_ | refine WL.off0 rfl rfl ?_ | refine WC.exit ?_ | refine blk_hit ?_ | refine blk_miss rfl ?_ | refine WC.ret ?_)
    refine WL.loadB rfl rfl rfl rfl rfl (hp11.obj 0 rfl) (j := 0) rfl ?_
    repeat (first | refine WC.seq ?_ | refine WC.reg ?_ | refine WL.pure rfl rfl rfl ?_ | refine WL.nil ?_ | refine WC.skip ?_ | refine WC.block ?_ | refine WC.condT rfl ?_ | refine WC.condF rfl ?_ | refine WL.off rfl rfl rfl ?_ | refine WL.off0 rfl rfl ?_ | refine WC.exit ?_ | refine blk_hit ?_ | refine blk_miss rfl ?_ | refine WC.ret ?_)
    refine WL.split 138 rfl (fun g1 => ?_) (fun g1 => ?_)
    · repeat (first | refine WC.seq ?_ | refine WC.reg ?_ | refine WL.pure rfl rfl rfl ?_ | refine WL.nil ?_ | refine WC.skip ?_ | refine WC.block ?_ | refine WC.condT rfl ?_ | refine WC.condF rfl ?_ | refine WL.off rfl rfl rfl ?_ | refine WL.off0 rfl rfl ?_ | refine WC.exit ?_ | refine blk_hit ?_ | refine blk_miss rfl ?_ | refine WC.ret ?_)
      refine WL.call rfl rfl rfl rfl rfl ent20 (awake_any w11 (hG.hp hp11)) ?_
      rintro _ w12 ⟨rfl, hp12⟩
      repeat (first | refine WC.seq ?_ | refine WC.reg ?_ | refine WL.pure rfl rfl rfl ?_ | refine WL.nil ?_ | refine WC.skip ?_ | refine WC.block ?_ | refine WC.condT rfl ?_ | refine WC.condF rfl ?_ | refine WL.off rfl rfl rfl ?_ | refine WL.off0 rfl rfl ?_ | refine WC.exit ?_ | refine blk_hit ?_ | refine blk_miss rfl ?_ | refine WC.ret ?_)
      exact Res.one rfl rfl rfl ⟨rfl, (hp11.call hp12.below).nil'⟩
    · rcases hres with h | ⟨stem, loop, hA, rfl, rfl, rfl⟩
      · rw [h] at g1; cases g1
      have hz1 : Sl w11 sa2 (zs (upN stem)) := by
        have := Sl.of_row (hp11.at 5 rfl)
        rwa [natL_zs] at this
      have hz2 : Sl w11 qa2 (zs (upN loop)) := by
        have := Sl.of_row (hp11.at 4 rfl)
        rwa [natL_zs] at this
      have hI := IsRun_any (some ⟨bn2, on2, none⟩) oc (some ⟨bm2, om2, none⟩) pc v2 M (by omega) hr2 sa2 qa2 sc2 qc2 (upN stem) (upN loop) w11 (hsB hp11) hz1 hz2
      rw [upN_len, upN_len, show (v2.map fun x => x.2.2) = rowsOf v1 from hv2.trans hv1.symm, LassoA.runs hok1 hA] at hI
      repeat (first | refine WC.seq ?_ | refine WC.reg ?_ | refine WL.pure rfl rfl rfl ?_ | refine WL.nil ?_ | refine WC.skip ?_ | refine WC.block ?_ | refine WC.condT rfl ?_ | refine WC.condF rfl ?_ | refine WL.off rfl rfl rfl ?_ | refine WL.off0 rfl rfl ?_ | refine WC.exit ?_ | refine blk_hit ?_ | refine blk_miss rfl ?_ | refine WC.ret ?_)
      refine WL.loadN rfl rfl rfl rfl rfl (cs := [.slice (some ⟨bn2, on2, none⟩) v2.length oc, .slice (some ⟨bm2, om2, none⟩) M.length pc]) rfl (fun q v hq => cell_of_obj (hp11.obj 3 rfl) (by rw [Nat.zero_add]; simpa using hq)) ?_
      refine WL.pure rfl rfl rfl ?_
      refine WL.loadB rfl rfl rfl rfl rfl (hp11.obj 0 rfl) (j := 1) rfl ?_
      refine WL.pure rfl rfl rfl ?_
      refine WL.loadB rfl rfl rfl rfl rfl (hp11.obj 0 rfl) (j := 2) rfl ?_
      refine WL.call rfl rfl rfl rfl rfl ent28 hI ?_
      rintro _ w12 ⟨rfl, hp12⟩
      have hp13 := hp11.call hp12.below
      repeat (first | refine WC.seq ?_ | refine WC.reg ?_ | refine WL.pure rfl rfl rfl ?_ | refine WL.nil ?_ | refine WC.skip ?_ | refine WC.block ?_ | refine WC.condT rfl ?_ | refine WC.condF rfl ?_ | refine WL.off rfl rfl rfl ?_ | refine WL.off0 rfl rfl ?_ | refine WC.exit ?_ | refine blk_hit ?_ | refine blk_miss rfl ?_ | refine WC.ret ?_)
      refine WL.call rfl rfl rfl rfl rfl ent20 (awake_any w12 (hG.hp hp13)) ?_
      rintro _ w13 ⟨rfl, hp14⟩
      repeat (first | refine WC.seq ?_ | refine WC.reg ?_ | refine WL.pure rfl rfl rfl ?_ | refine WL.nil ?_ | refine WC.skip ?_ | refine WC.block ?_ | refine WC.condT rfl ?_ | refine WC.condF rfl ?_ | refine WL.off rfl rfl rfl ?_ | refine WL.off0 rfl rfl ?_ | refine WC.exit ?_ | refine blk_hit ?_ | refine blk_miss rfl ?_ | refine WC.ret ?_)
      exact Res.one rfl rfl rfl ⟨rfl, (hp13.call hp14.below).nil'⟩
end Go.Proofs.YtpbbneclkhfgoaaDoor
end
section
/- The arguments of the laws on formulas, opened; what the package's variables hold. -/
namespace Go.Proofs.YtpbbneclkhfgoaaDoor
set_option maxRecDepth 100000
open Go.W Go.Ltl Go.RowKit Go.ChangeShapes Go.WideShapes Go.Deep

theorem own : ownKnob Tryd.prog.godebug = none := by kernel_rfl
theorem laidOut : laidOutB Tryd.prog = true := by kernel_rfl
theorem cellsStr : Tryd.prog.cellsOf 9 = 1 := by kernel_rfl
theorem cellsInt : Tryd.prog.cellsOf 3 = 1 := by kernel_rfl
theorem cellsInts : Tryd.prog.cellsOf 22 = 1 := by kernel_rfl
section
variable {H : Type} {enc : TypeId × Value → H} {w : World}
theorem sl_of_cells {a : Addr} {cs : List Value} (h : ∀ (i : Nat) (u : Value), cs[i]? = some u → w.cell? (a.add i) = some u) : Sl w (some a) cs := by
  intro i u hi
  have hc := h i u hi
  obtain ⟨b, o, s⟩ := a
  cases s with
  | none => exact ⟨b, o, rfl, by rw [Addr.add_lit] at hc; exact hc⟩
  | some q =>
    exfalso
    obtain ⟨hlt, _⟩ := List.getElem?_eq_some_iff.1 hi
    have h0 := h 0 cs[0] (by simp)
    have e0 : (⟨b, o, some q⟩ : Addr).add 0 = ⟨b, o, some q⟩ := by simp [Addr.add]
    rw [e0] at h0
    unfold World.cell? at h0
    simp at h0
    split at h0 <;> cases h0
/-- A string. -/
theorem open_str {fuel : Nat} {cs : List Value} {x : DataW H × List MemPlace} (h : DataW.trod enc Tryd.prog w 0 (fun _ => true) true fuel 9 cs = some x) : ∃ s : Str, cs = [st s] ∧ s.length ≤ 9223372036854775807 := by
  obtain ⟨s, hc, _, hl⟩ := DataW.trod_string Tryd.underlying9 h
  obtain ⟨l, rfl⟩ := sb_ex s
  unfold maxLen at hl
  rw [sb_size] at hl
  exact ⟨l, hc, hl⟩
theorem open_ints {fuel : Nat} {cs : List Value} {x : DataW H × List MemPlace} (h : DataW.trod enc Tryd.prog w 0 (fun _ => true) true fuel 22 cs = some x) :
    ∃ (a : Option Addr) (xs : List Int) (cap : Nat), cs = [.slice a xs.length cap] ∧ Sl w a (zs xs) ∧ xs.length ≤ cap ∧ xs.length ≤ 9223372036854775807 := by
  rcases open_slice1 Tryd.underlying22 cellsInt h with ⟨rfl, _⟩ | ⟨a, len, cap, m, n, V, D, Pl, rfl, _, hl, hm, hmm, _, hx⟩
  · exact ⟨none, [], 0, rfl, (fun i u hi => by cases hi), Nat.le_refl _, Nat.zero_le _⟩
  · have hlm : len ≤ m := by rw [hmm]; split <;> omega
    have each : ∀ i, i < len → ∃ e : Int, w.cell? (a.add i) = some (.int .i64 e) := by
      intro i hi
      obtain ⟨h1, h2⟩ := hx i (by omega)
      obtain ⟨n0, e0, _, _⟩ := DataW.trod_int Tryd.underlying3 h2
      simp only [List.cons.injEq, and_true] at e0
      exact ⟨n0, by rw [h1, e0]⟩
    obtain ⟨e, he⟩ := choose_lt each
    refine ⟨some a, (List.range len).map e, cap, by simp, ?_, by simpa using hl, by simp; unfold maxLen at hm; omega⟩
    refine sl_of_cells ?_
    intro i u hi
    have hlt : i < len := by
      have := (List.getElem?_eq_some_iff.1 hi).1
      simpa [zs] using this
    rw [he i hlt]
    rw [← hi]
    simp [zs, hlt]
end

/-! ### The package's variables -/
theorem var_cell {w : World} {n : String} {g : Nat} {cs : Array Value} {v : Value} (hg : Tryd.prog.globalNamed n = some g) (h : w.var? Tryd.prog n = some cs) (hv : cs[0]? = some v) : w.cell? ⟨g, 0, none⟩ = some v := by
  unfold World.var? at h
  rw [hg] at h
  simp only [Option.bind_some] at h
  split at h
  · rename_i cs' t fr hh
    simp only [Option.some.injEq] at h
    subst h
    exact cell_of_obj hh hv
  · cases h
/-- A variable that is a list of strings. -/
theorem laid_strs {w : World} {n : String} {g : Nat} (L : List Str) (hg : Tryd.prog.globalNamed n = some g) (ht : (Tryd.prog.globals[g]?).map (·.type) = some 92) (h : Lib.VarReads Tryd.prog w n (.slice (L.map fun s => .lit (.string s)) [])) (hL : 0 < L.length) :
    ∃ a c, w.cell? ⟨g, 0, none⟩ = some (.slice a L.length c) ∧ Sl w a (L.map st) := by
  obtain ⟨g', t', cs, fuel, p, h1, h2, h3, h4⟩ := h
  rw [hg] at h1
  simp only [Option.some.injEq] at h1
  subst h1
  rw [ht] at h2
  simp only [Option.some.injEq] at h2
  subst h2
  rcases open_slice1 Tryd.underlying92 cellsStr h4 with ⟨_, hx⟩ | ⟨a, len, cap, m, k, V, D, Pl, hcs, _, hl, hm, hmm, hx, hcell⟩
  · simp only [Prod.mk.injEq] at hx
    cases hx.1
  · simp only [Prod.mk.injEq, DataW.slice.injEq] at hx
    obtain ⟨⟨hD, hrest⟩, _⟩ := hx
    have hlen : len = L.length := by have := congrArg List.length hD; simpa using this.symm
    subst hlen
    have hv : cs[0]? = some (.slice (some a) L.length cap) := by
      have := congrArg (fun l : List Value => l[0]?) hcs
      simpa using this
    refine ⟨some a, cap, var_cell hg h3 hv, ?_⟩
    refine sl_of_cells ?_
    intro i u hi
    have hlt : i < L.length := by
      have := (List.getElem?_eq_some_iff.1 hi).1
      simpa using this
    have hlm : L.length ≤ m := by rw [hmm]; split <;> omega
    obtain ⟨c1, c2⟩ := hcell i (by omega)
    obtain ⟨s, e1, e2, _⟩ := DataW.trod_string Tryd.underlying9 c2
    obtain ⟨l, rfl⟩ := sb_ex s
    have hDi : D i = .lit (.string L[i]) := by
      have := congrArg (fun l => l[i]?) hD
      simpa [hlt] using this.symm
    simp only [Prod.mk.injEq] at e2
    rw [hDi] at e2
    have hll : L[i] = l := by
      have := e2.1
      simp only [DataW.lit.injEq, Lit.string.injEq] at this
      rw [this]; rfl
    simp only [List.cons.injEq, and_true] at e1
    rw [c1, e1, ← hi]
    simp [hlt, hll, st]
def dualS : List (Str × Str) := [(wAlways, wFinally), (wAnd, wOr), (wFalse, wTrue), (wFinally, wAlways), (wNext, wNext), (wOr, wAnd), (wRelease, wUntil), (wTrue, wFalse), (wUntil, wRelease)]
theorem laid_dual_is : (Rows.laid_olivette_ltl_dual : DataW Unit) = .map (dualS.map fun p => (.string p.1, .lit (.string p.2))) := rfl
theorem dualS_iff : ∀ p, p ∈ dualS ↔ p ∈ dualL := by
  intro p
  simp only [dualS, dualL, List.mem_cons, List.not_mem_nil, or_false]
  constructor <;> (intro h; rcases h with h | h | h | h | h | h | h | h | h <;> simp [h])
theorem dualL_key : ∀ p ∈ dualL, ∀ q ∈ dualL, p.1 = q.1 → p = q := by decide
theorem fndS_dual {P : List (Str × Str)} (h : ∀ p, p ∈ P ↔ p ∈ dualL) (s : Str) : fndS P s = dualM s := by
  unfold fndS dualM
  cases h1 : P.find? (fun p => decide (p.1 = s)) with
  | none =>
    cases h2 : dualL.find? (fun p => decide (p.1 = s)) with
    | none => rfl
    | some q =>
      exfalso
      have hq := List.mem_of_find?_eq_some h2
      have hs := List.find?_some h2
      exact absurd hs (List.find?_eq_none.1 h1 q ((h q).2 hq))
  | some p =>
    have hp := (h p).1 (List.mem_of_find?_eq_some h1)
    have hs : p.1 = s := by simpa using List.find?_some h1
    cases h2 : dualL.find? (fun p => decide (p.1 = s)) with
    | none => exact absurd (by simpa using hs) (List.find?_eq_none.1 h2 p hp)
    | some q =>
      have hq := List.mem_of_find?_eq_some h2
      have hs2 : q.1 = s := by simpa using List.find?_some h2
      rw [dualL_key p hp q hq (hs.trans hs2.symm)]
theorem se_of {es : List MapEntry} {rgf : MapEntry → Lit × DataW Unit} (h : ∀ y ∈ es, ∃ s t : Str, y.key = st s ∧ y.val = st t ∧ rgf y = (.string s, .lit (.string t))) : ∃ P, SE es P ∧ es.map rgf = P.map fun p => (.string p.1, .lit (.string p.2)) := by
  induction es with
  | nil => exact ⟨[], trivial, rfl⟩
  | cons y es ih =>
    obtain ⟨P, h1, h2⟩ := ih (fun z hz => h z (List.mem_cons_of_mem _ hz))
    obtain ⟨s, t, k1, k2, k3⟩ := h y (by simp)
    exact ⟨(s, t) :: P, ⟨k1, k2, h1⟩, by rw [List.map_cons, List.map_cons, k3, h2]⟩
theorem laid_map {w : World} {n : String} {g : Nat} (hg : Tryd.prog.globalNamed n = some g) (ht : (Tryd.prog.globals[g]?).map (·.type) = some 136) (h : Lib.VarReads Tryd.prog w n Rows.laid_olivette_ltl_dual) :
    ∃ mb es c P, w.cell? ⟨g, 0, none⟩ = some (.map (some mb)) ∧ mb < w.heap.size ∧ w.heap[mb]? = some (.map es c) ∧ SE es.toList P ∧ ∀ s, fndS P s = dualM s := by
  obtain ⟨g', t', cs, fuel, p, h1, h2, h3, h4⟩ := h
  rw [hg] at h1
  simp only [Option.some.injEq] at h1
  subst h1
  rw [ht] at h2
  simp only [Option.some.injEq] at h2
  subst h2
  rw [laid_dual_is] at h4
  rcases WideElems.open_map Tryd.underlying136 h4 with ⟨_, hx⟩ | ⟨b, es, clock, m, _, hcs, hb, _, hfit, hx⟩
  · simp only [Prod.mk.injEq] at hx
    cases hx.1
  · have hv : cs[0]? = some (.map (some b)) := by
      have := congrArg (fun l : List Value => l[0]?) hcs
      simpa using this
    have hread : ∀ y ∈ es.toList, ∃ s t : Str, y.key = st s ∧ y.val = st t ∧ WideElems.rg Tryd.prog 9 (WideElems.elemAt (fun _ => ()) Tryd.prog w 0 (fun _ => true) false m 9) y = (.string s, .lit (.string t)) := by
      intro y hy
      obtain ⟨z, hz⟩ := hfit.reads y hy
      have hk := WideElems.rd_key hz
      obtain ⟨q, hq, hq2⟩ := WideElems.rd_val hz
      have hk2 : ∃ s : Str, y.key = st s ∧ z.1 = .string s := by
        unfold keyOf at hk
        rw [Tryd.underlying9] at hk
        simp only at hk
        cases hkey : y.key <;> rw [hkey] at hk <;> simp only [mapKey, Tryd.underlying9] at hk <;> try (cases hk; done)
        rename_i s
        split at hk
        · obtain ⟨l, rfl⟩ := sb_ex s
          simp only [Option.some.injEq] at hk
          exact ⟨l, rfl, hk.symm⟩
        · cases hk
      obtain ⟨s, ks, zs1⟩ := hk2
      have hv2 : ∃ t : Str, y.val = st t ∧ z.2 = .lit (.string t) := by
        unfold WideElems.elemAt at hq
        split at hq
        · rename_i hform
          obtain ⟨s2, e1, e2, _⟩ := DataW.trod_string Tryd.underlying9 hq
          obtain ⟨l, rfl⟩ := sb_ex s2
          refine ⟨l, ?_, ?_⟩
          · cases hval : y.val <;> rw [hval] at e1 hform <;> simp [Value.cells] at e1
            · rw [e1]; rfl
            · rename_i vs
              exfalso
              unfold Value.formed at hform
              rw [Tryd.underlying9] at hform
              simp at hform
          · rw [hq2, e2]; rfl
        · cases hq
      obtain ⟨t, kt, zt⟩ := hv2
      exact ⟨s, t, ks, kt, by rw [WideElems.rg_of hz]; exact Prod.ext zs1 zt⟩
    obtain ⟨P, hSE, hP⟩ := se_of hread
    simp only [Prod.mk.injEq, DataW.map.injEq] at hx
    rw [hP] at hx
    have hperm := (sorted_perm (P.map fun p => ((Lit.string p.1, DataW.lit (Lit.string p.2)) : Lit × DataW Unit)))
    rw [← hx.1] at hperm
    have hmem : ∀ q, q ∈ P ↔ q ∈ dualL := by
      intro q
      rw [← dualS_iff]
      have h1 : ∀ (L : List (Str × Str)), q ∈ L ↔ ((Lit.string q.1, DataW.lit (Lit.string q.2)) : Lit × DataW Unit) ∈ L.map fun p => (Lit.string p.1, DataW.lit (Lit.string p.2)) := by
        intro L
        constructor
        · intro h; exact List.mem_map.2 ⟨q, h, rfl⟩
        · intro h
          obtain ⟨q2, h3, h4⟩ := List.mem_map.1 h
          simp only [Prod.mk.injEq, Lit.string.injEq, DataW.lit.injEq] at h4
          have : q2 = q := Prod.ext h4.1 h4.2
          rw [← this]; exact h3
      rw [h1 P, h1 dualS]
      exact hperm.mem_iff.symm
    exact ⟨b, es, clock, P, var_cell hg h3 hv, (Array.getElem?_eq_some_iff.1 hb).1, hb, hSE, fndS_dual hmem⟩
def laidAll : List (String × DataW Unit) := [("olivette/ltl.atoms", Rows.laid_olivette_ltl_atoms), ("olivette/ltl.ones", Rows.laid_olivette_ltl_ones), ("olivette/ltl.twos", Rows.laid_olivette_ltl_twos), ("olivette/ltl.dual", Rows.laid_olivette_ltl_dual)]
theorem gl_of {w : World} (h : laidMetH Tryd.prog laidAll w) : Gl w := by
  have h1 : laidMet Tryd.prog laidAll w := h
  refine ⟨?_, ?_, ?_, ?_⟩
  · exact laid_strs atomsL (n := "olivette/ltl.atoms") (by kernel_rfl) (by kernel_rfl) (Lib.laidMet.reads h1 (by simp [laidAll]; rfl)) (by decide)
  · exact laid_strs onesL (n := "olivette/ltl.ones") (by kernel_rfl) (by kernel_rfl) (Lib.laidMet.reads h1 (by simp [laidAll]; rfl)) (by decide)
  · exact laid_strs twosL (n := "olivette/ltl.twos") (by kernel_rfl) (by kernel_rfl) (Lib.laidMet.reads h1 (by simp [laidAll]; rfl)) (by decide)
  · exact laid_map (n := "olivette/ltl.dual") (by kernel_rfl) (by kernel_rfl) (Lib.laidMet.reads h1 (by simp [laidAll]))
end Go.Proofs.YtpbbneclkhfgoaaDoor
end
section
/- A world in which the package's variables hold what its text lays. -/
namespace Go.Proofs.YtpbbneclkhfgoaaDoor
set_option maxRecDepth 100000
open Go.W Go.Ltl Go.RowKit Go.ChangeShapes Go.WideShapes Go.Deep
def putV (v : Value) : Obj → Obj
  | .cells _ t fr => .cells #[v] t fr
  | o => o
def strBlk (l : List Str) : Obj := .cells (l.map st).toArray 9
def dualEs : List (Str × Str) → Nat → List MapEntry
  | [], _ => []
  | p :: r, i => { key := st p.1, val := st p.2, born := i } :: dualEs r (i + 1)
noncomputable def laidWorld (os : Os) : World :=
  { World.holding Tryd.prog os ⟨#[], #[], []⟩ with heap := (((((World.holding Tryd.prog os ⟨#[], #[], []⟩).heap.modify 0 (putV (.map (some 9)))).modify 1 (putV (.slice (some ⟨10, 0, none⟩) 6 6))).modify 2 (putV (.slice (some ⟨11, 0, none⟩) 4 4))).modify 3 (putV (.slice (some ⟨12, 0, none⟩) 4 4))) ++ #[.map (dualEs dualL 0).toArray 9, strBlk atomsL, strBlk onesL, strBlk twosL] }
theorem laid_met0 (os : Os) (args : Array Value) : laidMet Tryd.prog laidAll ((laidWorld os).forCall (fun _ _ => 0) ⟨#[], args, []⟩).memory :=
  laidMet_of_run' 8 (by kernel_rfl) (by kernel_rfl)
end Go.Proofs.YtpbbneclkhfgoaaDoor
end
section
/- Structures, results, pairs of formulas and of numbers as arguments, opened. -/
namespace Go.Proofs.YtpbbneclkhfgoaaDoor
set_option maxRecDepth 100000
open Go.W Go.Ltl Go.RowKit Go.ChangeShapes Go.WideShapes Go.Deep

theorem cellsRows : Tryd.prog.cellsOf 42 = 1 := by kernel_rfl
theorem cellsStructure : Tryd.prog.cellsOf 44 = 2 := by kernel_rfl
section
variable {H : Type} {enc : TypeId × Value → H} {w : World}
theorem open_rows {fuel : Nat} {cs : List Value} {x : DataW H × List MemPlace} (h : DataW.trod enc Tryd.prog w 0 (fun _ => true) true fuel 42 cs = some x) :
    ∃ (a : Option Addr) (vs : Vs) (cap : Nat), cs = [.slice a vs.length cap] ∧ Sl w a (catV vs) ∧ (∀ x ∈ vs, Sl w x.1 (zs x.2.2) ∧ x.2.2.length ≤ x.2.1 ∧ x.2.2.length ≤ 9223372036854775807) ∧ vs.length ≤ 9223372036854775807 := by
  rcases open_slice1 Tryd.underlying42 cellsInts h with ⟨rfl, _⟩ | ⟨a, len, cap, m, n, V, D, Pl, rfl, _, hl, hm, hmm, _, hx⟩
  · exact ⟨none, [], 0, rfl, Sl.nil, (fun b hb => by cases hb), Nat.zero_le _⟩
  · have hlm : len ≤ m := by rw [hmm]; split <;> omega
    have each : ∀ i, i < len → ∃ b : Option Addr × Nat × List Int, w.cell? (a.add i) = some (.slice b.1 b.2.2.length b.2.1) ∧ Sl w b.1 (zs b.2.2) ∧ b.2.2.length ≤ b.2.1 ∧ b.2.2.length ≤ 9223372036854775807 := by
      intro i hi
      obtain ⟨h1, h2⟩ := hx i (by omega)
      obtain ⟨ai, xs, ci, e0, hs, hc, hc2⟩ := open_ints h2
      simp only [List.cons.injEq, and_true] at e0
      exact ⟨(ai, ci, xs), by rw [h1, e0], hs, hc, hc2⟩
    obtain ⟨e, he⟩ := choose_lt each
    refine ⟨some a, (List.range len).map e, cap, by simp, sl_of_cells ?_, ?_, by simp; unfold maxLen at hm; omega⟩
    · intro i u hi
      have hlt : i < len := by
        have := (List.getElem?_eq_some_iff.1 hi).1
        simpa [catV] using this
      rw [(he i hlt).1]
      rw [← hi]
      simp [catV, hlt]
    · intro b hb
      obtain ⟨i, hi, rfl⟩ := List.mem_map.1 hb
      exact (he i (by simpa using hi)).2
/-- A structure. -/
theorem open_structure {fuel : Nat} {cs : List Value} {x : DataW H × List MemPlace} (h : DataW.trod enc Tryd.prog w 0 (fun _ => true) true fuel 44 cs = some x) :
    ∃ (an : Option Addr) (cn : Nat) (am : Option Addr) (cm : Nat) (vs : Vs) (ms : List Int), cs = [.slice an vs.length cn, .slice am ms.length cm] ∧ Stc w an am vs ms ∧ StcB an cn am cm vs ms := by
  obtain ⟨xs, k, _, _, hcl, hxl, hf⟩ := DataW.trod_struct Tryd.underlying44 h
  rw [cellsStructure] at hcl
  match cs, hcl with
  | [v0, v1], _ =>
    match xs, hxl with
    | [y0, y1], _ =>
      have g0 : DataW.trod enc Tryd.prog w 0 (fun _ => true) true k 42 (List.take (Tryd.prog.cellsOf 42) (List.drop 0 [v0, v1])) = some y0 := hf 0 _ rfl
      have g1 : DataW.trod enc Tryd.prog w 0 (fun _ => true) true k 22 (List.take (Tryd.prog.cellsOf 22) (List.drop 1 [v0, v1])) = some y1 := hf 1 _ rfl
      rw [cellsRows] at g0
      rw [cellsInts] at g1
      obtain ⟨an, vs, cn, e0, hA, hr, hl⟩ := open_rows (show DataW.trod enc Tryd.prog w 0 (fun _ => true) true k 42 [v0] = some y0 from g0)
      obtain ⟨am, ms, cm, e1, hM, hmc, hml⟩ := open_ints (show DataW.trod enc Tryd.prog w 0 (fun _ => true) true k 22 [v1] = some y1 from g1)
      simp only [List.cons.injEq, and_true] at e0 e1
      exact ⟨an, cn, am, cm, vs, ms, by rw [e0, e1], ⟨hA, fun x hx => (hr x hx).1, hM⟩, ⟨hl, fun x hx => (hr x hx).2.2, fun x hx => (hr x hx).2.1, hml, hmc⟩⟩
end
end Go.Proofs.YtpbbneclkhfgoaaDoor
end
