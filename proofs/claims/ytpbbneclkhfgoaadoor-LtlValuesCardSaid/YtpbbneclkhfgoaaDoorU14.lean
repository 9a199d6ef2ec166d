/- ltl, fourteenth: isStructure. -/
import Derived.Test.YtpbbneclkhfgoaaDoorU13
namespace Go.W
open Go.RowKit
/-- A structure that is read. -/
structure Stc (w : World) (an am : Option Addr) (vs : Go.Proofs.YtpbbneclkhfgoaaDoor.Vs) (ms : List Int) : Prop where
  nx : Sl w an (Go.Proofs.YtpbbneclkhfgoaaDoor.catV vs)
  rows : ∀ x ∈ vs, Sl w x.1 (zs x.2.2)
  mks : Sl w am (zs ms)
theorem Stc.below {w w' : World} {an am : Option Addr} {vs : Go.Proofs.YtpbbneclkhfgoaaDoor.Vs} {ms : List Int} (h : Stc w an am vs ms) (hb : Below w.heap.size w w') : Stc w' an am vs ms :=
  ⟨h.nx.below hb, fun x hx => (h.rows x hx).below hb, h.mks.below hb⟩
theorem Stc.hp {w0 w : World} {L : List Ent} {an am : Option Addr} {vs : Go.Proofs.YtpbbneclkhfgoaaDoor.Vs} {ms : List Int} (h : Stc w0 an am vs ms) (hp : Hp w0 w L) : Stc w an am vs ms := h.below hp.below
end Go.W
namespace Go.Proofs.YtpbbneclkhfgoaaDoor
open Go.W Go.Ltl Go.RowKit
set_option maxRecDepth 100000
attribute [local irreducible] WC WL WQ WS WH

abbrev stV (an : Option Addr) (cn : Nat) (am : Option Addr) (cm : Nat) (vs : Vs) (ms : List Int) : Value := .agg #[.slice an vs.length cn, .slice am ms.length cm]
abbrev Sb (b : Nat) (an : Option Addr) (cn : Nat) (am : Option Addr) (cm : Nat) (vs : Vs) (ms : List Int) : Ent := .blk b (.cells #[.slice an vs.length cn, .slice am ms.length cm] 44 (0, 0))
/-- Is a successor in its place. -/
def sucB (n : Nat) (l : List Int) (i : Nat) : Bool := decide (0 ≤ l.getD i 0) && decide (l.getD i 0 < (n : Int)) && (decide (i = 0) || decide (l.getD (i - 1) 0 < l.getD i 0))
def rowB (n : Nat) (l : List Int) : Bool := decide (l ≠ []) && (List.range l.length).all (sucB n l)
def strB (vs : Vs) (ms : List Int) : Bool := decide (1 ≤ vs.length) && decide (vs.length ≤ 16) && decide (ms.length = vs.length) && ms.all markB && vs.all fun x => rowB vs.length x.2.2
theorem catV_at {vs : Vs} {i : Nat} (hi : i < vs.length) : (catV vs)[i]? = some (.slice vs[i].1 vs[i].2.2.length vs[i].2.1) := by
  unfold catV
  rw [List.getElem?_map, List.getElem?_eq_getElem hi]
  rfl
theorem isStructure_any (an : Option Addr) (cn : Nat) (am : Option Addr) (cm : Nat) (vs : Vs) (ms : List Int) (hms : ms.length ≤ 1000000) (hvs : ∀ x ∈ vs, x.2.2.length ≤ 1000000) (w : World) (hst : Stc w an am vs ms) :
    Ret Tryd.prog 56 [stV an cn am cm vs ms] w fun v w' => v = .bool (strB vs ms) ∧ Hp w w' [] := by
  refine enter Tryd.func56 rfl rfl ⟨rfl, rfl⟩ rfl ?_
  repeat (first | refine WC.seq ?_ | refine WC.reg ?_ | refine WL.pure rfl rfl rfl ?_ | refine WL.nil ?_ | refine WC.skip ?_ | refine WC.block ?_ | refine WC.condT rfl ?_ | refine WC.condF rfl ?_ | refine WL.off rfl rfl rfl ?_ | refine WL.off0 rfl rfl ?_ | refine WC.exit ?_ | refine blk_hit ?_ | refine blk_miss rfl ?_ | refine WC.ret ?_)
  refine WL.box rfl rfl rfl (fun b w1 h1 => ?_)
  have hp1 : Hp w w1 [Sb b an cn am cm vs ms] := (Hp.start w).new h1
  repeat (first | refine WC.seq ?_ | refine WC.reg ?_ | refine WL.pure rfl rfl rfl ?_ | refine WL.nil ?_ | refine WC.skip ?_ | refine WC.block ?_ | refine WC.condT rfl ?_ | refine WC.condF rfl ?_ | refine WL.off rfl rfl rfl ?_ | refine WL.off0 rfl rfl ?_ | refine WC.exit ?_ | refine blk_hit ?_ | refine blk_miss rfl ?_ | refine WC.ret ?_)
  refine WL.loadB rfl rfl rfl rfl rfl (hp1.obj 0 rfl) (j := 0) rfl ?_
  repeat (first | refine WC.seq ?_ | refine WC.reg ?_ | refine WL.pure rfl rfl rfl ?_ | refine WL.nil ?_ | refine WC.skip ?_ | refine WC.block ?_ | refine WC.condT rfl ?_ | refine WC.condF rfl ?_ | refine WL.off rfl rfl rfl ?_ | refine WL.off0 rfl rfl ?_ | refine WC.exit ?_ | refine blk_hit ?_ | refine blk_miss rfl ?_ | refine WC.ret ?_)
  refine WL.split 13 rfl (fun c1 => ?_) (fun c1 => ?_)
  · have c1 : ¬ 1 ≤ vs.length := by have := of_decide_eq_true c1; omega
    have e1 : strB vs ms = false := by unfold strB; rw [decide_eq_false c1]; rfl
    rw [e1]
    repeat (first | refine WC.seq ?_ | refine WC.reg ?_ | refine WL.pure rfl rfl rfl ?_ | refine WL.nil ?_ | refine WC.skip ?_ | refine WC.block ?_ | refine WC.condT rfl ?_ | refine WC.condF rfl ?_ | refine WL.off rfl rfl rfl ?_ | refine WL.off0 rfl rfl ?_ | refine WC.exit ?_ | refine blk_hit ?_ | refine blk_miss rfl ?_ | refine WC.ret ?_)
    exact Res.one rfl rfl rfl ⟨rfl, hp1.nil'⟩
  have c1 : 1 ≤ vs.length := by have := of_decide_eq_false c1; omega
  repeat (first | refine WC.seq ?_ | refine WC.reg ?_ | refine WL.pure rfl rfl rfl ?_ | refine WL.nil ?_ | refine WC.skip ?_ | refine WC.block ?_ | refine WC.condT rfl ?_ | refine WC.condF rfl ?_ | refine WL.off rfl rfl rfl ?_ | refine WL.off0 rfl rfl ?_ | refine WC.exit ?_ | refine blk_hit ?_ | refine blk_miss rfl ?_ | refine WC.ret ?_)
  refine WL.split 17 rfl (fun c2 => ?_) (fun c2 => ?_)
  · have c2 : ¬ vs.length ≤ 16 := by have := of_decide_eq_true c2; omega
    have e1 : strB vs ms = false := by unfold strB; rw [decide_eq_false c2, Bool.and_false]; rfl
    rw [e1]
    repeat (first | refine WC.seq ?_ | refine WC.reg ?_ | refine WL.pure rfl rfl rfl ?_ | refine WL.nil ?_ | refine WC.skip ?_ | refine WC.block ?_ | refine WC.condT rfl ?_ | refine WC.condF rfl ?_ | refine WL.off rfl rfl rfl ?_ | refine WL.off0 rfl rfl ?_ | refine WC.exit ?_ | refine blk_hit ?_ | refine blk_miss rfl ?_ | refine WC.ret ?_)
    exact Res.one rfl rfl rfl ⟨rfl, hp1.nil'⟩
  have c2 : vs.length ≤ 16 := by have := of_decide_eq_false c2; omega
  repeat (first | refine WC.seq ?_ | refine WC.reg ?_ | refine WL.pure rfl rfl rfl ?_ | refine WL.nil ?_ | refine WC.skip ?_ | refine WC.block ?_ | refine WC.condT rfl ?_ | refine WC.condF rfl ?_ | refine WL.off rfl rfl rfl ?_ | refine WL.off0 rfl rfl ?_ | refine WC.exit ?_ | refine blk_hit ?_ | refine blk_miss rfl ?_ | refine WC.ret ?_)
  refine WL.loadB rfl rfl rfl rfl rfl (hp1.obj 0 rfl) (j := 1) rfl ?_
  repeat (first | refine WC.seq ?_ | refine WC.reg ?_ | refine WL.pure rfl rfl rfl ?_ | refine WL.nil ?_ | refine WC.skip ?_ | refine WC.block ?_ | refine WC.condT rfl ?_ | refine WC.condF rfl ?_ | refine WL.off rfl rfl rfl ?_ | refine WL.off0 rfl rfl ?_ | refine WC.exit ?_ | refine blk_hit ?_ | refine blk_miss rfl ?_ | refine WC.ret ?_)
  cases c3 : decide (ms.length = vs.length) with
  | false =>
    have hne : ms.length ≠ vs.length := of_decide_eq_false c3
    have e1 : strB vs ms = false := by unfold strB; rw [c3, Bool.and_false]; rfl
    have e2 : (!((ms.length : Int) == (vs.length : Int))) = true := by simpa using fun h => hne (by omega)
    rw [e1]
    refine WL.known (d := 24) (congrArg (fun z => some (Value.bool z)) e2) ?_
    repeat (first | refine WC.seq ?_ | refine WC.reg ?_ | refine WL.pure rfl rfl rfl ?_ | refine WL.nil ?_ | refine WC.skip ?_ | refine WC.block ?_ | refine WC.condT rfl ?_ | refine WC.condF rfl ?_ | refine WL.off rfl rfl rfl ?_ | refine WL.off0 rfl rfl ?_ | refine WC.exit ?_ | refine blk_hit ?_ | refine blk_miss rfl ?_ | refine WC.ret ?_)
    exact Res.one rfl rfl rfl ⟨rfl, hp1.nil'⟩
  | true =>
    have heq : ms.length = vs.length := of_decide_eq_true c3
    have e2 : (!((ms.length : Int) == (vs.length : Int))) = false := by simp [heq]
    refine WL.known (d := 24) (congrArg (fun z => some (Value.bool z)) e2) ?_
    repeat (first | refine WC.seq ?_ | refine WC.reg ?_ | refine WL.pure rfl rfl rfl ?_ | refine WL.nil ?_ | refine WC.skip ?_ | refine WC.block ?_ | refine WC.condT rfl ?_ | refine WC.condF rfl ?_ | refine WL.off rfl rfl rfl ?_ | refine WL.off0 rfl rfl ?_ | refine WC.exit ?_ | refine blk_hit ?_ | refine blk_miss rfl ?_ | refine WC.ret ?_)
    refine WL.loadB rfl rfl rfl rfl rfl (hp1.obj 0 rfl) (j := 1) rfl ?_
    refine WL.call rfl rfl rfl rfl rfl ent45 (ContainsFunc_any am cm ms hms ent84 (fun z => !markB z) struct1_any w1 (hst.hp hp1).mks) ?_
    rintro v w2 ⟨rfl, rfl⟩
    cases c4 : ms.any (fun z => !markB z) with
    | true =>
      have e1 : strB vs ms = false := by
        have : ms.all markB = false := by
          rw [List.all_eq_not_any_not, c4]; rfl
        unfold strB
        rw [this, Bool.and_false]; rfl
      rw [e1]
      repeat (first | refine WC.seq ?_ | refine WC.reg ?_ | refine WL.pure rfl rfl rfl ?_ | refine WL.nil ?_ | refine WC.skip ?_ | refine WC.block ?_ | refine WC.condT rfl ?_ | refine WC.condF rfl ?_ | refine WL.off rfl rfl rfl ?_ | refine WL.off0 rfl rfl ?_ | refine WC.exit ?_ | refine blk_hit ?_ | refine blk_miss rfl ?_ | refine WC.ret ?_)
      exact Res.one rfl rfl rfl ⟨rfl, hp1.nil'⟩
    | false =>
      have e1 : strB vs ms = vs.all fun x => rowB vs.length x.2.2 := by
        have : ms.all markB = true := by
          rw [List.all_eq_not_any_not, c4]; rfl
        unfold strB
        rw [this, c3, decide_eq_true c1, decide_eq_true c2]; rfl
      rw [e1]
      repeat (first | refine WC.seq ?_ | refine WC.reg ?_ | refine WL.pure rfl rfl rfl ?_ | refine WL.nil ?_ | refine WC.skip ?_ | refine WC.block ?_ | refine WC.condT rfl ?_ | refine WC.condF rfl ?_ | refine WL.off rfl rfl rfl ?_ | refine WL.off0 rfl rfl ?_ | refine WC.exit ?_ | refine blk_hit ?_ | refine blk_miss rfl ?_ | refine WC.ret ?_)
      refine WL.loadB rfl rfl rfl rfl rfl (hp1.obj 0 rfl) (j := 0) rfl ?_
      repeat (first | refine WC.seq ?_ | refine WC.reg ?_ | refine WL.pure rfl rfl rfl ?_ | refine WL.nil ?_ | refine WC.skip ?_ | refine WC.block ?_ | refine WC.condT rfl ?_ | refine WC.condF rfl ?_ | refine WL.off rfl rfl rfl ?_ | refine WL.off0 rfl rfl ?_ | refine WC.exit ?_ | refine blk_hit ?_ | refine blk_miss rfl ?_ | refine WC.ret ?_)
      refine WC.loop Nat (fun i => [(3, .int .i64 (vs.length : Nat)), (30, .slice an vs.length cn), (31, .int .i64 (vs.length : Nat)), (32, .int .i64 (i : Nat))])
        (fun i w' => i ≤ vs.length ∧ ((vs.take i).all fun x => rowB vs.length x.2.2) = true ∧ w' = w2) (fun i => vs.length - i) 0 ⟨rfl, rfl, rfl, rfl, rfl⟩ ⟨Nat.zero_le _, by simp, rfl⟩ ?_
      rintro i w3 ⟨hi, hall, rfl⟩
      repeat (first | refine WC.seq ?_ | refine WC.reg ?_ | refine WL.pure rfl rfl rfl ?_ | refine WL.nil ?_ | refine WC.skip ?_ | refine WC.block ?_ | refine WC.condT rfl ?_ | refine WC.condF rfl ?_ | refine WL.off rfl rfl rfl ?_ | refine WL.off0 rfl rfl ?_ | refine WC.exit ?_ | refine blk_hit ?_ | refine blk_miss rfl ?_ | refine WC.ret ?_)
      refine WC.cond rfl (fun h2 => ?_) (fun h2 => ?_)
      · have hi : i < vs.length := by have := of_decide_eq_true h2; omega
        have step := wrap_succ (i := i) (n := i + 1) (by omega) (by omega)
        have hsl := (hst.hp hp1).rows _ (List.getElem_mem hi)
        have hlen := hvs _ (List.getElem_mem hi)
        have hbad : rowB vs.length vs[i].2.2 = false → (vs.all fun x => rowB vs.length x.2.2) = false := fun h => List.all_eq_false.2 ⟨_, List.getElem_mem hi, by rw [h]; simp⟩
        repeat (first | refine WC.seq ?_ | refine WC.reg ?_ | refine WL.pure rfl rfl rfl ?_ | refine WL.nil ?_ | refine WC.skip ?_ | refine WC.block ?_ | refine WC.condT rfl ?_ | refine WC.condF rfl ?_ | refine WL.off rfl rfl rfl ?_ | refine WL.off0 rfl rfl ?_ | refine WC.exit ?_ | refine blk_hit ?_ | refine blk_miss rfl ?_ | refine WC.ret ?_)
        refine WL.ixload rfl (fun _ => rfl) rfl rfl rfl rfl rfl rfl rfl hi rfl rfl (hst.hp hp1).nx (catV_at hi) ?_
        intro q
        have htk : (vs.take (i + 1)).all (fun x => rowB vs.length x.2.2) = rowB vs.length vs[i].2.2 := by
          rw [List.take_succ_eq_append_getElem hi, List.all_append, hall, Bool.true_and, List.all_cons, List.all_nil, Bool.and_true]
        obtain ⟨x, hx⟩ : ∃ x, x = vs[i] := ⟨_, rfl⟩
        rw [← hx] at hsl hlen hbad htk ⊢
        clear hx
        obtain ⟨ra, rc, l⟩ := x
        replace hsl : Sl w3 ra (zs l) := hsl
        replace hlen : l.length ≤ 1000000 := hlen
        replace hbad : rowB vs.length l = false → (vs.all fun x => rowB vs.length x.2.2) = false := hbad
        replace htk : (vs.take (i + 1)).all (fun x => rowB vs.length x.2.2) = rowB vs.length l := htk
        repeat (first | refine WC.seq ?_ | refine WC.reg ?_ | refine WL.pure rfl rfl rfl ?_ | refine WL.nil ?_ | refine WC.skip ?_ | refine WC.block ?_ | refine WC.condT rfl ?_ | refine WC.condF rfl ?_ | refine WL.off rfl rfl rfl ?_ | refine WL.off0 rfl rfl ?_ | refine WC.exit ?_ | refine blk_hit ?_ | refine blk_miss rfl ?_ | refine WC.ret ?_)
        refine WC.cond rfl (fun h3 => ?_) (fun h3 => ?_)
        · have h3 : l = [] := List.eq_nil_of_length_eq_zero (by have h5 : ((l.length : Nat) : Int) = 0 := beq_iff_eq.1 h3; omega)
          have e2 : rowB vs.length l = false := by unfold rowB; rw [h3]; rfl
          rw [hbad e2]
          repeat (first | refine WC.seq ?_ | refine WC.reg ?_ | refine WL.pure rfl rfl rfl ?_ | refine WL.nil ?_ | refine WC.skip ?_ | refine WC.block ?_ | refine WC.condT rfl ?_ | refine WC.condF rfl ?_ | refine WL.off rfl rfl rfl ?_ | refine WL.off0 rfl rfl ?_ | refine WC.exit ?_ | refine blk_hit ?_ | refine blk_miss rfl ?_ | refine WC.ret ?_)
          exact Res.one rfl rfl rfl ⟨rfl, hp1.nil'⟩
        have h3 : l ≠ [] := fun h => by rw [h] at h3; cases h3
        repeat (first | refine WC.seq ?_ | refine WC.reg ?_ | refine WL.pure rfl rfl rfl ?_ | refine WL.nil ?_ | refine WC.skip ?_ | refine WC.block ?_ | refine WC.condT rfl ?_ | refine WC.condF rfl ?_ | refine WL.off rfl rfl rfl ?_ | refine WL.off0 rfl rfl ?_ | refine WC.exit ?_ | refine blk_hit ?_ | refine blk_miss rfl ?_ | refine WC.ret ?_)
        refine WC.loop Nat (fun j => [(3, .int .i64 (vs.length : Nat)), (5, .slice ra l.length rc), (30, .slice an vs.length cn), (31, .int .i64 (vs.length : Nat)), (32, .int .i64 (i : Nat)), (39, .slice ra l.length rc), (40, .int .i64 (l.length : Nat)), (41, .int .i64 (j : Nat))])
          (fun j w' => j ≤ l.length ∧ (List.range j).all (sucB vs.length l) = true ∧ w' = w3) (fun j => l.length - j) 0 ⟨rfl, rfl, rfl, rfl, rfl, rfl, rfl, rfl, rfl⟩ ⟨Nat.zero_le _, by simp, rfl⟩ ?_
        rintro j w4 ⟨hj, hsu, rfl⟩
        repeat (first | refine WC.seq ?_ | refine WC.reg ?_ | refine WL.pure rfl rfl rfl ?_ | refine WL.nil ?_ | refine WC.skip ?_ | refine WC.block ?_ | refine WC.condT rfl ?_ | refine WC.condF rfl ?_ | refine WL.off rfl rfl rfl ?_ | refine WL.off0 rfl rfl ?_ | refine WC.exit ?_ | refine blk_hit ?_ | refine blk_miss rfl ?_ | refine WC.ret ?_)
        refine WC.cond rfl (fun h4 => ?_) (fun h4 => ?_)
        · have hj : j < l.length := by have := of_decide_eq_true h4; omega
          have stepj := wrap_succ (i := j) (n := j + 1) (by omega) (by omega)
          have hgj : l.getD j 0 = l[j] := by simp [hj]
          have hno : sucB vs.length l j = false → rowB vs.length l = false := by
            intro h
            unfold rowB
            rw [List.all_eq_false.2 ⟨j, List.mem_range.2 hj, by rw [h]; simp⟩, Bool.and_false]
          have hyes : sucB vs.length l j = true → (List.range (j + 1)).all (sucB vs.length l) = true := by
            intro h
            rw [List.range_succ, List.all_append, hsu, List.all_cons, h]; rfl
          repeat (first | refine WC.seq ?_ | refine WC.reg ?_ | refine WL.pure rfl rfl rfl ?_ | refine WL.nil ?_ | refine WC.skip ?_ | refine WC.block ?_ | refine WC.condT rfl ?_ | refine WC.condF rfl ?_ | refine WL.off rfl rfl rfl ?_ | refine WL.off0 rfl rfl ?_ | refine WC.exit ?_ | refine blk_hit ?_ | refine blk_miss rfl ?_ | refine WC.ret ?_)
          refine WL.ixload rfl (fun _ => rfl) rfl rfl rfl rfl rfl rfl rfl hj rfl rfl hsl (zs_at hj) ?_
          intro q
          repeat (first | refine WC.seq ?_ | refine WC.reg ?_ | refine WL.pure rfl rfl rfl ?_ | refine WL.nil ?_ | refine WC.skip ?_ | refine WC.block ?_ | refine WC.condT rfl ?_ | refine WC.condF rfl ?_ | refine WL.off rfl rfl rfl ?_ | refine WL.off0 rfl rfl ?_ | refine WC.exit ?_ | refine blk_hit ?_ | refine blk_miss rfl ?_ | refine WC.ret ?_)
          refine WL.split 48 rfl (fun c5 => ?_) (fun c5 => ?_)
          · have c5 : l[j] < 0 := of_decide_eq_true c5
            rw [hbad (hno (by unfold sucB; rw [hgj, decide_eq_false (show ¬ 0 ≤ l[j] by omega)]; rfl))]
            repeat (first | refine WC.seq ?_ | refine WC.reg ?_ | refine WL.pure rfl rfl rfl ?_ | refine WL.nil ?_ | refine WC.skip ?_ | refine WC.block ?_ | refine WC.condT rfl ?_ | refine WC.condF rfl ?_ | refine WL.off rfl rfl rfl ?_ | refine WL.off0 rfl rfl ?_ | refine WC.exit ?_ | refine blk_hit ?_ | refine blk_miss rfl ?_ | refine WC.ret ?_)
            exact Res.one rfl rfl rfl ⟨rfl, hp1.nil'⟩
          have c5 : 0 ≤ l[j] := by have := of_decide_eq_false c5; omega
          repeat (first | refine WC.seq ?_ | refine WC.reg ?_ | refine WL.pure rfl rfl rfl ?_ | refine WL.nil ?_ | refine WC.skip ?_ | refine WC.block ?_ | refine WC.condT rfl ?_ | refine WC.condF rfl ?_ | refine WL.off rfl rfl rfl ?_ | refine WL.off0 rfl rfl ?_ | refine WC.exit ?_ | refine blk_hit ?_ | refine blk_miss rfl ?_ | refine WC.ret ?_)
          refine WL.split 53 rfl (fun c6 => ?_) (fun c6 => ?_)
          · have c6 : ¬ l[j] < (vs.length : Int) := by have := of_decide_eq_true c6; omega
            rw [hbad (hno (by unfold sucB; rw [hgj, decide_eq_false c6, Bool.and_false]; rfl))]
            repeat (first | refine WC.seq ?_ | refine WC.reg ?_ | refine WL.pure rfl rfl rfl ?_ | refine WL.nil ?_ | refine WC.skip ?_ | refine WC.block ?_ | refine WC.condT rfl ?_ | refine WC.condF rfl ?_ | refine WL.off rfl rfl rfl ?_ | refine WL.off0 rfl rfl ?_ | refine WC.exit ?_ | refine blk_hit ?_ | refine blk_miss rfl ?_ | refine WC.ret ?_)
            exact Res.one rfl rfl rfl ⟨rfl, hp1.nil'⟩
          have c6 : l[j] < (vs.length : Int) := by have := of_decide_eq_false c6; omega
          repeat (first | refine WC.seq ?_ | refine WC.reg ?_ | refine WL.pure rfl rfl rfl ?_ | refine WL.nil ?_ | refine WC.skip ?_ | refine WC.block ?_ | refine WC.condT rfl ?_ | refine WC.condF rfl ?_ | refine WL.off rfl rfl rfl ?_ | refine WL.off0 rfl rfl ?_ | refine WC.exit ?_ | refine blk_hit ?_ | refine blk_miss rfl ?_ | refine WC.ret ?_)
          refine WL.split 56 rfl (fun c7 => ?_) (fun c7 => ?_)
          · have c7 : 0 < j := by have := of_decide_eq_true c7; omega
            have e3 : IntKind.i64.wrap (((j : Nat) : Int) - 1) = ((j - 1 : Nat) : Int) := by rw [wrap_mid (by omega) (by omega)]; omega
            have hg2 : l.getD (j - 1) 0 = l[j - 1] := by simp [show j - 1 < l.length by omega]
            refine WL.pure rfl rfl rfl ?_
            refine WL.pure rfl rfl rfl ?_
            refine WL.pure rfl rfl rfl ?_
            refine WL.known (d := 59) (congrArg (fun z => some (Value.int .i64 z)) e3) ?_
            refine WL.ixload rfl (fun _ => rfl) rfl rfl rfl rfl rfl rfl rfl (show j - 1 < l.length by omega) rfl rfl hsl (zs_at (by omega)) ?_
            intro q2
            repeat (first | refine WC.seq ?_ | refine WC.reg ?_ | refine WL.pure rfl rfl rfl ?_ | refine WL.nil ?_ | refine WC.skip ?_ | refine WC.block ?_ | refine WC.condT rfl ?_ | refine WC.condF rfl ?_ | refine WL.off rfl rfl rfl ?_ | refine WL.off0 rfl rfl ?_ | refine WC.exit ?_ | refine blk_hit ?_ | refine blk_miss rfl ?_ | refine WC.ret ?_)
            refine WC.cond rfl (fun c8 => ?_) (fun c8 => ?_)
            · have c8 : ¬ l[j - 1] < l[j] := by have := of_decide_eq_true c8; omega
              rw [hbad (hno (by unfold sucB; rw [hgj, hg2, decide_eq_false c8, decide_eq_false (show ¬ j = 0 by omega)]; simp))]
              repeat (first | refine WC.seq ?_ | refine WC.reg ?_ | refine WL.pure rfl rfl rfl ?_ | refine WL.nil ?_ | refine WC.skip ?_ | refine WC.block ?_ | refine WC.condT rfl ?_ | refine WC.condF rfl ?_ | refine WL.off rfl rfl rfl ?_ | refine WL.off0 rfl rfl ?_ | refine WC.exit ?_ | refine blk_hit ?_ | refine blk_miss rfl ?_ | refine WC.ret ?_)
              exact Res.one rfl rfl rfl ⟨rfl, hp1.nil'⟩
            · have c8 : l[j - 1] < l[j] := by have := of_decide_eq_false c8; omega
              repeat (first | refine WC.seq ?_ | refine WC.reg ?_ | refine WL.pure rfl rfl rfl ?_ | refine WL.nil ?_ | refine WC.skip ?_ | refine WC.block ?_ | refine WC.condT rfl ?_ | refine WC.condF rfl ?_ | refine WL.off rfl rfl rfl ?_ | refine WL.off0 rfl rfl ?_ | refine WC.exit ?_ | refine blk_hit ?_ | refine blk_miss rfl ?_ | refine WC.ret ?_)
              exact ⟨j + 1, (by omega), ⟨rfl, rfl, rfl, rfl, rfl, rfl, rfl, congrArg (fun z => some (Value.int .i64 z)) stepj, rfl⟩, hj, hyes (by unfold sucB; rw [hgj, hg2, decide_eq_true c5, decide_eq_true c6, decide_eq_true c8]; simp), rfl⟩
          · have c7 : j = 0 := by have := of_decide_eq_false c7; omega
            repeat (first | refine WC.seq ?_ | refine WC.reg ?_ | refine WL.pure rfl rfl rfl ?_ | refine WL.nil ?_ | refine WC.skip ?_ | refine WC.block ?_ | refine WC.condT rfl ?_ | refine WC.condF rfl ?_ | refine WL.off rfl rfl rfl ?_ | refine WL.off0 rfl rfl ?_ | refine WC.exit ?_ | refine blk_hit ?_ | refine blk_miss rfl ?_ | refine WC.ret ?_)
            exact ⟨j + 1, (by omega), ⟨rfl, rfl, rfl, rfl, rfl, rfl, rfl, congrArg (fun z => some (Value.int .i64 z)) stepj, rfl⟩, hj, hyes (by unfold sucB; rw [hgj, decide_eq_true c5, decide_eq_true c6, decide_eq_true c7]; rfl), rfl⟩
        · have hj : j = l.length := by have := of_decide_eq_false h4; omega
          have hrow : rowB vs.length l = true := by unfold rowB; rw [decide_eq_true h3, ← hj, hsu]; rfl
          repeat (first | refine WC.seq ?_ | refine WC.reg ?_ | refine WL.pure rfl rfl rfl ?_ | refine WL.nil ?_ | refine WC.skip ?_ | refine WC.block ?_ | refine WC.condT rfl ?_ | refine WC.condF rfl ?_ | refine WL.off rfl rfl rfl ?_ | refine WL.off0 rfl rfl ?_ | refine WC.exit ?_ | refine blk_hit ?_ | refine blk_miss rfl ?_ | refine WC.ret ?_)
          exact ⟨i + 1, (by omega), ⟨rfl, rfl, rfl, congrArg (fun z => some (Value.int .i64 z)) step, rfl⟩, hi, by rw [htk, hrow], rfl⟩
      · have hi : i = vs.length := by have := of_decide_eq_false h2; omega
        subst hi
        rw [List.take_length] at hall
        rw [hall]
        repeat (first | refine WC.seq ?_ | refine WC.reg ?_ | refine WL.pure rfl rfl rfl ?_ | refine WL.nil ?_ | refine WC.skip ?_ | refine WC.block ?_ | refine WC.condT rfl ?_ | refine WC.condF rfl ?_ | refine WL.off rfl rfl rfl ?_ | refine WL.off0 rfl rfl ?_ | refine WC.exit ?_ | refine blk_hit ?_ | refine blk_miss rfl ?_ | refine WC.ret ?_)
        exact Res.one rfl rfl rfl ⟨rfl, hp1.nil'⟩
end Go.Proofs.YtpbbneclkhfgoaaDoor
