/- The walks of completion. -/
import Derived.Test.YtoghnhbjdnjghaaGreatV15
namespace Go.Words
open Go.W Go.Sort Go.Proofs.YtoghnhbjdnjghaaGreat
def eqsM (l : List Rl) : List Rl := l.flatMap fun r => if r.1 = r.2 then [] else [dirM r.1 r.2]
theorem eqsM_succ {l : List Rl} {i : Nat} (hi : i < l.length) : eqsM (l.take (i + 1)) = eqsM (l.take i) ++ (if l[i].1 = l[i].2 then [] else [dirM l[i].1 l[i].2]) := by
  unfold eqsM
  rw [List.take_succ_eq_append_getElem hi, List.flatMap_append, List.flatMap_singleton]
theorem eqsM_len (l : List Rl) : (eqsM l).length ≤ l.length := by
  induction l with
  | nil => exact Nat.le_refl _
  | cons x l ih =>
    show (((if x.1 = x.2 then [] else [dirM x.1 x.2]) ++ eqsM l : List Rl)).length ≤ _
    rw [List.length_append, List.length_cons]
    split <;> simp <;> omega
theorem eqsM_inv {n : Nat} {l : List Rl} (h : Sm n l) : Dn (eqsM l) ∧ Sm n (eqsM l) := by
  have key : ∀ r ∈ eqsM l, ∃ x ∈ l, r = dirM x.1 x.2 := by
    intro r hr
    obtain ⟨x, hx, hr⟩ := List.mem_flatMap.1 hr
    split at hr
    · cases hr
    · exact ⟨x, hx, List.mem_singleton.1 hr⟩
  constructor
  · intro r hr
    obtain ⟨x, _, rfl⟩ := key r hr
    exact dirM_dn _ _
  · intro r hr
    obtain ⟨x, hx, rfl⟩ := key r hr
    exact dirM_sm (h x hx).1 (h x hx).2
def compN : Nat → List Rl → Option (List Rl × Bool)
  | 0, l => match clashM l with
    | none => none
    | some n => some (l, decide (n < 0))
  | k + 1, l => match roundM l with
    | none => none
    | some nx => if nx.length = l.length then some (l, true) else match settleM nx with
      | none => none
      | some t => compN k t
def completeM (l : List Rl) (k : Nat) : Option (List Rl × Bool) := match settleM (eqsM l) with
  | none => none
  | some t => compN k t
def eqnsB (l : List Rl) (k : Int) : Bool := decide (l.length ≤ 64) && l.all eqnB && decide (0 ≤ k) && decide (k ≤ 12)
/-- What a list that is settled has. -/
structure Stl (t : List Rl) : Prop where
  ss : Ss t
  dn : Dn t
  sm : Sm 24 t
  len : t.length ≤ 64
theorem settle_inv {n : Nat} {l t : List Rl} (h : settleM l = some t) (h2 : Dn l) (h3 : Sm n l) : Stl t := by
  unfold settleM at h
  split at h
  · cases ht : tidyM l with
    | none => rw [ht] at h; cases h
    | some q =>
      rw [ht] at h
      simp only at h
      split at h
      · rename_i hf
        obtain rfl := Option.some.inj h
        obtain ⟨k1, k2, k3, k4, k5⟩ := tidyM_inv ht h2 h3
        unfold fitsB at hf
        obtain ⟨f1, f2⟩ := Bool.and_eq_true_iff.1 hf
        refine ⟨k1, k2, fun r hr => ?_, of_decide_eq_true f1⟩
        have := of_decide_eq_true (List.all_eq_true.1 f2 r hr)
        have h5 := k2 r hr
        exact ⟨this, by omega⟩
      · cases h
  · cases h
theorem round_inv {l t : List Rl} (h : roundM l = some t) (hS : Stl l) : Dn t ∧ Sm 1000 t ∧ t.length ≤ 1000000 := by
  have hpl := pairsM_len hS.sm
  have hps := pairsM_sm hS.sm
  have hpl2 : (pairsM l).length ≤ 200000 := by
    refine Nat.le_trans hpl ?_
    refine Nat.le_trans (Nat.mul_le_mul hS.len (Nat.mul_le_mul_right _ hS.len)) ?_
    decide
  obtain ⟨k1, k2, k3, k4⟩ := rndN_inv (n := 1000) hS.dn _ _ _ h (hps.mono (by decide)) hS.dn (hS.sm.mono (by decide))
  exact ⟨k1, k2, by have := hS.len; omega⟩
end Go.Words
namespace Go.Proofs.YtoghnhbjdnjghaaGreat
open Go.W Go.Words Go.RowKit Go.Sort
set_option maxRecDepth 100000
attribute [local irreducible] WC WL WQ WS WH

theorem areC_any (r : Rl) (hl : r.1.length ≤ 9223372036854775807) (hr : r.2.length ≤ 9223372036854775807) (w : World) : Ret Tryz.prog 67 [.agg #[st r.1, st r.2]] w fun u w' => u = .bool (!eqnB r) ∧ Hp w w' [] := by
  refine enter Tryz.func67 rfl rfl ⟨rfl, rfl⟩ rfl ?_
  repeat (first | refine WC.seq ?_ | refine WC.reg ?_ | refine WL.pure rfl rfl rfl ?_ | refine WL.nil ?_ | refine WC.skip ?_ | refine WC.block ?_ | refine WC.condT rfl ?_ | refine WC.condF rfl ?_ | refine WL.off rfl rfl rfl ?_ | refine WL.off0 rfl rfl ?_ | refine WC.exit ?_ | refine blk_hit ?_ | refine blk_miss rfl ?_ | refine WC.ret ?_)
  refine WL.box rfl rfl rfl ?_
  intro b1 w1 hb1
  have hp1 : Hp w w1 [Bx b1 r] := (Hp.start w).new hb1
  repeat (first | refine WC.seq ?_ | refine WC.reg ?_ | refine WL.pure rfl rfl rfl ?_ | refine WL.nil ?_ | refine WC.skip ?_ | refine WC.block ?_ | refine WC.condT rfl ?_ | refine WC.condF rfl ?_ | refine WL.off rfl rfl rfl ?_ | refine WL.off0 rfl rfl ?_ | refine WC.exit ?_ | refine blk_hit ?_ | refine blk_miss rfl ?_ | refine WC.ret ?_)
  refine WL.loadN (cs := rc r) rfl rfl rfl rfl rfl rfl (box_cell hp1) ?_
  refine WL.call rfl rfl rfl rfl rfl ent61 (isEquation_any r hl hr w1) ?_
  rintro _ w2 ⟨rfl, hp2⟩
  have hp2 := hp1.comb hp2
  repeat (first | refine WC.seq ?_ | refine WC.reg ?_ | refine WL.pure rfl rfl rfl ?_ | refine WL.nil ?_ | refine WC.skip ?_ | refine WC.block ?_ | refine WC.condT rfl ?_ | refine WC.condF rfl ?_ | refine WL.off rfl rfl rfl ?_ | refine WL.off0 rfl rfl ?_ | refine WC.exit ?_ | refine blk_hit ?_ | refine blk_miss rfl ?_ | refine WC.ret ?_)
  exact Res.one rfl rfl rfl ⟨rfl, hp2.nil'⟩
theorem areEquations_any (a : Option Addr) (cap : Nat) (l : List Rl) (k : Int) (hl : Sm 9223372036854775807 l) (w : World) (hs : Sl w a (rcs l)) :
    Ret Tryz.prog 40 [.slice a l.length cap, .int .i64 k] w fun u w' => u = .bool (eqnsB l k) ∧ Hp w w' [] := by
  refine enter Tryz.func40 rfl rfl ⟨rfl, rfl⟩ rfl ?_
  repeat (first | refine WC.seq ?_ | refine WC.reg ?_ | refine WL.pure rfl rfl rfl ?_ | refine WL.nil ?_ | refine WC.skip ?_ | refine WC.block ?_ | refine WC.condT rfl ?_ | refine WC.condF rfl ?_ | refine WL.off rfl rfl rfl ?_ | refine WL.off0 rfl rfl ?_ | refine WC.exit ?_ | refine blk_hit ?_ | refine blk_miss rfl ?_ | refine WC.ret ?_)
  refine WL.split 8 rfl (fun h1 => ?_) (fun h1 => ?_)
  · have h1 : l.length ≤ 64 := by have := of_decide_eq_true h1; omega
    repeat (first | refine WC.seq ?_ | refine WC.reg ?_ | refine WL.pure rfl rfl rfl ?_ | refine WL.nil ?_ | refine WC.skip ?_ | refine WC.block ?_ | refine WC.condT rfl ?_ | refine WC.condF rfl ?_ | refine WL.off rfl rfl rfl ?_ | refine WL.off0 rfl rfl ?_ | refine WC.exit ?_ | refine blk_hit ?_ | refine blk_miss rfl ?_ | refine WC.ret ?_)
    refine WL.call rfl rfl rfl rfl rfl ent59 (ContainsRules_any a cap l 67 #[] (fun r => !eqnB r) ent67 (by omega) w hs (fun r hr w' _ => areC_any r (hl r hr).1 (hl r hr).2 w')) ?_
    rintro _ w1 ⟨rfl, hp1⟩
    have e1 : (!l.any fun r => !eqnB r) = l.all eqnB := by
      rw [Bool.eq_iff_iff]
      simp
    unfold eqnsB
    rw [decide_eq_true h1, Bool.true_and, ← e1]
    repeat (first | refine WC.seq ?_ | refine WC.reg ?_ | refine WL.pure rfl rfl rfl ?_ | refine WL.nil ?_ | refine WC.skip ?_ | refine WC.block ?_ | refine WC.condT rfl ?_ | refine WC.condF rfl ?_ | refine WL.off rfl rfl rfl ?_ | refine WL.off0 rfl rfl ?_ | refine WC.exit ?_ | refine blk_hit ?_ | refine blk_miss rfl ?_ | refine WC.ret ?_)
    refine WL.split 13 rfl (fun h2 => ?_) (fun h2 => ?_)
    · rw [h2, Bool.true_and]
      repeat (first | refine WC.seq ?_ | refine WC.reg ?_ | refine WL.pure rfl rfl rfl ?_ | refine WL.nil ?_ | refine WC.skip ?_ | refine WC.block ?_ | refine WC.condT rfl ?_ | refine WC.condF rfl ?_ | refine WL.off rfl rfl rfl ?_ | refine WL.off0 rfl rfl ?_ | refine WC.exit ?_ | refine blk_hit ?_ | refine blk_miss rfl ?_ | refine WC.ret ?_)
      refine WL.split 17 rfl (fun h3 => ?_) (fun h3 => ?_)
      · have h3 : 0 ≤ k := of_decide_eq_true h3
        rw [decide_eq_true h3, Bool.true_and]
        repeat (first | refine WC.seq ?_ | refine WC.reg ?_ | refine WL.pure rfl rfl rfl ?_ | refine WL.nil ?_ | refine WC.skip ?_ | refine WC.block ?_ | refine WC.condT rfl ?_ | refine WC.condF rfl ?_ | refine WL.off rfl rfl rfl ?_ | refine WL.off0 rfl rfl ?_ | refine WC.exit ?_ | refine blk_hit ?_ | refine blk_miss rfl ?_ | refine WC.ret ?_)
        exact Res.one rfl rfl rfl ⟨rfl, hp1⟩
      · have h3 : ¬ 0 ≤ k := of_decide_eq_false h3
        rw [decide_eq_false h3, Bool.false_and]
        repeat (first | refine WC.seq ?_ | refine WC.reg ?_ | refine WL.pure rfl rfl rfl ?_ | refine WL.nil ?_ | refine WC.skip ?_ | refine WC.block ?_ | refine WC.condT rfl ?_ | refine WC.condF rfl ?_ | refine WL.off rfl rfl rfl ?_ | refine WL.off0 rfl rfl ?_ | refine WC.exit ?_ | refine blk_hit ?_ | refine blk_miss rfl ?_ | refine WC.ret ?_)
        exact Res.one rfl rfl rfl ⟨rfl, hp1⟩
    · rw [h2, Bool.false_and, Bool.false_and]
      repeat (first | refine WC.seq ?_ | refine WC.reg ?_ | refine WL.pure rfl rfl rfl ?_ | refine WL.nil ?_ | refine WC.skip ?_ | refine WC.block ?_ | refine WC.condT rfl ?_ | refine WC.condF rfl ?_ | refine WL.off rfl rfl rfl ?_ | refine WL.off0 rfl rfl ?_ | refine WC.exit ?_ | refine blk_hit ?_ | refine blk_miss rfl ?_ | refine WC.ret ?_)
      exact Res.one rfl rfl rfl ⟨rfl, hp1⟩
  · have h1 : ¬ l.length ≤ 64 := by have := of_decide_eq_false h1; omega
    repeat (first | refine WC.seq ?_ | refine WC.reg ?_ | refine WL.pure rfl rfl rfl ?_ | refine WL.nil ?_ | refine WC.skip ?_ | refine WC.block ?_ | refine WC.condT rfl ?_ | refine WC.condF rfl ?_ | refine WL.off rfl rfl rfl ?_ | refine WL.off0 rfl rfl ?_ | refine WC.exit ?_ | refine blk_hit ?_ | refine blk_miss rfl ?_ | refine WC.ret ?_)
    exact Res.one rfl rfl rfl ⟨by unfold eqnsB; rw [decide_eq_false h1, Bool.false_and, Bool.false_and, Bool.false_and], Hp.start w⟩
/-- What complete hands back. -/
def CmpP (o : Option (List Rl × Bool)) (w : World) (u : Value) (w' : World) : Prop := match o with
  | some (t, b) => ∃ pa pc, u = .tuple #[.slice pa t.length pc, .bool b, .bool true] ∧ Hp w w' [Rt (.slice pa t.length pc) t]
  | none => ∃ pa n pc b, u = .tuple #[.slice pa n pc, .bool b, .bool false] ∧ Hp w w' []
theorem SetP.ci {o : Option (List Rl)} {w w1 w2 : World} {u : Value} (hp : Hp w w1 []) (h : SetP o w1 u w2) : ∃ (ok : Bool) (va : Option Addr) (vn vc : Nat) (t : List Rl), u = .tuple #[.slice va vn vc, .bool ok] ∧
    (ok = true → o = some t ∧ vn = t.length ∧ Hp w w2 [Rt (.slice va t.length vc) t]) ∧ (ok = false → o = none ∧ Hp w w2 []) := by
  cases o with
  | none =>
    obtain ⟨pa, n, pc, rfl, hp2⟩ := h
    exact ⟨false, pa, n, pc, [], rfl, fun h => (by cases h), fun _ => ⟨rfl, hp.over hp2⟩⟩
  | some t =>
    obtain ⟨pa, pc, rfl, hp2⟩ := h
    exact ⟨true, pa, t.length, pc, t, rfl, fun _ => ⟨rfl, rfl, hp.over hp2⟩, fun h => (by cases h)⟩
set_option maxHeartbeats 1000000 in
theorem complete_any (a : Option Addr) (cap : Nat) (l : List Rl) (k0 : Nat) (hk0 : k0 ≤ 12) (hl : l.length ≤ 64) (hm : Sm 24 l) (w : World) (hmx : Mx w) (hs : Sl w a (rcs l)) :
    Ret Tryz.prog 41 [.slice a l.length cap, .int .i64 (k0 : Nat)] w (CmpP (completeM l k0) w) := by
  refine enter Tryz.func41 rfl rfl ⟨rfl, rfl⟩ rfl ?_
  repeat (first | refine WC.seq ?_ | refine WC.reg ?_ | refine WL.pure rfl rfl rfl ?_ | refine WL.nil ?_ | refine WC.skip ?_ | refine WC.block ?_ | refine WC.condT rfl ?_ | refine WC.condF rfl ?_ | refine WL.off rfl rfl rfl ?_ | refine WL.off0 rfl rfl ?_ | refine WC.exit ?_ | refine blk_hit ?_ | refine blk_miss rfl ?_ | refine WC.ret ?_)
  refine WC.loop (Nat × Option Addr × Nat × List Rl) (fun (i, oa, oc, acc) => [(1, .int .i64 (k0 : Nat)), (7, .slice oa acc.length oc), (13, .slice a l.length cap), (14, .int .i64 (l.length : Nat)), (15, .int .i64 (i : Nat))])
    (fun (i, oa, oc, acc) w' => i ≤ l.length ∧ acc = eqsM (l.take i) ∧ Hp w w' [Rt (.slice oa acc.length oc) acc]) (fun (i, _) => l.length - i) (0, none, 0, []) ⟨rfl, rfl, rfl, rfl, rfl, rfl⟩ ⟨Nat.zero_le _, rfl, (Hp.start w).nilrow _ _⟩ ?_
  rintro ⟨i, oa, oc, acc⟩ w1 ⟨hi, hE, hp1⟩
  repeat (first | refine WC.seq ?_ | refine WC.reg ?_ | refine WL.pure rfl rfl rfl ?_ | refine WL.nil ?_ | refine WC.skip ?_ | refine WC.block ?_ | refine WC.condT rfl ?_ | refine WC.condF rfl ?_ | refine WL.off rfl rfl rfl ?_ | refine WL.off0 rfl rfl ?_ | refine WC.exit ?_ | refine blk_hit ?_ | refine blk_miss rfl ?_ | refine WC.ret ?_)
  refine WC.cond rfl (fun hc => ?_) (fun hc => ?_)
  · have hi : i < l.length := by have := of_decide_eq_true hc; omega
    have step := wrap_succ hi (by omega)
    have hsucc := eqsM_succ hi
    have hel := eqsM_len (l.take i)
    rw [List.length_take, Nat.min_eq_left (by omega)] at hel
    rw [← hE] at hel hsucc
    repeat (first | refine WC.seq ?_ | refine WC.reg ?_ | refine WL.pure rfl rfl rfl ?_ | refine WL.nil ?_ | refine WC.skip ?_ | refine WC.block ?_ | refine WC.condT rfl ?_ | refine WC.condF rfl ?_ | refine WL.off rfl rfl rfl ?_ | refine WL.off0 rfl rfl ?_ | refine WC.exit ?_ | refine blk_hit ?_ | refine blk_miss rfl ?_ | refine WC.ret ?_)
    refine WL.ixload2 rfl (fun _ => rfl) rfl rfl rfl rfl rfl rfl rfl hi rfl rfl (hs.hp hp1) hi ?_
    intro pp
    generalize l[i] = r at *
    refine WL.alloc rfl rfl rfl ?_
    intro b9 w2 hb9
    have hp2 := hp1.new hb9
    repeat (first | refine WC.seq ?_ | refine WC.reg ?_ | refine WL.pure rfl rfl rfl ?_ | refine WL.nil ?_ | refine WC.skip ?_ | refine WC.block ?_ | refine WC.condT rfl ?_ | refine WC.condF rfl ?_ | refine WL.off rfl rfl rfl ?_ | refine WL.off0 rfl rfl ?_ | refine WC.exit ?_ | refine blk_hit ?_ | refine blk_miss rfl ?_ | refine WC.ret ?_)
    refine WL.storeN (vs := (rc r).toArray) (arr2 := (rc r).toArray) rfl rfl rfl rfl rfl (rc_one _) (hp2.obj 0 rfl) (Nat.le_refl 2) rfl (fun w3 hw3 => ?_)
    have hp3 : Hp w w3 [Bx b9 r, Rt (.slice oa acc.length oc) acc] := hp2.set 0 rfl rfl hw3
    repeat (first | refine WC.seq ?_ | refine WC.reg ?_ | refine WL.pure rfl rfl rfl ?_ | refine WL.nil ?_ | refine WC.skip ?_ | refine WC.block ?_ | refine WC.condT rfl ?_ | refine WC.condF rfl ?_ | refine WL.off rfl rfl rfl ?_ | refine WL.off0 rfl rfl ?_ | refine WC.exit ?_ | refine blk_hit ?_ | refine blk_miss rfl ?_ | refine WC.ret ?_)
    refine WL.loadB rfl rfl rfl rfl rfl (hp3.obj 0 rfl) (j := 0) rfl ?_
    repeat (first | refine WC.seq ?_ | refine WC.reg ?_ | refine WL.pure rfl rfl rfl ?_ | refine WL.nil ?_ | refine WC.skip ?_ | refine WC.block ?_ | refine WC.condT rfl ?_ | refine WC.condF rfl ?_ | refine WL.off rfl rfl rfl ?_ | refine WL.off0 rfl rfl ?_ | refine WC.exit ?_ | refine blk_hit ?_ | refine blk_miss rfl ?_ | refine WC.ret ?_)
    refine WL.loadB rfl rfl rfl rfl rfl (hp3.obj 0 rfl) (j := 1) rfl ?_
    refine WL.sCmp rfl rfl rfl rfl rfl ?_
    repeat (first | refine WC.seq ?_ | refine WC.reg ?_ | refine WL.pure rfl rfl rfl ?_ | refine WL.nil ?_ | refine WC.skip ?_ | refine WC.block ?_ | refine WC.condT rfl ?_ | refine WC.condF rfl ?_ | refine WL.off rfl rfl rfl ?_ | refine WL.off0 rfl rfl ?_ | refine WC.exit ?_ | refine blk_hit ?_ | refine blk_miss rfl ?_ | refine WC.ret ?_)
    refine WC.cond rfl (fun h1 => ?_) (fun h1 => ?_)
    · have h1 : ¬ r.1 = r.2 := by simpa using h1
      rw [if_neg h1] at hsucc
      repeat (first | refine WC.seq ?_ | refine WC.reg ?_ | refine WL.pure rfl rfl rfl ?_ | refine WL.nil ?_ | refine WC.skip ?_ | refine WC.block ?_ | refine WC.condT rfl ?_ | refine WC.condF rfl ?_ | refine WL.off rfl rfl rfl ?_ | refine WL.off0 rfl rfl ?_ | refine WC.exit ?_ | refine blk_hit ?_ | refine blk_miss rfl ?_ | refine WC.ret ?_)
      refine WL.loadB rfl rfl rfl rfl rfl (hp3.obj 0 rfl) (j := 0) rfl ?_
      repeat (first | refine WC.seq ?_ | refine WC.reg ?_ | refine WL.pure rfl rfl rfl ?_ | refine WL.nil ?_ | refine WC.skip ?_ | refine WC.block ?_ | refine WC.condT rfl ?_ | refine WC.condF rfl ?_ | refine WL.off rfl rfl rfl ?_ | refine WL.off0 rfl rfl ?_ | refine WC.exit ?_ | refine blk_hit ?_ | refine blk_miss rfl ?_ | refine WC.ret ?_)
      refine WL.loadB rfl rfl rfl rfl rfl (hp3.obj 0 rfl) (j := 1) rfl ?_
      refine WL.call rfl rfl rfl rfl rfl ent68 (directed_any r.1 r.2 w3) ?_
      rintro _ w5 ⟨rfl, hp5⟩
      have hp5 := hp3.tail.comb hp5
      refine WL.buildS (cs := rc (dirM r.1 r.2)) rfl rfl rfl rfl rfl rfl rfl rfl rfl ?_
      intro b6 w6 hb6
      have hp6 : Hp w w6 [Bx b6 (dirM r.1 r.2), Rt (.slice oa acc.length oc) acc] := hp5.new hb6
      refine WL.append 1 hp6 rfl rfl rfl rfl rfl (by decide) rfl rfl rfl (news := rc (dirM r.1 r.2)) (Sl.of_obj (hp6.obj 0 rfl) (fun q u hq => by simpa [rc] using hq)) rfl (rcs_cells [dirM r.1 r.2]) (by unfold maxLen; omega) (by show (acc.length + 1) * 32 ≤ _; omega) ?_
      intro ra rc1 w7 hp7 hg7
      have e1 : (acc ++ [dirM r.1 r.2]).length = acc.length + 1 := by rw [List.length_append]; rfl
      repeat (first | refine WC.seq ?_ | refine WC.reg ?_ | refine WL.pure rfl rfl rfl ?_ | refine WL.nil ?_ | refine WC.skip ?_ | refine WC.block ?_ | refine WC.condT rfl ?_ | refine WC.condF rfl ?_ | refine WL.off rfl rfl rfl ?_ | refine WL.off0 rfl rfl ?_ | refine WC.exit ?_ | refine blk_hit ?_ | refine blk_miss rfl ?_ | refine WC.ret ?_)
      refine ⟨(i + 1, ra, rc1, acc ++ [dirM r.1 r.2]), (by show l.length - (i + 1) < l.length - i; omega), ⟨rfl, congrArg (fun z : Nat => some (Value.slice ra z rc1)) e1.symm, rfl, rfl, congrArg (fun z => some (Value.int .i64 z)) step, rfl⟩, by omega, hsucc.symm, ?_⟩
      show Hp w w7 [Rt _ _]
      unfold Rt
      rw [e1, rcs_app]
      exact hp7.tail
    · have h1 : r.1 = r.2 := by simpa using h1
      rw [if_pos h1, List.append_nil] at hsucc
      repeat (first | refine WC.seq ?_ | refine WC.reg ?_ | refine WL.pure rfl rfl rfl ?_ | refine WL.nil ?_ | refine WC.skip ?_ | refine WC.block ?_ | refine WC.condT rfl ?_ | refine WC.condF rfl ?_ | refine WL.off rfl rfl rfl ?_ | refine WL.off0 rfl rfl ?_ | refine WC.exit ?_ | refine blk_hit ?_ | refine blk_miss rfl ?_ | refine WC.ret ?_)
      exact ⟨(i + 1, oa, oc, acc), (by show l.length - (i + 1) < l.length - i; omega), ⟨rfl, rfl, rfl, rfl, congrArg (fun z => some (Value.int .i64 z)) step, rfl⟩, by omega, hsucc.symm, hp3.tail⟩
  · have hi : l.length ≤ i := by have := of_decide_eq_false hc; omega
    rw [List.take_of_length_le hi] at hE
    have hinv := eqsM_inv hm
    have hel := eqsM_len l
    unfold completeM
    rw [← hE] at hinv hel ⊢
    clear hE
    repeat (first | refine WC.seq ?_ | refine WC.reg ?_ | refine WL.pure rfl rfl rfl ?_ | refine WL.nil ?_ | refine WC.skip ?_ | refine WC.block ?_ | refine WC.condT rfl ?_ | refine WC.condF rfl ?_ | refine WL.off rfl rfl rfl ?_ | refine WL.off0 rfl rfl ?_ | refine WC.exit ?_ | refine blk_hit ?_ | refine blk_miss rfl ?_ | refine WC.ret ?_)
    refine WL.call rfl rfl rfl rfl rfl ent69 (settle_any oa oc acc (by omega) hinv.1 (hinv.2.mono (by decide)) w1 (hmx.hp hp1) (Sl.of_row (hp1.at 0 rfl))) ?_
    intro u w2 hu
    have hst := fun t (h : settleM acc = some t) => settle_inv h hinv.1 hinv.2
    obtain ⟨ok, va, vn, vc, t, rfl, hok, hno⟩ := hu.ci hp1.nil'
    generalize hG : (match settleM acc with
      | none => none
      | some t => compN k0 t : Option (List Rl × Bool)) = G
    have h1 : ok = true → G = compN k0 t ∧ Stl t ∧ vn = t.length ∧ Hp w w2 [Rt (.slice va t.length vc) t] := fun h => by
      obtain ⟨q1, q2, q3⟩ := hok h
      rw [q1] at hG
      exact ⟨hG.symm, hst t q1, q2, q3⟩
    have h2 : ok = false → G = none ∧ Hp w w2 [] := fun h => by
      obtain ⟨q1, q2⟩ := hno h
      rw [q1] at hG
      exact ⟨hG.symm, q2⟩
    clear hG hok hno hst hu hp1 hinv
    repeat (first | refine WC.seq ?_ | refine WC.reg ?_ | refine WL.pure rfl rfl rfl ?_ | refine WL.nil ?_ | refine WC.skip ?_ | refine WC.block ?_ | refine WC.condT rfl ?_ | refine WC.condF rfl ?_ | refine WL.off rfl rfl rfl ?_ | refine WL.off0 rfl rfl ?_ | refine WC.exit ?_ | refine blk_hit ?_ | refine blk_miss rfl ?_ | refine WC.ret ?_)
    refine WC.loop (Bool × Option Addr × Nat × Nat × Nat × List Rl) (fun (ok, va, vn, vc, k, _) => [(1, .int .i64 (k : Nat)), (7, .slice va vn vc), (10, .bool ok)])
      (fun (ok, va, vn, vc, k, t) w' => k ≤ 12 ∧ (ok = true → G = compN k t ∧ Stl t ∧ vn = t.length ∧ Hp w w' [Rt (.slice va t.length vc) t]) ∧ (ok = false → G = none ∧ Hp w w' [])) (fun (_, _, _, _, k, _) => k) (ok, va, vn, vc, k0, t) ⟨rfl, rfl, rfl, rfl⟩ ⟨hk0, h1, h2⟩ ?_
    clear h1 h2
    rintro ⟨ok, va, vn, vc, k, t⟩ w3 ⟨hk, h1, h2⟩
    cases ok with
    | false =>
      obtain ⟨rfl, hp3⟩ := h2 rfl
      repeat (first | refine WC.seq ?_ | refine WC.reg ?_ | refine WL.pure rfl rfl rfl ?_ | refine WL.nil ?_ | refine WC.skip ?_ | refine WC.block ?_ | refine WC.condT rfl ?_ | refine WC.condF rfl ?_ | refine WL.off rfl rfl rfl ?_ | refine WL.off0 rfl rfl ?_ | refine WC.exit ?_ | refine blk_hit ?_ | refine blk_miss rfl ?_ | refine WC.ret ?_)
      exact Res.three rfl rfl rfl rfl rfl ⟨none, 0, 0, false, rfl, hp3⟩
    | true =>
      obtain ⟨hG, hS, rfl, hp3⟩ := h1 rfl
      clear h1 h2
      have hSl := hS.len
      repeat (first | refine WC.seq ?_ | refine WC.reg ?_ | refine WL.pure rfl rfl rfl ?_ | refine WL.nil ?_ | refine WC.skip ?_ | refine WC.block ?_ | refine WC.condT rfl ?_ | refine WC.condF rfl ?_ | refine WL.off rfl rfl rfl ?_ | refine WL.off0 rfl rfl ?_ | refine WC.exit ?_ | refine blk_hit ?_ | refine blk_miss rfl ?_ | refine WC.ret ?_)
      refine WC.cond rfl (fun hc => ?_) (fun hc => ?_)
      · have hk0 : 0 < k := by have := of_decide_eq_true hc; omega
        obtain ⟨k', rfl⟩ : ∃ k', k = k' + 1 := ⟨k - 1, by omega⟩
        have step : IntKind.i64.wrap (((k' + 1 : Nat) : Int) - 1) = ((k' : Nat) : Int) := by rw [wrap_i64_in (by omega) (by omega)]; omega
        rw [compN] at hG
        repeat (first | refine WC.seq ?_ | refine WC.reg ?_ | refine WL.pure rfl rfl rfl ?_ | refine WL.nil ?_ | refine WC.skip ?_ | refine WC.block ?_ | refine WC.condT rfl ?_ | refine WC.condF rfl ?_ | refine WL.off rfl rfl rfl ?_ | refine WL.off0 rfl rfl ?_ | refine WC.exit ?_ | refine blk_hit ?_ | refine blk_miss rfl ?_ | refine WC.ret ?_)
        refine WL.call rfl rfl rfl rfl rfl ent70 (round_any va vc t (by omega) hS.dn (hS.sm.mono (by decide)) w3 (Sl.of_row (hp3.at 0 rfl))) ?_
        intro u w4 hu
        cases hr : roundM t with
        | none =>
          rw [hr] at hu hG
          obtain ⟨ra, rn, rc1, rfl, hp4⟩ := hu
          subst hG
          repeat (first | refine WC.seq ?_ | refine WC.reg ?_ | refine WL.pure rfl rfl rfl ?_ | refine WL.nil ?_ | refine WC.skip ?_ | refine WC.block ?_ | refine WC.condT rfl ?_ | refine WC.condF rfl ?_ | refine WL.off rfl rfl rfl ?_ | refine WL.off0 rfl rfl ?_ | refine WC.exit ?_ | refine blk_hit ?_ | refine blk_miss rfl ?_ | refine WC.ret ?_)
          exact Res.three rfl rfl rfl rfl rfl ⟨none, 0, 0, false, rfl, hp3.nil'.over hp4⟩
        | some nx =>
          rw [hr] at hu hG
          obtain ⟨ra, rc1, rfl, hp4⟩ := hu
          have hp4 := hp3.comb hp4
          obtain ⟨hnd, hns, hnl⟩ := round_inv hr hS
          simp only at hG
          repeat (first | refine WC.seq ?_ | refine WC.reg ?_ | refine WL.pure rfl rfl rfl ?_ | refine WL.nil ?_ | refine WC.skip ?_ | refine WC.block ?_ | refine WC.condT rfl ?_ | refine WC.condF rfl ?_ | refine WL.off rfl rfl rfl ?_ | refine WL.off0 rfl rfl ?_ | refine WC.exit ?_ | refine blk_hit ?_ | refine blk_miss rfl ?_ | refine WC.ret ?_)
          refine WC.cond rfl (fun hc2 => ?_) (fun hc2 => ?_)
          · have he : nx.length = t.length := by have := eq_of_beq hc2; omega
            rw [if_pos he] at hG
            subst hG
            repeat (first | refine WC.seq ?_ | refine WC.reg ?_ | refine WL.pure rfl rfl rfl ?_ | refine WL.nil ?_ | refine WC.skip ?_ | refine WC.block ?_ | refine WC.condT rfl ?_ | refine WC.condF rfl ?_ | refine WL.off rfl rfl rfl ?_ | refine WL.off0 rfl rfl ?_ | refine WC.exit ?_ | refine blk_hit ?_ | refine blk_miss rfl ?_ | refine WC.ret ?_)
            exact Res.three rfl rfl rfl rfl rfl ⟨va, vc, rfl, hp4.tail⟩
          · have he : ¬ nx.length = t.length := fun h => by rw [h] at hc2; simp at hc2
            rw [if_neg he] at hG
            repeat (first | refine WC.seq ?_ | refine WC.reg ?_ | refine WL.pure rfl rfl rfl ?_ | refine WL.nil ?_ | refine WC.skip ?_ | refine WC.block ?_ | refine WC.condT rfl ?_ | refine WC.condF rfl ?_ | refine WL.off rfl rfl rfl ?_ | refine WL.off0 rfl rfl ?_ | refine WC.exit ?_ | refine blk_hit ?_ | refine blk_miss rfl ?_ | refine WC.ret ?_)
            refine WL.call rfl rfl rfl rfl rfl ent69 (settle_any ra rc1 nx (by omega) hnd hns w4 (hmx.hp hp4) (Sl.of_row (hp4.at 0 rfl))) ?_
            intro u w5 hu
            obtain ⟨ok2, va2, vn2, vc2, t2, rfl, hok, hno⟩ := hu.ci hp4.nil'
            repeat (first | refine WC.seq ?_ | refine WC.reg ?_ | refine WL.pure rfl rfl rfl ?_ | refine WL.nil ?_ | refine WC.skip ?_ | refine WC.block ?_ | refine WC.condT rfl ?_ | refine WC.condF rfl ?_ | refine WL.off rfl rfl rfl ?_ | refine WL.off0 rfl rfl ?_ | refine WC.exit ?_ | refine blk_hit ?_ | refine blk_miss rfl ?_ | refine WC.ret ?_)
            refine ⟨(ok2, va2, vn2, vc2, k', t2), Nat.lt_succ_self _, ⟨congrArg (fun z => some (Value.int .i64 z)) step, rfl, rfl, rfl⟩, by omega, fun h => ?_, fun h => ?_⟩
            · obtain ⟨q1, q2, q3⟩ := hok h
              rw [q1] at hG
              exact ⟨hG, settle_inv q1 hnd hns, q2, q3⟩
            · obtain ⟨q1, q2⟩ := hno h
              rw [q1] at hG
              exact ⟨hG, q2⟩
      · have hk0 : k = 0 := by have := of_decide_eq_false hc; omega
        subst hk0
        rw [compN] at hG
        repeat (first | refine WC.seq ?_ | refine WC.reg ?_ | refine WL.pure rfl rfl rfl ?_ | refine WL.nil ?_ | refine WC.skip ?_ | refine WC.block ?_ | refine WC.condT rfl ?_ | refine WC.condF rfl ?_ | refine WL.off rfl rfl rfl ?_ | refine WL.off0 rfl rfl ?_ | refine WC.exit ?_ | refine blk_hit ?_ | refine blk_miss rfl ?_ | refine WC.ret ?_)
        refine WL.call rfl rfl rfl rfl rfl ent45 (clash_any va vc t (by omega) (hS.sm.mono (by decide)) hS.dn w3 (Sl.of_row (hp3.at 0 rfl))) ?_
        rintro _ w4 ⟨rfl, hp4⟩
        have hp4 := hp3.comb hp4
        cases hcl : clashM t with
        | none =>
          rw [hcl] at hG
          subst hG
          repeat (first | refine WC.seq ?_ | refine WC.reg ?_ | refine WL.pure rfl rfl rfl ?_ | refine WL.nil ?_ | refine WC.skip ?_ | refine WC.block ?_ | refine WC.condT rfl ?_ | refine WC.condF rfl ?_ | refine WL.off rfl rfl rfl ?_ | refine WL.off0 rfl rfl ?_ | refine WC.exit ?_ | refine blk_hit ?_ | refine blk_miss rfl ?_ | refine WC.ret ?_)
          exact Res.three rfl rfl rfl rfl rfl ⟨va, t.length, vc, false, rfl, hp4.nil'⟩
        | some n =>
          rw [hcl] at hG
          subst hG
          repeat (first | refine WC.seq ?_ | refine WC.reg ?_ | refine WL.pure rfl rfl rfl ?_ | refine WL.nil ?_ | refine WC.skip ?_ | refine WC.block ?_ | refine WC.condT rfl ?_ | refine WC.condF rfl ?_ | refine WL.off rfl rfl rfl ?_ | refine WL.off0 rfl rfl ?_ | refine WC.exit ?_ | refine blk_hit ?_ | refine blk_miss rfl ?_ | refine WC.ret ?_)
          exact Res.three rfl rfl rfl rfl rfl ⟨va, vc, rfl, hp4⟩
end Go.Proofs.YtoghnhbjdnjghaaGreat
