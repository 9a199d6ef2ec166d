/- The walks of Complete and Equal. -/
import Derived.Test.YtoghnhbjdnjghaaGreatV16
namespace Go.Proofs.YtoghnhbjdnjghaaGreat
open Go.W Go.Words Go.RowKit Go.Sort
set_option maxRecDepth 100000
attribute [local irreducible] WC WL WQ WS WH

/-- What Complete hands back. -/
def CompQ (l : List Rl) (k : Int) (w : World) (u : Value) (w' : World) : Prop := if eqnsB l k then match completeM l k.toNat with
    | some (t, b) => ∃ pa pc, u = .tuple #[.slice pa t.length pc, .bool b, .int .i64 0] ∧ Hp w w' [Rt (.slice pa t.length pc) t]
    | none => u = .tuple #[.slice none 0 0, .bool false, .int .i64 5] ∧ Hp w w' []
  else u = .tuple #[.slice none 0 0, .bool false, .int .i64 2] ∧ Hp w w' []
theorem eqnsB_of {l : List Rl} {k : Int} (h : eqnsB l k = true) : l.length ≤ 64 ∧ Sm 24 l ∧ ∃ n : Nat, k = (n : Int) ∧ n ≤ 12 := by
  unfold eqnsB at h
  obtain ⟨h, h4⟩ := Bool.and_eq_true_iff.1 h
  obtain ⟨h, h3⟩ := Bool.and_eq_true_iff.1 h
  obtain ⟨h1, h2⟩ := Bool.and_eq_true_iff.1 h
  have h3 := of_decide_eq_true h3
  have h4 := of_decide_eq_true h4
  refine ⟨of_decide_eq_true h1, fun r hr => ?_, k.toNat, by omega, by omega⟩
  have := List.all_eq_true.1 h2 r hr
  unfold eqnB sideB at this
  obtain ⟨a, b⟩ := Bool.and_eq_true_iff.1 this
  exact ⟨of_decide_eq_true (Bool.and_eq_true_iff.1 a).1, of_decide_eq_true (Bool.and_eq_true_iff.1 b).1⟩
theorem Complete_any (a : Option Addr) (cap : Nat) (l : List Rl) (k : Int) (hm : Sm 9223372036854775807 l) (w : World) (hmx : Mx w) (hs : Sl w a (rcs l)) :
    Ret Tryz.prog 18 [.slice a l.length cap, .int .i64 k] w (CompQ l k w) := by
  refine enter Tryz.func18 rfl rfl ⟨rfl, rfl⟩ rfl ?_
  repeat (first | refine WC.seq ?_ | refine WC.reg ?_ | refine WL.pure rfl rfl rfl ?_ | refine WL.nil ?_ | refine WC.skip ?_ | refine WC.block ?_ | refine WC.condT rfl ?_ | refine WC.condF rfl ?_ | refine WL.off rfl rfl rfl ?_ | refine WL.off0 rfl rfl ?_ | refine WC.exit ?_ | refine blk_hit ?_ | refine blk_miss rfl ?_ | refine WC.ret ?_)
  refine WL.call rfl rfl rfl rfl rfl ent40 (areEquations_any a cap l k hm w hs) ?_
  rintro _ w1 ⟨rfl, hp1⟩
  unfold CompQ
  repeat (first | refine WC.seq ?_ | refine WC.reg ?_ | refine WL.pure rfl rfl rfl ?_ | refine WL.nil ?_ | refine WC.skip ?_ | refine WC.block ?_ | refine WC.condT rfl ?_ | refine WC.condF rfl ?_ | refine WL.off rfl rfl rfl ?_ | refine WL.off0 rfl rfl ?_ | refine WC.exit ?_ | refine blk_hit ?_ | refine blk_miss rfl ?_ | refine WC.ret ?_)
  refine WC.cond rfl (fun h1 => ?_) (fun h1 => ?_)
  · have h1 : eqnsB l k = false := by simpa using h1
    repeat (first | refine WC.seq ?_ | refine WC.reg ?_ | refine WL.pure rfl rfl rfl ?_ | refine WL.nil ?_ | refine WC.skip ?_ | refine WC.block ?_ | refine WC.condT rfl ?_ | refine WC.condF rfl ?_ | refine WL.off rfl rfl rfl ?_ | refine WL.off0 rfl rfl ?_ | refine WC.exit ?_ | refine blk_hit ?_ | refine blk_miss rfl ?_ | refine WC.ret ?_)
    exact Res.three rfl rfl rfl rfl rfl (by rw [h1]; exact ⟨rfl, hp1⟩)
  · have h1 : eqnsB l k = true := by simpa using h1
    obtain ⟨hl, hsm, n, rfl, hn⟩ := eqnsB_of h1
    rw [h1, Int.toNat_natCast]
    repeat (first | refine WC.seq ?_ | refine WC.reg ?_ | refine WL.pure rfl rfl rfl ?_ | refine WL.nil ?_ | refine WC.skip ?_ | refine WC.block ?_ | refine WC.condT rfl ?_ | refine WC.condF rfl ?_ | refine WL.off rfl rfl rfl ?_ | refine WL.off0 rfl rfl ?_ | refine WC.exit ?_ | refine blk_hit ?_ | refine blk_miss rfl ?_ | refine WC.ret ?_)
    refine WL.call rfl rfl rfl rfl rfl ent41 (complete_any a cap l n hn hl hsm w1 (hmx.hp hp1) (hs.hp hp1)) ?_
    intro u w2 hu
    cases hc : completeM l n with
    | none =>
      rw [hc] at hu
      obtain ⟨pa, m, pc, b, rfl, hp2⟩ := hu
      repeat (first | refine WC.seq ?_ | refine WC.reg ?_ | refine WL.pure rfl rfl rfl ?_ | refine WL.nil ?_ | refine WC.skip ?_ | refine WC.block ?_ | refine WC.condT rfl ?_ | refine WC.condF rfl ?_ | refine WL.off rfl rfl rfl ?_ | refine WL.off0 rfl rfl ?_ | refine WC.exit ?_ | refine blk_hit ?_ | refine blk_miss rfl ?_ | refine WC.ret ?_)
      exact Res.three rfl rfl rfl rfl rfl ⟨rfl, hp1.over hp2⟩
    | some q =>
      obtain ⟨t, b⟩ := q
      rw [hc] at hu
      obtain ⟨pa, pc, rfl, hp2⟩ := hu
      repeat (first | refine WC.seq ?_ | refine WC.reg ?_ | refine WL.pure rfl rfl rfl ?_ | refine WL.nil ?_ | refine WC.skip ?_ | refine WC.block ?_ | refine WC.condT rfl ?_ | refine WC.condF rfl ?_ | refine WL.off rfl rfl rfl ?_ | refine WL.off0 rfl rfl ?_ | refine WC.exit ?_ | refine blk_hit ?_ | refine blk_miss rfl ?_ | refine WC.ret ?_)
      exact Res.three rfl rfl rfl rfl rfl ⟨pa, pc, rfl, hp1.over hp2⟩
/-- What Equal hands back. -/
def EqM (l : List Rl) (k : Int) (x y : Str) : Int × Int := if eqnsB l k && strB x && strB y then match completeM l k.toNat with
    | none => (0, 5)
    | some (t, b) => match formsM t (x, y) with
      | none => (0, 5)
      | some q => if q.1 = q.2 then (1, 0) else if b then (0, 0) else (-1, 0)
  else (0, 2)
theorem compN_inv : ∀ (k : Nat) (l t : List Rl) (b : Bool), compN k l = some (t, b) → Stl l → Stl t := by
  intro k
  induction k with
  | zero =>
    intro l t b h hS
    rw [compN] at h
    cases hc : clashM l with
    | none => rw [hc] at h; cases h
    | some n =>
      rw [hc] at h
      simp only [Option.some.injEq, Prod.mk.injEq] at h
      rw [← h.1]; exact hS
  | succ k ih =>
    intro l t b h hS
    rw [compN] at h
    cases hr : roundM l with
    | none => rw [hr] at h; cases h
    | some nx =>
      rw [hr] at h
      simp only at h
      obtain ⟨hnd, hns, _⟩ := round_inv hr hS
      split at h
      · simp only [Option.some.injEq, Prod.mk.injEq] at h
        rw [← h.1]; exact hS
      · cases hs : settleM nx with
        | none => rw [hs] at h; cases h
        | some q =>
          rw [hs] at h
          exact ih q t b h (settle_inv hs hnd hns)
theorem completeM_inv {l t : List Rl} {k : Nat} {b : Bool} (h : completeM l k = some (t, b)) (hm : Sm 24 l) : Stl t := by
  unfold completeM at h
  have hinv := eqsM_inv hm
  cases hs : settleM (eqsM l) with
  | none => rw [hs] at h; cases h
  | some q =>
    rw [hs] at h
    exact compN_inv k q t b h (settle_inv hs hinv.1 hinv.2)
theorem Equal_any (a : Option Addr) (cap : Nat) (l : List Rl) (k : Int) (x y : Str) (hm : Sm 9223372036854775807 l) (hx : x.length ≤ 9223372036854775807) (hy : y.length ≤ 9223372036854775807) (w : World) (hmx : Mx w) (hs : Sl w a (rcs l)) :
    Ret Tryz.prog 28 [.slice a l.length cap, .int .i64 k, st x, st y] w fun u w' => u = .tuple #[.int .i64 (EqM l k x y).1, .int .i64 (EqM l k x y).2] ∧ Hp w w' [] := by
  refine enter Tryz.func28 rfl rfl ⟨rfl, rfl⟩ rfl ?_
  repeat (first | refine WC.seq ?_ | refine WC.reg ?_ | refine WL.pure rfl rfl rfl ?_ | refine WL.nil ?_ | refine WC.skip ?_ | refine WC.block ?_ | refine WC.condT rfl ?_ | refine WC.condF rfl ?_ | refine WL.off rfl rfl rfl ?_ | refine WL.off0 rfl rfl ?_ | refine WC.exit ?_ | refine blk_hit ?_ | refine blk_miss rfl ?_ | refine WC.ret ?_)
  refine WL.call rfl rfl rfl rfl rfl ent40 (areEquations_any a cap l k hm w hs) ?_
  rintro _ w1 ⟨rfl, hp1⟩
  repeat (first | refine WC.seq ?_ | refine WC.reg ?_ | refine WL.pure rfl rfl rfl ?_ | refine WL.nil ?_ | refine WC.skip ?_ | refine WC.block ?_ | refine WC.condT rfl ?_ | refine WC.condF rfl ?_ | refine WL.off rfl rfl rfl ?_ | refine WL.off0 rfl rfl ?_ | refine WC.exit ?_ | refine blk_hit ?_ | refine blk_miss rfl ?_ | refine WC.ret ?_)
  refine WL.split 19 rfl (fun h1 => ?_) (fun h1 => ?_)
  · have h1 : eqnsB l k = false := by simpa using h1
    have e0 : EqM l k x y = (0, 2) := by unfold EqM; rw [h1]; rfl
    repeat (first | refine WC.seq ?_ | refine WC.reg ?_ | refine WL.pure rfl rfl rfl ?_ | refine WL.nil ?_ | refine WC.skip ?_ | refine WC.block ?_ | refine WC.condT rfl ?_ | refine WC.condF rfl ?_ | refine WL.off rfl rfl rfl ?_ | refine WL.off0 rfl rfl ?_ | refine WC.exit ?_ | refine blk_hit ?_ | refine blk_miss rfl ?_ | refine WC.ret ?_)
    exact Res.two rfl rfl rfl rfl ⟨by rw [e0], hp1⟩
  have h1 : eqnsB l k = true := by simpa using h1
  repeat (first | refine WC.seq ?_ | refine WC.reg ?_ | refine WL.pure rfl rfl rfl ?_ | refine WL.nil ?_ | refine WC.skip ?_ | refine WC.block ?_ | refine WC.condT rfl ?_ | refine WC.condF rfl ?_ | refine WL.off rfl rfl rfl ?_ | refine WL.off0 rfl rfl ?_ | refine WC.exit ?_ | refine blk_hit ?_ | refine blk_miss rfl ?_ | refine WC.ret ?_)
  refine WL.callP rfl rfl rfl rfl rfl ent34 (isString_any x hx w1) ?_
  repeat (first | refine WC.seq ?_ | refine WC.reg ?_ | refine WL.pure rfl rfl rfl ?_ | refine WL.nil ?_ | refine WC.skip ?_ | refine WC.block ?_ | refine WC.condT rfl ?_ | refine WC.condF rfl ?_ | refine WL.off rfl rfl rfl ?_ | refine WL.off0 rfl rfl ?_ | refine WC.exit ?_ | refine blk_hit ?_ | refine blk_miss rfl ?_ | refine WC.ret ?_)
  refine WL.split 24 rfl (fun h2 => ?_) (fun h2 => ?_)
  · have h2 : strB x = false := by simpa using h2
    have e0 : EqM l k x y = (0, 2) := by unfold EqM; rw [h2, Bool.and_false]; rfl
    repeat (first | refine WC.seq ?_ | refine WC.reg ?_ | refine WL.pure rfl rfl rfl ?_ | refine WL.nil ?_ | refine WC.skip ?_ | refine WC.block ?_ | refine WC.condT rfl ?_ | refine WC.condF rfl ?_ | refine WL.off rfl rfl rfl ?_ | refine WL.off0 rfl rfl ?_ | refine WC.exit ?_ | refine blk_hit ?_ | refine blk_miss rfl ?_ | refine WC.ret ?_)
    exact Res.two rfl rfl rfl rfl ⟨by rw [e0], hp1⟩
  have h2 : strB x = true := by simpa using h2
  repeat (first | refine WC.seq ?_ | refine WC.reg ?_ | refine WL.pure rfl rfl rfl ?_ | refine WL.nil ?_ | refine WC.skip ?_ | refine WC.block ?_ | refine WC.condT rfl ?_ | refine WC.condF rfl ?_ | refine WL.off rfl rfl rfl ?_ | refine WL.off0 rfl rfl ?_ | refine WC.exit ?_ | refine blk_hit ?_ | refine blk_miss rfl ?_ | refine WC.ret ?_)
  refine WL.callP rfl rfl rfl rfl rfl ent34 (isString_any y hy w1) ?_
  repeat (first | refine WC.seq ?_ | refine WC.reg ?_ | refine WL.pure rfl rfl rfl ?_ | refine WL.nil ?_ | refine WC.skip ?_ | refine WC.block ?_ | refine WC.condT rfl ?_ | refine WC.condF rfl ?_ | refine WL.off rfl rfl rfl ?_ | refine WL.off0 rfl rfl ?_ | refine WC.exit ?_ | refine blk_hit ?_ | refine blk_miss rfl ?_ | refine WC.ret ?_)
  refine WC.cond rfl (fun h3 => ?_) (fun h3 => ?_)
  · have h3 : strB y = false := by simpa using h3
    have e0 : EqM l k x y = (0, 2) := by unfold EqM; rw [h3, Bool.and_false]; rfl
    repeat (first | refine WC.seq ?_ | refine WC.reg ?_ | refine WL.pure rfl rfl rfl ?_ | refine WL.nil ?_ | refine WC.skip ?_ | refine WC.block ?_ | refine WC.condT rfl ?_ | refine WC.condF rfl ?_ | refine WL.off rfl rfl rfl ?_ | refine WL.off0 rfl rfl ?_ | refine WC.exit ?_ | refine blk_hit ?_ | refine blk_miss rfl ?_ | refine WC.ret ?_)
    exact Res.two rfl rfl rfl rfl ⟨by rw [e0], hp1⟩
  have h3 : strB y = true := by simpa using h3
  obtain ⟨hl, hsm, n, rfl, hn⟩ := eqnsB_of h1
  have hE : EqM l (n : Int) x y = match completeM l n with
    | none => (0, 5)
    | some (t, b) => match formsM t (x, y) with
      | none => (0, 5)
      | some q => if q.1 = q.2 then (1, 0) else if b then (0, 0) else (-1, 0) := by
    unfold EqM
    rw [h1, h2, h3, Int.toNat_natCast]
    rfl
  have hx2 : x.length ≤ 200 := of_decide_eq_true (Bool.and_eq_true_iff.1 h2).1
  have hy2 : y.length ≤ 200 := of_decide_eq_true (Bool.and_eq_true_iff.1 h3).1
  repeat (first | refine WC.seq ?_ | refine WC.reg ?_ | refine WL.pure rfl rfl rfl ?_ | refine WL.nil ?_ | refine WC.skip ?_ | refine WC.block ?_ | refine WC.condT rfl ?_ | refine WC.condF rfl ?_ | refine WL.off rfl rfl rfl ?_ | refine WL.off0 rfl rfl ?_ | refine WC.exit ?_ | refine blk_hit ?_ | refine blk_miss rfl ?_ | refine WC.ret ?_)
  refine WL.call rfl rfl rfl rfl rfl ent41 (complete_any a cap l n hn hl hsm w1 (hmx.hp hp1) (hs.hp hp1)) ?_
  intro u w2 hu
  cases hc : completeM l n with
  | none =>
    rw [hc] at hu hE
    obtain ⟨pa, m, pc, b, rfl, hp2⟩ := hu
    repeat (first | refine WC.seq ?_ | refine WC.reg ?_ | refine WL.pure rfl rfl rfl ?_ | refine WL.nil ?_ | refine WC.skip ?_ | refine WC.block ?_ | refine WC.condT rfl ?_ | refine WC.condF rfl ?_ | refine WL.off rfl rfl rfl ?_ | refine WL.off0 rfl rfl ?_ | refine WC.exit ?_ | refine blk_hit ?_ | refine blk_miss rfl ?_ | refine WC.ret ?_)
    exact Res.two rfl rfl rfl rfl ⟨by rw [hE], hp1.over hp2⟩
  | some q =>
    obtain ⟨t, b⟩ := q
    have hS := completeM_inv hc hsm
    have hSl := hS.len
    rw [hc] at hu hE
    obtain ⟨pa, pc, rfl, hp2⟩ := hu
    have hp2 := hp1.over hp2
    simp only at hE
    repeat (first | refine WC.seq ?_ | refine WC.reg ?_ | refine WL.pure rfl rfl rfl ?_ | refine WL.nil ?_ | refine WC.skip ?_ | refine WC.block ?_ | refine WC.condT rfl ?_ | refine WC.condF rfl ?_ | refine WL.off rfl rfl rfl ?_ | refine WL.off0 rfl rfl ?_ | refine WC.exit ?_ | refine blk_hit ?_ | refine blk_miss rfl ?_ | refine WC.ret ?_)
    refine WL.buildA (cs := [st x, st y]) rfl rfl rfl rfl rfl rfl ?_
    refine WL.call rfl rfl rfl rfl rfl ent52 (forms_any pa pc t (x, y) (by omega) hS.dn ⟨by show x.length ≤ _; omega, by show y.length ≤ _; omega⟩ (hS.sm.mono (by decide)) w2 (Sl.of_row (hp2.at 0 rfl))) ?_
    rintro _ w3 ⟨rfl, hp3⟩
    have hp3 := (hp2.comb hp3).nil'
    unfold formsV
    cases hf : formsM t (x, y) with
    | none =>
      rw [hf] at hE
      repeat (first | refine WC.seq ?_ | refine WC.reg ?_ | refine WL.pure rfl rfl rfl ?_ | refine WL.nil ?_ | refine WC.skip ?_ | refine WC.block ?_ | refine WC.condT rfl ?_ | refine WC.condF rfl ?_ | refine WL.off rfl rfl rfl ?_ | refine WL.off0 rfl rfl ?_ | refine WC.exit ?_ | refine blk_hit ?_ | refine blk_miss rfl ?_ | refine WC.ret ?_)
      exact Res.two rfl rfl rfl rfl ⟨by rw [hE], hp3⟩
    | some q =>
      have hq := formsM_some hf
      rw [hf, hq] at hE
      simp only at hE
      repeat (first | refine WC.seq ?_ | refine WC.reg ?_ | refine WL.pure rfl rfl rfl ?_ | refine WL.nil ?_ | refine WC.skip ?_ | refine WC.block ?_ | refine WC.condT rfl ?_ | refine WC.condF rfl ?_ | refine WL.off rfl rfl rfl ?_ | refine WL.off0 rfl rfl ?_ | refine WC.exit ?_ | refine blk_hit ?_ | refine blk_miss rfl ?_ | refine WC.ret ?_)
      refine WL.sCmp rfl rfl rfl rfl rfl ?_
      repeat (first | refine WC.seq ?_ | refine WC.reg ?_ | refine WL.pure rfl rfl rfl ?_ | refine WL.nil ?_ | refine WC.skip ?_ | refine WC.block ?_ | refine WC.condT rfl ?_ | refine WC.condF rfl ?_ | refine WL.off rfl rfl rfl ?_ | refine WL.off0 rfl rfl ?_ | refine WC.exit ?_ | refine blk_hit ?_ | refine blk_miss rfl ?_ | refine WC.ret ?_)
      refine WC.cond rfl (fun h4 => ?_) (fun h4 => ?_)
      · have h4 : nrS t x = nrS t y := by simpa using h4
        rw [if_pos h4] at hE
        repeat (first | refine WC.seq ?_ | refine WC.reg ?_ | refine WL.pure rfl rfl rfl ?_ | refine WL.nil ?_ | refine WC.skip ?_ | refine WC.block ?_ | refine WC.condT rfl ?_ | refine WC.condF rfl ?_ | refine WL.off rfl rfl rfl ?_ | refine WL.off0 rfl rfl ?_ | refine WC.exit ?_ | refine blk_hit ?_ | refine blk_miss rfl ?_ | refine WC.ret ?_)
        exact Res.two rfl rfl rfl rfl ⟨by rw [hE], hp3⟩
      · have h4 : ¬ nrS t x = nrS t y := by simpa using h4
        rw [if_neg h4] at hE
        repeat (first | refine WC.seq ?_ | refine WC.reg ?_ | refine WL.pure rfl rfl rfl ?_ | refine WL.nil ?_ | refine WC.skip ?_ | refine WC.block ?_ | refine WC.condT rfl ?_ | refine WC.condF rfl ?_ | refine WL.off rfl rfl rfl ?_ | refine WL.off0 rfl rfl ?_ | refine WC.exit ?_ | refine blk_hit ?_ | refine blk_miss rfl ?_ | refine WC.ret ?_)
        cases b with
        | true =>
          repeat (first | refine WC.seq ?_ | refine WC.reg ?_ | refine WL.pure rfl rfl rfl ?_ | refine WL.nil ?_ | refine WC.skip ?_ | refine WC.block ?_ | refine WC.condT rfl ?_ | refine WC.condF rfl ?_ | refine WL.off rfl rfl rfl ?_ | refine WL.off0 rfl rfl ?_ | refine WC.exit ?_ | refine blk_hit ?_ | refine blk_miss rfl ?_ | refine WC.ret ?_)
          exact Res.two rfl rfl rfl rfl ⟨by rw [hE]; rfl, hp3⟩
        | false =>
          repeat (first | refine WC.seq ?_ | refine WC.reg ?_ | refine WL.pure rfl rfl rfl ?_ | refine WL.nil ?_ | refine WC.skip ?_ | refine WC.block ?_ | refine WC.condT rfl ?_ | refine WC.condF rfl ?_ | refine WL.off rfl rfl rfl ?_ | refine WL.off0 rfl rfl ?_ | refine WC.exit ?_ | refine blk_hit ?_ | refine blk_miss rfl ?_ | refine WC.ret ?_)
          exact Res.two rfl rfl rfl rfl ⟨by rw [hE]; rfl, hp3⟩
end Go.Proofs.YtoghnhbjdnjghaaGreat
