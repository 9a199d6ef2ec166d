/- The walks of the reference's letters, Equation and Greater. -/
import Derived.Test.YtoghnhbjdnjghaaGreatV22
namespace Go.Words
open Go.W
theorem pre_take {t s : Str} : t.isPrefixOf s = decide (t = s.take t.length) := by
  rw [Bool.eq_iff_iff, List.isPrefixOf_iff_prefix, decide_eq_true_iff]
  exact List.prefix_iff_eq_take
def grtB (a b : Str) : Bool := decide (0 < ordS a b)
end Go.Words
namespace Go.Proofs.YtoghnhbjdnjghaaGreat
open Go.W Go.Words Go.RowKit
set_option maxRecDepth 100000
attribute [local irreducible] WC WL WQ WS WH

theorem rletters_any (s : Str) (hl : s.length ≤ 9223372036854775807) : Pur Tryz.prog 38 [st s] (.bool (lettersB s)) := by
  intro w
  refine enter Tryz.func38 rfl rfl ⟨rfl, rfl⟩ rfl ?_
  repeat (first | refine WC.seq ?_ | refine WC.reg ?_ | refine WL.pure rfl rfl rfl ?_ | refine WL.nil ?_ | refine WC.skip ?_ | refine WC.block ?_ | refine WC.condT rfl ?_ | refine WC.condF rfl ?_ | refine WL.off rfl rfl rfl ?_ | refine WL.off0 rfl rfl ?_ | refine WC.exit ?_ | refine blk_hit ?_ | refine blk_miss rfl ?_ | refine WC.ret ?_)
  refine WC.loop Nat (fun i => [(0, st s), (3, .int .i64 (i : Nat))]) (fun i w' => w' = w ∧ i ≤ s.length ∧ lettersB (s.take i) = true) (fun i => s.length - i) 0 ⟨rfl, rfl, rfl⟩ ⟨rfl, by omega, rfl⟩ ?_
  rintro i w1 ⟨rfl, hi, h0⟩
  repeat (first | refine WC.seq ?_ | refine WC.reg ?_ | refine WL.pure rfl rfl rfl ?_ | refine WL.nil ?_ | refine WC.skip ?_ | refine WC.block ?_ | refine WC.condT rfl ?_ | refine WC.condF rfl ?_ | refine WL.off rfl rfl rfl ?_ | refine WL.off0 rfl rfl ?_ | refine WC.exit ?_ | refine blk_hit ?_ | refine blk_miss rfl ?_ | refine WC.ret ?_)
  refine WC.cond rfl (fun h => ?_) (fun h => ?_)
  · have hi : i < s.length := by have := of_decide_eq_true h; rw [sb_size] at this; omega
    have step := wrap_succ hi hl
    have hb := letB_i s[i]
    have hs : lettersB s = (letB s[i] && lettersB (s.drop (i + 1))) := by
      have e1 : s = s.take i ++ (s[i] :: s.drop (i + 1)) := by rw [List.getElem_cons_drop, List.take_append_drop]
      unfold lettersB at *
      conv => lhs; rw [e1]
      rw [List.all_append, h0, List.all_cons]; rfl
    repeat (first | refine WC.seq ?_ | refine WC.reg ?_ | refine WL.pure rfl rfl rfl ?_ | refine WL.nil ?_ | refine WC.skip ?_ | refine WC.block ?_ | refine WC.condT rfl ?_ | refine WC.condF rfl ?_ | refine WL.off rfl rfl rfl ?_ | refine WL.off0 rfl rfl ?_ | refine WC.exit ?_ | refine blk_hit ?_ | refine blk_miss rfl ?_ | refine WC.ret ?_)
    refine WL.sAt rfl rfl rfl rfl rfl hi ?_
    repeat (first | refine WC.seq ?_ | refine WC.reg ?_ | refine WL.pure rfl rfl rfl ?_ | refine WL.nil ?_ | refine WC.skip ?_ | refine WC.block ?_ | refine WC.condT rfl ?_ | refine WC.condF rfl ?_ | refine WL.off rfl rfl rfl ?_ | refine WL.off0 rfl rfl ?_ | refine WC.exit ?_ | refine blk_hit ?_ | refine blk_miss rfl ?_ | refine WC.ret ?_)
    refine WL.split 14 rfl (fun h1 => ?_) (fun h1 => ?_)
    · rw [h1] at hb
      have hb : letB s[i] = false := by simpa using hb
      repeat (first | refine WC.seq ?_ | refine WC.reg ?_ | refine WL.pure rfl rfl rfl ?_ | refine WL.nil ?_ | refine WC.skip ?_ | refine WC.block ?_ | refine WC.condT rfl ?_ | refine WC.condF rfl ?_ | refine WL.off rfl rfl rfl ?_ | refine WL.off0 rfl rfl ?_ | refine WC.exit ?_ | refine blk_hit ?_ | refine blk_miss rfl ?_ | refine WC.ret ?_)
      exact Res.one rfl rfl rfl ⟨by rw [hs, hb]; rfl, rfl⟩
    · rw [h1] at hb
      repeat (first | refine WC.seq ?_ | refine WC.reg ?_ | refine WL.pure rfl rfl rfl ?_ | refine WL.nil ?_ | refine WC.skip ?_ | refine WC.block ?_ | refine WC.condT rfl ?_ | refine WC.condF rfl ?_ | refine WL.off rfl rfl rfl ?_ | refine WL.off0 rfl rfl ?_ | refine WC.exit ?_ | refine blk_hit ?_ | refine blk_miss rfl ?_ | refine WC.ret ?_)
      refine WL.sAt rfl rfl rfl rfl rfl hi ?_
      repeat (first | refine WC.seq ?_ | refine WC.reg ?_ | refine WL.pure rfl rfl rfl ?_ | refine WL.nil ?_ | refine WC.skip ?_ | refine WC.block ?_ | refine WC.condT rfl ?_ | refine WC.condF rfl ?_ | refine WL.off rfl rfl rfl ?_ | refine WL.off0 rfl rfl ?_ | refine WC.exit ?_ | refine blk_hit ?_ | refine blk_miss rfl ?_ | refine WC.ret ?_)
      refine WC.cond rfl (fun h2 => ?_) (fun h2 => ?_)
      · have h2 : decide ((104 : Int) < (s[i].toNat : Int)) = true := h2
        rw [h2] at hb
        have hb : letB s[i] = false := by simpa using hb
        repeat (first | refine WC.seq ?_ | refine WC.reg ?_ | refine WL.pure rfl rfl rfl ?_ | refine WL.nil ?_ | refine WC.skip ?_ | refine WC.block ?_ | refine WC.condT rfl ?_ | refine WC.condF rfl ?_ | refine WL.off rfl rfl rfl ?_ | refine WL.off0 rfl rfl ?_ | refine WC.exit ?_ | refine blk_hit ?_ | refine blk_miss rfl ?_ | refine WC.ret ?_)
        exact Res.one rfl rfl rfl ⟨by rw [hs, hb]; rfl, rfl⟩
      · have h2 : decide ((104 : Int) < (s[i].toNat : Int)) = false := h2
        rw [h2] at hb
        have hb : letB s[i] = true := by simpa using hb
        repeat (first | refine WC.seq ?_ | refine WC.reg ?_ | refine WL.pure rfl rfl rfl ?_ | refine WL.nil ?_ | refine WC.skip ?_ | refine WC.block ?_ | refine WC.condT rfl ?_ | refine WC.condF rfl ?_ | refine WL.off rfl rfl rfl ?_ | refine WL.off0 rfl rfl ?_ | refine WC.exit ?_ | refine blk_hit ?_ | refine blk_miss rfl ?_ | refine WC.ret ?_)
        refine ⟨i + 1, by show s.length - (i + 1) < s.length - i; omega, ⟨rfl, congrArg (fun z => some (Value.int .i64 z)) step, rfl⟩, rfl, hi, ?_⟩
        unfold lettersB at *
        rw [List.take_succ_eq_append_getElem hi, List.all_append, h0]
        simp [hb]
  · have hi : i = s.length := by have := of_decide_eq_false h; rw [sb_size] at this; omega
    subst hi
    rw [List.take_length] at h0
    repeat (first | refine WC.seq ?_ | refine WC.reg ?_ | refine WL.pure rfl rfl rfl ?_ | refine WL.nil ?_ | refine WC.skip ?_ | refine WC.block ?_ | refine WC.condT rfl ?_ | refine WC.condF rfl ?_ | refine WL.off rfl rfl rfl ?_ | refine WL.off0 rfl rfl ?_ | refine WC.exit ?_ | refine blk_hit ?_ | refine blk_miss rfl ?_ | refine WC.ret ?_)
    exact Res.one rfl rfl rfl ⟨by rw [h0], rfl⟩
theorem rEquation_any (r : Rl) (hl : r.1.length ≤ 9223372036854775807) (hr : r.2.length ≤ 9223372036854775807) (w : World) : Ret Tryz.prog 36 [.agg #[st r.1, st r.2]] w fun u w' => u = .bool (eqnB r) ∧ Hp w w' [] := by
  refine enter Tryz.func36 rfl rfl ⟨rfl, rfl⟩ rfl ?_
  have e0 : eqnB r = (decide (r.1.length ≤ 24) && decide (r.2.length ≤ 24) && lettersB r.1 && lettersB r.2) := by
    unfold eqnB sideB
    cases decide (r.1.length ≤ 24) <;> cases decide (r.2.length ≤ 24) <;> cases lettersB r.1 <;> rfl
  rw [e0]
  repeat (first | refine WC.seq ?_ | refine WC.reg ?_ | refine WL.pure rfl rfl rfl ?_ | refine WL.nil ?_ | refine WC.skip ?_ | refine WC.block ?_ | refine WC.condT rfl ?_ | refine WC.condF rfl ?_ | refine WL.off rfl rfl rfl ?_ | refine WL.off0 rfl rfl ?_ | refine WC.exit ?_ | refine blk_hit ?_ | refine blk_miss rfl ?_ | refine WC.ret ?_)
  refine WL.box rfl rfl rfl ?_
  intro b1 w1 hb1
  have hp1 : Hp w w1 [Bx b1 r] := (Hp.start w).new hb1
  repeat (first | refine WC.seq ?_ | refine WC.reg ?_ | refine WL.pure rfl rfl rfl ?_ | refine WL.nil ?_ | refine WC.skip ?_ | refine WC.block ?_ | refine WC.condT rfl ?_ | refine WC.condF rfl ?_ | refine WL.off rfl rfl rfl ?_ | refine WL.off0 rfl rfl ?_ | refine WC.exit ?_ | refine blk_hit ?_ | refine blk_miss rfl ?_ | refine WC.ret ?_)
  refine WL.loadB rfl rfl rfl rfl rfl (hp1.obj 0 rfl) (j := 0) rfl ?_
  repeat (first | refine WC.seq ?_ | refine WC.reg ?_ | refine WL.pure rfl rfl rfl ?_ | refine WL.nil ?_ | refine WC.skip ?_ | refine WC.block ?_ | refine WC.condT rfl ?_ | refine WC.condF rfl ?_ | refine WL.off rfl rfl rfl ?_ | refine WL.off0 rfl rfl ?_ | refine WC.exit ?_ | refine blk_hit ?_ | refine blk_miss rfl ?_ | refine WC.ret ?_)
  refine WL.split 7 rfl (fun h1 => ?_) (fun h1 => ?_)
  · have h1 : r.1.length ≤ 24 := by have := of_decide_eq_true h1; rw [sb_size] at this; omega
    rw [decide_eq_true h1, Bool.true_and]
    repeat (first | refine WC.seq ?_ | refine WC.reg ?_ | refine WL.pure rfl rfl rfl ?_ | refine WL.nil ?_ | refine WC.skip ?_ | refine WC.block ?_ | refine WC.condT rfl ?_ | refine WC.condF rfl ?_ | refine WL.off rfl rfl rfl ?_ | refine WL.off0 rfl rfl ?_ | refine WC.exit ?_ | refine blk_hit ?_ | refine blk_miss rfl ?_ | refine WC.ret ?_)
    refine WL.loadB rfl rfl rfl rfl rfl (hp1.obj 0 rfl) (j := 1) rfl ?_
    repeat (first | refine WC.seq ?_ | refine WC.reg ?_ | refine WL.pure rfl rfl rfl ?_ | refine WL.nil ?_ | refine WC.skip ?_ | refine WC.block ?_ | refine WC.condT rfl ?_ | refine WC.condF rfl ?_ | refine WL.off rfl rfl rfl ?_ | refine WL.off0 rfl rfl ?_ | refine WC.exit ?_ | refine blk_hit ?_ | refine blk_miss rfl ?_ | refine WC.ret ?_)
    refine WL.split 13 rfl (fun h2 => ?_) (fun h2 => ?_)
    · have h2 : r.2.length ≤ 24 := by have := of_decide_eq_true h2; rw [sb_size] at this; omega
      rw [decide_eq_true h2, Bool.true_and]
      repeat (first | refine WC.seq ?_ | refine WC.reg ?_ | refine WL.pure rfl rfl rfl ?_ | refine WL.nil ?_ | refine WC.skip ?_ | refine WC.block ?_ | refine WC.condT rfl ?_ | refine WC.condF rfl ?_ | refine WL.off rfl rfl rfl ?_ | refine WL.off0 rfl rfl ?_ | refine WC.exit ?_ | refine blk_hit ?_ | refine blk_miss rfl ?_ | refine WC.ret ?_)
      refine WL.loadB rfl rfl rfl rfl rfl (hp1.obj 0 rfl) (j := 0) rfl ?_
      refine WL.callP rfl rfl rfl rfl rfl ent38 (rletters_any r.1 hl w1) ?_
      repeat (first | refine WC.seq ?_ | refine WC.reg ?_ | refine WL.pure rfl rfl rfl ?_ | refine WL.nil ?_ | refine WC.skip ?_ | refine WC.block ?_ | refine WC.condT rfl ?_ | refine WC.condF rfl ?_ | refine WL.off rfl rfl rfl ?_ | refine WL.off0 rfl rfl ?_ | refine WC.exit ?_ | refine blk_hit ?_ | refine blk_miss rfl ?_ | refine WC.ret ?_)
      refine WL.split 18 rfl (fun h3 => ?_) (fun h3 => ?_)
      · rw [h3, Bool.true_and]
        repeat (first | refine WC.seq ?_ | refine WC.reg ?_ | refine WL.pure rfl rfl rfl ?_ | refine WL.nil ?_ | refine WC.skip ?_ | refine WC.block ?_ | refine WC.condT rfl ?_ | refine WC.condF rfl ?_ | refine WL.off rfl rfl rfl ?_ | refine WL.off0 rfl rfl ?_ | refine WC.exit ?_ | refine blk_hit ?_ | refine blk_miss rfl ?_ | refine WC.ret ?_)
        refine WL.loadB rfl rfl rfl rfl rfl (hp1.obj 0 rfl) (j := 1) rfl ?_
        refine WL.callP rfl rfl rfl rfl rfl ent38 (rletters_any r.2 hr w1) ?_
        repeat (first | refine WC.seq ?_ | refine WC.reg ?_ | refine WL.pure rfl rfl rfl ?_ | refine WL.nil ?_ | refine WC.skip ?_ | refine WC.block ?_ | refine WC.condT rfl ?_ | refine WC.condF rfl ?_ | refine WL.off rfl rfl rfl ?_ | refine WL.off0 rfl rfl ?_ | refine WC.exit ?_ | refine blk_hit ?_ | refine blk_miss rfl ?_ | refine WC.ret ?_)
        exact Res.one rfl rfl rfl ⟨rfl, hp1.nil'⟩
      · rw [h3, Bool.false_and]
        repeat (first | refine WC.seq ?_ | refine WC.reg ?_ | refine WL.pure rfl rfl rfl ?_ | refine WL.nil ?_ | refine WC.skip ?_ | refine WC.block ?_ | refine WC.condT rfl ?_ | refine WC.condF rfl ?_ | refine WL.off rfl rfl rfl ?_ | refine WL.off0 rfl rfl ?_ | refine WC.exit ?_ | refine blk_hit ?_ | refine blk_miss rfl ?_ | refine WC.ret ?_)
        exact Res.one rfl rfl rfl ⟨rfl, hp1.nil'⟩
    · have h2 : ¬ r.2.length ≤ 24 := by have := of_decide_eq_false h2; rw [sb_size] at this; omega
      rw [decide_eq_false h2, Bool.false_and, Bool.false_and]
      repeat (first | refine WC.seq ?_ | refine WC.reg ?_ | refine WL.pure rfl rfl rfl ?_ | refine WL.nil ?_ | refine WC.skip ?_ | refine WC.block ?_ | refine WC.condT rfl ?_ | refine WC.condF rfl ?_ | refine WL.off rfl rfl rfl ?_ | refine WL.off0 rfl rfl ?_ | refine WC.exit ?_ | refine blk_hit ?_ | refine blk_miss rfl ?_ | refine WC.ret ?_)
      exact Res.one rfl rfl rfl ⟨rfl, hp1.nil'⟩
  · have h1 : ¬ r.1.length ≤ 24 := by have := of_decide_eq_false h1; rw [sb_size] at this; omega
    rw [decide_eq_false h1, Bool.false_and, Bool.false_and, Bool.false_and]
    repeat (first | refine WC.seq ?_ | refine WC.reg ?_ | refine WL.pure rfl rfl rfl ?_ | refine WL.nil ?_ | refine WC.skip ?_ | refine WC.block ?_ | refine WC.condT rfl ?_ | refine WC.condF rfl ?_ | refine WL.off rfl rfl rfl ?_ | refine WL.off0 rfl rfl ?_ | refine WC.exit ?_ | refine blk_hit ?_ | refine blk_miss rfl ?_ | refine WC.ret ?_)
    exact Res.one rfl rfl rfl ⟨rfl, hp1.nil'⟩
theorem rGreater_any (a b : Str) : Pur Tryz.prog 37 [st a, st b] (.bool (grtB a b)) := by
  intro w
  refine enter Tryz.func37 rfl rfl ⟨rfl, rfl⟩ rfl ?_
  unfold grtB ordS
  repeat (first | refine WC.seq ?_ | refine WC.reg ?_ | refine WL.pure rfl rfl rfl ?_ | refine WL.nil ?_ | refine WC.skip ?_ | refine WC.block ?_ | refine WC.condT rfl ?_ | refine WC.condF rfl ?_ | refine WL.off rfl rfl rfl ?_ | refine WL.off0 rfl rfl ?_ | refine WC.exit ?_ | refine blk_hit ?_ | refine blk_miss rfl ?_ | refine WC.ret ?_)
  refine WC.cond rfl (fun h1 => ?_) (fun h1 => ?_)
  · have h1 : a.length ≠ b.length := fun h => by
      have h1 : ((((sb a).size : Nat) : Int) != (((sb b).size : Nat) : Int)) = true := h1
      rw [sb_size, sb_size, h] at h1
      simp at h1
    repeat (first | refine WC.seq ?_ | refine WC.reg ?_ | refine WL.pure rfl rfl rfl ?_ | refine WL.nil ?_ | refine WC.skip ?_ | refine WC.block ?_ | refine WC.condT rfl ?_ | refine WC.condF rfl ?_ | refine WL.off rfl rfl rfl ?_ | refine WL.off0 rfl rfl ?_ | refine WC.exit ?_ | refine blk_hit ?_ | refine blk_miss rfl ?_ | refine WC.ret ?_)
    refine Res.one rfl rfl rfl ⟨?_, rfl⟩
    congr 1
    rw [sb_size, sb_size]
    rcases Nat.lt_or_gt_of_ne h1 with h | h
    · rw [if_pos h, decide_eq_false (by omega : ¬ ((b.length : Int) < (a.length : Int)))]; rfl
    · rw [if_neg (by omega), if_pos h, decide_eq_true (by omega : ((b.length : Int) < (a.length : Int)))]; rfl
  · have h1 : a.length = b.length := by
      have h1 : ((((sb a).size : Nat) : Int) != (((sb b).size : Nat) : Int)) = false := h1
      rw [sb_size, sb_size] at h1
      simp at h1
      omega
    repeat (first | refine WC.seq ?_ | refine WC.reg ?_ | refine WL.pure rfl rfl rfl ?_ | refine WL.nil ?_ | refine WC.skip ?_ | refine WC.block ?_ | refine WC.condT rfl ?_ | refine WC.condF rfl ?_ | refine WL.off rfl rfl rfl ?_ | refine WL.off0 rfl rfl ?_ | refine WC.exit ?_ | refine blk_hit ?_ | refine blk_miss rfl ?_ | refine WC.ret ?_)
    refine WL.sCmp rfl rfl rfl rfl rfl ?_
    repeat (first | refine WC.seq ?_ | refine WC.reg ?_ | refine WL.pure rfl rfl rfl ?_ | refine WL.nil ?_ | refine WC.skip ?_ | refine WC.block ?_ | refine WC.condT rfl ?_ | refine WC.condF rfl ?_ | refine WL.off rfl rfl rfl ?_ | refine WL.off0 rfl rfl ?_ | refine WC.exit ?_ | refine blk_hit ?_ | refine blk_miss rfl ?_ | refine WC.ret ?_)
    refine Res.one rfl rfl rfl ⟨?_, rfl⟩
    congr 1
    rw [if_neg (by omega), if_neg (by omega)]
    rw [ltS_cmp a b]
    by_cases he : a = b
    · rw [decide_eq_true he, Bool.or_true, he, cmpB_self]; rfl
    · have h0 : cmpB a b ≠ 0 := fun h => he (cmpB_zero a b h)
      rw [decide_eq_false he, Bool.or_false, Bool.eq_iff_iff, Bool.not_eq_true', decide_eq_false_iff_not, decide_eq_true_iff]
      omega
end Go.Proofs.YtoghnhbjdnjghaaGreat
