/- The walk of the reference's Oriented. -/
import Derived.Test.YtoghnhbjdnjghaaV23a
namespace Go.Words
open Go.W Go.Proofs.Ytoghnhbjdnjghaa
theorem ori_eq (a b : Str) : (if grtB a b = true then (a, b) else (b, a) : Rl) = dirM a b := by
  unfold grtB dirM
  by_cases h : 0 < ordS a b
  · rw [if_pos (decide_eq_true h), if_neg (by omega)]
  · rw [if_neg (by rw [decide_eq_false h]; decide)]
    by_cases h2 : ordS a b < 0
    · rw [if_pos h2]
    · rw [if_neg h2, ordS_zero (show ordS a b = 0 by omega)]
theorem bef_eq (a b : Rl) : (if a.1 = b.1 then grtB b.2 a.2 else grtB b.1 a.1) = decide (ordR a b < 0) := by
  unfold grtB ordR
  have n1 := ordS_neg a.1 b.1
  have n2 := ordS_neg a.2 b.2
  by_cases h : a.1 = b.1
  · have h0 : ordS a.1 b.1 = 0 := by rw [h, ordS_self]
    rw [if_pos h, if_pos h0, Bool.eq_iff_iff, decide_eq_true_iff, decide_eq_true_iff]
    omega
  · have h0 : ordS a.1 b.1 ≠ 0 := fun h' => h (ordS_zero h')
    rw [if_neg h, if_neg h0, Bool.eq_iff_iff, decide_eq_true_iff, decide_eq_true_iff]
    omega
end Go.Words
namespace Go.Proofs.Ytoghnhbjdnjghaa
open Go.W Go.Words Go.RowKit
set_option maxRecDepth 100000
attribute [local irreducible] WC WL WQ WS WH

theorem Oriented_any (x y : Str) (w : World) : Ret Try.prog 35 [st x, st y] w fun u w' => u = .agg #[st (dirM x y).1, st (dirM x y).2] ∧ Hp w w' [] := by
  have hO := ori_eq x y
  refine enter Try.func35 rfl rfl ⟨rfl, rfl⟩ rfl ?_
  repeat (first | refine WC.seq ?_ | refine WC.reg ?_ | refine WL.pure rfl rfl rfl ?_ | refine WL.nil ?_ | refine WC.skip ?_ | refine WC.block ?_ | refine WC.condT rfl ?_ | refine WC.condF rfl ?_ | refine WL.off rfl rfl rfl ?_ | refine WL.off0 rfl rfl ?_ | refine WC.exit ?_ | refine blk_hit ?_ | refine blk_miss rfl ?_ | refine WC.ret ?_)
  refine WL.alloc rfl rfl rfl ?_
  intro b4 w1 hb4
  have hp1 := (Hp.start w).new hb4
  repeat (first | refine WC.seq ?_ | refine WC.reg ?_ | refine WL.pure rfl rfl rfl ?_ | refine WL.nil ?_ | refine WC.skip ?_ | refine WC.block ?_ | refine WC.condT rfl ?_ | refine WC.condF rfl ?_ | refine WL.off rfl rfl rfl ?_ | refine WL.off0 rfl rfl ?_ | refine WC.exit ?_ | refine blk_hit ?_ | refine blk_miss rfl ?_ | refine WC.ret ?_)
  refine WL.callP rfl rfl rfl rfl rfl ent13 (rGreater_any x y w1) ?_
  repeat (first | refine WC.seq ?_ | refine WC.reg ?_ | refine WL.pure rfl rfl rfl ?_ | refine WL.nil ?_ | refine WC.skip ?_ | refine WC.block ?_ | refine WC.condT rfl ?_ | refine WC.condF rfl ?_ | refine WL.off rfl rfl rfl ?_ | refine WL.off0 rfl rfl ?_ | refine WC.exit ?_ | refine blk_hit ?_ | refine blk_miss rfl ?_ | refine WC.ret ?_)
  refine WC.cond rfl (fun h1 => ?_) (fun h1 => ?_)
  · rw [if_pos h1] at hO
    repeat (first | refine WC.seq ?_ | refine WC.reg ?_ | refine WL.pure rfl rfl rfl ?_ | refine WL.nil ?_ | refine WC.skip ?_ | refine WC.block ?_ | refine WC.condT rfl ?_ | refine WC.condF rfl ?_ | refine WL.off rfl rfl rfl ?_ | refine WL.off0 rfl rfl ?_ | refine WC.exit ?_ | refine blk_hit ?_ | refine blk_miss rfl ?_ | refine WC.ret ?_)
    refine WL.buildT (cs := [st x, st y]) rfl rfl rfl rfl rfl rfl ?_
    refine WL.storeN (vs := #[st x, st y]) (arr2 := #[st x, st y]) rfl rfl rfl rfl rfl (rc_one (x, y)) (hp1.obj 0 rfl) (Nat.le_refl 2) rfl (fun w3 hw3 => ?_)
    have hp3 := hp1.set 0 rfl rfl hw3
    repeat (first | refine WC.seq ?_ | refine WC.reg ?_ | refine WL.pure rfl rfl rfl ?_ | refine WL.nil ?_ | refine WC.skip ?_ | refine WC.block ?_ | refine WC.condT rfl ?_ | refine WC.condF rfl ?_ | refine WL.off rfl rfl rfl ?_ | refine WL.off0 rfl rfl ?_ | refine WC.exit ?_ | refine blk_hit ?_ | refine blk_miss rfl ?_ | refine WC.ret ?_)
    exact Res.cell rfl rfl rfl rfl rfl rfl (hp3.obj 0 rfl) ⟨by rw [← hO], hp3.nil'⟩
  · rw [if_neg (by rw [h1]; decide)] at hO
    repeat (first | refine WC.seq ?_ | refine WC.reg ?_ | refine WL.pure rfl rfl rfl ?_ | refine WL.nil ?_ | refine WC.skip ?_ | refine WC.block ?_ | refine WC.condT rfl ?_ | refine WC.condF rfl ?_ | refine WL.off rfl rfl rfl ?_ | refine WL.off0 rfl rfl ?_ | refine WC.exit ?_ | refine blk_hit ?_ | refine blk_miss rfl ?_ | refine WC.ret ?_)
    refine WL.buildT (cs := [st y, st x]) rfl rfl rfl rfl rfl rfl ?_
    refine WL.storeN (vs := #[st y, st x]) (arr2 := #[st y, st x]) rfl rfl rfl rfl rfl (rc_one (y, x)) (hp1.obj 0 rfl) (Nat.le_refl 2) rfl (fun w3 hw3 => ?_)
    have hp3 := hp1.set 0 rfl rfl hw3
    repeat (first | refine WC.seq ?_ | refine WC.reg ?_ | refine WL.pure rfl rfl rfl ?_ | refine WL.nil ?_ | refine WC.skip ?_ | refine WC.block ?_ | refine WC.condT rfl ?_ | refine WC.condF rfl ?_ | refine WL.off rfl rfl rfl ?_ | refine WL.off0 rfl rfl ?_ | refine WC.exit ?_ | refine blk_hit ?_ | refine blk_miss rfl ?_ | refine WC.ret ?_)
    exact Res.cell rfl rfl rfl rfl rfl rfl (hp3.obj 0 rfl) ⟨by rw [← hO], hp3.nil'⟩
end Go.Proofs.Ytoghnhbjdnjghaa
