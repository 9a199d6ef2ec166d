/- The walk of Pairs. -/
import Derived.Test.YtoghnhbjdnjghaaGreatV5
namespace Go.Proofs.YtoghnhbjdnjghaaGreat
open Go.W Go.Words Go.RowKit
set_option maxRecDepth 100000
attribute [local irreducible] WC WL WQ WS WH

theorem Pairs_any (a : Option Addr) (cap : Nat) (l : List Rl) (hm : Sm 9223372036854775807 l) (w : World) (hs : Sl w a (rcs l)) :
    Ret Tryz.prog 20 [.slice a l.length cap] w fun u w' => ∃ pa pc, u = .tuple #[.slice pa (if sysB l then pairsM l else []).length pc, .int .i64 (if sysB l then 0 else 2)] ∧ Hp w w' [Rr (.slice pa (if sysB l then pairsM l else []).length pc) (if sysB l then pairsM l else [])] := by
  refine enter Tryz.func20 rfl rfl ⟨rfl, rfl⟩ rfl ?_
  repeat (first | refine WC.seq ?_ | refine WC.reg ?_ | refine WL.pure rfl rfl rfl ?_ | refine WL.nil ?_ | refine WC.skip ?_ | refine WC.block ?_ | refine WC.condT rfl ?_ | refine WC.condF rfl ?_ | refine WL.off rfl rfl rfl ?_ | refine WL.off0 rfl rfl ?_ | refine WC.exit ?_ | refine blk_hit ?_ | refine blk_miss rfl ?_ | refine WC.ret ?_)
  refine WL.call rfl rfl rfl rfl rfl ent33 (isSystem_any a cap l hm w hs) ?_
  rintro _ w1 ⟨rfl, hp1⟩
  repeat (first | refine WC.seq ?_ | refine WC.reg ?_ | refine WL.pure rfl rfl rfl ?_ | refine WL.nil ?_ | refine WC.skip ?_ | refine WC.block ?_ | refine WC.condT rfl ?_ | refine WC.condF rfl ?_ | refine WL.off rfl rfl rfl ?_ | refine WL.off0 rfl rfl ?_ | refine WC.exit ?_ | refine blk_hit ?_ | refine blk_miss rfl ?_ | refine WC.ret ?_)
  refine WC.cond rfl (fun h1 => ?_) (fun h1 => ?_)
  · have h1 : sysB l = false := by simpa using h1
    repeat (first | refine WC.seq ?_ | refine WC.reg ?_ | refine WL.pure rfl rfl rfl ?_ | refine WL.nil ?_ | refine WC.skip ?_ | refine WC.block ?_ | refine WC.condT rfl ?_ | refine WC.condF rfl ?_ | refine WL.off rfl rfl rfl ?_ | refine WL.off0 rfl rfl ?_ | refine WC.exit ?_ | refine blk_hit ?_ | refine blk_miss rfl ?_ | refine WC.ret ?_)
    exact Res.two rfl rfl rfl rfl ⟨none, 0, by rw [h1]; rfl, by rw [h1]; exact hp1.nilrow _ _⟩
  · have h1 : sysB l = true := by simpa using h1
    have hln : l.length ≤ 64 := of_decide_eq_true (Bool.and_eq_true_iff.1 h1).1
    have hm2 : Sm 1000 l := fun r hr => ⟨by have := (sys_side h1 r hr).1; omega, by have := (sys_side h1 r hr).2; omega⟩
    repeat (first | refine WC.seq ?_ | refine WC.reg ?_ | refine WL.pure rfl rfl rfl ?_ | refine WL.nil ?_ | refine WC.skip ?_ | refine WC.block ?_ | refine WC.condT rfl ?_ | refine WC.condF rfl ?_ | refine WL.off rfl rfl rfl ?_ | refine WL.off0 rfl rfl ?_ | refine WC.exit ?_ | refine blk_hit ?_ | refine blk_miss rfl ?_ | refine WC.ret ?_)
    refine WL.call rfl rfl rfl rfl rfl ent44 (pairs_any a cap l (by omega) hm2 w1 (hs.hp hp1)) ?_
    rintro _ w2 ⟨pa, pc, rfl, hp2⟩
    repeat (first | refine WC.seq ?_ | refine WC.reg ?_ | refine WL.pure rfl rfl rfl ?_ | refine WL.nil ?_ | refine WC.skip ?_ | refine WC.block ?_ | refine WC.condT rfl ?_ | refine WC.condF rfl ?_ | refine WL.off rfl rfl rfl ?_ | refine WL.off0 rfl rfl ?_ | refine WC.exit ?_ | refine blk_hit ?_ | refine blk_miss rfl ?_ | refine WC.ret ?_)
    exact Res.two rfl rfl rfl rfl ⟨pa, pc, by rw [h1]; rfl, by rw [h1]; exact hp1.over hp2⟩
end Go.Proofs.YtoghnhbjdnjghaaGreat
