/- ltl, twentieth: the tests of run. -/
import Derived.Test.YtpbbneclkhfgoaaDoorU19
namespace Go.Proofs.YtpbbneclkhfgoaaDoor
open Go.W Go.Ltl Go.RowKit
set_option maxRecDepth 100000
attribute [local irreducible] WC WL WQ WS WH

theorem run1_any (z : Int) (w : World) : Ret Tryd.prog 89 [.int .i64 z] w fun v w' => v = .bool true ∧ w' = w := by
  refine enter Tryd.func89 rfl rfl ⟨rfl, rfl⟩ rfl ?_
  repeat (first | refine WC.seq ?_ | refine WC.reg ?_ | refine WL.pure rfl rfl rfl ?_ | refine WL.nil ?_ | refine WC.skip ?_ | refine WC.block ?_ | refine WC.condT rfl ?_ | refine WC.condF rfl ?_ | refine WL.off rfl rfl rfl ?_ | refine WL.off0 rfl rfl ?_ | refine WC.exit ?_ | refine blk_hit ?_ | refine blk_miss rfl ?_ | refine WC.ret ?_)
  exact Res.one rfl rfl rfl ⟨rfl, rfl⟩
theorem run3_any {w : World} {vb hb ab n c : Nat} {l : List Nat} (home : Nat) (h1 : w.cell? ⟨vb, 0, none⟩ = some (.slice (some ⟨ab, 0, none⟩) n c)) (h2 : w.cell? ⟨hb, 0, none⟩ = some (.int .i64 (home : Nat)))
    (hn : n = l.length) (h3 : ∀ i (h : i < l.length), w.cell? ⟨ab, 0 + i, none⟩ = some (.int .i64 (l[i] : Nat))) (v : Nat) (hv : v < l.length) (hh : home < l.length) :
    Ret Tryd.prog 92 [.int .i64 (v : Nat), ptr vb, ptr hb] w fun u w' => u = .bool (decide (l[v] = l[home])) ∧ Hp w w' [] := by
  have hcell : ∀ i (h : i < l.length), w.cell? ⟨ab, 0 + i * ti3.size, none⟩ = some (.int .i64 (l[i] : Nat)) := fun i h => by rw [show ti3.size = 1 from rfl, Nat.mul_one]; exact h3 i h
  refine enter Tryd.func92 rfl rfl ⟨rfl, rfl⟩ rfl ?_
  repeat (first | refine WC.seq ?_ | refine WC.reg ?_ | refine WL.pure rfl rfl rfl ?_ | refine WL.nil ?_ | refine WC.skip ?_ | refine WC.block ?_ | refine WC.condT rfl ?_ | refine WC.condF rfl ?_ | refine WL.off rfl rfl rfl ?_ | refine WL.off0 rfl rfl ?_ | refine WC.exit ?_ | refine blk_hit ?_ | refine blk_miss rfl ?_ | refine WC.ret ?_)
  refine WC.regQ (fun w' => Hp w w' []) mixed (by kernel_rfl) (fun w' hw' => (Hp.start w).keep hw') ?_
  refine WQ.load rfl rfl rfl rfl rfl (fun w' h => cell_below h.below h1) ?_
  repeat (first | refine WQ.pure rfl rfl rfl ?_ | refine WQ.off rfl rfl rfl ?_ | refine WQ.nil ?_)
  refine WQ.ix rfl rfl rfl rfl rfl rfl (by omega) ?_
  refine WQ.load rfl rfl rfl rfl rfl (fun w' h => cell_below h.below (hcell v hv)) ?_
  refine WQ.load rfl rfl rfl rfl rfl (fun w' h => cell_below h.below h1) ?_
  refine WQ.load rfl rfl rfl rfl rfl (fun w' h => cell_below h.below h2) ?_
  refine WQ.ix rfl rfl rfl rfl rfl rfl (by omega) ?_
  refine WQ.load rfl rfl rfl rfl rfl (fun w' h => cell_below h.below (hcell home hh)) ?_
  repeat (first | refine WQ.pure rfl rfl rfl ?_ | refine WQ.off rfl rfl rfl ?_ | refine WQ.nil ?_)
  intro w4 hp4
  repeat (first | refine WC.seq ?_ | refine WC.reg ?_ | refine WL.pure rfl rfl rfl ?_ | refine WL.nil ?_ | refine WC.skip ?_ | refine WC.block ?_ | refine WC.condT rfl ?_ | refine WC.condF rfl ?_ | refine WL.off rfl rfl rfl ?_ | refine WL.off0 rfl rfl ?_ | refine WC.exit ?_ | refine blk_hit ?_ | refine blk_miss rfl ?_ | refine WC.ret ?_)
  refine Res.one rfl rfl rfl ⟨?_, hp4⟩
  congr 1
  rw [Bool.eq_iff_iff, beq_iff_eq, decide_eq_true_iff]
  omega
end Go.Proofs.YtpbbneclkhfgoaaDoor
