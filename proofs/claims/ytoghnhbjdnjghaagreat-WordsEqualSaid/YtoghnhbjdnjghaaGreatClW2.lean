/- Two strings, opened. -/
import Derived.Test.YtoghnhbjdnjghaaGreatClW
namespace Go.Proofs.YtoghnhbjdnjghaaGreat
set_option maxRecDepth 100000
open Go.W Go.Words Go.RowKit Go.ChangeShapes Go.WideShapes Go.Deep
theorem cellsTwo : Tryz.prog.cellsOf 58 = 2 := by kernel_rfl
section
variable {H : Type} {enc : TypeId × Value → H} {w : World}
theorem open_two {fuel : Nat} {cs : List Value} {x : DataW H × List MemPlace} (h : DataW.trod enc Tryz.prog w 0 (fun _ => true) true fuel 58 cs = some x) :
    ∃ s t : Str, cs = [st s, st t] ∧ s.length ≤ 9223372036854775807 ∧ t.length ≤ 9223372036854775807 := by
  obtain ⟨xs, k, _, _, hcl, hxl, hf⟩ := DataW.trod_struct Tryz.underlying58 h
  rw [cellsTwo] at hcl
  match cs, hcl with
  | [v0, v1], _ =>
    match xs, hxl with
    | [y0, y1], _ =>
      have g0 : DataW.trod enc Tryz.prog w 0 (fun _ => true) true k 9 (List.take (Tryz.prog.cellsOf 9) (List.drop 0 [v0, v1])) = some y0 := hf 0 _ rfl
      have g1 : DataW.trod enc Tryz.prog w 0 (fun _ => true) true k 9 (List.take (Tryz.prog.cellsOf 9) (List.drop 1 [v0, v1])) = some y1 := hf 1 _ rfl
      rw [cellsStr] at g0 g1
      obtain ⟨s0, e0, l0⟩ := open_str (show DataW.trod enc Tryz.prog w 0 (fun _ => true) true k 9 [v0] = some y0 from g0)
      obtain ⟨s1, e1, l1⟩ := open_str (show DataW.trod enc Tryz.prog w 0 (fun _ => true) true k 9 [v1] = some y1 from g1)
      simp only [List.cons.injEq, and_true] at e0 e1
      exact ⟨s0, s1, by rw [e0, e1], l0, l1⟩
end
end Go.Proofs.YtoghnhbjdnjghaaGreat
