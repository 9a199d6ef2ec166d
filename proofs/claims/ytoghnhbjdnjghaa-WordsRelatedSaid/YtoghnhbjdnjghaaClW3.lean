/- Lists of ints, opened. -/
import Derived.Test.YtoghnhbjdnjghaaClW
namespace Go.Proofs.Ytoghnhbjdnjghaa
set_option maxRecDepth 100000
open Go.W Go.Words Go.RowKit Go.ChangeShapes Go.WideShapes Go.Deep
theorem cellsInt : Try.prog.cellsOf 3 = 1 := by kernel_rfl
section
variable {H : Type} {enc : TypeId × Value → H} {w : World}
theorem open_ints {fuel : Nat} {cs : List Value} {x : DataW H × List MemPlace} (h : DataW.trod enc Try.prog w 0 (fun _ => true) true fuel 23 cs = some x) :
    ∃ (a : Option Addr) (xs : List Int) (cap : Nat), cs = [.slice a xs.length cap] ∧ Sl w a (zs xs) ∧ xs.length ≤ 9223372036854775807 := by
  rcases open_slice1 Try.underlying23 cellsInt h with ⟨rfl, _⟩ | ⟨a, len, cap, m, n, V, D, Pl, rfl, _, hl, hm, hmm, _, hx⟩
  · exact ⟨none, [], 0, rfl, (fun i u hi => by cases hi), Nat.zero_le _⟩
  · have hlm : len ≤ m := by rw [hmm]; split <;> omega
    have each : ∀ i, i < len → ∃ e : Int, w.cell? (a.add i) = some (.int .i64 e) := by
      intro i hi
      obtain ⟨h1, h2⟩ := hx i (by omega)
      obtain ⟨n0, e0, _, _⟩ := DataW.trod_int Try.underlying3 h2
      simp only [List.cons.injEq, and_true] at e0
      exact ⟨n0, by rw [h1, e0]⟩
    obtain ⟨e, he⟩ := choose_lt each
    refine ⟨some a, (List.range len).map e, cap, by simp, ?_, by simp; unfold maxLen at hm; omega⟩
    refine sl_of_cells ?_
    intro i u hi
    have hlt : i < len := by
      have := (List.getElem?_eq_some_iff.1 hi).1
      simpa [zs] using this
    rw [he i hlt]
    rw [← hi]
    simp [zs, hlt]
end
end Go.Proofs.Ytoghnhbjdnjghaa
