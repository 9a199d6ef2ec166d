/- Lists of points, opened. -/
import Derived.Test.YtagfpnnplgkkoaaClP
import Derived.Test.YtagfpnnplgkkoaaR44
namespace Go.Proofs.Ytagfpnnplgkkoaa
set_option maxRecDepth 100000
open Go.W Go.Tree Go.RowKit Go.ChangeShapes Go.WideShapes Go.Deep
theorem cellsPoint : Try.prog.cellsOf 50 = 2 := by kernel_rfl
theorem prs_get' {es : List Ed} {i : Nat} (h : i < es.length) : (prs es)[i * 2 + 0]? = some (.int .i64 (es[i]).1) ∧ (prs es)[i * 2 + 1]? = some (.int .i64 (es[i]).2) :=
  ⟨prs_at es i h 0 _ rfl, prs_at es i h 1 _ rfl⟩
section
variable {H : Type} {enc : TypeId × Value → H} {w : World}

/-- A list of pairs. -/
theorem open_points {fuel : Nat} {cs : List Value} {x : DataW H × List MemPlace} (h : DataW.trod enc Try.prog w 0 (fun _ => true) true fuel 48 cs = some x) :
    ∃ (a : Option Addr) (es : List Ed) (cap : Nat), cs = [.slice a es.length cap] ∧ Sl w a (prs es) ∧ es.length ≤ cap ∧ True := by
  rcases open_slice Try.underlying48 h with ⟨rfl, _⟩ | ⟨a, len, cap, m, n, D, Pl, rfl, _, hl, hm, hmm, _, hx⟩
  · exact ⟨none, [], 0, rfl, Sl.nil, Nat.le_refl _, trivial⟩
  · have hlm : len ≤ m := by rw [hmm]; split <;> omega
    have each : ∀ i, i < len → ∃ e : Ed, w.cell? (a.add (i * 2 + 0)) = some (.int .i64 e.1) ∧ w.cell? (a.add (i * 2 + 1)) = some (.int .i64 e.2) := by
      intro i hi
      obtain ⟨cs', h1, h2⟩ := hx i (by omega)
      rw [cellsPoint] at h1
      obtain ⟨_, hlen, hcell⟩ := World.cells?_some h1
      obtain ⟨xs, k, _, _, _, hxl, hf⟩ := DataW.trod_array Try.underlying50 h2
      match xs, hxl, cs', hlen with
      | [y0, y1], _, [v0, v1], _ =>
        have g0 := hf 0 (by omega)
        have g1 := hf 1 (by omega)
        rw [cellsInt] at g0 g1
        obtain ⟨n0, e0, _, _⟩ := DataW.trod_int Try.underlying3 (show DataW.trod enc Try.prog w 0 (fun _ => true) true k 3 [v0] = some y0 by simpa using g0)
        obtain ⟨n1, e1, _, _⟩ := DataW.trod_int Try.underlying3 (show DataW.trod enc Try.prog w 0 (fun _ => true) true k 3 [v1] = some y1 by simpa using g1)
        simp only [List.cons.injEq, and_true] at e0 e1
        subst e0; subst e1
        have c0 := hcell 0 (by omega)
        have c1 := hcell 1 (by omega)
        rw [add_add] at c0 c1
        exact ⟨(n0, n1), by simpa using c0, by simpa using c1⟩
    obtain ⟨e, he⟩ := choose_lt each
    refine ⟨some a, (List.range len).map e, cap, by simp, ?_, by simpa using hl, trivial⟩
    refine sl_of_cells ?_
    intro i u hi
    have hlt : i < len * 2 := by
      have := (List.getElem?_eq_some_iff.1 hi).1
      rw [prs_len] at this; simpa using this
    have hq : i / 2 < ((List.range len).map e).length := by simp; omega
    obtain ⟨g0, g1⟩ := prs_get' hq
    simp only [List.getElem_map, List.getElem_range] at g0 g1
    obtain ⟨c0, c1⟩ := he (i / 2) (by omega)
    rcases Nat.mod_two_eq_zero_or_one i with h2 | h2
    · have e1 : i = i / 2 * 2 + 0 := by omega
      rw [e1, g0] at hi
      rw [e1, c0]; exact hi
    · have e1 : i = i / 2 * 2 + 1 := by omega
      rw [e1, g1] at hi
      rw [e1, c1]; exact hi

end
end Go.Proofs.Ytagfpnnplgkkoaa
