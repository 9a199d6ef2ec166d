/- The arguments of the laws on polynomials, opened. -/
import Derived.Test.YtagfpnnplgkkoaaRows
import Derived.Test.YtagfpnnplgkkoaaR3
import Derived.WalkKit
import Derived.ProofKit
import Derived.OpenShut
import Derived.Carry
import Derived.Deep.Slices
import Derived.Deep.DeepHandedRow
import Derived.Lib.LaidTab
import Derived.Stop.LaidErr
namespace Go.Proofs.Ytagfpnnplgkkoaa
set_option maxRecDepth 100000
open Go.W Go.Tree Go.RowKit Go.ChangeShapes Go.WideShapes Go.Deep

theorem own : ownKnob Try.prog.godebug = none := by kernel_rfl
theorem laidOut : laidOutB Try.prog = true := by kernel_rfl
theorem cellsInt : Try.prog.cellsOf 3 = 1 := by kernel_rfl
theorem cellsInts : Try.prog.cellsOf 22 = 1 := by kernel_rfl
theorem cellsPair : Try.prog.cellsOf 24 = 2 := by kernel_rfl
section
variable {H : Type} {enc : TypeId × Value → H} {w : World}

theorem sl_of_cells {a : Addr} {cs : List Value} (h : ∀ (i : Nat) (u : Value), cs[i]? = some u → w.cell? (a.add i) = some u) : Sl w (some a) cs := by
  intro i u hi
  have hc := h i u hi
  obtain ⟨b, o, s⟩ := a
  cases s with
  | none => exact ⟨b, o, rfl, by rw [Addr.add_lit] at hc; exact hc⟩
  | some q =>
    exfalso
    obtain ⟨hlt, _⟩ := List.getElem?_eq_some_iff.1 hi
    have h0 := h 0 cs[0] (by simp)
    have e0 : (⟨b, o, some q⟩ : Addr).add 0 = ⟨b, o, some q⟩ := by simp [Addr.add]
    rw [e0] at h0
    unfold World.cell? at h0
    simp at h0
    split at h0 <;> cases h0

/-- A list of numbers. -/
theorem open_ints {fuel : Nat} {cs : List Value} {x : DataW H × List MemPlace} (h : DataW.trod enc Try.prog w 0 (fun _ => true) true fuel 22 cs = some x) :
    ∃ (a : Option Addr) (xs : List Int) (cap : Nat), cs = [.slice a xs.length cap] ∧ Sl w a (zs xs) ∧ xs.length ≤ cap ∧ (a = none → cap = 0) := by
  rcases open_slice1 Try.underlying22 cellsInt h with ⟨rfl, _⟩ | ⟨a, len, cap, m, n, V, D, Pl, rfl, _, hl, hm, hmm, _, hx⟩
  · exact ⟨none, [], 0, rfl, Sl.nil, Nat.le_refl _, fun _ => rfl⟩
  · have hlm : len ≤ m := by rw [hmm]; split <;> omega
    have each : ∀ i, i < len → ∃ e : Int, w.cell? (a.add i) = some (.int .i64 e) := by
      intro i hi
      obtain ⟨h1, h2⟩ := hx i (by omega)
      obtain ⟨n0, e0, _, _⟩ := DataW.trod_int Try.underlying3 h2
      simp only [List.cons.injEq, and_true] at e0
      exact ⟨n0, by rw [h1, e0]⟩
    obtain ⟨e, he⟩ := choose_lt each
    refine ⟨some a, (List.range len).map e, cap, by simp, ?_, by simpa using hl, fun h => by cases h⟩
    refine sl_of_cells ?_
    intro i u hi
    have hlt : i < len := by
      have := (List.getElem?_eq_some_iff.1 hi).1
      simpa [zs] using this
    rw [he i hlt]
    rw [← hi]
    simp [zs, hlt]

/-- Two polynomials. -/
theorem open_pair {fuel : Nat} {cs : List Value} {x : DataW H × List MemPlace} (h : DataW.trod enc Try.prog w 0 (fun _ => true) true fuel 24 cs = some x) :
    ∃ (a b : Option Addr) (xs ys : List Int) (c d : Nat), cs = [.slice a xs.length c, .slice b ys.length d] ∧ Sl w a (zs xs) ∧ Sl w b (zs ys) ∧ xs.length ≤ c ∧ ys.length ≤ d ∧ (a = none → c = 0) ∧ (b = none → d = 0) := by
  obtain ⟨xs, k, _, _, hcl, hxl, hf⟩ := DataW.trod_struct Try.underlying24 h
  rw [cellsPair] at hcl
  match cs, hcl with
  | [v0, v1], _ =>
    match xs, hxl with
    | [y0, y1], _ =>
      have g0 : DataW.trod enc Try.prog w 0 (fun _ => true) true k 22 (List.take (Try.prog.cellsOf 22) (List.drop 0 [v0, v1])) = some y0 := hf 0 _ rfl
      have g1 : DataW.trod enc Try.prog w 0 (fun _ => true) true k 22 (List.take (Try.prog.cellsOf 22) (List.drop 1 [v0, v1])) = some y1 := hf 1 _ rfl
      rw [cellsInts] at g0 g1
      obtain ⟨a, es, c, e0, s0, l0, n0⟩ := open_ints (show DataW.trod enc Try.prog w 0 (fun _ => true) true k 22 [v0] = some y0 from g0)
      obtain ⟨b, fs, d, e1, s1, l1, n1⟩ := open_ints (show DataW.trod enc Try.prog w 0 (fun _ => true) true k 22 [v1] = some y1 from g1)
      simp only [List.cons.injEq, and_true] at e0 e1
      exact ⟨a, b, es, fs, c, d, by rw [e0, e1], s0, s1, l0, l1, n0, n1⟩

theorem ints_max {a : Option Addr} {n c : Nat} {d : DataW H} {p : List MemPlace} (h : DataW.Trod enc Try.prog w 0 (fun _ => true) true 22 (.slice a n c) d p) : n ≤ 9223372036854775807 := by
  obtain ⟨f, h⟩ := h
  have h : DataW.trod enc Try.prog w 0 (fun _ => true) true f 22 [.slice a n c] = some (d, p) := by simpa [Value.cells] using h
  rcases open_slice1 Try.underlying22 cellsInt h with ⟨e, _⟩ | ⟨a', len, cap, m, k, V, D, Pl, e, _, hl, hm, _, _, _⟩
  · simp only [List.cons.injEq, and_true, Value.slice.injEq] at e
    omega
  · simp only [List.cons.injEq, and_true, Value.slice.injEq] at e
    unfold maxLen at hm
    omega
end
end Go.Proofs.Ytagfpnnplgkkoaa
