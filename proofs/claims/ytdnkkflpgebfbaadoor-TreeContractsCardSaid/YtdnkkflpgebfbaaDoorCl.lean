/- The arguments of the tree laws, opened; their tables. -/
import Derived.Test.YtdnkkflpgebfbaaDoorCards
import Derived.Test.YtdnkkflpgebfbaaDoorTie
import Derived.Test.YtdnkkflpgebfbaaDoorMB
import Derived.WalkKit
import Derived.ProofKit
import Derived.OpenShut
import Derived.Carry
import Derived.Deep.Slices
import Derived.Deep.DeepHandedRow
import Derived.Lib.LaidTab
import Derived.Stop.LaidErr
namespace Go.Proofs.YtdnkkflpgebfbaaDoor
set_option maxRecDepth 100000
open Go.W Go.Tree Go.RowKit Go.ChangeShapes Go.WideShapes Go.Deep

theorem own : ownKnob Tryd.prog.godebug = none := by kernel_rfl
theorem laidOut : laidOutB Tryd.prog = true := by kernel_rfl
theorem gTab : Tryd.prog.globalNamed "math/bits.deBruijn64tab" = some 1 := by kernel_rfl
theorem gTabType : (Tryd.prog.globals[1]?).map (·.type) = some 109 := by kernel_rfl
theorem cellsTab : Tryd.prog.cellsOf 109 = 64 := by kernel_rfl
theorem cellsU8 : Tryd.prog.cellsOf 5 = 1 := by kernel_rfl
theorem cellsInt : Tryd.prog.cellsOf 3 = 1 := by kernel_rfl
theorem cellsPair : Tryd.prog.cellsOf 50 = 2 := by kernel_rfl
theorem cellsGraph : Tryd.prog.cellsOf 24 = 2 := by kernel_rfl
theorem cellsEdges : Tryd.prog.cellsOf 22 = 1 := by kernel_rfl

def laidBoth : List (String × DataW Unit) := [("math/bits.deBruijn32tab", Rows.laid_math_bits_deBruijn32tab), ("math/bits.deBruijn64tab", Rows.laid_math_bits_deBruijn64tab)]
/-- What the row's list gives: the table's cells. -/
theorem table {w : World} (h : laidMetH Tryd.prog laidBoth w) : Tb w := by
  have h1 : laidMet Tryd.prog laidBoth w := h
  have h2 : laidMet Tryd.prog [("math/bits.deBruijn64tab", Lib.tabData .u8 (Lib.deBruijn64tab.map fun (n : Nat) => (n : Int)))] w := h1.tail
  have h3 : Lib.TabIs Tryd.prog w "math/bits.deBruijn64tab" .u8 (Lib.deBruijn64tab.map fun (n : Nat) => (n : Int)) :=
    Lib.tabIs_of_head (rest := []) gTab gTabType Tryd.underlying109 Tryd.underlying5 cellsU8 cellsTab h2
  intro j hj
  have := h3.cell gTab j (by simpa using hj)
  rw [this]
  simp [hj]

section
variable {H : Type} {enc : TypeId × Value → H} {w : World}

theorem sl_of_cells {a : Addr} {cs : List Value} (h : ∀ (i : Nat) (u : Value), cs[i]? = some u → w.cell? (a.add i) = some u) : Sl w (some a) cs := by
  intro i u hi
  have hc := h i u hi
  obtain ⟨b, o, s⟩ := a
  cases s with
  | none => exact ⟨b, o, rfl, by rw [Addr.add_lit] at hc; exact hc⟩
  | some q =>
    exfalso
    obtain ⟨hlt, _⟩ := List.getElem?_eq_some_iff.1 hi
    have h0 := h 0 cs[0] (by simp)
    have e0 : (⟨b, o, some q⟩ : Addr).add 0 = ⟨b, o, some q⟩ := by simp [Addr.add]
    rw [e0] at h0
    unfold World.cell? at h0
    simp at h0
    split at h0 <;> cases h0

/-- A list of pairs. -/
theorem open_pairs {fuel : Nat} {cs : List Value} {x : DataW H × List MemPlace} (h : DataW.trod enc Tryd.prog w 0 (fun _ => true) true fuel 22 cs = some x) :
    ∃ (a : Option Addr) (es : List Ed) (cap : Nat), cs = [.slice a es.length cap] ∧ Sl w a (prs es) ∧ es.length ≤ cap := by
  rcases open_slice Tryd.underlying22 h with ⟨rfl, _⟩ | ⟨a, len, cap, m, n, D, Pl, rfl, _, hl, hm, hmm, _, hx⟩
  · exact ⟨none, [], 0, rfl, Sl.nil, Nat.le_refl _⟩
  · have hlm : len ≤ m := by rw [hmm]; split <;> omega
    have each : ∀ i, i < len → ∃ e : Ed, w.cell? (a.add (i * 2 + 0)) = some (.int .i64 e.1) ∧ w.cell? (a.add (i * 2 + 1)) = some (.int .i64 e.2) := by
      intro i hi
      obtain ⟨cs', h1, h2⟩ := hx i (by omega)
      rw [cellsPair] at h1
      obtain ⟨_, hlen, hcell⟩ := World.cells?_some h1
      obtain ⟨xs, k, _, _, _, hxl, hf⟩ := DataW.trod_array Tryd.underlying50 h2
      match xs, hxl, cs', hlen with
      | [y0, y1], _, [v0, v1], _ =>
        have g0 := hf 0 (by omega)
        have g1 := hf 1 (by omega)
        rw [cellsInt] at g0 g1
        obtain ⟨n0, e0, _, _⟩ := DataW.trod_int Tryd.underlying3 (show DataW.trod enc Tryd.prog w 0 (fun _ => true) true k 3 [v0] = some y0 by simpa using g0)
        obtain ⟨n1, e1, _, _⟩ := DataW.trod_int Tryd.underlying3 (show DataW.trod enc Tryd.prog w 0 (fun _ => true) true k 3 [v1] = some y1 by simpa using g1)
        simp only [List.cons.injEq, and_true] at e0 e1
        subst e0; subst e1
        have c0 := hcell 0 (by omega)
        have c1 := hcell 1 (by omega)
        rw [add_add] at c0 c1
        exact ⟨(n0, n1), by simpa using c0, by simpa using c1⟩
    obtain ⟨e, he⟩ := choose_lt each
    refine ⟨some a, (List.range len).map e, cap, by simp, ?_, by simpa using hl⟩
    refine sl_of_cells ?_
    intro i u hi
    have hlt : i < len * 2 := by
      have := (List.getElem?_eq_some_iff.1 hi).1
      rw [prs_len] at this; simpa using this
    have hq : i / 2 < ((List.range len).map e).length := by simp; omega
    obtain ⟨g0, g1⟩ := prs_get hq
    simp only [List.getElem_map, List.getElem_range] at g0 g1
    obtain ⟨c0, c1⟩ := he (i / 2) (by omega)
    rcases Nat.mod_two_eq_zero_or_one i with h2 | h2
    · have e1 : i = i / 2 * 2 + 0 := by omega
      rw [e1, g0] at hi
      rw [e1, c0]; exact hi
    · have e1 : i = i / 2 * 2 + 1 := by omega
      rw [e1, g1] at hi
      rw [e1, c1]; exact hi

/-- A list of numbers. -/
theorem open_ints {fuel : Nat} {cs : List Value} {x : DataW H × List MemPlace} (h : DataW.trod enc Tryd.prog w 0 (fun _ => true) true fuel 32 cs = some x) :
    ∃ (a : Option Addr) (xs : List Int) (cap : Nat), cs = [.slice a xs.length cap] ∧ Sl w a (zs xs) ∧ xs.length ≤ cap := by
  rcases open_slice1 Tryd.underlying32 cellsInt h with ⟨rfl, _⟩ | ⟨a, len, cap, m, n, V, D, Pl, rfl, _, hl, hm, hmm, _, hx⟩
  · exact ⟨none, [], 0, rfl, Sl.nil, Nat.le_refl _⟩
  · have hlm : len ≤ m := by rw [hmm]; split <;> omega
    have each : ∀ i, i < len → ∃ e : Int, w.cell? (a.add i) = some (.int .i64 e) := by
      intro i hi
      obtain ⟨h1, h2⟩ := hx i (by omega)
      obtain ⟨n0, e0, _, _⟩ := DataW.trod_int Tryd.underlying3 h2
      simp only [List.cons.injEq, and_true] at e0
      exact ⟨n0, by rw [h1, e0]⟩
    obtain ⟨e, he⟩ := choose_lt each
    refine ⟨some a, (List.range len).map e, cap, by simp, ?_, by simpa using hl⟩
    refine sl_of_cells ?_
    intro i u hi
    have hlt : i < len := by
      have := (List.getElem?_eq_some_iff.1 hi).1
      simpa [zs] using this
    rw [he i hlt]
    rw [← hi]
    simp [zs, hlt]

/-- A graph. -/
theorem open_graph {fuel : Nat} {cs : List Value} {x : DataW H × List MemPlace} (h : DataW.trod enc Tryd.prog w 0 (fun _ => true) true fuel 24 cs = some x) :
    ∃ (n : Int) (a : Option Addr) (es : List Ed) (cap : Nat), cs = [.int .i64 n, .slice a es.length cap] ∧ Sl w a (prs es) ∧ es.length ≤ cap := by
  obtain ⟨xs, k, _, _, hcl, hxl, hf⟩ := DataW.trod_struct Tryd.underlying24 h
  rw [cellsGraph] at hcl
  match cs, hcl with
  | [v0, v1], _ =>
    match xs, hxl with
    | [y0, y1], _ =>
      have g0 : DataW.trod enc Tryd.prog w 0 (fun _ => true) true k 3 (List.take (Tryd.prog.cellsOf 3) (List.drop 0 [v0, v1])) = some y0 := hf 0 _ rfl
      have g1 : DataW.trod enc Tryd.prog w 0 (fun _ => true) true k 22 (List.take (Tryd.prog.cellsOf 22) (List.drop 1 [v0, v1])) = some y1 := hf 1 _ rfl
      rw [cellsInt] at g0
      rw [cellsEdges] at g1
      obtain ⟨n0, e0, _, _⟩ := DataW.trod_int Tryd.underlying3 (show DataW.trod enc Tryd.prog w 0 (fun _ => true) true k 3 [v0] = some y0 from g0)
      obtain ⟨a, es, cap, e1, hs, hc⟩ := open_pairs (show DataW.trod enc Tryd.prog w 0 (fun _ => true) true k 22 [v1] = some y1 from g1)
      simp only [List.cons.injEq, and_true] at e0 e1
      exact ⟨n0, a, es, cap, by rw [e0, e1], hs, hc⟩
end
end Go.Proofs.YtdnkkflpgebfbaaDoor
