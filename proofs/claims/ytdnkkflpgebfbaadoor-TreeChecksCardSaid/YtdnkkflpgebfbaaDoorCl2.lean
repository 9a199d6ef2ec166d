/- A decomposition as an argument, opened. -/
import Derived.Test.YtdnkkflpgebfbaaDoorCl
import Derived.Test.YtdnkkflpgebfbaaDoorL43
namespace Go.Proofs.YtdnkkflpgebfbaaDoor
set_option maxRecDepth 100000
open Go.W Go.Tree Go.RowKit Go.ChangeShapes Go.WideShapes Go.Deep

theorem cellsInts : Tryd.prog.cellsOf 32 = 1 := by kernel_rfl
theorem cellsBags : Tryd.prog.cellsOf 44 = 1 := by kernel_rfl
theorem cellsTree : Tryd.prog.cellsOf 46 = 2 := by kernel_rfl
section
variable {H : Type} {enc : TypeId × Value → H} {w : World}
theorem open_bags {fuel : Nat} {cs : List Value} {x : DataW H × List MemPlace} (h : DataW.trod enc Tryd.prog w 0 (fun _ => true) true fuel 44 cs = some x) :
    ∃ (a : Option Addr) (bl : List BagI) (cap : Nat), cs = [.slice a bl.length cap] ∧ BagsAt w a bl ∧ ∀ b ∈ bl, b.2.2.length ≤ b.2.1 := by
  rcases open_slice1 Tryd.underlying44 cellsInts h with ⟨rfl, _⟩ | ⟨a, len, cap, m, n, V, D, Pl, rfl, _, hl, hm, hmm, _, hx⟩
  · exact ⟨none, [], 0, rfl, ⟨Sl.nil, fun b hb => by cases hb⟩, fun b hb => by cases hb⟩
  · have hlm : len ≤ m := by rw [hmm]; split <;> omega
    have each : ∀ i, i < len → ∃ b : BagI, w.cell? (a.add i) = some (bagVI b) ∧ Sl w b.1 (zs b.2.2) ∧ b.2.2.length ≤ b.2.1 := by
      intro i hi
      obtain ⟨h1, h2⟩ := hx i (by omega)
      obtain ⟨ai, xs, ci, e0, hs, hc⟩ := open_ints h2
      simp only [List.cons.injEq, and_true] at e0
      exact ⟨(ai, ci, xs), by rw [h1, e0]; rfl, hs, hc⟩
    obtain ⟨e, he⟩ := choose_lt each
    refine ⟨some a, (List.range len).map e, cap, by simp, ⟨sl_of_cells ?_, ?_⟩, ?_⟩
    · intro i u hi
      have hlt : i < len := by
        have := (List.getElem?_eq_some_iff.1 hi).1
        simpa using this
      rw [(he i hlt).1]
      rw [← hi]
      simp [hlt]
    · intro b hb
      obtain ⟨i, hi, rfl⟩ := List.mem_map.1 hb
      exact (he i (by simpa using hi)).2.1
    · intro b hb
      obtain ⟨i, hi, rfl⟩ := List.mem_map.1 hb
      exact (he i (by simpa using hi)).2.2
theorem open_tree {fuel : Nat} {cs : List Value} {x : DataW H × List MemPlace} (h : DataW.trod enc Tryd.prog w 0 (fun _ => true) true fuel 46 cs = some x) :
    ∃ (ba : Option Addr) (bl : List BagI) (bc : Nat) (la : Option Addr) (ls : List Ed) (lc : Nat), cs = [.slice ba bl.length bc, .slice la ls.length lc] ∧ BagsAt w ba bl ∧ (∀ b ∈ bl, b.2.2.length ≤ b.2.1) ∧ Sl w la (prs ls) ∧ ls.length ≤ lc := by
  obtain ⟨xs, k, _, _, hcl, hxl, hf⟩ := DataW.trod_struct Tryd.underlying46 h
  rw [cellsTree] at hcl
  match cs, hcl with
  | [v0, v1], _ =>
    match xs, hxl with
    | [y0, y1], _ =>
      have g0 : DataW.trod enc Tryd.prog w 0 (fun _ => true) true k 44 (List.take (Tryd.prog.cellsOf 44) (List.drop 0 [v0, v1])) = some y0 := hf 0 _ rfl
      have g1 : DataW.trod enc Tryd.prog w 0 (fun _ => true) true k 22 (List.take (Tryd.prog.cellsOf 22) (List.drop 1 [v0, v1])) = some y1 := hf 1 _ rfl
      rw [cellsBags] at g0
      rw [cellsEdges] at g1
      obtain ⟨ba, bl, bc, e0, hA, hcap⟩ := open_bags (show DataW.trod enc Tryd.prog w 0 (fun _ => true) true k 44 [v0] = some y0 from g0)
      obtain ⟨la, ls, lc, e1, hL, hlc⟩ := open_pairs (show DataW.trod enc Tryd.prog w 0 (fun _ => true) true k 22 [v1] = some y1 from g1)
      simp only [List.cons.injEq, and_true] at e0 e1
      exact ⟨ba, bl, bc, la, ls, lc, by rw [e0, e1], hA, hcap, hL, hlc⟩
end
end Go.Proofs.YtdnkkflpgebfbaaDoor
