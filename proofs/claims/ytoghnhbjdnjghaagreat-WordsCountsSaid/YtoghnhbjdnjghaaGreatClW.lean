/- The arguments of the laws on words, opened. -/
import Derived.Test.YtoghnhbjdnjghaaGreatRows
import Derived.Test.YtoghnhbjdnjghaaGreatV24a
import Derived.WalkKit
import Derived.ProofKit
import Derived.OpenShut
import Derived.Carry
import Derived.Deep.Slices
import Derived.Deep.DeepHandedRow
import Derived.Lib.LaidTab
import Derived.Stop.LaidErr
namespace Go.Proofs.YtoghnhbjdnjghaaGreat
set_option maxRecDepth 100000
open Go.W Go.Words Go.RowKit Go.ChangeShapes Go.WideShapes Go.Deep

theorem own : ownKnob Tryz.prog.godebug = none := by kernel_rfl
theorem laidOut : laidOutB Tryz.prog = true := by kernel_rfl
theorem cellsStr : Tryz.prog.cellsOf 9 = 1 := by kernel_rfl
theorem cellsRule : Tryz.prog.cellsOf 56 = 2 := by kernel_rfl
section
variable {H : Type} {enc : TypeId × Value → H} {w : World}

theorem sl_of_cells {a : Addr} {cs : List Value} (h : ∀ (i : Nat) (u : Value), cs[i]? = some u → w.cell? (a.add i) = some u) : Sl w (some a) cs := by
  intro i u hi
  have hc := h i u hi
  obtain ⟨b, o, s⟩ := a
  cases s with
  | none => exact ⟨b, o, rfl, by rw [Addr.add_lit] at hc; exact hc⟩
  | some q =>
    exfalso
    obtain ⟨hlt, _⟩ := List.getElem?_eq_some_iff.1 hi
    have h0 := h 0 cs[0] (by simp)
    have e0 : (⟨b, o, some q⟩ : Addr).add 0 = ⟨b, o, some q⟩ := by simp [Addr.add]
    rw [e0] at h0
    unfold World.cell? at h0
    simp at h0
    split at h0 <;> cases h0
/-- A string. -/
theorem open_str {fuel : Nat} {cs : List Value} {x : DataW H × List MemPlace} (h : DataW.trod enc Tryz.prog w 0 (fun _ => true) true fuel 9 cs = some x) : ∃ s : Str, cs = [st s] ∧ s.length ≤ 9223372036854775807 := by
  obtain ⟨s, hc, _, hl⟩ := DataW.trod_string Tryz.underlying9 h
  obtain ⟨l, rfl⟩ := sb_ex s
  unfold maxLen at hl
  rw [sb_size] at hl
  exact ⟨l, hc, hl⟩
/-- A list of rules. -/
theorem open_rules {fuel : Nat} {cs : List Value} {x : DataW H × List MemPlace} (h : DataW.trod enc Tryz.prog w 0 (fun _ => true) true fuel 22 cs = some x) :
    ∃ (a : Option Addr) (l : List Rl) (cap : Nat), cs = [.slice a l.length cap] ∧ Sl w a (rcs l) ∧ l.length ≤ 9223372036854775807 ∧ Sm 9223372036854775807 l := by
  rcases open_slice Tryz.underlying22 h with ⟨rfl, _⟩ | ⟨a, len, cap, m, n, D, Pl, rfl, _, hl, hm, hmm, _, hx⟩
  · exact ⟨none, [], 0, rfl, (fun i u hi => by cases hi), Nat.zero_le _, fun r hr => by cases hr⟩
  · have hlm : len ≤ m := by rw [hmm]; split <;> omega
    have each : ∀ i, i < len → ∃ e : Rl, w.cell? (a.add (i * 2 + 0)) = some (st e.1) ∧ w.cell? (a.add (i * 2 + 1)) = some (st e.2) ∧ e.1.length ≤ 9223372036854775807 ∧ e.2.length ≤ 9223372036854775807 := by
      intro i hi
      obtain ⟨cs', h1, h2⟩ := hx i (by omega)
      rw [cellsRule] at h1
      obtain ⟨_, hlen, hcell⟩ := World.cells?_some h1
      obtain ⟨xs, k, _, _, _, hxl, hf⟩ := DataW.trod_struct Tryz.underlying56 h2
      match xs, hxl, cs', hlen with
      | [y0, y1], _, [v0, v1], _ =>
        have g0 : DataW.trod enc Tryz.prog w 0 (fun _ => true) true k 9 (List.take (Tryz.prog.cellsOf 9) (List.drop 0 [v0, v1])) = some y0 := hf 0 _ rfl
        have g1 : DataW.trod enc Tryz.prog w 0 (fun _ => true) true k 9 (List.take (Tryz.prog.cellsOf 9) (List.drop 1 [v0, v1])) = some y1 := hf 1 _ rfl
        rw [cellsStr] at g0 g1
        obtain ⟨s0, e0, l0⟩ := open_str (show DataW.trod enc Tryz.prog w 0 (fun _ => true) true k 9 [v0] = some y0 from g0)
        obtain ⟨s1, e1, l1⟩ := open_str (show DataW.trod enc Tryz.prog w 0 (fun _ => true) true k 9 [v1] = some y1 from g1)
        simp only [List.cons.injEq, and_true] at e0 e1
        subst e0; subst e1
        have c0 := hcell 0 (by omega)
        have c1 := hcell 1 (by omega)
        rw [add_add] at c0 c1
        exact ⟨(s0, s1), by simpa using c0, by simpa using c1, l0, l1⟩
    obtain ⟨e, he⟩ := choose_lt each
    refine ⟨some a, (List.range len).map e, cap, by simp, ?_, by simp; unfold maxLen at hm; omega, ?_⟩
    · refine sl_of_cells ?_
      intro i u hi
      have hlt : i < len * 2 := by
        have := (List.getElem?_eq_some_iff.1 hi).1
        rw [rcs_len] at this; simpa using this
      have hq : i / 2 < ((List.range len).map e).length := by simp; omega
      have g0 := rcs_at _ _ hq 0 _ rfl
      have g1 := rcs_at _ _ hq 1 _ rfl
      simp only [List.getElem_map, List.getElem_range] at g0 g1
      obtain ⟨c0, c1, _⟩ := he (i / 2) (by omega)
      rcases Nat.mod_two_eq_zero_or_one i with h2 | h2
      · have e1 : i = i / 2 * 2 + 0 := by omega
        rw [e1, g0] at hi
        rw [e1, c0]; exact hi
      · have e1 : i = i / 2 * 2 + 1 := by omega
        rw [e1, g1] at hi
        rw [e1, c1]; exact hi
    · intro r hr
      obtain ⟨i, hi, rfl⟩ := List.mem_map.1 hr
      obtain ⟨_, _, l0, l1⟩ := he i (List.mem_range.1 hi)
      exact ⟨l0, l1⟩
end
end Go.Proofs.YtoghnhbjdnjghaaGreat
