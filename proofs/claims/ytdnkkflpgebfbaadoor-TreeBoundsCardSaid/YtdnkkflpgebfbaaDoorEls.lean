/- The elements of a set in their order. -/
import Derived.Test.YtdnkkflpgebfbaaDoorSets
namespace Go.Tree
open Go.W

def els (s : Nat) : List Nat := (List.range 16).filter fun i => s.testBit i
theorem mem_els {s i : Nat} : i ∈ els s ↔ i < 16 ∧ s.testBit i = true := by simp [els]
theorem els_zero : els 0 = [] := by decide
theorem els_sorted (s : Nat) : (els s).Pairwise (· < ·) := List.Pairwise.filter _ List.pairwise_lt_range
theorem els_len (s : Nat) : (els s).length = card s := by simp [els, card, List.countP_eq_length_filter]
theorem range_split {t n : Nat} (h : t < n) : List.range n = List.range t ++ t :: List.range' (t + 1) (n - t - 1) := by
  apply List.ext_getElem?
  intro i
  rcases Nat.lt_trichotomy i t with h1 | h1 | h1
  · rw [List.getElem?_append_left (by simpa using h1)]
    simp [h1, Nat.lt_trans h1 h]
  · subst h1
    rw [List.getElem?_append_right (by simp)]
    simp [h]
  · rw [List.getElem?_append_right (by simp; omega)]
    obtain ⟨k, rfl⟩ : ∃ k, i = t + 1 + k := ⟨i - t - 1, by omega⟩
    have : t + 1 + k - (List.range t).length = k + 1 := by simp; omega
    rw [this, List.getElem?_cons_succ]
    by_cases hk : t + 1 + k < n
    · rw [List.getElem?_range hk, List.getElem?_range' (by omega)]
      simp
    · rw [List.getElem?_eq_none (by simp; omega), List.getElem?_eq_none (by simp; omega)]
theorem els_step {s : Nat} (h0 : s ≠ 0) (h : s < 65536) : els s = tz s :: els (s &&& (s - 1)) := by
  obtain ⟨h1, h2, h3⟩ := tz_spec h0 (by omega)
  have ht : tz s < 16 := lt_of_testBit (n := 16) h h1
  have hb : ∀ i, (s &&& (s - 1)).testBit i = (s.testBit i && !(decide (tz s = i))) := by
    intro i
    rw [h3, testBit_bd, Nat.testBit_two_pow]
  unfold els
  rw [range_split ht, List.filter_append, List.filter_append, List.filter_cons, List.filter_cons, if_pos h1, if_neg (by rw [hb]; simp)]
  have e1 : ∀ p : Nat → Bool, (∀ i, i < tz s → p i = false) → (List.range (tz s)).filter p = [] := by
    intro p hp
    rw [List.filter_eq_nil_iff]
    intro i hi
    rw [hp i (by simpa using hi)]; simp
  rw [e1 _ h2, e1 _ (fun i hi => by rw [hb, h2 i hi]; rfl), List.nil_append, List.nil_append]
  congr 1
  apply List.filter_congr
  intro i hi
  rw [List.mem_range'_1] at hi
  rw [hb]
  have : tz s ≠ i := by omega
  simp [this]
theorem and_pred_lt {s n : Nat} (h : s < n) : s &&& (s - 1) < n := Nat.lt_of_le_of_lt Nat.and_le_left h
end Go.Tree
