/- The least order of the least width. -/
import Derived.Test.YtdnkkflpgebfbaaDoorWd
namespace Go.Tree
open Go.W

def fine (g : List Nat) (S v : Nat) : Bool := !S.testBit v && (decide ((pc (lat g S v) : Int) ≤ wd g 0) && decide (wd g (S ||| 2 ^ v) ≤ wd g 0))
def bestF (g : List Nat) : Nat → Nat → List Nat
  | 0, _ => []
  | k + 1, S => match (List.range g.length).find? (fine g S) with
    | some v => v :: bestF g k (S ||| 2 ^ v)
    | none => []
def bestO (g : List Nat) : List Nat := bestF g g.length 0

theorem foldl_min (f : Nat → Int) : ∀ (l : List Nat) (b : Int), l.foldl (fun b v => min b (f v)) b ≤ b ∧ (∀ v ∈ l, l.foldl (fun b v => min b (f v)) b ≤ f v) ∧ (l.foldl (fun b v => min b (f v)) b = b ∨ ∃ v ∈ l, l.foldl (fun b v => min b (f v)) b = f v) := by
  intro l
  induction l with
  | nil => intro b; exact ⟨Int.le_refl _, fun v hv => (by cases hv), .inl rfl⟩
  | cons a l ih =>
    intro b
    obtain ⟨h1, h2, h3⟩ := ih (min b (f a))
    refine ⟨by rw [List.foldl_cons]; omega, ?_, ?_⟩
    · intro v hv
      rw [List.foldl_cons]
      rcases List.mem_cons.1 hv with rfl | hv
      · omega
      · exact h2 v hv
    · rw [List.foldl_cons]
      rcases h3 with h3 | ⟨v, hv, h3⟩
      · by_cases h : b ≤ f a
        · left; omega
        · right; exact ⟨a, by simp, by omega⟩
      · exact .inr ⟨v, by simp [hv], h3⟩

theorem wd_le {g : List Nat} (hn : g.length ≤ 14) (S : Nat) : wd g S ≤ g.length := by
  by_cases h : S = full g.length
  · rw [h, wd_full]; omega
  · rw [wd_eq hn h]
    exact (foldl_min (fun v => max (pc (lat g S v) : Int) (wd g (S ||| 2 ^ v))) _ _).1
theorem wd_step_le {g : List Nat} (hn : g.length ≤ 14) {S v : Nat} (hv : v < g.length) (hS : S.testBit v = false) : wd g S ≤ max (pc (lat g S v) : Int) (wd g (S ||| 2 ^ v)) := by
  have h : S ≠ full g.length := by
    intro e
    rw [e, full_testBit] at hS
    simp [hv] at hS
  rw [wd_eq hn h]
  exact (foldl_min (fun v => max (pc (lat g S v) : Int) (wd g (S ||| 2 ^ v))) _ _).2.1 v ((mem_compl hn).2 ⟨hv, hS⟩)
theorem exists_out {n S : Nat} (hS : S < 2 ^ n) (h : S ≠ full n) : ∃ v, v < n ∧ S.testBit v = false := by
  by_cases hc : ∃ v, v < n ∧ S.testBit v = false
  · exact hc
  · exfalso
    apply h
    apply Nat.eq_of_testBit_eq
    intro i
    rw [full_testBit]
    by_cases hi : i < n
    · simp only [hi, decide_true]
      cases hb : S.testBit i with
      | true => rfl
      | false => exact absurd ⟨i, hi, hb⟩ hc
    · simp only [hi, decide_false]
      exact testBit_lt hS (by omega)
theorem exists_best {g : List Nat} (hg : Gr g) {S : Nat} {W : Int} (hS : S < 2 ^ g.length) (h : S ≠ full g.length) (hW : wd g S ≤ W) : ∃ v, v < g.length ∧ S.testBit v = false ∧ (pc (lat g S v) : Int) ≤ W ∧ wd g (S ||| 2 ^ v) ≤ W := by
  have hn := hg.len
  have h3 := (foldl_min (fun v => max (pc (lat g S v) : Int) (wd g (S ||| 2 ^ v))) (els (bd (full g.length) S)) g.length).2.2
  have h4 : wd g S = (els (bd (full g.length) S)).foldl (fun b v => min b (max (pc (lat g S v) : Int) (wd g (S ||| 2 ^ v)))) g.length := wd_eq hn h
  rw [← h4] at h3
  rcases h3 with h3 | ⟨v, hv, h3⟩
  · obtain ⟨v, hv, hSv⟩ := exists_out hS h
    refine ⟨v, hv, hSv, ?_, ?_⟩
    · have := lat_lt hg hv (gone := S)
      have := card_le (by omega) this
      rw [pc_card]; omega
    · have := wd_le hn (S ||| 2 ^ v); omega
  · obtain ⟨h5, h6⟩ := (mem_compl hn).1 hv
    exact ⟨v, h5, h6, by omega, by omega⟩
theorem fine_iff {g : List Nat} {S v : Nat} : fine g S v = true ↔ S.testBit v = false ∧ (pc (lat g S v) : Int) ≤ wd g 0 ∧ wd g (S ||| 2 ^ v) ≤ wd g 0 := by
  simp [fine, and_assoc]
theorem find_at {n v : Nat} {p : Nat → Bool} (hv : v < n) (hp : p v = true) (hlt : ∀ u, u < v → p u = false) : (List.range n).find? p = some v := by
  rw [range_split hv, List.find?_append]
  have h1 : (List.range v).find? p = none := by
    rw [List.find?_eq_none]
    intro u hu
    rw [hlt u (by simpa using hu)]; simp
  rw [h1, List.find?_cons, hp]
  rfl
theorem card_add {n S v : Nat} (hn : n ≤ 14) (hS : S < 2 ^ n) (hv : v < n) (h : S.testBit v = false) : card (S ||| 2 ^ v) = card S + 1 := by
  have d : S &&& 2 ^ v = 0 := by
    apply Nat.eq_of_testBit_eq
    intro i
    rw [Nat.testBit_and, Nat.testBit_two_pow]
    by_cases h2 : v = i
    · subst h2; simp [h]
    · simp [h2]
  rw [card_or d, card_pow (by omega)]
theorem card_lt_of_ne {n S : Nat} (hn : n ≤ 14) (hS : S < 2 ^ n) (h : S ≠ full n) : card S < n := by
  obtain ⟨v, hv, hSv⟩ := exists_out hS h
  have h1 := card_add hn hS hv hSv
  have h2 := card_le (by omega) (or_pow_lt hS hv)
  omega
theorem bestF_len {g : List Nat} (hg : Gr g) : ∀ (k S : Nat), S < 2 ^ g.length → k + card S = g.length → wd g S ≤ wd g 0 → (bestF g k S).length = k := by
  intro k
  induction k with
  | zero => intro S _ _ _; rfl
  | succ k ih =>
    intro S hS hk hw
    have hne : S ≠ full g.length := by
      intro e
      have := card_full (n := g.length) (by have := hg.len; omega)
      rw [e] at hk
      unfold full at hk
      omega
    obtain ⟨v, hv, h1, h2, h3⟩ := exists_best hg hS hne hw
    have hf : fine g S v = true := fine_iff.2 ⟨h1, h2, h3⟩
    cases hx : (List.range g.length).find? (fine g S) with
    | none => rw [List.find?_eq_none] at hx; exact absurd hf (hx v (by simpa using hv))
    | some u =>
      simp only [bestF, hx, List.length_cons]
      have hu := List.find?_some hx
      have hul : u < g.length := by have := List.mem_of_find?_eq_some hx; simpa using this
      obtain ⟨h4, h5, h6⟩ := fine_iff.1 hu
      rw [ih _ (or_pow_lt hS hul) (by rw [card_add hg.len hS hul h4]; omega) h6]
theorem bestO_len {g : List Nat} (hg : Gr g) : (bestO g).length = g.length := bestF_len hg _ 0 (Nat.two_pow_pos _) (by rw [card_zero, Nat.add_zero]) (Int.le_refl _)
end Go.Tree
