/- Sets of small numbers, as bits of a number: how many elements they have. -/
import Derived.Test.YtdnkkflpgebfbaaDoorNb
namespace Go.W

/-- How many of the numbers below 16 are in a set. -/
def card (s : Nat) : Nat := (List.range 16).countP fun i => s.testBit i

theorem pcN_count : ∀ (f s : Nat), pcN f s = (List.range f).countP fun i => s.testBit i := by
  intro f
  induction f with
  | zero => intro s; rfl
  | succ f ih =>
    intro s
    rw [pcN, ih, List.range_succ_eq_map, List.countP_cons, List.countP_map]
    have e : ((fun i => s.testBit i) ∘ Nat.succ) = fun i => (s / 2).testBit i := by
      funext i
      simp [Function.comp, Nat.testBit_succ]
    rw [e]
    have : (if s.testBit 0 = true then 1 else 0) = s % 2 := by
      rw [Nat.testBit_zero]
      by_cases h : s % 2 = 1
      · simp [h]
      · have : s % 2 = 0 := by omega
        simp [this]
    omega
theorem pc_card (s : Nat) : pc s = card s := pcN_count 16 s

theorem countP_or_disj {α : Type} (p q : α → Bool) (l : List α) (h : ∀ x ∈ l, ¬ (p x = true ∧ q x = true)) : l.countP (fun x => p x || q x) = l.countP p + l.countP q := by
  induction l with
  | nil => rfl
  | cons x l ih =>
    have ih' := ih (fun y hy => h y (List.mem_cons_of_mem _ hy))
    have hx := h x (by simp)
    simp only [List.countP_cons, ih']
    cases hp : p x <;> cases hq : q x <;> simp_all <;> omega

theorem card_or {a b : Nat} (h : a &&& b = 0) : card (a ||| b) = card a + card b := by
  unfold card
  rw [← countP_or_disj]
  · congr 1; funext i; rw [Nat.testBit_or]
  · rintro i _ ⟨h1, h2⟩
    have := congrArg (fun x => x.testBit i) h
    simp [Nat.testBit_and, h1, h2] at this

theorem countP_le {α : Type} (p q : α → Bool) (l : List α) (h : ∀ x ∈ l, p x = true → q x = true) : l.countP p ≤ l.countP q := by
  induction l with
  | nil => simp
  | cons x l ih =>
    have ih' := ih (fun y hy => h y (List.mem_cons_of_mem _ hy))
    have hx := h x (by simp)
    simp only [List.countP_cons]
    cases hp : p x <;> cases hq : q x <;> simp_all <;> omega

theorem card_mono {a b : Nat} (h : ∀ i, a.testBit i = true → b.testBit i = true) : card a ≤ card b := countP_le _ _ _ fun i _ hi => h i hi
theorem card_le_or (a b : Nat) : card (a ||| b) ≤ card a + card b := by
  have h : a ||| b = a ||| bd b a := by
    apply Nat.eq_of_testBit_eq; intro i
    simp only [Nat.testBit_or, testBit_bd]
    cases a.testBit i <;> cases b.testBit i <;> rfl
  rw [h, card_or]
  · have : card (bd b a) ≤ card b := card_mono (fun i hi => by rw [testBit_bd] at hi; simp at hi; exact hi.1)
    omega
  · apply Nat.eq_of_testBit_eq; intro i
    simp only [Nat.testBit_and, testBit_bd, Nat.zero_testBit]
    cases a.testBit i <;> cases b.testBit i <;> rfl
theorem card_bd {a b : Nat} (h : ∀ i, b.testBit i = true → a.testBit i = true) : card (bd a b) + card b = card a := by
  have e : a = bd a b ||| b := by
    apply Nat.eq_of_testBit_eq; intro i
    have := h i
    simp only [Nat.testBit_or, testBit_bd]
    cases ha : a.testBit i <;> cases hb : b.testBit i <;> simp_all
  have := card_or (a := bd a b) (b := b) (by
    apply Nat.eq_of_testBit_eq; intro i
    simp only [Nat.testBit_and, testBit_bd, Nat.zero_testBit]
    cases a.testBit i <;> cases b.testBit i <;> rfl)
  rw [← e] at this; omega
theorem card_zero : card 0 = 0 := by decide
theorem testBit_lt {s i n : Nat} (h : s < 2 ^ n) (hi : n ≤ i) : s.testBit i = false := Nat.testBit_lt_two_pow (Nat.lt_of_lt_of_le h (Nat.pow_le_pow_right (by decide) hi))
theorem lt_of_testBit {s i n : Nat} (h : s < 2 ^ n) (hi : s.testBit i = true) : i < n := by
  apply Nat.lt_of_not_le
  intro hn
  rw [testBit_lt h hn] at hi; cases hi
theorem card_pos {s i : Nat} (hi : i < 16) (h : s.testBit i = true) : 0 < card s := by
  unfold card
  exact List.countP_pos_iff.2 ⟨i, List.mem_range.2 hi, h⟩
theorem card_full {n : Nat} (h : n ≤ 16) : card (2 ^ n - 1) = n := by
  unfold card
  have : ((fun i => (2 ^ n - 1).testBit i) : Nat → Bool) = fun i => decide (i < n) := by funext i; rw [Nat.testBit_two_pow_sub_one]
  rw [this]
  have : ∀ m, m ≤ 16 → (List.range 16).countP (fun i => decide (i < m)) = m := by decide
  exact this n h
theorem card_le {s n : Nat} (hn : n ≤ 16) (h : s < 2 ^ n) : card s ≤ n := by
  have := card_mono (a := s) (b := 2 ^ n - 1) (fun i hi => by rw [Nat.testBit_two_pow_sub_one]; simpa using lt_of_testBit h hi)
  rwa [card_full hn] at this
theorem card_pow {v : Nat} (hv : v < 16) : card (2 ^ v) = 1 := by
  unfold card
  have : ((fun i => (2 ^ v).testBit i) : Nat → Bool) = fun i => decide (v = i) := by funext i; rw [Nat.testBit_two_pow]
  rw [this]
  have : ∀ m, m < 16 → (List.range 16).countP (fun i => decide (m = i)) = 1 := by decide
  exact this v hv

/-! ### The lowest element -/
theorem tz_spec {s : Nat} (h0 : s ≠ 0) (h : s < 18446744073709551616) : s.testBit (tz s) = true ∧ (∀ j, j < tz s → s.testBit j = false) ∧ s &&& (s - 1) = bd s (2 ^ tz s) := by
  have hpos : 0 < s := Nat.pos_of_ne_zero h0
  obtain ⟨m, hm, hlt⟩ := Lib.ctzFrom_spec 64 s hpos (by omega)
  have ht : tz s = Lib.ctzFrom 64 s := by unfold tz Lib.ctz; rw [if_neg h0]
  rw [← ht] at hm hlt
  generalize tz s = k at *
  have hbit : ∀ j, s.testBit j = (if j < k then false else (2 * m + 1).testBit (j - k)) := by
    intro j
    rw [hm, Nat.testBit_two_pow_mul]
    by_cases hj : j < k
    · simp [hj]; omega
    · simp [hj]; omega
  have h1 : s.testBit k = true := by rw [hbit]; simp [Nat.testBit_zero]
  have hs1 : s - 1 = 2 ^ (k + 1) * m + (2 ^ k - 1) := by
    have hp : 0 < 2 ^ k := Nat.two_pow_pos k
    rw [hm, Nat.pow_succ, Nat.mul_add, Nat.mul_assoc, Nat.mul_one]; omega
  refine ⟨h1, fun j hj => by rw [hbit]; simp [hj], ?_⟩
  apply Nat.eq_of_testBit_eq
  intro j
  rw [Nat.testBit_and, testBit_bd, Nat.testBit_two_pow, hbit, hs1]
  have hp : 2 ^ k - 1 < 2 ^ (k + 1) := by rw [Nat.pow_succ]; have := Nat.two_pow_pos k; omega
  rw [Nat.testBit_two_pow_mul_add _ hp]
  by_cases hj : j < k
  · simp [hj]
  · by_cases hjk : j = k
    · subst hjk
      simp [Nat.testBit_two_pow_sub_one]
    · have e1 : ¬ j < k + 1 := by omega
      obtain ⟨q, rfl⟩ : ∃ q, j = k + 1 + q := ⟨j - (k + 1), by omega⟩
      have e2 : k + 1 + q - k = q + 1 := by omega
      have e3 : k + 1 + q - (k + 1) = q := by omega
      have e4 : ¬ (k + 1 + q < k) := by omega
      have e5 : k ≠ k + 1 + q := by omega
      simp only [e1, if_false, e2, e3, e4]
      rw [Nat.testBit_succ]
      have : (2 * m + 1) / 2 = m := by omega
      rw [this]
      simp
      intro _; omega
end Go.W
