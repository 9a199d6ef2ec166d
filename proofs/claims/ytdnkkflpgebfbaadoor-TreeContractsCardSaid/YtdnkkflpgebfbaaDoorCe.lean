/- The numbers of ways to part a set into classes, and of ways to colour it. -/
import Derived.Test.YtdnkkflpgebfbaaDoorCd
set_option linter.unusedSectionVars false
namespace Go.Tree
open Go.W

theorem sm_single (a : Nat) (f : Nat → Nat) : ∀ N, sm N (fun x => if x = a then f x else 0) = if a < N then f a else 0 := by
  intro N
  induction N with
  | zero => simp [sm]
  | succ N ih =>
    rw [sm, ih]
    by_cases h : N = a
    · subst h; simp
    · by_cases h2 : a < N
      · rw [if_pos h2, if_neg h, if_pos (by omega)]; omega
      · rw [if_neg h2, if_neg h, if_neg (by omega)]
theorem sub_iff {x S : Nat} : x &&& S = x ↔ ∀ i, x.testBit i = true → S.testBit i = true := by
  constructor
  · intro h i hi
    have := congrArg (fun z => z.testBit i) h
    simp only [Nat.testBit_and, hi, Bool.true_and] at this
    exact this
  · intro h
    apply Nat.eq_of_testBit_eq
    intro i
    rw [Nat.testBit_and]
    cases hx : x.testBit i with
    | false => rfl
    | true => rw [h i hx]; rfl
theorem bit_pair {t x y : Nat} : (y = x ||| 2 ^ t ∧ x.testBit t = false) ↔ (y.testBit t = true ∧ x = bd y (2 ^ t)) := by
  constructor
  · rintro ⟨rfl, h⟩
    refine ⟨by simp [Nat.testBit_or], ?_⟩
    apply Nat.eq_of_testBit_eq
    intro i
    rw [testBit_bd, Nat.testBit_or, Nat.testBit_two_pow]
    by_cases hi : t = i
    · subst hi; simp [h]
    · simp [hi]
  · rintro ⟨h, rfl⟩
    refine ⟨?_, by rw [testBit_bd, Nat.testBit_two_pow]; simp⟩
    apply Nat.eq_of_testBit_eq
    intro i
    rw [Nat.testBit_or, testBit_bd, Nat.testBit_two_pow]
    by_cases hi : t = i
    · subst hi; simp [h]
    · simp [hi]
theorem sm_bit {n t : Nat} (ht : t < n) (h : Nat → Nat) : sm (2 ^ n) (fun x => if x.testBit t = true then h x else 0) = sm (2 ^ n) (fun x => if x.testBit t = true then 0 else h (x ||| 2 ^ t)) := by
  have e1 : sm (2 ^ n) (fun x => if x.testBit t = true then 0 else h (x ||| 2 ^ t)) = sm (2 ^ n) (fun x => sm (2 ^ n) (fun y => if y = x ||| 2 ^ t ∧ x.testBit t = false then h y else 0)) := by
    refine sm_congr _ fun x hx => ?_
    cases hb : x.testBit t with
    | true => rw [if_pos rfl]; refine ((sm_zero (2 ^ n)).symm.trans ?_); refine sm_congr _ fun y _ => ?_; rw [if_neg (fun h => by cases h.2)]
    | false =>
      have := sm_single (x ||| 2 ^ t) h (2 ^ n)
      rw [if_pos (or_pow_lt hx ht)] at this
      simp only [and_true]
      rw [this]; rfl
  have e2 : sm (2 ^ n) (fun x => if x.testBit t = true then h x else 0) = sm (2 ^ n) (fun y => sm (2 ^ n) (fun x => if y.testBit t = true ∧ x = bd y (2 ^ t) then h y else 0)) := by
    refine sm_congr _ fun y hy => ?_
    cases hb : y.testBit t with
    | false => simp only [Bool.false_eq_true, false_and, if_false]; exact (sm_zero _).symm
    | true =>
      have := sm_single (bd y (2 ^ t)) (fun _ => h y) (2 ^ n)
      rw [if_pos (Nat.lt_of_le_of_lt (bd_le _ _) hy)] at this
      simp only [true_and, if_true]
      rw [this]
  rw [e1, e2, sm_swap]
  refine sm_congr _ fun x _ => sm_congr _ fun y _ => ?_
  by_cases hc : y = x ||| 2 ^ t ∧ x.testBit t = false
  · rw [if_pos hc, if_pos (bit_pair.1 hc)]
  · rw [if_neg hc, if_neg (fun h => hc (bit_pair.2 h))]

theorem ss_congr {R : Nat} {f g : Nat → Nat} (h : ∀ x, x &&& R = x → f x = g x) : ss R f = ss R g := by
  refine sm_congr _ fun x _ => ?_
  by_cases hx : x &&& R = x
  · rw [if_pos hx, if_pos hx, h x hx]
  · rw [if_neg hx, if_neg hx]
theorem ss_le {R : Nat} {f g : Nat → Nat} (h : ∀ x, x &&& R = x → f x ≤ g x) : ss R f ≤ ss R g := by
  refine sm_le _ fun x _ => ?_
  by_cases hx : x &&& R = x
  · rw [if_pos hx, if_pos hx]; exact h x hx
  · rw [if_neg hx, if_neg hx]; exact Nat.le_refl _
theorem ss_mul (c R : Nat) (f : Nat → Nat) : ss R (fun x => c * f x) = c * ss R f := by
  unfold ss
  rw [← sm_mul]
  refine sm_congr _ fun x _ => ?_
  by_cases hx : x &&& R = x
  · rw [if_pos hx, if_pos hx]
  · rw [if_neg hx, if_neg hx, Nat.mul_zero]
theorem ss_null (R : Nat) : ss R (fun _ => 0) = 0 := by
  unfold ss
  refine Eq.trans ?_ (sm_zero (R + 1))
  refine sm_congr _ fun x _ => ?_
  split <;> rfl
theorem ss_zero (f : Nat → Nat) : ss 0 f = f 0 := by simp [ss, sm]
theorem ss_sm (R N : Nat) (f : Nat → Nat → Nat) : ss R (fun x => sm N (fun m => f x m)) = sm N (fun m => ss R (fun x => f x m)) := by
  unfold ss
  rw [← sm_swap]
  refine sm_congr _ fun x _ => ?_
  by_cases hx : x &&& R = x
  · rw [if_pos hx]; refine sm_congr _ fun m _ => ?_; rw [if_pos hx]
  · rw [if_neg hx]; refine ((sm_zero N).symm.trans ?_); refine sm_congr _ fun m _ => ?_; rw [if_neg hx]
theorem ss_swap (R : Nat) (f : Nat → Nat → Nat) : ss R (fun x => ss (bd R x) (fun y => f x y)) = ss R (fun y => ss (bd R y) (fun x => f x y)) := by
  have e : ∀ f : Nat → Nat → Nat, ss R (fun x => ss (bd R x) (fun y => f x y)) = sm (R + 1) (fun x => sm (R + 1) (fun y => if x &&& R = x ∧ y &&& bd R x = y then f x y else 0)) := by
    intro f
    refine sm_congr _ fun x _ => ?_
    by_cases hx : x &&& R = x
    · rw [if_pos hx]
      refine (ss_up (N := R + 1) (by have := bd_le R x; omega) (fun y => f x y)).symm.trans ?_
      refine sm_congr _ fun y _ => ?_
      simp only [hx, true_and]
    · rw [if_neg hx]
      refine ((sm_zero (R + 1)).symm.trans ?_)
      refine sm_congr _ fun y _ => ?_
      rw [if_neg (fun h => hx h.1)]
  rw [e, e (fun y x => f x y), sm_swap]
  refine sm_congr _ fun y _ => sm_congr _ fun x _ => ?_
  have key : ∀ x y : Nat, (x &&& R = x ∧ y &&& bd R x = y) → (y &&& R = y ∧ x &&& bd R y = x) := by
    rintro x y ⟨h1, h2⟩
    rw [sub_iff] at h1 h2
    refine ⟨sub_iff.2 fun i hi => ?_, sub_iff.2 fun i hi => ?_⟩
    · have := h2 i hi
      rw [testBit_bd] at this
      simp at this
      exact this.1
    · rw [testBit_bd, h1 i hi]
      cases hy : y.testBit i with
      | false => rfl
      | true =>
        have := h2 i hy
        rw [testBit_bd, hi] at this
        simp at this
  by_cases hc : x &&& R = x ∧ y &&& bd R x = y
  · rw [if_pos hc, if_pos (key x y hc)]
  · rw [if_neg hc, if_neg (fun h => hc (key y x h))]
theorem ss_part {S t n : Nat} (hS : S < 2 ^ n) (ht : S.testBit t = true) (f : Nat → Nat) : ss S f = ss (bd S (2 ^ t)) f + ss (bd S (2 ^ t)) (fun x => f (x ||| 2 ^ t)) := by
  have htn := lt_of_testBit hS ht
  have hR : bd S (2 ^ t) < 2 ^ n := Nat.lt_of_le_of_lt (bd_le _ _) hS
  rw [← ss_up hS, ← ss_up hR, ← ss_up hR]
  have e1 : sm (2 ^ n) (fun x => if x &&& S = x then f x else 0) = sm (2 ^ n) (fun x => (if x &&& bd S (2 ^ t) = x then f x else 0) + (if x.testBit t = true then (if x &&& S = x then f x else 0) else 0)) := by
    refine sm_congr _ fun x _ => ?_
    cases hb : x.testBit t with
    | true =>
      have hno : ¬ x &&& bd S (2 ^ t) = x := fun h => by
        have := sub_iff.1 h t hb
        rw [testBit_bd, Nat.testBit_two_pow] at this
        simp at this
      simp only [hno, if_false, if_true, Nat.zero_add]
    | false =>
      have : (x &&& bd S (2 ^ t) = x) ↔ (x &&& S = x) := by
        rw [sub_iff, sub_iff]
        constructor
        · intro h i hi
          have := h i hi
          rw [testBit_bd] at this
          simp at this
          exact this.1
        · intro h i hi
          rw [testBit_bd, h i hi, Nat.testBit_two_pow]
          have : t ≠ i := by intro e; rw [e] at hb; rw [hb] at hi; cases hi
          simp [this]
      simp only [this, Bool.false_eq_true, if_false, Nat.add_zero]
  rw [e1, sm_add, sm_bit htn]
  congr 1
  refine sm_congr _ fun x _ => ?_
  cases hb : x.testBit t with
  | true =>
    rw [if_pos rfl, if_neg (fun h => by
      have := sub_iff.1 h t hb
      rw [testBit_bd, Nat.testBit_two_pow] at this
      simp at this)]
  | false =>
    have : (x &&& bd S (2 ^ t) = x) ↔ ((x ||| 2 ^ t) &&& S = (x ||| 2 ^ t)) := by
      rw [sub_iff, sub_iff]
      constructor
      · intro h i hi
        rw [Nat.testBit_or, Nat.testBit_two_pow] at hi
        by_cases e : t = i
        · rw [← e]; exact ht
        · simp [e] at hi
          have := h i hi
          rw [testBit_bd] at this
          simp at this
          exact this.1
      · intro h i hi
        rw [testBit_bd, h i (by rw [Nat.testBit_or, hi]; rfl), Nat.testBit_two_pow]
        have : t ≠ i := by intro e; rw [e] at hb; rw [hb] at hi; cases hi
        simp [this]
    simp only [this, Bool.false_eq_true, if_false]
section
variable {S : Nat} (h0 : S ≠ 0) (h : S < 16384)
include h0 h
theorem low_bit : S.testBit (tz S) = true := (tz_spec h0 (by omega)).1
theorem ss_split (f : Nat → Nat) : ss S f = ss (rst S) f + ss (rst S) (fun x => f (x ||| low S)) := ss_part (n := 14) h (low_bit h0 h) f
theorem bd_in {x : Nat} (_hx : x &&& rst S = x) : bd S (x ||| low S) = bd (rst S) x := by
  apply Nat.eq_of_testBit_eq
  intro i
  simp only [testBit_bd, Nat.testBit_or, rst]
  cases S.testBit i <;> cases x.testBit i <;> cases (low S).testBit i <;> rfl
theorem bd_out {x : Nat} (hx : x &&& rst S = x) : (bd S x).testBit (tz S) = true ∧ bd S x ≠ 0 ∧ tz (bd S x) = tz S ∧ rst (bd S x) = bd (rst S) x := by
  have h1 := low_bit h0 h
  have h2 : x.testBit (tz S) = false := by
    cases hb : x.testBit (tz S) with
    | false => rfl
    | true =>
      have := sub_iff.1 hx _ hb
      rw [rst, low, testBit_bd, Nat.testBit_two_pow] at this
      simp at this
  have h3 : (bd S x).testBit (tz S) = true := by rw [testBit_bd, h1, h2]; rfl
  have h4 : bd S x ≠ 0 := by intro e; rw [e] at h3; simp at h3
  have h5 : bd S x < 18446744073709551616 := by have := bd_le S x; omega
  have h6 := tz_spec h4 h5
  have h7 := tz_spec h0 (by omega)
  have h8 : tz (bd S x) = tz S := by
    rcases Nat.lt_trichotomy (tz (bd S x)) (tz S) with hlt | heq | hlt
    · have := h7.2.1 _ hlt
      have h9 := h6.1
      rw [testBit_bd, this] at h9
      cases h9
    · exact heq
    · have := h6.2.1 _ hlt
      rw [h3] at this; cases this
  refine ⟨h3, h4, h8, ?_⟩
  rw [rst, low, h8]
  apply Nat.eq_of_testBit_eq
  intro i
  simp only [testBit_bd, rst, low]
  cases S.testBit i <;> cases x.testBit i <;> cases (2 ^ tz S).testBit i <;> rfl
theorem card_out {x : Nat} (hx : x &&& rst S = x) : card (bd S x) = card (bd (rst S) x) + 1 := by
  obtain ⟨h1, h2, h3, h4⟩ := bd_out h0 h hx
  have := card_rst h2 (Nat.lt_of_le_of_lt (bd_le _ _) h)
  rw [h4] at this
  omega
end

def colD (p : Nat → Bool) : Nat → Nat → Nat
  | 0, S => if S = 0 then 1 else 0
  | c + 1, S => ss S fun x => if p x = true then colD p c (bd S x) else 0
def pp (p : Nat → Bool) : Nat → Nat → Nat
  | 0, S => if S = 0 then 1 else 0
  | m + 1, S => if S = 0 then 0 else ss (rst S) fun x => if p (x ||| low S) = true then pp p m (bd (rst S) x) else 0

theorem colD_step (p : Nat → Bool) : ∀ (c S : Nat), S ≠ 0 → S < 16384 → colD p (c + 1) S = (c + 1) * ss (rst S) (fun x => if p (x ||| low S) = true then colD p c (bd (rst S) x) else 0) := by
  intro c
  induction c with
  | zero =>
    intro S h0 h
    rw [colD, ss_split h0 h, ss_congr (g := fun _ => 0), ss_null, Nat.zero_add, Nat.zero_add, Nat.one_mul]
    · refine ss_congr fun x hx => ?_
      rw [bd_in h0 h hx]
    · intro x hx
      rw [colD, if_neg (bd_out h0 h hx).2.1]
      split <;> rfl
  | succ c ih =>
    intro S h0 h
    rw [colD, ss_split h0 h]
    have e2 : ss (rst S) (fun x => if p (x ||| low S) = true then colD p (c + 1) (bd S (x ||| low S)) else 0) = ss (rst S) (fun x => if p (x ||| low S) = true then colD p (c + 1) (bd (rst S) x) else 0) := by
      refine ss_congr fun x hx => ?_
      rw [bd_in h0 h hx]
    have e1 : ss (rst S) (fun x => if p x = true then colD p (c + 1) (bd S x) else 0) = (c + 1) * ss (rst S) (fun x => if p (x ||| low S) = true then colD p (c + 1) (bd (rst S) x) else 0) := by
      have e3 : ss (rst S) (fun x => if p x = true then colD p (c + 1) (bd S x) else 0) = ss (rst S) (fun x => (c + 1) * ss (bd (rst S) x) (fun y => if p x = true ∧ p (y ||| low S) = true then colD p c (bd (bd (rst S) x) y) else 0)) := by
        refine ss_congr fun x hx => ?_
        obtain ⟨_, h1, h2, h3⟩ := bd_out h0 h hx
        by_cases hp : p x = true
        · rw [if_pos hp, ih _ h1 (Nat.lt_of_le_of_lt (bd_le _ _) h), h3]
          congr 1
          refine ss_congr fun y _ => ?_
          have : low (bd S x) = low S := by rw [low, h2]; rfl
          rw [this]
          simp only [hp, true_and]
        · rw [if_neg hp, ss_congr (g := fun _ => 0), ss_null, Nat.mul_zero]
          intro y _
          rw [if_neg (fun h => hp h.1)]
      rw [e3, ss_mul, ss_swap]
      congr 1
      refine ss_congr fun y _ => ?_
      by_cases hp : p (y ||| low S) = true
      · rw [if_pos hp, colD]
        refine ss_congr fun x _ => ?_
        simp only [hp, and_true]
        have : bd (bd (rst S) x) y = bd (bd (rst S) y) x := by
          apply Nat.eq_of_testBit_eq
          intro i
          simp only [testBit_bd]
          cases (rst S).testBit i <;> cases x.testBit i <;> cases y.testBit i <;> rfl
        rw [this]
      · rw [if_neg hp, ss_congr (g := fun _ => 0), ss_null]
        intro x _
        rw [if_neg (fun h => hp h.2)]
    rw [e1, e2, Nat.add_mul (c + 1) 1, Nat.one_mul]
theorem colD_zero {p : Nat → Bool} (h : p 0 = true) : ∀ c, colD p c 0 = 1 := by
  intro c
  induction c with
  | zero => rfl
  | succ c ih =>
    rw [colD, ss_zero, if_pos h]
    have : bd 0 0 = 0 := rfl
    rw [this, ih]
theorem pp_supp (p : Nat → Bool) : ∀ (m S : Nat), S < 16384 → card S < m → pp p m S = 0 := by
  intro m
  induction m with
  | zero => intro S _ h; omega
  | succ m ih =>
    intro S hS h
    rw [pp]
    split
    · rfl
    · rename_i h0
      rw [ss_congr (g := fun _ => 0), ss_null]
      intro x hx
      have h1 := card_rst h0 hS
      have h2 := card_sub (rst S) x
      have h3 := rst_lt h0 hS
      have h4 := bd_le (rst S) x
      rw [ih _ (by omega) (by omega)]
      split <;> rfl
theorem ss_pow (c : Nat) : ∀ R, R < 16384 → ss R (fun x => c ^ card (bd R x)) = (c + 1) ^ card R := by
  intro R
  induction R using Nat.strongRecOn with
  | _ R ih =>
  intro hR
  by_cases h0 : R = 0
  · subst h0
    rw [ss_zero]
    have : bd 0 0 = 0 := rfl
    rw [this, card_zero]; rfl
  · have h1 := card_rst h0 hR
    have h2 := rst_lt h0 hR
    rw [ss_split h0 hR]
    have e1 : ss (rst R) (fun x => c ^ card (bd R x)) = c * ss (rst R) (fun x => c ^ card (bd (rst R) x)) := by
      rw [← ss_mul]
      refine ss_congr fun x hx => ?_
      rw [card_out h0 hR hx, Nat.pow_succ, Nat.mul_comm]
    have e2 : ss (rst R) (fun x => c ^ card (bd R (x ||| low R))) = ss (rst R) (fun x => c ^ card (bd (rst R) x)) := by
      refine ss_congr fun x hx => ?_
      rw [bd_in h0 hR hx]
    rw [e1, e2, ih _ h2 (by omega), ← h1, Nat.pow_succ, Nat.mul_add, Nat.mul_one, Nat.mul_comm]
theorem pp_le (p : Nat → Bool) : ∀ (m S : Nat), S < 16384 → pp p m S ≤ m ^ card S := by
  intro m
  induction m with
  | zero =>
    intro S _
    rw [pp]
    split
    · rename_i h; rw [h, card_zero]; exact Nat.le_refl _
    · exact Nat.zero_le _
  | succ m ih =>
    intro S hS
    rw [pp]
    split
    · exact Nat.zero_le _
    · rename_i h0
      have h1 := card_rst h0 hS
      have h2 := rst_lt h0 hS
      refine Nat.le_trans (ss_le (g := fun x => m ^ card (bd (rst S) x)) fun x _ => ?_) ?_
      · split
        · exact ih _ (by have := bd_le (rst S) x; omega)
        · exact Nat.zero_le _
      · rw [ss_pow m _ (by omega)]
        exact Nat.pow_le_pow_right (by omega) (by omega)
theorem colD_le (p : Nat → Bool) : ∀ (c S : Nat), S < 16384 → colD p c S ≤ c ^ card S := by
  intro c
  induction c with
  | zero =>
    intro S _
    rw [colD]
    split
    · rename_i h; rw [h, card_zero]; exact Nat.le_refl _
    · exact Nat.zero_le _
  | succ c ih =>
    intro S hS
    rw [colD]
    refine Nat.le_trans (ss_le (g := fun x => c ^ card (bd S x)) fun x _ => ?_) (Nat.le_of_eq (ss_pow c S hS))
    split
    · exact ih _ (by have := bd_le S x; omega)
    · exact Nat.zero_le _
def desc (k : Nat) : Nat → Nat
  | 0 => 1
  | m + 1 => desc k m * (k - m)
theorem desc_shift (k : Nat) : ∀ m, desc k (m + 1) = k * desc (k - 1) m := by
  intro m
  induction m with
  | zero => simp [desc]
  | succ m ih => rw [desc, ih, desc, Nat.mul_assoc]; congr 2; omega
theorem sm_shift (f : Nat → Nat) : ∀ N, sm (N + 1) f = f 0 + sm N (fun m => f (m + 1)) := by
  intro N
  induction N with
  | zero => simp [sm]
  | succ N ih => rw [sm, ih, sm]; omega
/-- The colourings, counted by the number of classes. -/
theorem col_sum {p : Nat → Bool} (hp : p 0 = true) : ∀ (S : Nat), S < 16384 → ∀ k, sm 15 (fun m => pp p m S * desc k m) = colD p k S := by
  intro S
  induction S using Nat.strongRecOn with
  | _ S ih =>
  intro hS k
  by_cases h0 : S = 0
  · subst h0
    rw [colD_zero hp, sm_shift, sm_congr (g := fun _ => 0), sm_zero]
    · simp [pp, desc]
    · intro m _
      rw [pp, if_pos rfl, Nat.zero_mul]
  · have h1 := card_rst h0 hS
    have h2 := rst_lt h0 hS
    have hc : card S ≤ 14 := card_le (by decide) hS
    rw [sm_shift]
    have e0 : pp p 0 S * desc k 0 = 0 := by rw [pp, if_neg h0, Nat.zero_mul]
    have e1 : sm 14 (fun m => pp p (m + 1) S * desc k (m + 1)) = k * ss (rst S) (fun x => if p (x ||| low S) = true then colD p (k - 1) (bd (rst S) x) else 0) := by
      have e2 : sm 14 (fun m => pp p (m + 1) S * desc k (m + 1)) = sm 14 (fun m => ss (rst S) (fun x => k * (if p (x ||| low S) = true then pp p m (bd (rst S) x) * desc (k - 1) m else 0))) := by
        refine sm_congr _ fun m _ => ?_
        rw [pp, if_neg h0, desc_shift, Nat.mul_comm, ← ss_mul]
        refine ss_congr fun x _ => ?_
        split
        · rw [Nat.mul_assoc]; congr 1; exact Nat.mul_comm _ _
        · rw [Nat.mul_zero, Nat.mul_zero]
      rw [e2, ← ss_sm, ← ss_mul]
      refine ss_congr fun x _ => ?_
      rw [sm_mul]
      congr 1
      split
      · have h3 := bd_le (rst S) x
        have h4 := card_sub (rst S) x
        rw [← ih _ (by omega) (by omega), show sm 15 (fun m => pp p m (bd (rst S) x) * desc (k - 1) m) = sm 14 (fun m => pp p m (bd (rst S) x) * desc (k - 1) m) + pp p 14 (bd (rst S) x) * desc (k - 1) 14 from rfl, pp_supp p 14 _ (by omega) (by omega), Nat.zero_mul, Nat.add_zero]
      · exact sm_zero 14
    rw [e0, e1, Nat.zero_add]
    cases k with
    | zero => rw [Nat.zero_mul, colD, if_neg h0]
    | succ k => rw [colD_step p k S h0 hS]; rfl
end Go.Tree
