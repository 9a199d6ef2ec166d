/- Graphs with two vertices made one, and with vertices left out: colourings and independent sets. -/
import Derived.Test.YtdnkkflpgebfbaaDoorPg
namespace Go.Tree
open Go.W

/-- The set of the numbers below m for which something holds. -/
def mkS (P : Nat → Bool) : Nat → Nat
  | 0 => 0
  | m + 1 => if P m = true then mkS P m ||| 2 ^ m else mkS P m
theorem mkS_lt (P : Nat → Bool) : ∀ m, mkS P m < 2 ^ m := by
  intro m
  induction m with
  | zero => exact Nat.one_pos
  | succ m ih =>
    have h : mkS P m < 2 ^ (m + 1) := Nat.lt_of_lt_of_le ih (Nat.pow_le_pow_right (by decide) (by omega))
    rw [mkS]
    split
    · exact Nat.or_lt_two_pow h (Nat.pow_lt_pow_right (by decide) (by omega))
    · exact h
theorem mkS_bit (P : Nat → Bool) : ∀ m i, (mkS P m).testBit i = (decide (i < m) && P i) := by
  intro m
  induction m with
  | zero => intro i; simp [mkS]
  | succ m ih =>
    intro i
    rw [mkS]
    by_cases hi : i = m
    · subst hi
      have : (mkS P i).testBit i = false := testBit_lt (mkS_lt P i) (Nat.le_refl _)
      split
      · rename_i h; simp [h]
      · rename_i h; rw [this]; simp [h]
    · have e : decide (i < m + 1) = decide (i < m) := by rw [Bool.eq_iff_iff]; simp; omega
      split
      · rw [Nat.testBit_or, ih, Nat.testBit_two_pow, e]
        have : ¬ m = i := fun h => hi h.symm
        simp [this]
      · rw [ih, e]
theorem ss_bij {R R' : Nat} (φ ψ : Nat → Nat) (f : Nat → Nat) (h1 : ∀ x, x &&& R = x → φ x &&& R' = φ x ∧ ψ (φ x) = x) (h2 : ∀ y, y &&& R' = y → ψ y &&& R = ψ y ∧ φ (ψ y) = y) : ss R (fun x => f (φ x)) = ss R' f := by
  have hle : ∀ {x S : Nat}, x &&& S = x → x ≤ S := by
    intro x S h
    have : x &&& S ≤ S := Nat.and_le_right
    omega
  obtain ⟨N, hN1, hN2⟩ : ∃ N, R < N ∧ R' < N := ⟨R + R' + 1, by omega, by omega⟩
  rw [← ss_up hN1, ← ss_up hN2]
  have e1 : sm N (fun x => if x &&& R = x then f (φ x) else 0) = sm N (fun x => sm N (fun y => if x &&& R = x ∧ y = φ x then f y else 0)) := by
    refine sm_congr _ fun x _ => ?_
    by_cases hx : x &&& R = x
    · rw [if_pos hx]
      have hlt : φ x < N := by have := hle (h1 x hx).1; omega
      have := sm_single (φ x) f N
      rw [if_pos hlt] at this
      refine this.symm.trans ?_
      refine sm_congr _ fun y _ => ?_
      simp only [hx, true_and]
    · rw [if_neg hx]
      refine ((sm_zero N).symm.trans ?_)
      refine sm_congr _ fun y _ => ?_
      rw [if_neg (fun h => hx h.1)]
  have e2 : sm N (fun y => if y &&& R' = y then f y else 0) = sm N (fun y => sm N (fun x => if y &&& R' = y ∧ x = ψ y then f y else 0)) := by
    refine sm_congr _ fun y _ => ?_
    by_cases hy : y &&& R' = y
    · rw [if_pos hy]
      have hlt : ψ y < N := by have := hle (h2 y hy).1; omega
      have := sm_single (ψ y) (fun _ => f y) N
      rw [if_pos hlt] at this
      refine this.symm.trans ?_
      refine sm_congr _ fun x _ => ?_
      simp only [hy, true_and]
    · rw [if_neg hy]
      refine ((sm_zero N).symm.trans ?_)
      refine sm_congr _ fun x _ => ?_
      rw [if_neg (fun h => hy h.1)]
  rw [e1, e2, sm_swap]
  refine sm_congr _ fun y _ => sm_congr _ fun x _ => ?_
  by_cases hc : x &&& R = x ∧ y = φ x
  · obtain ⟨hx, rfl⟩ := hc
    rw [if_pos ⟨hx, rfl⟩, if_pos ⟨(h1 x hx).1, (h1 x hx).2.symm⟩]
  · rw [if_neg hc, if_neg]
    rintro ⟨hy, rfl⟩
    exact hc ⟨(h2 y hy).1, (h2 y hy).2.symm⟩
theorem eq_bits {x y : Nat} (h : ∀ i, x.testBit i = y.testBit i) : x = y := Nat.eq_of_testBit_eq h
theorem sub_bit {x S i : Nat} (h : x &&& S = x) (hi : S.testBit i = false) : x.testBit i = false := by
  cases hb : x.testBit i with
  | false => rfl
  | true => rw [sub_iff.1 h i hb] at hi; cases hi

/-! ### Independent sets -/
abbrev Ind (g : List Nat) (S : Nat) : Bool := fr (fun u v => !nb g u v) S
theorem ind_ex {n : Int} {es : List Ed} {g : List Nat} (hmk : mkG n es = some g) {S : Nat} (hS : S < 2 ^ g.length) : Ind g S = true ↔ ∀ u v, S.testBit u = true → S.testBit v = true → (g.getD u 0).testBit v = false := by
  rw [ind_iff hmk hS]
  constructor
  · intro h u v hu hv
    have := congrArg (fun z => z.testBit v) (h u hu)
    simp only [Nat.testBit_and, hv, Bool.true_and, Nat.zero_testBit] at this
    exact this
  · intro h u hu
    refine eq_bits fun i => ?_
    rw [Nat.testBit_and, Nat.zero_testBit]
    cases hi : S.testBit i with
    | false => rfl
    | true => rw [h u i hu hi]; rfl
/-- How many independent sets there are. -/
def nI (g : List Nat) : Nat := ss (full g.length) fun S => if Ind g S = true then 1 else 0
theorem apR_nI (g : List Nat) : (apR (fun u v => !nb g u v) (2 ^ g.length)).1 = nI g := by
  have h1 : ∀ k, (apR (fun u v => !nb g u v) k).1 = sm k (fun S => if Ind g S = true then 1 else 0) := by
    intro k
    induction k with
    | zero => rfl
    | succ k ih =>
      rw [apR_succ, apStep, sm, ← ih]
      split <;> rfl
  rw [h1, nI, ← ss_up (full_lt g.length)]
  refine sm_congr _ fun S hS => ?_
  rw [if_pos (sub_iff.2 fun i hi => by rw [full_testBit]; simpa using lt_of_testBit hS hi)]
/-- A graph's vertices among another one's: by new numbers. -/
structure Rel (h g : List Nat) (σ : Nat → Nat) : Prop where
  lt : ∀ x, x < h.length → σ x < g.length
  inj : ∀ x y, x < h.length → y < h.length → σ x = σ y → x = y
  adj : ∀ x y, x < h.length → y < h.length → (h.getD x 0).testBit y = (g.getD (σ x) 0).testBit (σ y)
def im (σ : Nat → Nat) (m n x : Nat) : Nat := mkS (fun j => (List.range m).any fun i => x.testBit i && σ i == j) n
theorem im_bit {σ : Nat → Nat} {m n : Nat} (x j : Nat) : (im σ m n x).testBit j = true ↔ j < n ∧ ∃ i, i < m ∧ x.testBit i = true ∧ σ i = j := by
  simp [im, mkS_bit]
section
variable {n n' : Int} {es es' : List Ed} {g h : List Nat} (hmk : mkG n es = some g) (hmk' : mkG n' es' = some h) {σ : Nat → Nat} (r : Rel h g σ)
include hmk hmk' r
theorem im_ind {x : Nat} (hx : x < 2 ^ h.length) : Ind h x = Ind g (im σ h.length g.length x) := by
  have hi : im σ h.length g.length x < 2 ^ g.length := mkS_lt _ _
  rw [Bool.eq_iff_iff, ind_ex hmk' hx, ind_ex hmk hi]
  constructor
  · intro H u v hu hv
    obtain ⟨_, i, hi1, hi2, rfl⟩ := (im_bit _ _).1 hu
    obtain ⟨_, j, hj1, hj2, rfl⟩ := (im_bit _ _).1 hv
    rw [← r.adj i j hi1 hj1]
    exact H i j hi2 hj2
  · intro H u v hu hv
    have h1 := lt_of_testBit hx hu
    have h2 := lt_of_testBit hx hv
    rw [r.adj u v h1 h2]
    exact H _ _ ((im_bit _ _).2 ⟨r.lt u h1, u, h1, hu, rfl⟩) ((im_bit _ _).2 ⟨r.lt v h2, v, h2, hv, rfl⟩)
/-- The independent sets of the smaller graph are those inside the vertices that it keeps. -/
theorem nI_rel {R : Nat} (hR : R < 2 ^ g.length) (hRi : ∀ j, R.testBit j = true ↔ ∃ i, i < h.length ∧ σ i = j) : nI h = ss R fun S => if Ind g S = true then 1 else 0 := by
  have e : nI h = ss (full h.length) (fun x => (fun S => if Ind g S = true then 1 else 0) (im σ h.length g.length x)) := by
    refine ss_congr fun x hx => ?_
    have hlt : x < 2 ^ h.length := by
      have : x &&& full h.length ≤ full h.length := Nat.and_le_right
      have := full_lt h.length
      omega
    simp only [im_ind hmk hmk' r hlt]
  rw [e]
  refine ss_bij (im σ h.length g.length) (fun y => mkS (fun i => y.testBit (σ i)) h.length) (fun S => if Ind g S = true then 1 else 0) (fun x hx => ⟨?_, ?_⟩) (fun y hy => ⟨?_, ?_⟩)
  · refine sub_iff.2 fun j hj => ?_
    obtain ⟨_, i, h1, _, h3⟩ := (im_bit _ _).1 hj
    exact (hRi j).2 ⟨i, h1, h3⟩
  · refine eq_bits fun i => ?_
    rw [mkS_bit]
    by_cases hi : i < h.length
    · rw [decide_eq_true hi, Bool.true_and, Bool.eq_iff_iff, im_bit]
      constructor
      · rintro ⟨_, q, h1, h2, h3⟩
        rw [← r.inj q i h1 hi h3]; exact h2
      · intro hb; exact ⟨r.lt i hi, i, hi, hb, rfl⟩
    · rw [decide_eq_false hi, Bool.false_and, sub_bit hx (by rw [full_testBit]; simpa using hi)]
  · refine sub_iff.2 fun i hi => ?_
    rw [mkS_bit, Bool.and_eq_true] at hi
    rw [full_testBit]; exact hi.1
  · refine eq_bits fun j => ?_
    rw [Bool.eq_iff_iff, im_bit]
    constructor
    · rintro ⟨_, i, h1, h2, rfl⟩
      rw [mkS_bit, Bool.and_eq_true] at h2
      exact h2.2
    · intro hb
      obtain ⟨i, h1, rfl⟩ := (hRi j).1 (sub_iff.1 hy j hb)
      exact ⟨r.lt i h1, i, h1, by rw [mkS_bit, hb, decide_eq_true h1]; rfl, rfl⟩
end
/-- The independent sets without a vertex, and those that contain it. -/
theorem nI_split {n n1 n2 : Int} {es es1 es2 : List Ed} {g h1 h2 : List Nat} (hmk : mkG n es = some g) (hmk1 : mkG n1 es1 = some h1) (hmk2 : mkG n2 es2 = some h2) {a : Nat} (ha : a < g.length) {σ1 σ2 : Nat → Nat} (r1 : Rel h1 g σ1) (r2 : Rel h2 g σ2)
    (i1 : ∀ j, (∃ i, i < h1.length ∧ σ1 i = j) ↔ j < g.length ∧ j ≠ a) (i2 : ∀ j, (∃ i, i < h2.length ∧ σ2 i = j) ↔ j < g.length ∧ j ≠ a ∧ (g.getD a 0).testBit j = false) : nI g = nI h1 + nI h2 := by
  have hfl := full_lt g.length
  have hfa : (full g.length).testBit a = true := by rw [full_testBit]; simpa using ha
  have hb1 : bd (full g.length) (2 ^ a) < 2 ^ g.length := Nat.lt_of_le_of_lt (bd_le _ _) hfl
  have hb2 : bd (bd (full g.length) (2 ^ a)) (g.getD a 0) < 2 ^ g.length := Nat.lt_of_le_of_lt (bd_le _ _) hb1
  have e1 : nI h1 = ss (bd (full g.length) (2 ^ a)) fun S => if Ind g S = true then 1 else 0 := by
    refine nI_rel hmk hmk1 r1 hb1 fun j => ?_
    rw [i1, testBit_bd, full_testBit, Nat.testBit_two_pow]
    simp
    omega
  have e2 : nI h2 = ss (bd (bd (full g.length) (2 ^ a)) (g.getD a 0)) fun S => if Ind g S = true then 1 else 0 := by
    refine nI_rel hmk hmk2 r2 hb2 fun j => ?_
    rw [i2, testBit_bd, testBit_bd, full_testBit, Nat.testBit_two_pow]
    cases (g.getD a 0).testBit j <;> simp
    omega
  rw [e1, e2, nI, ss_part hfl hfa]
  congr 1
  -- those with the vertex
  have e3 : ss (bd (full g.length) (2 ^ a)) (fun x => if Ind g (x ||| 2 ^ a) = true then 1 else 0) = ss (bd (full g.length) (2 ^ a)) (fun x => if x &&& bd (bd (full g.length) (2 ^ a)) (g.getD a 0) = x then (if Ind g x = true then 1 else 0) else 0) := by
    refine ss_congr fun x hx => ?_
    have hlt : x < 2 ^ g.length := by
      have : x &&& bd (full g.length) (2 ^ a) ≤ bd (full g.length) (2 ^ a) := Nat.and_le_right
      omega
    have hm : Ind g (x ||| 2 ^ a) = (Ind g x && decide (g.getD a 0 &&& x = 0)) := ind_more hmk ha hlt
    have hq : (g.getD a 0 &&& x = 0) ↔ (x &&& bd (bd (full g.length) (2 ^ a)) (g.getD a 0) = x) := by
      rw [sub_iff]
      constructor
      · intro h i hi
        rw [testBit_bd, sub_iff.1 hx i hi]
        have := congrArg (fun z => z.testBit i) h
        simp only [Nat.testBit_and, hi, Bool.and_true, Nat.zero_testBit] at this
        rw [this]; rfl
      · intro h
        refine eq_bits fun i => ?_
        rw [Nat.testBit_and, Nat.zero_testBit]
        cases hi : x.testBit i with
        | false => simp
        | true =>
          have := h i hi
          rw [testBit_bd, Bool.and_eq_true] at this
          simpa using this.2
    by_cases hc : g.getD a 0 &&& x = 0
    · rw [hm, decide_eq_true hc, Bool.and_true, if_pos (hq.1 hc)]
    · rw [hm, decide_eq_false hc, Bool.and_false, if_neg (fun h => hc (hq.2 h))]
      rfl
  have e4 : ∀ {R R' : Nat} (f : Nat → Nat), R' &&& R = R' → ss R (fun x => if x &&& R' = x then f x else 0) = ss R' f := by
    intro R R' f hsub
    have hle : R' ≤ R := by
      have : R' &&& R ≤ R := Nat.and_le_right
      omega
    rw [← ss_up (N := R + 1) (R := R') (by omega)]
    refine sm_congr _ fun x _ => ?_
    by_cases hx : x &&& R' = x
    · have : x &&& R = x := sub_iff.2 fun i hi => sub_iff.1 hsub i (sub_iff.1 hx i hi)
      rw [if_pos this]
    · rw [if_neg hx]
      show (if x &&& R = x then (if x &&& R' = x then f x else 0) else 0) = 0
      rw [if_neg hx]
      split <;> rfl
  rw [e3, e4]
  refine sub_iff.2 fun i hi => ?_
  rw [testBit_bd, Bool.and_eq_true] at hi
  exact hi.1
end Go.Tree
