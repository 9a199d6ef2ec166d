/- Polynomials mod a prime: products have no zero at the top; the quotient and the rest. -/
import Derived.Test.YtagfpnnplgkkoaaQa
namespace Go.Poly

/-- A prime. -/
def Pri (p : Nat) : Prop := 2 ≤ p ∧ ∀ d, d ∣ p → d = 1 ∨ d = p
theorem pri_mul {p : Nat} (hp : Pri p) {a b : Nat} (h : a * b % p = 0) : a % p = 0 ∨ b % p = 0 := by
  have hd : p ∣ a * b := Nat.dvd_of_mod_eq_zero h
  rcases hp.2 (Nat.gcd p a) (Nat.gcd_dvd_left p a) with h1 | h1
  · right
    exact Nat.mod_eq_zero_of_dvd (Nat.Coprime.dvd_of_dvd_mul_left h1 hd)
  · left
    exact Nat.mod_eq_zero_of_dvd (h1 ▸ Nat.gcd_dvd_right p a)
theorem mul_isP {p : Nat} (hp : Pri p) {f g : List Nat} (hf : IsP p f) (hg : IsP p g) : IsP p (mulL p f g) := by
  have hp0 : 0 < p := by have := hp.1; omega
  unfold mulL
  split
  · exact ⟨(fun c hc => by cases hc), .inl rfl⟩
  · rename_i h
    have hf0 : f ≠ [] := fun e => h (.inl e)
    have hg0 : g ≠ [] := fun e => h (.inr e)
    have lf := List.length_pos_iff.2 hf0
    have lg := List.length_pos_iff.2 hg0
    refine ⟨fl_lt fun _ _ => Nat.mod_lt _ hp0, .inr ?_⟩
    rw [fl_len, fl_co _ (by omega), show f.length + g.length - 1 - 1 = f.length + g.length - 2 by omega, cv_top lf lg]
    intro h2
    have t1 := hf.2.resolve_left hf0
    have t2 := hg.2.resolve_left hg0
    rcases pri_mul hp h2 with h3 | h3
    · rw [Nat.mod_eq_of_lt (hf.co hp0 _)] at h3; exact t1 h3
    · rw [Nat.mod_eq_of_lt (hg.co hp0 _)] at h3; exact t2 h3
/-- One step of a division: c times g, k places up, taken away; i places are done. -/
def dvS (p : Nat) (g : List Nat) (c k i : Nat) (r : Nat → Nat) : Nat → Nat := fun m => if k ≤ m ∧ m < k + i then (r m + (p - c) * co g (m - k)) % p else r m
theorem dvS_step (p : Nat) (g : List Nat) (c k i : Nat) (r : Nat → Nat) (m : Nat) : dvS p g c k (i + 1) r m = if m = k + i then (dvS p g c k i r m + (p - c) * co g i) % p else dvS p g c k i r m := by
  unfold dvS
  by_cases h : m = k + i
  · subst h
    rw [if_pos ⟨by omega, by omega⟩, if_pos rfl, if_neg (by omega), Nat.add_sub_cancel_left]
  · rw [if_neg h]
    by_cases h1 : k ≤ m ∧ m < k + i
    · rw [if_pos h1, if_pos ⟨h1.1, by omega⟩]
    · rw [if_neg h1, if_neg (fun h2 => h1 ⟨h2.1, by omega⟩)]
/-- Quotient and rest, from k places on down. -/
def dvG (p : Nat) (g : List Nat) (lead : Nat) : Nat → (Nat → Nat) → (Nat → Nat) × (Nat → Nat)
  | 0, r => (fun _ => 0, r)
  | k + 1, r =>
    let c := r (k + g.length - 1) * lead % p
    let qr := dvG p g lead k (dvS p g c k g.length r)
    (fun m => if m = k then c else qr.1 m, qr.2)
/-- The rest of a product's sum. -/
def tq (q : Nat → Nat) (g : List Nat) (j m : Nat) : Nat := if j ≤ m then q j * co g (m - j) else 0
section
variable {p lead : Nat} {g : List Nat} (hp : 0 < p) (hg : 0 < g.length) (hl : co g (g.length - 1) * lead % p = 1 % p)
include hp in
theorem dvS_lt {c k i : Nat} {r : Nat → Nat} (hr : ∀ m, r m < p) (m : Nat) : dvS p g c k i r m < p := by
  unfold dvS; split
  · exact Nat.mod_lt _ hp
  · exact hr m
include hp in
theorem dvG_lt : ∀ (k : Nat) (r : Nat → Nat), (∀ m, r m < p) → (∀ m, (dvG p g lead k r).1 m < p) ∧ (∀ m, (dvG p g lead k r).2 m < p)
  | 0, _, hr => ⟨fun _ => hp, hr⟩
  | k + 1, r, hr => by
    obtain ⟨h1, h2⟩ := dvG_lt k (dvS p g (r (k + g.length - 1) * lead % p) k g.length r) (dvS_lt hp hr)
    refine ⟨fun m => ?_, h2⟩
    unfold dvG
    simp only
    split
    · exact Nat.mod_lt _ hp
    · exact h1 m
theorem dvG_out : ∀ (k : Nat) (r : Nat → Nat) (m : Nat), k ≤ m → (dvG p g lead k r).1 m = 0
  | 0, _, _, _ => rfl
  | k + 1, r, m, h => by
    unfold dvG
    simp only
    rw [if_neg (by omega)]
    exact dvG_out k _ m (by omega)
/-- What is behind the places that a division looks at stays. -/
theorem dvG_stay (hg : 0 < g.length) : ∀ (k : Nat) (r : Nat → Nat) (m : Nat), k + g.length - 1 ≤ m → (dvG p g lead k r).2 m = r m
  | 0, _, _, _ => rfl
  | k + 1, r, m, h => by
    unfold dvG
    simp only
    rw [dvG_stay hg k _ m (by omega), dvS, if_neg (by omega)]
include hp hl in
theorem lead_out {x : Nat} (hx : x < p) (y : Nat) : (x + (p - x * lead % p) * co g (g.length - 1) + p * y) % p = 0 := by
  rw [Nat.add_mul_mod_self_left]
  have hc := Nat.mod_lt (x * lead) hp
  generalize hcc : x * lead % p = c at *
  generalize hgt : co g (g.length - 1) = t at *
  have e1 : (x + (p - c) * t + c * t) % p = x % p := by
    have : x + (p - c) * t + c * t = x + p * t := by rw [Nat.add_assoc, ← Nat.add_mul, Nat.sub_add_cancel (by omega)]
    rw [this, Nat.add_mul_mod_self_left]
  have e2 : c * t % p = x % p := by
    rw [← hcc, Nat.mod_mul_mod, Nat.mul_assoc, Nat.mul_comm lead t, Nat.mul_mod, hl]
    rw [← Nat.mul_mod, Nat.mul_one]
  generalize (p - c) * t = z at *
  generalize c * t = v at *
  -- (x + z) + v and x leave the same, and so does v: x + z leaves 0
  have e3 : (x + z) % p + v % p = x % p + p * (((x + z) % p + v % p) / p) := by
    have h1 := Nat.div_add_mod ((x + z) % p + v % p) p
    have h2 : ((x + z) % p + v % p) % p = x % p := by rw [← Nat.add_mod]; exact e1
    omega
  have h4 := Nat.mod_lt (x + z) hp
  generalize (x + z) % p = a at *
  generalize ((a + v % p) / p) = d at *
  rw [e2] at e3
  have : a = p * d := by omega
  rcases Nat.eq_zero_or_pos d with h | h
  · rw [h] at this; simpa using this
  · have := Nat.mul_le_mul_left p h
    omega
include hp hg hl in
theorem dvG_zero : ∀ (k : Nat) (r : Nat → Nat), (∀ m, r m < p) → ∀ m, g.length - 1 ≤ m → m < k + g.length - 1 → (dvG p g lead k r).2 m = 0
  | 0, _, _, m, h1, h2 => by omega
  | k + 1, r, hr, m, h1, h2 => by
    unfold dvG
    simp only
    by_cases h3 : m < k + g.length - 1
    · exact dvG_zero k _ (dvS_lt hp hr) m h1 h3
    · have hm : m = k + g.length - 1 := by omega
      rw [dvG_stay hg k _ m (by omega), dvS, if_pos (by omega), hm, show k + g.length - 1 - k = g.length - 1 by omega]
      have := lead_out hp hl (hr (k + g.length - 1)) 0
      simpa using this
include hp in
/-- The quotient times g plus the rest. -/
theorem dvG_sum : ∀ (k : Nat) (r : Nat → Nat), (∀ m, r m < p) → ∀ m, (sg k (fun j => tq (dvG p g lead k r).1 g j m) + (dvG p g lead k r).2 m) % p = r m
  | 0, r, hr, m => by rw [sg, dvG, Nat.zero_add]; exact Nat.mod_eq_of_lt (hr m)
  | k + 1, r, hr, m => by
    have ih := dvG_sum k (dvS p g (r (k + g.length - 1) * lead % p) k g.length r) (dvS_lt hp hr) m
    have hc := Nat.mod_lt (r (k + g.length - 1) * lead) hp
    unfold dvG
    simp only
    generalize r (k + g.length - 1) * lead % p = c at *
    rw [sg]
    have e1 : sg k (fun j => tq (fun m => if m = k then c else (dvG p g lead k (dvS p g c k g.length r)).1 m) g j m) = sg k (fun j => tq (dvG p g lead k (dvS p g c k g.length r)).1 g j m) :=
      sg_congr k fun j hj => by simp only [tq]; rw [if_neg (show ¬ j = k by omega)]
    rw [e1]
    generalize sg k (fun j => tq (dvG p g lead k (dvS p g c k g.length r)).1 g j m) = A at *
    generalize (dvG p g lead k (dvS p g c k g.length r)).2 m = R at *
    simp only [tq, if_true]
    unfold dvS at ih
    by_cases h1 : k ≤ m
    · rw [if_pos h1]
      by_cases h2 : m < k + g.length
      · rw [if_pos ⟨h1, h2⟩] at ih
        generalize co g (m - k) = t at *
        have h3 : (A + c * t + R) % p = (A + R + c * t) % p := by congr 1; omega
        rw [h3, Nat.add_mod, ih, ← Nat.add_mod, Nat.add_assoc, ← Nat.add_mul, Nat.sub_add_cancel (by omega), Nat.add_mul_mod_self_left]
        exact Nat.mod_eq_of_lt (hr m)
      · rw [if_neg (fun h => h2 h.2)] at ih
        rw [co_out (show g.length ≤ m - k by omega), Nat.mul_zero, Nat.add_zero]
        exact ih
    · rw [if_neg h1, Nat.add_zero]
      rw [if_neg (fun h => h1 h.1)] at ih
      exact ih
end
end Go.Poly
