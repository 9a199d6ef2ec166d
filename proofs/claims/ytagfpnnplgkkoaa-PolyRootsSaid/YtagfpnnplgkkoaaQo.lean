/- A product of different linear factors: its divisors have roots, it has no multiple factor. -/
import Derived.Test.YtagfpnnplgkkoaaQi
import Derived.Test.YtagfpnnplgkkoaaQn
set_option linter.unusedSectionVars false
namespace Go.Poly
open Go.W Go.Tree
section
variable {p : Nat} (hp : Pri p)
include hp
theorem dv_root {g f : List Nat} (h : Dv p g f) {x : Nat} (hx : valL p g x = 0) : valL p f x = 0 := by
  obtain ⟨k, hk, rfl⟩ := h
  rw [val_mul hp.pos, hx, Nat.mul_zero, Nat.zero_mod]
/-- The product of x less X 0 .. X (n - 1). -/
structure Rts (p n : Nat) (X : Nat → Nat) (Z : List Nat) : Prop where
  z : IsP p Z
  len : Z.length = n + 1
  pts : (∀ i, i < n → X i < p) ∧ ∀ i j, i < j → j < n → X i ≠ X j
  v0 : ∀ j, j < n → valL p Z (X j) = 0
  vn : ∀ x, x < p → (∀ j, j < n → X j ≠ x) → valL p Z x ≠ 0
theorem rootless {n : Nat} {X : Nat → Nat} {Z g : List Nat} (h : Rts p n X Z) (hg : IsP p g) (hd : Dv p g Z) (hv : ∀ i, i < n → valL p g (X i) ≠ 0) : g.length = 1 := by
  obtain ⟨k, hk, e⟩ := hd
  have hkv : ∀ i, i < n → valL p k (X i) = 0 := by
    intro i hi
    have h1 := h.v0 i hi
    rw [← e, val_mul hp.pos] at h1
    rcases pri_mul hp h1 with h2 | h2
    · rwa [Nat.mod_eq_of_lt (valL_lt' hp.pos _ _)] at h2
    · rw [Nat.mod_eq_of_lt (valL_lt' hp.pos _ _)] at h2
      exact absurd h2 (hv i hi)
  have hZ := h.len
  have hkn : 0 < k.length := by
    rcases Nat.eq_zero_or_pos k.length with h1 | h1
    · rw [← e, List.length_eq_zero_iff.1 h1, nil_mul] at hZ; simp at hZ
    · exact h1
  have hgn : 0 < g.length := by
    rcases Nat.eq_zero_or_pos g.length with h1 | h1
    · rw [← e, List.length_eq_zero_iff.1 h1, mul_nil] at hZ; simp at hZ
    · exact h1
  rw [← e, mul_len hkn hgn] at hZ
  by_cases hl : k.length ≤ n
  · have := few_roots hp n k hk hl h.pts.1 h.pts.2 hkv
    rw [this] at hkn; simp at hkn
  · omega
theorem no_double {n : Nat} {X : Nat → Nat} {Z k : List Nat} (h : Rts p n X Z) (hk : IsP p k) {a : Nat} (ha : a < p) (e : mulL p k [(p - a) % p, 1] = Z) : valL p k a ≠ 0 := by
  intro hka
  have hZ := h.len
  have hkn : 0 < k.length := by
    rcases Nat.eq_zero_or_pos k.length with h1 | h1
    · rw [← e, List.length_eq_zero_iff.1 h1, nil_mul] at hZ; simp at hZ
    · exact h1
  rw [← e, mul_len hkn (by simp)] at hZ
  have hkv : ∀ i, i < n → valL p k (X i) = 0 := by
    intro i hi
    by_cases hia : X i = a
    · rw [hia]; exact hka
    have h1 := h.v0 i hi
    rw [← e, val_mul hp.pos] at h1
    rcases pri_mul hp h1 with h2 | h2
    · rwa [Nat.mod_eq_of_lt (valL_lt' hp.pos _ _)] at h2
    · rw [Nat.mod_eq_of_lt (valL_lt' hp.pos _ _)] at h2
      exact absurd ((lin_val hp ha (h.pts.1 i hi)).1 h2) hia
  have := few_roots hp n k hk (by simp at hZ; omega) h.pts.1 h.pts.2 hkv
  rw [this] at hkn; simp at hkn
theorem slope_lin (a : Nat) : slopeL p [(p - a) % p, 1] = [1] := by
  have h2 := hp.1
  refine isP_ext (slope_isP' hp.pos _) (isP_one hp) fun i => ?_
  rw [slope_co]
  match i with
  | 0 => simp [co, Nat.mod_eq_of_lt (show 1 < p by omega)]
  | i + 1 => simp [co]
theorem rts_gcd {n : Nat} {X : Nat → Nat} {Z : List Nat} (h : Rts p n X Z) : gcdL p Z (slopeL p Z) = [1] := by
  have h0 := hp.pos
  have hs := slope_isP' h0 Z
  have hc := gcdL_isP hp h.z hs
  obtain ⟨d1, d2⟩ := gcdL_dv hp h.z hs
  have hlen := h.len
  obtain ⟨t1, t2⟩ := gcd_top hp (slopeL p Z).length Z (slopeL p Z) h.z hs (Nat.le_refl _) (.inl (List.ne_nil_of_length_pos (by omega)))
  have t2 : co (gcdL p Z (slopeL p Z)) ((gcdL p Z (slopeL p Z)).length - 1) = 1 := t2
  generalize gcdL p Z (slopeL p Z) = c at *
  have hl := rootless hp h hc d1 fun i hi hci => by
    have hX := h.pts.1 i hi
    obtain ⟨k, hk, e⟩ := root_dv hp h.z hX (dv_root hp d1 hci)
    have h1 := dv_root hp d2 hci
    rw [← e, slope_mul hp, slope_lin hp, val_add h0, val_mul h0, val_mul h0, (lin_val hp hX hX).2 rfl, val_one hp, Nat.mul_zero, Nat.zero_mod, Nat.zero_add, Nat.mul_one, Nat.mod_mod, Nat.mod_eq_of_lt (valL_lt' h0 _ _)] at h1
    exact no_double hp h hk hX e h1
  obtain ⟨x, rfl⟩ := List.length_eq_one_iff.1 hl
  have : x = 1 := by simpa [co] using t2
  rw [this]
theorem gcd_one_right {f : List Nat} (hf : IsP p f) (hf0 : 0 < f.length) : gcdL p f [1] = [1] := by
  have o := isP_one hp
  obtain ⟨-, d2⟩ := gcdL_dv hp hf o
  have hc := gcdL_isP hp hf o
  obtain ⟨t1, t2⟩ := gcd_top hp ([1] : List Nat).length f [1] hf o (Nat.le_refl _) (.inl (List.ne_nil_of_length_pos hf0))
  have t1 : gcdL p f [1] ≠ [] := t1
  have t2 : co (gcdL p f [1]) ((gcdL p f [1]).length - 1) = 1 := t2
  generalize gcdL p f [1] = c at *
  obtain ⟨k, hk, e⟩ := d2
  have hcn := List.length_pos_iff.2 t1
  have hkn : 0 < k.length := by
    rcases Nat.eq_zero_or_pos k.length with h1 | h1
    · rw [List.length_eq_zero_iff.1 h1, nil_mul] at e; cases e
    · exact h1
  have hl := congrArg List.length e
  rw [mul_len hkn hcn] at hl
  simp only [List.length_cons, List.length_nil] at hl
  obtain ⟨x, rfl⟩ := List.length_eq_one_iff.1 (show c.length = 1 by omega)
  have : x = 1 := by simpa [co] using t2
  rw [this]
theorem quo_one {f : List Nat} (hf : IsP p f) : quoL p f [1] = f := by
  have := quo_mul2 hp hf (isP_one hp) (by simp)
  rwa [mulL_one hp hf] at this
theorem quo_self {f : List Nat} (hf : IsP p f) (hf0 : 0 < f.length) : quoL p f f = [1] := by
  have := quo_mul2 hp (isP_one hp) hf hf0
  rwa [one_mulL hp hf] at this
theorem rts_sq {n : Nat} {X : Nat → Nat} {Z : List Nat} (h : Rts p n X Z) (hn : 0 < n) (hl : Z.length < 34) : sqN p 34 Z 1 = some [(Z, 1)] := by
  have hlen := h.len
  have hg := rts_gcd hp h
  have h2 := hp.1
  have hs : slopeL p Z ≠ [] := by
    intro e
    rw [e] at hg
    have : (gcdL p Z []).length = Z.length := by unfold gcdL; rw [gcd_nil, monic_len hp h.z]
    rw [hg] at this
    simp only [List.length_cons, List.length_nil] at this
    omega
  have hw : (sqW p 1 (Z.length + 1) 1 Z [1]) = ([(Z, 1)], [1]) := by
    rw [sqW, if_pos (by omega), gcd_one_right hp h.z (by omega), quo_one hp h.z, if_pos (by omega), quo_one hp (isP_one hp)]
    obtain ⟨m, hm⟩ : ∃ m, Z.length = m + 1 := ⟨Z.length - 1, by omega⟩
    rw [hm, sqW, if_neg (by simp)]
    rfl
  have hr : rootL p [1] = [1] := by
    unfold rootL
    rw [show ([1] : List Nat).length + p - 1 = p by simp, Nat.div_self hp.pos]
    simp [fl, co]
  rw [show (34 : Nat) = 33 + 1 from rfl, sqN, if_neg (by omega), if_neg (by rw [isPB_of hp h.z]; simp), if_neg hs, hg, quo_one hp h.z, hw]
  simp only
  rw [hr, show (33 : Nat) = 32 + 1 from rfl, sqN, if_pos (by simp)]
  rfl
end
end Go.Poly
