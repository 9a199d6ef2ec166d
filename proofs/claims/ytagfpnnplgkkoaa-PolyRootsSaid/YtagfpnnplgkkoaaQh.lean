/- How long the factors are that lead to a common divisor. -/
import Derived.Test.YtagfpnnplgkkoaaQg
set_option linter.unusedSectionVars false
namespace Go.Poly
theorem trim_le' (f : List Nat) : (trimL f).length ≤ f.length := by rw [trim_len]; exact tn_le _ _
theorem sub_le (p : Nat) (f g : List Nat) : (subL p f g).length ≤ max f.length g.length := by
  unfold subL; refine Nat.le_trans (trim_le' _) ?_; rw [fl_len]; exact Nat.le_refl _
theorem mulq_len (p : Nat) (a b v : List Nat) : (mulL p (quoL p a b) v).length + b.length ≤ max b.length (v.length + a.length) := by
  by_cases hq : 0 < (quoL p a b).length
  · by_cases h3 : 0 < v.length
    · rw [mul_len hq h3]
      by_cases hle : b.length ≤ a.length
      · rw [quo_len hle]; omega
      · exfalso
        unfold quoL divL at hq
        rw [if_pos (by omega)] at hq
        simp at hq
    · have : v = [] := List.length_eq_zero_iff.1 (by omega)
      rw [mulL, if_pos (.inr this)]
      simp only [List.length_nil]; omega
  · have : quoL p a b = [] := List.length_eq_zero_iff.1 (by omega)
    rw [mulL, if_pos (.inl this)]
    simp only [List.length_nil]; omega
def JJ (N : Nat) (a b u v : List Nat) : Prop := b.length < a.length ∧ v.length + a.length ≤ N + 1 ∧ u.length + a.length ≤ N
section
variable {p : Nat} (hp : Pri p)
include hp
theorem JJ.step {N : Nat} {a b u v : List Nat} (ha : IsP p a) (hb : IsP p b) (h0 : 0 < b.length) (h : JJ N a b u v) : JJ N b (remL p a b) v (subL p u (mulL p (quoL p a b) v)) := by
  have hr := rem_lt hp ha hb h0
  have h1 := mulq_len p a b v
  have h2 := sub_le p u (mulL p (quoL p a b) v)
  obtain ⟨h3, h4, h5⟩ := h
  exact ⟨hr, by omega, by omega⟩
theorem bez_len1 {N : Nat} : ∀ (k : Nat) (a b a1 b1 a2 b2 : List Nat), IsP p a → IsP p b → b.length ≤ k → JJ N a b a1 b1 → (bezN p k a b a1 b1 a2 b2).2.1.length + (bezN p k a b a1 b1 a2 b2).1.length ≤ N
  | 0, a, b, a1, b1, a2, b2, _, _, _, h => h.2.2
  | k + 1, a, b, a1, b1, a2, b2, ha, hb, hk, h => by
    unfold bezN
    split
    · exact h.2.2
    · rename_i hb0
      have h0 := List.length_pos_iff.2 hb0
      have hl := rem_lt hp ha hb h0
      exact bez_len1 k b _ b1 _ b2 _ hb (rem_isP hp ha hb h0) (by omega) (h.step hp ha hb h0)
theorem bez_len2 {N : Nat} : ∀ (k : Nat) (a b a1 b1 a2 b2 : List Nat), IsP p a → IsP p b → b.length ≤ k → JJ N a b a2 b2 → (bezN p k a b a1 b1 a2 b2).2.2.length + (bezN p k a b a1 b1 a2 b2).1.length ≤ N
  | 0, a, b, a1, b1, a2, b2, _, _, _, h => h.2.2
  | k + 1, a, b, a1, b1, a2, b2, ha, hb, hk, h => by
    unfold bezN
    split
    · exact h.2.2
    · rename_i hb0
      have h0 := List.length_pos_iff.2 hb0
      have hl := rem_lt hp ha hb h0
      exact bez_len2 k b _ b1 _ b2 _ hb (rem_isP hp ha hb h0) (by omega) (h.step hp ha hb h0)
/-- The lengths ahead of the last multiplication. -/
theorem bez_lens {f g : List Nat} (hf : IsP p f) (hg : IsP p g) (hf0 : 0 < f.length) (hg0 : 0 < g.length) :
    (bezN p g.length f g [1] [] [] [1]).2.1.length + (bezN p g.length f g [1] [] [] [1]).1.length ≤ g.length ∧
      ((bezN p g.length f g [1] [] [] [1]).2.2.length + (bezN p g.length f g [1] [] [] [1]).1.length ≤ f.length ∨
        ((bezN p g.length f g [1] [] [] [1]).2.2.length = 1 ∧ (bezN p g.length f g [1] [] [] [1]).1.length = f.length ∧ (bezN p g.length f g [1] [] [] [1]).1.length = g.length)) := by
  obtain ⟨k, hk⟩ : ∃ k, g.length = k + 1 := ⟨g.length - 1, by omega⟩
  have hgn : g ≠ [] := List.length_pos_iff.1 hg0
  have hr := rem_lt hp hf hg hg0
  have hri := rem_isP hp hf hg hg0
  have hs1 := sub_le p [1] (mulL p (quoL p f g) [])
  rw [mul_nil] at hs1
  simp only [List.length_nil, List.length_cons] at hs1
  have e : bezN p g.length f g [1] [] [] [1] = bezN p k g (remL p f g) [] (subL p [1] (mulL p (quoL p f g) [])) [1] (subL p [] (mulL p (quoL p f g) [1])) := by
    rw [hk, bezN, if_neg hgn]
  rw [e, mul_nil]
  refine ⟨bez_len1 hp k g _ _ _ _ _ hg hri (by omega) ⟨hr, by omega, by simp⟩, ?_⟩
  have hs2 := sub_le p [] (mulL p (quoL p f g) [1])
  have hm := mulq_len p f g [1]
  simp only [List.length_nil, List.length_cons] at hs2 hm
  rcases Nat.lt_trichotomy f.length g.length with hlt | heq | hgt
  · left
    have hq : quoL p f g = [] ∧ remL p f g = f := by unfold quoL remL divL; rw [if_pos hlt]; exact ⟨rfl, rfl⟩
    rw [hq.1, hq.2, nil_mul]
    obtain ⟨j, rfl⟩ : ∃ j, k = j + 1 := ⟨k - 1, by omega⟩
    rw [bezN, if_neg (List.length_pos_iff.1 hf0)]
    have hr2 := rem_lt hp hg hf hf0
    have e2 : subL p [] [] = [] := by simp [subL, trimL, fl, tn]
    rw [e2, mul_nil]
    exact bez_len2 hp j f _ _ _ _ _ hf (rem_isP hp hg hf hf0) (by omega) ⟨hr2, by omega, by simp⟩
  · by_cases hrn : remL p f g = []
    · right
      rw [hrn]
      have e2 : bezN p k g [] [] (subL p [1] []) [1] (subL p [] (mulL p (quoL p f g) [1])) = (g, [], [1]) := by cases k <;> simp [bezN]
      rw [e2]
      exact ⟨rfl, heq.symm, rfl⟩
    · left
      have hr0 := List.length_pos_iff.2 hrn
      obtain ⟨j, rfl⟩ : ∃ j, k = j + 1 := ⟨k - 1, by omega⟩
      rw [bezN, if_neg hrn]
      have hr2 := rem_lt hp hg hri hr0
      have hm2 := mulq_len p g (remL p f g) (subL p [] (mulL p (quoL p f g) [1]))
      have hs3 := sub_le p [1] (mulL p (quoL p g (remL p f g)) (subL p [] (mulL p (quoL p f g) [1])))
      simp only [List.length_cons, List.length_nil] at hs3
      refine bez_len2 hp j (remL p f g) _ _ _ _ _ hri (rem_isP hp hg hri hr0) (by omega) ⟨hr2, ?_, ?_⟩ <;> omega
  · left
    refine bez_len2 hp k g _ _ _ _ _ hg hri (by omega) ⟨hr, by omega, by simp; omega⟩
/-- The lengths of what the program gives out. -/
theorem gcd_lens {f g : List Nat} (hf : IsP p f) (hg : IsP p g) (hf0 : 0 < f.length) (hg0 : 0 < g.length) :
    (bezL p f g).2.1.length + (gcdL p f g).length ≤ g.length ∧
      ((bezL p f g).2.2.length + (gcdL p f g).length ≤ f.length ∨ ((bezL p f g).2.2.length = 1 ∧ (gcdL p f g).length = f.length ∧ (gcdL p f g).length = g.length)) := by
  have h := bez_lens hp hf hg hf0 hg0
  have h0 := hp.pos
  have o := isP_one hp
  have z := isP_nil p
  obtain ⟨⟨ia, -, -⟩, -, hm⟩ := bez_all hp hf hg g.length f g [1] [] [] [1] hf hg o z z o (Nat.le_refl _) (by unfold Cmb; rw [one_mulL hp hf, nil_mul, addL_nil' h0 hf]) (by unfold Cmb; rw [one_mulL hp hg, nil_mul, nil_addL h0 hg])
  unfold bezL gcdL
  rw [← hm, monic_len hp ia]
  generalize bezN p g.length f g [1] [] [] [1] = s at *
  obtain ⟨a, a1, a2⟩ := s
  simp only at *
  unfold bezE
  simp only
  split
  · rename_i h2
    subst h2
    simp only [List.length_nil] at *
    omega
  · rename_i h2
    have hl := List.length_pos_iff.2 h2
    have ht := top_pos ia hl
    have htl := ia.co h0 (a.length - 1)
    simp only
    rw [scale_len (iv_pos hp ht htl) (iv_lt h0 _), scale_len (iv_pos hp ht htl) (iv_lt h0 _)]
    exact h
/-- Where one of them is 0. -/
theorem bez_nil_right {f : List Nat} (hf : IsP p f) : (bezL p f []).2.2 = [] ∧ (bezL p f []).2.1.length = min f.length 1 := by
  have e : bezN p ([] : List Nat).length f [] [1] [] [] [1] = (f, [1], []) := rfl
  unfold bezL
  rw [e]
  unfold bezE
  simp only
  split
  · rename_i h; subst h; exact ⟨rfl, rfl⟩
  · rename_i h
    have hl := List.length_pos_iff.2 h
    have ht := top_pos hf hl
    have htl := hf.co hp.pos (f.length - 1)
    refine ⟨by simp only [scaleL, nil_mul], ?_⟩
    simp only
    rw [scale_len (iv_pos hp ht htl) (iv_lt hp.pos _)]
    simp only [List.length_cons, List.length_nil]
    omega
theorem bez_nil_left {g : List Nat} (hg : IsP p g) (hg0 : 0 < g.length) : (bezL p [] g).2.1 = [] ∧ (bezL p [] g).2.2.length = 1 := by
  obtain ⟨k, hk⟩ : ∃ k, g.length = k + 1 := ⟨g.length - 1, by omega⟩
  have hgn : g ≠ [] := List.length_pos_iff.1 hg0
  have hq : quoL p [] g = [] ∧ remL p [] g = [] := by unfold quoL remL divL; rw [if_pos (by simpa using hg0)]; exact ⟨rfl, rfl⟩
  have e : bezN p g.length [] g [1] [] [] [1] = (g, [], [1]) := by
    rw [hk, bezN, if_neg hgn, hq.2]
    cases k <;> simp [bezN]
  unfold bezL
  rw [e]
  unfold bezE
  simp only
  rw [if_neg hgn]
  have ht := top_pos hg hg0
  have htl := hg.co hp.pos (g.length - 1)
  refine ⟨by simp only [scaleL, nil_mul], ?_⟩
  simp only
  rw [scale_len (iv_pos hp ht htl) (iv_lt hp.pos _)]
  rfl
end
end Go.Poly
