/- Common divisors of polynomials: what divides, the factors that lead to them and their lengths. -/
import Derived.Test.YtagfpnnplgkkoaaQe
set_option linter.unusedSectionVars false
namespace Go.Poly
theorem addL_assoc {p : Nat} (hp : 0 < p) (f g h : List Nat) : addL p (addL p f g) h = addL p f (addL p g h) := by
  refine isP_ext (add_isP hp _ _) (add_isP hp _ _) fun i => ?_
  rw [add_co, add_co, add_co, add_co, Nat.mod_add_mod, Nat.add_mod_mod, Nat.add_assoc]
theorem add_cancel {p : Nat} (hp : 0 < p) {x y g : List Nat} (hx : IsP p x) (hy : IsP p y) (h : addL p x g = addL p y g) : x = y := by
  refine isP_ext hx hy fun i => ?_
  have h1 : co (addL p x g) i = co (addL p y g) i := by rw [h]
  rw [add_co, add_co] at h1
  have hx := hx.co hp i
  have hy := hy.co hp i
  have h2 : (co x i + co g i + (p - co g i % p)) % p = (co y i + co g i + (p - co g i % p)) % p := by rw [Nat.add_mod, h1, ← Nat.add_mod]
  have h3 : ∀ z, z < p → (z + co g i + (p - co g i % p)) % p = z := by
    intro z hz
    have hm := Nat.mod_lt (co g i) hp
    have hd := Nat.div_add_mod (co g i) p
    rw [show z + co g i + (p - co g i % p) = z + p * (co g i / p + 1) by rw [Nat.mul_add, Nat.mul_one]; omega, Nat.add_mul_mod_self_left, Nat.mod_eq_of_lt hz]
  rwa [h3 _ hx, h3 _ hy] at h2
theorem sub_add {p : Nat} (hp : 0 < p) {f g : List Nat} (hf : IsP p f) (hg : IsP p g) : addL p (subL p f g) g = f := by
  refine isP_ext (add_isP hp _ _) hf fun i => ?_
  have h1 := hf.co hp i
  have h2 := hg.co hp i
  rw [add_co, sub_co hp, Nat.mod_add_mod, show co f i + (p - co g i) + co g i = co f i + p by omega, Nat.add_mod_right, Nat.mod_eq_of_lt h1]
theorem nil_addL {p : Nat} (hp : 0 < p) {f : List Nat} (hf : IsP p f) : addL p [] f = f := by
  refine isP_ext (add_isP hp [] f) hf fun i => ?_
  rw [add_co, show co ([] : List Nat) i = 0 from rfl, Nat.zero_add, Nat.mod_eq_of_lt (hf.co hp i)]
theorem addL_nil' {p : Nat} (hp : 0 < p) {f : List Nat} (hf : IsP p f) : addL p f [] = f := by
  refine isP_ext (add_isP hp f []) hf fun i => ?_
  rw [add_co, show co ([] : List Nat) i = 0 from rfl, Nat.add_zero, Nat.mod_eq_of_lt (hf.co hp i)]
theorem mul_nil (p : Nat) (f : List Nat) : mulL p f [] = [] := by rw [mulL, if_pos (.inr rfl)]
theorem nil_mul (p : Nat) (f : List Nat) : mulL p [] f = [] := by rw [mulL, if_pos (.inl rfl)]
section
variable {p : Nat} (hp : Pri p)
include hp
theorem one_mulL {f : List Nat} (hf : IsP p f) : mulL p [1] f = f := by
  refine isP_ext (mul_isP hp (isP_one hp) hf) hf fun i => ?_
  rw [mul_co, cv_comm, cv_range]
  have : (sg (i + 1) fun j => co f j * co [1] (i - j)) = co f i := by
    rw [sg_last (f := fun j => co f j * co [1] (i - j)) (n := i) (fun j hj => by
      have : co [1] (i - j) = 0 := co_out (by simp; omega)
      rw [this, Nat.mul_zero])]
    rw [Nat.sub_self]; simp [co]
  rw [this, Nat.mod_eq_of_lt (hf.co hp.pos i)]
theorem mulL_one {f : List Nat} (hf : IsP p f) : mulL p f [1] = f := by rw [mulL_comm hp hf (isP_one hp), one_mulL hp hf]
theorem addL_mulL {f g h : List Nat} (hf : IsP p f) (hg : IsP p g) (hh : IsP p h) : mulL p h (addL p f g) = addL p (mulL p h f) (mulL p h g) := by
  rw [mulL_comm hp hh (add_isP hp.pos f g), mulL_addL hp f g hh, mulL_comm hp hf hh, mulL_comm hp hg hh]
theorem add4 (a b c d : List Nat) : addL p (addL p a b) (addL p c d) = addL p (addL p a c) (addL p b d) := by
  have h0 := hp.pos
  rw [addL_assoc h0, ← addL_assoc h0 b c d, addL_comm hp b c, addL_assoc h0 c b d, ← addL_assoc h0]

/-! ### Divisors -/
def Dv (p : Nat) (d f : List Nat) : Prop := ∃ x, IsP p x ∧ mulL p x d = f
omit hp in
theorem Dv.nil (d : List Nat) : Dv p d [] := ⟨[], isP_nil p, nil_mul p d⟩
theorem Dv.self {f : List Nat} (hf : IsP p f) : Dv p f f := ⟨[1], isP_one hp, one_mulL hp hf⟩
theorem Dv.mul {d f h : List Nat} (hd : IsP p d) (hh : IsP p h) (h1 : Dv p d f) : Dv p d (mulL p h f) := by
  obtain ⟨x, hx, rfl⟩ := h1
  exact ⟨mulL p h x, mul_isP hp hh hx, mulL_assoc hp hh hx hd⟩
theorem Dv.add {d f g : List Nat} (hd : IsP p d) (h1 : Dv p d f) (h2 : Dv p d g) : Dv p d (addL p f g) := by
  obtain ⟨x, hx, rfl⟩ := h1
  obtain ⟨y, hy, rfl⟩ := h2
  exact ⟨addL p x y, add_isP hp.pos x y, mulL_addL hp x y hd⟩
theorem Dv.trans {d e f : List Nat} (hd : IsP p d) (h1 : Dv p d e) (h2 : Dv p e f) : Dv p d f := by
  obtain ⟨x, hx, rfl⟩ := h2
  exact h1.mul hp hd hx
theorem const_isP {c : Nat} (h0 : 0 < c) (hc : c < p) : IsP p [c] := ⟨fun x hx => by simp at hx; omega, .inr (by simp [co]; omega)⟩
theorem const_mul {a b : Nat} (h : a * b % p = 1) : mulL p [a] [b] = [1] := by
  unfold mulL
  rw [if_neg (by simp)]
  simp [fl, cv, sg, tm, co, h, List.range_succ]
/-- A polynomial but 0 and its monic one divide each other. -/
theorem monic_dv {f : List Nat} (hf : IsP p f) : Dv p (monicL p f) f ∧ Dv p f (monicL p f) := by
  unfold monicL
  split
  · rename_i h; subst h; exact ⟨Dv.nil _, Dv.nil _⟩
  · rename_i h
    have h0 := List.length_pos_iff.2 h
    have ht := top_pos hf h0
    have htl := hf.co hp.pos (f.length - 1)
    have hi := iv_mul hp ht htl
    have hip := iv_pos hp ht htl
    have hil := iv_lt hp.pos (co f (f.length - 1))
    unfold scaleL
    rw [const_of hip hil]
    have hc := const_isP hp hip hil
    have hc2 := const_isP hp ht htl
    constructor
    · refine ⟨[co f (f.length - 1)], hc2, ?_⟩
      rw [mulL_comm hp hf hc, ← mulL_assoc hp hc2 hc hf, const_mul hp hi, one_mulL hp hf]
    · exact ⟨[iv p (co f (f.length - 1))], hc, mulL_comm hp hc hf⟩
theorem monic_top {f : List Nat} (hf : IsP p f) (h : f ≠ []) : co (monicL p f) ((monicL p f).length - 1) = 1 := by
  have h0 := List.length_pos_iff.2 h
  have ht := top_pos hf h0
  have htl := hf.co hp.pos (f.length - 1)
  have hi := iv_mul hp ht htl
  rw [monic_len hp hf]
  unfold monicL
  rw [if_neg h]
  unfold scaleL
  rw [const_of (iv_pos hp ht htl) (iv_lt hp.pos _), mul_co]
  have := cv_top (f := f) (g := [iv p (co f (f.length - 1))]) h0 (by simp)
  rw [show f.length + [iv p (co f (f.length - 1))].length - 2 = f.length - 1 by simp] at this
  rw [this]
  simpa [co] using hi
/-- The common divisor divides both. -/
theorem gcd_dv : ∀ (k : Nat) (f g : List Nat), IsP p f → IsP p g → g.length ≤ k → Dv p (gcdN p k f g) f ∧ Dv p (gcdN p k f g) g
  | 0, f, g, hf, _, h => by
    have : g = [] := List.length_eq_zero_iff.1 (by omega)
    subst this
    exact ⟨(monic_dv hp hf).1, Dv.nil _⟩
  | k + 1, f, g, hf, hg, h => by
    unfold gcdN
    split
    · rename_i h1; subst h1
      exact ⟨(monic_dv hp hf).1, Dv.nil _⟩
    · rename_i h1
      have h0 := List.length_pos_iff.2 h1
      have hr := rem_isP hp hf hg h0
      have hl := rem_lt hp hf hg h0
      obtain ⟨d1, d2⟩ := gcd_dv k g (remL p f g) hg hr (by omega)
      have hd := gcd_isP hp k g (remL p f g) hg hr
      refine ⟨?_, d1⟩
      have := (d1.mul hp hd (quo_isP hp hf hg h0)).add hp hd d2
      rwa [quo_rem hp hf hg h0] at this
omit hp in
theorem gcd_ne_of {k : Nat} {f g : List Nat} (h : g = []) : gcdN p k f g = monicL p f := by subst h; exact gcd_nil f k
/-- The common divisor is monic or 0. -/
theorem gcd_top : ∀ (k : Nat) (f g : List Nat), IsP p f → IsP p g → g.length ≤ k → (f ≠ [] ∨ g ≠ []) → gcdN p k f g ≠ [] ∧ co (gcdN p k f g) ((gcdN p k f g).length - 1) = 1
  | k, f, g, hf, hg, h, hn => by
    by_cases hg0 : g = []
    · subst hg0
      have hf0 := hn.resolve_right (fun h => h rfl)
      rw [gcd_nil]
      refine ⟨fun h2 => hf0 ?_, monic_top hp hf hf0⟩
      have := monic_len hp hf
      rw [h2] at this
      exact List.length_eq_zero_iff.1 this.symm
    · have h0 := List.length_pos_iff.2 hg0
      cases k with
      | zero => omega
      | succ k =>
        rw [gcdN, if_neg hg0]
        have hl := rem_lt hp hf hg h0
        exact gcd_top k g (remL p f g) hg (rem_isP hp hf hg h0) (by omega) (.inl hg0)
/-- Two monic ones that divide each other are one. -/
theorem dv_anti {d e : List Nat} (hd : IsP p d) (he : IsP p e) (h1 : Dv p d e) (h2 : Dv p e d) (td : d ≠ [] → co d (d.length - 1) = 1) (te : e ≠ [] → co e (e.length - 1) = 1) : d = e := by
  obtain ⟨x, hx, rfl⟩ := h1
  by_cases hd0 : d = []
  · subst hd0; rw [mul_nil]
  · by_cases hx0 : x = []
    · subst hx0
      obtain ⟨y, hy, h2⟩ := h2
      rw [nil_mul, mul_nil] at h2
      exact absurd h2.symm hd0
    · have l1 := List.length_pos_iff.2 hd0
      have l2 := List.length_pos_iff.2 hx0
      have lm := mul_len (p := p) l2 l1
      obtain ⟨y, hy, h2⟩ := h2
      have hy0 : y ≠ [] := by rintro rfl; rw [nil_mul] at h2; exact hd0 h2.symm
      have ly := mul_len (p := p) (List.length_pos_iff.2 hy0) (show 0 < (mulL p x d).length by omega)
      rw [h2] at ly
      have l3 := List.length_pos_iff.2 hy0
      have lx : x.length = 1 := by omega
      obtain ⟨c, rfl⟩ := List.length_eq_one_iff.1 lx
      have t1 := td hd0
      have t2 := te (List.length_pos_iff.1 (by omega))
      rw [lm, mul_co] at t2
      have tc := cv_top (f := [c]) (g := d) (by simp) l1
      rw [show [c].length + d.length - 2 = [c].length + d.length - 1 - 1 by omega] at tc
      rw [tc, t1, Nat.mul_one] at t2
      have hc : c = 1 := by
        have hcp := hx.1 c (by simp)
        have : c % p = 1 := by simpa [co] using t2
        rwa [Nat.mod_eq_of_lt hcp] at this
      subst hc
      exact (one_mulL hp hd).symm

/-! ### The factors that lead to the common divisor -/
/-- What holds on the way: each rest is made of both polynomials. -/
def Cmb (p : Nat) (f g a a1 a2 : List Nat) : Prop := addL p (mulL p a1 f) (mulL p a2 g) = a
theorem bez_step {f g a b a1 b1 a2 b2 : List Nat} (hf : IsP p f) (hg : IsP p g) (ha : IsP p a) (hb : IsP p b) (hb0 : 0 < b.length) (ia1 : IsP p a1) (ib1 : IsP p b1) (ia2 : IsP p a2) (ib2 : IsP p b2)
    (ca : Cmb p f g a a1 a2) (cb : Cmb p f g b b1 b2) : Cmb p f g (remL p a b) (subL p a1 (mulL p (quoL p a b) b1)) (subL p a2 (mulL p (quoL p a b) b2)) := by
  have h0 := hp.pos
  have hq := quo_isP hp ha hb hb0
  have hr := rem_isP hp ha hb hb0
  have hqr := quo_rem hp ha hb hb0
  generalize quoL p a b = q at *
  generalize remL p a b = r at *
  have i1 := mul_isP hp hq ib1
  have i2 := mul_isP hp hq ib2
  have s1 := sub_isP h0 a1 (mulL p q b1)
  have s2 := sub_isP h0 a2 (mulL p q b2)
  unfold Cmb at ca cb ⊢
  refine add_cancel h0 (g := mulL p q b) (add_isP h0 _ _) hr ?_
  rw [addL_comm hp r, hqr, ← cb, addL_mulL hp (mul_isP hp ib1 hf) (mul_isP hp ib2 hg) hq, ← mulL_assoc hp hq ib1 hf, ← mulL_assoc hp hq ib2 hg, add4 hp, ← mulL_addL hp _ _ hf, ← mulL_addL hp _ _ hg,
    sub_add h0 ia1 i1, sub_add h0 ia2 i2]
  exact ca
theorem bez_all {f g : List Nat} (hf : IsP p f) (hg : IsP p g) : ∀ (k : Nat) (a b a1 b1 a2 b2 : List Nat), IsP p a → IsP p b → IsP p a1 → IsP p b1 → IsP p a2 → IsP p b2 → b.length ≤ k → Cmb p f g a a1 a2 → Cmb p f g b b1 b2 →
    (IsP p (bezN p k a b a1 b1 a2 b2).1 ∧ IsP p (bezN p k a b a1 b1 a2 b2).2.1 ∧ IsP p (bezN p k a b a1 b1 a2 b2).2.2) ∧ Cmb p f g (bezN p k a b a1 b1 a2 b2).1 (bezN p k a b a1 b1 a2 b2).2.1 (bezN p k a b a1 b1 a2 b2).2.2 ∧
      monicL p (bezN p k a b a1 b1 a2 b2).1 = gcdN p k a b
  | 0, a, b, a1, b1, a2, b2, ha, hb, i1, _, i2, _, h, ca, _ => ⟨⟨ha, i1, i2⟩, ca, rfl⟩
  | k + 1, a, b, a1, b1, a2, b2, ha, hb, i1, j1, i2, j2, h, ca, cb => by
    unfold bezN gcdN
    by_cases hb0 : b = []
    · rw [if_pos hb0, if_pos hb0]; exact ⟨⟨ha, i1, i2⟩, ca, rfl⟩
    · rw [if_neg hb0, if_neg hb0]
      have h0 := List.length_pos_iff.2 hb0
      have hl := rem_lt hp ha hb h0
      have hr := rem_isP hp ha hb h0
      exact bez_all hf hg k b (remL p a b) b1 _ b2 _ hb hr j1 (sub_isP hp.pos _ _) j2 (sub_isP hp.pos _ _) (by omega) cb (bez_step hp hf hg ha hb h0 i1 j1 i2 j2 ca cb)
theorem bez_gcd {f g : List Nat} (hf : IsP p f) (hg : IsP p g) :
    (bezL p f g).1 = gcdL p f g ∧ IsP p (bezL p f g).2.1 ∧ IsP p (bezL p f g).2.2 ∧ addL p (mulL p (bezL p f g).2.1 f) (mulL p (bezL p f g).2.2 g) = gcdL p f g := by
  have h0 := hp.pos
  have o := isP_one hp
  have z := isP_nil p
  obtain ⟨⟨ia, i1, i2⟩, hc, hm⟩ := bez_all hp hf hg g.length f g [1] [] [] [1] hf hg o z z o (Nat.le_refl _) (by unfold Cmb; rw [one_mulL hp hf, nil_mul, addL_nil' h0 hf]) (by unfold Cmb; rw [one_mulL hp hg, nil_mul, nil_addL h0 hg])
  unfold bezL gcdL
  rw [← hm]
  generalize bezN p g.length f g [1] [] [] [1] = s at *
  obtain ⟨a, a1, a2⟩ := s
  simp only at *
  unfold bezE
  simp only
  split
  · rename_i h
    subst h
    exact ⟨by simp [monicL], z, z, by rw [nil_mul, nil_mul]; simp [monicL, addL, trimL, fl, tn]⟩
  · rename_i h
    have hl := List.length_pos_iff.2 h
    have ht := top_pos ia hl
    have htl := ia.co h0 (a.length - 1)
    unfold monicL
    rw [if_neg h]
    refine ⟨rfl, scale_isP hp i1 _, scale_isP hp i2 _, ?_⟩
    unfold scaleL
    rw [const_of (iv_pos hp ht htl) (iv_lt h0 _)]
    have hcc := const_isP hp (iv_pos hp ht htl) (iv_lt h0 (co a (a.length - 1)))
    generalize [iv p (co a (a.length - 1))] = c at *
    unfold Cmb at hc
    rw [mulL_assoc hp i1 hcc hf, mulL_comm hp hcc hf, ← mulL_assoc hp i1 hf hcc, mulL_assoc hp i2 hcc hg, mulL_comm hp hcc hg, ← mulL_assoc hp i2 hg hcc, ← mulL_addL hp _ _ hcc, hc]
end
end Go.Poly
