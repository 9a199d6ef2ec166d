/- Parts without multiple factors: derivative of a product; what is left over is a power; the decomposition always ends. -/
import Derived.Test.YtagfpnnplgkkoaaQh
set_option linter.unusedSectionVars false
namespace Go.Poly
theorem slope_co {p : Nat} (f : List Nat) (i : Nat) : co (slopeL p f) i = (i + 1) * co f (i + 1) % p := by
  unfold slopeL
  rw [trim_co]
  by_cases h : i < f.length - 1
  · rw [fl_co _ h]
  · rw [co_out (by rw [fl_len]; omega), co_out (f := f) (by omega), Nat.mul_zero, Nat.zero_mod]
theorem slope_isP' {p : Nat} (hp0 : 0 < p) (f : List Nat) : IsP p (slopeL p f) := trim_isP (fl_lt fun _ _ => Nat.mod_lt _ hp0)
theorem slope_len (p : Nat) (f : List Nat) : (slopeL p f).length ≤ f.length - 1 := by
  unfold slopeL
  refine Nat.le_trans (trim_le' _) ?_
  rw [fl_len]; exact Nat.le_refl _
theorem cv_slope (f g : List Nat) (i : Nat) : (i + 1) * cv f g (i + 1) = sg (i + 1) (fun j => (j + 1) * co f (j + 1) * co g (i - j)) + sg (i + 1) (fun j => co f j * ((i - j + 1) * co g (i - j + 1))) := by
  have e1 : (i + 1) * cv f g (i + 1) = sg (i + 2) fun j => (i + 1) * (co f j * co g (i + 1 - j)) := by rw [cv_range, sg_mul]
  have e2 : (sg (i + 2) fun j => (i + 1) * (co f j * co g (i + 1 - j))) = sg (i + 2) fun j => j * (co f j * co g (i + 1 - j)) + (i + 1 - j) * (co f j * co g (i + 1 - j)) := by
    refine sg_congr _ fun j hj => ?_
    rw [← Nat.add_mul, show j + (i + 1 - j) = i + 1 by omega]
  rw [e1, e2, sg_add]
  congr 1
  · rw [sg_front, Nat.zero_mul, Nat.zero_add]
    refine sg_congr _ fun j hj => ?_
    rw [show i + 1 - (j + 1) = i - j by omega, Nat.mul_assoc]
  · rw [sg, show i + 1 - (i + 1) = 0 by omega, Nat.zero_mul, Nat.add_zero]
    refine sg_congr _ fun j hj => ?_
    rw [show i + 1 - j = i - j + 1 by omega, Nat.mul_left_comm]
section
variable {p : Nat} (hp : Pri p)
include hp
theorem slope_mul {f g : List Nat} : slopeL p (mulL p f g) = addL p (mulL p (slopeL p f) g) (mulL p f (slopeL p g)) := by
  have h0 := hp.pos
  refine isP_ext (slope_isP' h0 _) (add_isP h0 _ _) fun i => ?_
  rw [slope_co, add_co, mul_co, mul_co, mul_co, Nat.mul_mod_mod, cv_slope, cv_range, cv_range, ← Nat.add_mod]
  rw [Nat.add_mod, Nat.add_mod (sg (i + 1) fun j => co (slopeL p f) j * co g (i - j))]
  congr 2
  · refine sg_mod _ fun j _ => ?_
    rw [slope_co, Nat.mod_mul_mod]
  · refine sg_mod _ fun j _ => ?_
    rw [slope_co, Nat.mul_mod_mod]
theorem quo_mul2 {f g : List Nat} (hf : IsP p f) (hg : IsP p g) (hg0 : 0 < g.length) : quoL p (mulL p f g) g = f := by
  have hm := mul_isP hp hf hg
  exact (div_one hp hg hg0 (quo_isP hp hm hg hg0) (rem_isP hp hm hg hg0) hf (isP_nil p) (rem_lt hp hm hg hg0) hg0 (by rw [quo_rem hp hm hg hg0, addL_nil' hp.pos hm])).1
theorem mul_cancel {x y g : List Nat} (hx : IsP p x) (hy : IsP p y) (hg : IsP p g) (hg0 : 0 < g.length) (h : mulL p x g = mulL p y g) : x = y := by
  rw [← quo_mul2 hp hx hg hg0, h, quo_mul2 hp hy hg hg0]
theorem Dv.quo {d f : List Nat} (hd : IsP p d) (hd0 : 0 < d.length) (h : Dv p d f) : IsP p (quoL p f d) ∧ mulL p (quoL p f d) d = f := by
  obtain ⟨x, hx, rfl⟩ := h
  rw [quo_mul2 hp hx hd hd0]
  exact ⟨hx, rfl⟩
theorem Dv.diff {d a b : List Nat} (hd : IsP p d) (ha : IsP p a) (hb : IsP p b) (h1 : Dv p d a) (h2 : Dv p d (addL p a b)) : Dv p d b := by
  obtain ⟨x, hx, rfl⟩ := h1
  obtain ⟨y, hy, e⟩ := h2
  refine ⟨subL p y x, sub_isP hp.pos y x, ?_⟩
  have h3 : addL p (mulL p (subL p y x) d) (mulL p x d) = addL p b (mulL p x d) := by
    rw [← mulL_addL hp _ _ hd, sub_add hp.pos hy hx, e, addL_comm hp]
  exact add_cancel hp.pos (mul_isP hp (sub_isP hp.pos y x) hd) hb h3
/-- The parts of a common divisor are coprime. -/
theorem coprime_dv {u e d x : List Nat} (hu : IsP p u) (he : IsP p e) (hd : IsP p d) (hx : IsP p x) (hd0 : 0 < d.length) (hg : gcdL p (mulL p u d) (mulL p e d) = d) (h : Dv p e (mulL p u x)) : Dv p e x := by
  have h0 := hp.pos
  have hud := mul_isP hp hu hd
  have hed := mul_isP hp he hd
  obtain ⟨-, ia, ib, hc⟩ := bez_gcd hp hud hed
  rw [hg] at hc
  generalize (bezL p (mulL p u d) (mulL p e d)).2.1 = a at *
  generalize (bezL p (mulL p u d) (mulL p e d)).2.2 = b at *
  have h1 : mulL p (addL p (mulL p a u) (mulL p b e)) d = mulL p [1] d := by
    rw [mulL_addL hp _ _ hd, mulL_assoc hp ia hu hd, mulL_assoc hp ib he hd, hc, one_mulL hp hd]
  have h2 := mul_cancel hp (add_isP h0 _ _) (isP_one hp) hd hd0 h1
  have h3 : x = addL p (mulL p a (mulL p u x)) (mulL p (mulL p b x) e) := by
    have h4 : mulL p (addL p (mulL p a u) (mulL p b e)) x = x := by rw [h2, one_mulL hp hx]
    rw [mulL_addL hp _ _ hx, mulL_assoc hp ia hu hx, mulL_assoc hp ib he hx, mulL_comm hp he hx, ← mulL_assoc hp ib hx he] at h4
    exact h4.symm
  rw [h3]
  exact (h.mul hp he ia).add hp he ⟨_, mul_isP hp ib hx, rfl⟩
theorem gcdL_isP {f g : List Nat} (hf : IsP p f) (hg : IsP p g) : IsP p (gcdL p f g) := gcd_isP hp _ f g hf hg
theorem gcdL_dv {f g : List Nat} (hf : IsP p f) (hg : IsP p g) : Dv p (gcdL p f g) f ∧ Dv p (gcdL p f g) g := gcd_dv hp _ f g hf hg (Nat.le_refl _)
theorem gcdL_ne {f g : List Nat} (hf : IsP p f) (hg : IsP p g) (h : f ≠ [] ∨ g ≠ []) : 0 < (gcdL p f g).length := List.length_pos_iff.2 (gcd_top hp _ f g hf hg (Nat.le_refl _) h).1
theorem mul_ne {f g : List Nat} (hf : 0 < f.length) (hg : 0 < g.length) : 0 < (mulL p f g).length := by rw [mul_len hf hg]; omega
/-- What the loop keeps: c divides w times the derivative of c. -/
structure SqI (p : Nat) (w c : List Nat) : Prop where
  iw : IsP p w
  ic : IsP p c
  wn : 0 < w.length
  cn : 0 < c.length
  dv : Dv p c (mulL p w (slopeL p c))
theorem sq_start {f : List Nat} (hf : IsP p f) (hf0 : 0 < f.length) : SqI p (quoL p f (gcdL p f (slopeL p f))) (gcdL p f (slopeL p f)) ∧ mulL p (quoL p f (gcdL p f (slopeL p f))) (gcdL p f (slopeL p f)) = f := by
  have h0 := hp.pos
  have hs := slope_isP' h0 f
  have hc := gcdL_isP hp hf hs
  have hcn := gcdL_ne hp hf hs (.inl (List.ne_nil_of_length_pos hf0))
  obtain ⟨d1, d2⟩ := gcdL_dv hp hf hs
  generalize gcdL p f (slopeL p f) = c at *
  obtain ⟨hw, e⟩ := d1.quo hp hc hcn
  generalize quoL p f c = w at *
  have hwn : 0 < w.length := by
    rcases Nat.eq_zero_or_pos w.length with h | h
    · rw [List.length_eq_zero_iff.1 h, nil_mul] at e
      rw [← e] at hf0; simp at hf0
    · exact h
  refine ⟨⟨hw, hc, hwn, hcn, ?_⟩, e⟩
  rw [← e, slope_mul hp] at d2
  exact Dv.diff hp hc (mul_isP hp (slope_isP' h0 w) hc) (mul_isP hp hw (slope_isP' h0 c)) ⟨_, slope_isP' h0 w, rfl⟩ d2
theorem sq_step {w c : List Nat} (h : SqI p w c) : SqI p (gcdL p w c) (quoL p c (gcdL p w c)) ∧ mulL p (quoL p c (gcdL p w c)) (gcdL p w c) = c ∧ IsP p (quoL p w (gcdL p w c)) ∧ mulL p (quoL p w (gcdL p w c)) (gcdL p w c) = w := by
  have h0 := hp.pos
  have hy := gcdL_isP hp h.iw h.ic
  have hyn := gcdL_ne hp h.iw h.ic (.inl (List.ne_nil_of_length_pos h.wn))
  obtain ⟨d1, d2⟩ := gcdL_dv hp h.iw h.ic
  have hg : gcdL p w c = gcdL p w c := rfl
  generalize hyy : gcdL p w c = y at *
  obtain ⟨hu, eu⟩ := d1.quo hp hy hyn
  obtain ⟨hc1, ec⟩ := d2.quo hp hy hyn
  have hdv := h.dv
  have hwn := h.wn
  have hcn := h.cn
  generalize quoL p w y = u at *
  generalize quoL p c y = c1 at *
  subst eu ec
  have hc1n : 0 < c1.length := by
    rcases Nat.eq_zero_or_pos c1.length with h | h
    · rw [List.length_eq_zero_iff.1 h, nil_mul] at hcn; simp at hcn
    · exact h
  refine ⟨⟨hy, hc1, hyn, hc1n, ?_⟩, rfl, hu, rfl⟩
  have s1 := slope_isP' h0 c1
  have s2 := slope_isP' h0 y
  obtain ⟨x, hx, ex⟩ := hdv
  -- u y (c1' y + c1 y') = x c1 y
  have e1 : mulL p (mulL p x c1) y = mulL p (mulL p u (addL p (mulL p (slopeL p c1) y) (mulL p c1 (slopeL p y)))) y := by
    rw [mulL_assoc hp hx hc1 hy, ex, slope_mul hp, mulL_assoc hp hu hy (add_isP h0 _ _), mulL_assoc hp hu (add_isP h0 _ _) hy, mulL_comm hp hy (add_isP h0 _ _)]
  have e2 := mul_cancel hp (mul_isP hp hx hc1) (mul_isP hp hu (add_isP h0 _ _)) hy hyn e1
  have e3 := coprime_dv hp hu hc1 hy (add_isP h0 _ _) hyn hyy ⟨x, hx, e2⟩
  rw [addL_comm hp] at e3
  have e4 := Dv.diff hp hc1 (mul_isP hp hc1 s2) (mul_isP hp s1 hy) ⟨_, s2, mulL_comm hp s2 hc1⟩ e3
  rwa [mulL_comm hp s1 hy] at e4
/-- At the end c is a constant as far as the derivative goes. -/
theorem sq_end {w c : List Nat} (h : SqI p w c) (hw : w.length ≤ 1) : slopeL p c = [] := by
  have h0 := hp.pos
  have hs := slope_isP' h0 c
  have hl := slope_len p c
  obtain ⟨x, hx, e⟩ := h.dv
  rcases Nat.eq_zero_or_pos (slopeL p c).length with h1 | h1
  · exact List.length_eq_zero_iff.1 h1
  · have hwn := h.wn
    have hcn := h.cn
    have h2 := mul_len (p := p) hwn h1
    rw [← e] at h2
    rcases Nat.eq_zero_or_pos x.length with h3 | h3
    · rw [List.length_eq_zero_iff.1 h3, nil_mul] at h2
      simp at h2; omega
    · rw [mul_len h3 hcn] at h2; omega
theorem root_isP {f : List Nat} (hf : IsP p f) (h : slopeL p f = []) : IsP p (rootL p f) ∧ (1 < f.length → (rootL p f).length < f.length) ∧ (rootL p f).length ≤ f.length := by
  have h0 := hp.pos
  have h2 := hp.1
  rcases Nat.eq_zero_or_pos f.length with hl | hl
  · have : f = [] := List.length_eq_zero_iff.1 hl
    subst this
    have e : rootL p [] = [] := by
      unfold rootL
      rw [show ([] : List Nat).length = 0 from rfl, Nat.div_eq_of_lt (show 0 + p - 1 < p by omega)]; rfl
    rw [e]
    exact ⟨isP_nil p, (fun h => by simp at h), Nat.le_refl _⟩
  have ht := top_pos hf hl
  have hdiv : (f.length - 1) % p = 0 := by
    by_cases h1 : f.length = 1
    · rw [h1]; simp
    · have h3 := slope_co (p := p) f (f.length - 2)
      rw [h, show co ([] : List Nat) (f.length - 2) = 0 from rfl, show f.length - 2 + 1 = f.length - 1 by omega] at h3
      rcases pri_mul hp h3.symm with h4 | h4
      · exact h4
      · rw [Nat.mod_eq_of_lt (hf.co h0 _)] at h4; omega
  obtain ⟨k, hk⟩ := Nat.dvd_of_mod_eq_zero hdiv
  have hlen : (f.length + p - 1) / p = k + 1 := by
    rw [show f.length + p - 1 = p * k + p by omega, ← Nat.mul_succ, Nat.mul_div_cancel_left _ h0]
  have hrl : (rootL p f).length = k + 1 := by unfold rootL; rw [fl_len, hlen]
  refine ⟨⟨?_, .inr ?_⟩, (fun h1 => ?_), ?_⟩
  · unfold rootL
    exact fl_lt fun i _ => hf.co h0 _
  · rw [hrl]
    unfold rootL
    rw [hlen, fl_co _ (by omega), show k + 1 - 1 = k by omega, Nat.mul_comm, ← hk]
    omega
  · rw [hrl]
    have h3 : 1 ≤ k := by
      rcases Nat.eq_zero_or_pos k with h4 | h4
      · rw [h4, Nat.mul_zero] at hk; omega
      · exact h4
    have h4 : 2 * k ≤ p * k := Nat.mul_le_mul_right k h2
    omega
  · rw [hrl]
    have h4 : 2 * k ≤ p * k := Nat.mul_le_mul_right k h2
    omega
end
end Go.Poly
