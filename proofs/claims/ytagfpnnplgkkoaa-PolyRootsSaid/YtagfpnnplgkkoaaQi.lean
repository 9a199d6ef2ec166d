/- Interpolation: a polynomial has fewer roots than coefficients; Newton's way and Lagrange's lead to one result. -/
import Derived.Test.YtagfpnnplgkkoaaQh
set_option linter.unusedSectionVars false
namespace Go.Poly
theorem valL_lt' {p : Nat} (hp : 0 < p) (f : List Nat) (x : Nat) : valL p f x < p := valN_lt hp f x _
theorem val_nil (p x : Nat) : valL p [] x = 0 := rfl
theorem val_one {p : Nat} (hp : Pri p) (x : Nat) : valL p [1] x = 1 := by
  have := hp.1
  simp [valL, valN, co, Nat.mod_eq_of_lt (show 1 < p by omega)]
theorem val_const (p c x : Nat) : valL p [c] x = c % p := by simp [valL, valN, co]
theorem val_lin {p : Nat} (hp : Pri p) (c x : Nat) : valL p [c, 1] x = (x + c) % p := by
  have h2 := hp.1
  simp [valL, valN, co, Nat.mod_eq_of_lt (show 1 < p by omega)]
theorem val_trim {p : Nat} (hp : 0 < p) (f : List Nat) (x : Nat) : valL p (trimL f) x = valL p f x := by
  rw [valL_sum hp _ x (Nat.le_refl _), valL_sum hp f x (Nat.le_refl _)]
  have h1 := pv_more (trimL f) x (n := f.length) (trim_le' f)
  rw [← h1]
  congr 1
  exact sg_congr _ fun i _ => by rw [trim_co]
section
variable {p : Nat} (hp : Pri p)
include hp
/-- x less a, as a polynomial. -/
theorem lin_isP (a : Nat) : IsP p [(p - a) % p, 1] := by
  have := hp.1
  exact ⟨(fun c hc => by
    simp at hc
    rcases hc with rfl | rfl
    · exact Nat.mod_lt _ hp.pos
    · omega), .inr (by simp [co])⟩
theorem lin_val {a x : Nat} (ha : a < p) (hx : x < p) : valL p [(p - a) % p, 1] x = 0 ↔ x = a := by
  rw [val_lin hp, Nat.add_mod_mod]
  constructor
  · intro h
    by_cases h1 : a ≤ x
    · rw [show x + (p - a) = (x - a) + p by omega, Nat.add_mod_right, Nat.mod_eq_of_lt (by omega)] at h
      omega
    · rw [Nat.mod_eq_of_lt (by omega)] at h
      omega
  · rintro rfl
    rw [show x + (p - x) = p by omega, Nat.mod_self]
theorem val_sub_zero {f g : List Nat} (hf : IsP p f) (hg : IsP p g) {x : Nat} (h : valL p f x = valL p g x) : valL p (subL p f g) x = 0 := by
  have h1 := val_add hp.pos (subL p f g) g x
  rw [sub_add hp.pos hf hg, h] at h1
  have h2 := valL_lt' hp.pos (subL p f g) x
  have h3 := valL_lt' hp.pos g x
  generalize valL p (subL p f g) x = a at *
  generalize valL p g x = b at *
  by_cases h4 : a + b < p
  · rw [Nat.mod_eq_of_lt h4] at h1; omega
  · rw [show a + b = (a + b - p) + p by omega, Nat.add_mod_right, Nat.mod_eq_of_lt (by omega)] at h1; omega
/-- A root is a factor. -/
theorem root_dv {h : List Nat} (hh : IsP p h) {a : Nat} (ha : a < p) (hv : valL p h a = 0) : ∃ q, IsP p q ∧ mulL p q [(p - a) % p, 1] = h := by
  have hl := lin_isP hp a
  have h0 : 0 < [(p - a) % p, 1].length := by simp
  have hq := quo_isP hp hh hl h0
  have hr := rem_isP hp hh hl h0
  have hrl := rem_lt hp hh hl h0
  have hs := quo_rem hp hh hl h0
  have hv2 : valL p (addL p (mulL p (quoL p h [(p - a) % p, 1]) [(p - a) % p, 1]) (remL p h [(p - a) % p, 1])) a = valL p h a := by rw [hs]
  rw [hv, val_add hp.pos, val_mul hp.pos, (lin_val hp ha ha).2 rfl, Nat.mul_zero, Nat.zero_mod, Nat.zero_add] at hv2
  refine ⟨_, hq, ?_⟩
  have hrn : remL p h [(p - a) % p, 1] = [] := by
    generalize remL p h [(p - a) % p, 1] = r at *
    have hr1 : r.length ≤ 1 := by simp at hrl; omega
    rcases Nat.eq_zero_or_pos r.length with h1 | h1
    · exact List.length_eq_zero_iff.1 h1
    · obtain ⟨c, rfl⟩ := List.length_eq_one_iff.1 (show r.length = 1 by omega)
      rw [val_const, Nat.mod_mod] at hv2
      have hc := hr.1 c (by simp)
      rw [Nat.mod_eq_of_lt hc] at hv2
      subst hv2
      exact absurd (hr.2.resolve_left (by simp)) (by simp [co])
  rw [hrn, addL_nil' hp.pos (mul_isP hp hq hl)] at hs
  exact hs
theorem few_roots {X : Nat → Nat} : ∀ (n : Nat) (h : List Nat), IsP p h → h.length ≤ n → (∀ i, i < n → X i < p) → (∀ i j, i < j → j < n → X i ≠ X j) → (∀ i, i < n → valL p h (X i) = 0) → h = []
  | 0, h, _, hl, _, _, _ => List.length_eq_zero_iff.1 (by omega)
  | n + 1, h, hh, hl, hX, hd, hv => by
    obtain ⟨q, hq, hqh⟩ := root_dv hp hh (hX n (by omega)) (hv n (by omega))
    have hqn : q = [] := by
      refine few_roots n q hq ?_ (fun i hi => hX i (by omega)) (fun i j hi hj => hd i j hi (by omega)) (fun i hi => ?_)
      · by_cases hq0 : q = []
        · rw [hq0]; simp
        · have := mul_len (p := p) (List.length_pos_iff.2 hq0) (show 0 < [(p - X n) % p, 1].length by simp)
          rw [hqh] at this
          simp only [List.length_cons, List.length_nil] at this
          omega
      · have h1 := hv i (by omega)
        rw [← hqh, val_mul hp.pos] at h1
        rcases pri_mul hp h1 with h2 | h2
        · rwa [Nat.mod_eq_of_lt (valL_lt' hp.pos q _)] at h2
        · rw [Nat.mod_eq_of_lt (valL_lt' hp.pos _ _)] at h2
          exact absurd ((lin_val hp (hX n (by omega)) (hX i (by omega))).1 h2) (hd i n hi (by omega))
    rw [← hqh, hqn, nil_mul]
/-- Two polynomials that agree at as many points as they have coefficients are one. -/
theorem interp_one {X : Nat → Nat} (n : Nat) {f g : List Nat} (hf : IsP p f) (hg : IsP p g) (lf : f.length ≤ n) (lg : g.length ≤ n) (hX : ∀ i, i < n → X i < p) (hd : ∀ i j, i < j → j < n → X i ≠ X j) (hv : ∀ i, i < n → valL p f (X i) = valL p g (X i)) : f = g := by
  have h1 := few_roots hp n (subL p f g) (sub_isP hp.pos f g) (Nat.le_trans (sub_le p f g) (by omega)) hX hd (fun i hi => val_sub_zero hp hf hg (hv i hi))
  have h2 := sub_add hp.pos hf hg
  rw [h1, nil_addL hp.pos hg] at h2
  exact h2.symm
end

/-! ### Newton's way -/
def thStep (p : Nat) (s : List Nat × List Nat) (x y : Nat) : List Nat × List Nat :=
  (addL p s.1 (scaleL p s.2 ((y + (p - valL p s.1 x)) % p * iv p (valL p s.2 x))), mulL p s.2 [(p - x) % p, 1])
def thL (p : Nat) (X Y : Nat → Nat) : Nat → List Nat × List Nat
  | 0 => ([], [1])
  | i + 1 => thStep p (thL p X Y i) (X i) (Y i)
/-- Points with different first numbers. -/
def Pts (p n : Nat) (X Y : Nat → Nat) : Prop := (∀ i, i < n → X i < p ∧ Y i < p) ∧ ∀ i j, i < j → j < n → X i ≠ X j
structure ThI (p : Nat) (X Y : Nat → Nat) (i : Nat) (s : List Nat × List Nat) : Prop where
  f : IsP p s.1
  z : IsP p s.2
  lf : s.1.length ≤ i
  lz : s.2.length = i + 1
  vf : ∀ j, j < i → valL p s.1 (X j) = Y j
  vz : ∀ j, j < i → valL p s.2 (X j) = 0
  vn : ∀ x, x < p → (∀ j, j < i → X j ≠ x) → valL p s.2 x ≠ 0
theorem val_scale {p : Nat} (hp : Pri p) (f : List Nat) (c x : Nat) : valL p (scaleL p f c) x = valL p f x * c % p := by
  unfold scaleL
  rw [val_mul hp.pos, val_trim hp.pos, val_const, Nat.mod_mod, Nat.mul_mod_mod]
theorem th_inv {p : Nat} (hp : Pri p) {X Y : Nat → Nat} : ∀ (n : Nat), Pts p n X Y → ThI p X Y n (thL p X Y n)
  | 0, _ => ⟨isP_nil p, isP_one hp, Nat.le_refl _, rfl, fun j hj => by omega, fun j hj => by omega, fun x _ _ => by show valL p [1] x ≠ 0; rw [val_one hp]; omega⟩
  | n + 1, h => by
    have h0 := hp.pos
    have ih := th_inv hp n ⟨fun i hi => h.1 i (by omega), fun i j hi hj => h.2 i j hi (by omega)⟩
    have hX := h.1 n (by omega)
    have hz : valL p (thL p X Y n).2 (X n) ≠ 0 := ih.vn _ hX.1 (fun j hj => h.2 j n hj (by omega))
    rw [thL]
    generalize thL p X Y n = s at *
    obtain ⟨f, z⟩ := s
    have hf := ih.f
    have hzz := ih.z
    have lf := ih.lf
    have lz := ih.lz
    have vf := ih.vf
    have vz := ih.vz
    have vn := ih.vn
    simp only at hf hzz lf lz vf vz vn hz
    have hlin := lin_isP hp (X n)
    have hzl := valL_lt' h0 z (X n)
    have hfl := valL_lt' h0 f (X n)
    have hiv := iv_mul hp (show 0 < valL p z (X n) by omega) hzl
    refine ⟨add_isP h0 _ _, mul_isP hp hzz hlin, ?_, ?_, ?_, ?_, ?_⟩
    · show (addL p f _).length ≤ n + 1
      have h1 : (addL p f (scaleL p z ((Y n + (p - valL p f (X n))) % p * iv p (valL p z (X n))))).length ≤ max f.length (scaleL p z ((Y n + (p - valL p f (X n))) % p * iv p (valL p z (X n)))).length := by
        unfold addL; refine Nat.le_trans (trim_le' _) ?_; rw [fl_len]; exact Nat.le_refl _
      have h2 : (scaleL p z ((Y n + (p - valL p f (X n))) % p * iv p (valL p z (X n)))).length ≤ n + 1 := by
        unfold scaleL
        have hc : (trimL [(Y n + (p - valL p f (X n))) % p * iv p (valL p z (X n)) % p]).length ≤ 1 := trim_le' _
        by_cases h3 : trimL [(Y n + (p - valL p f (X n))) % p * iv p (valL p z (X n)) % p] = []
        · rw [h3, mul_nil]; simp
        · rw [mul_len (by omega) (List.length_pos_iff.2 h3)]; omega
      exact Nat.le_trans h1 (by omega)
    · show (mulL p z _).length = n + 1 + 1
      rw [mul_len (by omega) (by simp)]
      simp only [List.length_cons, List.length_nil]; omega
    · intro j hj
      show valL p (addL p f _) (X j) = Y j
      rw [val_add h0, val_scale hp]
      by_cases hjn : j = n
      · subst hjn
        have e : valL p z (X j) * ((Y j + (p - valL p f (X j))) % p * iv p (valL p z (X j))) % p = (Y j + (p - valL p f (X j))) % p := by
          rw [Nat.mul_left_comm, Nat.mul_mod, hiv, Nat.mul_one, Nat.mod_mod, Nat.mod_mod]
        rw [e, Nat.add_mod_mod, show valL p f (X j) + (Y j + (p - valL p f (X j))) = Y j + p by omega, Nat.add_mod_right, Nat.mod_eq_of_lt hX.2]
      · rw [vz j (by omega), Nat.zero_mul, Nat.zero_mod, Nat.add_zero, vf j (by omega), Nat.mod_eq_of_lt (h.1 j (by omega)).2]
    · intro j hj
      show valL p (mulL p z _) (X j) = 0
      rw [val_mul h0]
      by_cases hjn : j = n
      · subst hjn
        rw [(lin_val hp hX.1 hX.1).2 rfl, Nat.mul_zero, Nat.zero_mod]
      · rw [vz j (by omega), Nat.zero_mul, Nat.zero_mod]
    · intro x hx hn
      show valL p (mulL p z _) x ≠ 0
      rw [val_mul h0]
      intro h1
      rcases pri_mul hp h1 with h2 | h2
      · rw [Nat.mod_eq_of_lt (valL_lt' h0 z x)] at h2
        exact vn x hx (fun j hj => hn j (by omega)) h2
      · rw [Nat.mod_eq_of_lt (valL_lt' h0 _ x)] at h2
        exact hn n (by omega) ((lin_val hp hX.1 hx).1 h2).symm

/-! ### Lagrange's way -/
def rsL (p : Nat) (f : List Nat) (c : Nat) : List Nat := trimL (fl f.length fun i => co f i * c % p)
def rtL (p : Nat) (X Y : Nat → Nat) (i : Nat) : Nat → List Nat × Nat
  | 0 => ([Y i], 1)
  | k + 1 => if k = i then rtL p X Y i k else (mulL p (trimL (rtL p X Y i k).1) [(p - X k) % p, 1], (rtL p X Y i k).2 * (X i + p - X k) % p)
def rthL (p : Nat) (X Y : Nat → Nat) (n : Nat) : Nat → List Nat
  | 0 => []
  | i + 1 => addL p (rthL p X Y n i) (rsL p (rtL p X Y i n).1 (iv p (rtL p X Y i n).2))
theorem rs_isP {p : Nat} (hp0 : 0 < p) (f : List Nat) (c : Nat) : IsP p (rsL p f c) := trim_isP (fl_lt fun _ _ => Nat.mod_lt _ hp0)
theorem rs_len (p : Nat) (f : List Nat) (c : Nat) : (rsL p f c).length ≤ f.length := by
  refine Nat.le_trans (trim_le' _) ?_; rw [fl_len]; exact Nat.le_refl _
theorem val_rs {p : Nat} (hp0 : 0 < p) (f : List Nat) (c x : Nat) : valL p (rsL p f c) x = valL p f x * c % p := by
  unfold rsL
  rw [val_trim hp0, valL_sum hp0 _ x (Nat.le_refl _), valL_sum hp0 f x (Nat.le_refl _), fl_len, Nat.mod_mul_mod]
  unfold pv
  rw [← sg_mulr]
  refine sg_mod _ fun i hi => ?_
  rw [fl_co _ hi, Nat.mod_mul_mod, Nat.mul_right_comm]
structure RtI (p : Nat) (X Y : Nat → Nat) (i k : Nat) (s : List Nat × Nat) : Prop where
  lt : ∀ j, co s.1 j < p
  len : s.1.length + (if i < k then 1 else 0) ≤ k + 1
  by_ : 0 < s.2 ∧ s.2 < p
  v0 : ∀ j, j < k → j ≠ i → valL p s.1 (X j) = 0
  vi : valL p s.1 (X i) = Y i * s.2 % p
theorem rt_inv {p n : Nat} (hp : Pri p) {X Y : Nat → Nat} (h : Pts p n X Y) {i : Nat} (hi : i < n) : ∀ k, k ≤ n → RtI p X Y i k (rtL p X Y i k)
  | 0, _ => by
    have h2 := hp.1
    refine ⟨fun j => ?_, by simp [rtL], ⟨by simp [rtL], by simp [rtL]; omega⟩, fun j hj => by omega, ?_⟩
    · show co [Y i] j < p
      cases j with
      | zero => exact (h.1 i hi).2
      | succ j => rw [co_out (by simp)]; exact hp.pos
    · show valL p [Y i] (X i) = Y i * 1 % p
      rw [val_const, Nat.mul_one]
  | k + 1, hk => by
    have h0 := hp.pos
    have ih := rt_inv hp h hi k (by omega)
    rw [rtL]
    by_cases hki : k = i
    · rw [if_pos hki]
      subst hki
      refine ⟨ih.lt, ?_, ih.by_, fun j hj hji => ih.v0 j (by omega) hji, ih.vi⟩
      have := ih.len
      rw [if_neg (by omega)] at this
      rw [if_pos (by omega)]
      omega
    · rw [if_neg hki]
      generalize rtL p X Y i k = s at *
      obtain ⟨t, b⟩ := s
      have ht : IsP p (trimL t) := trim_isP fun c hc => by
        obtain ⟨j, hj, rfl⟩ := List.mem_iff_getElem.1 hc
        have := ih.lt j
        rwa [co_get hj] at this
      have hXk := (h.1 k (by omega)).1
      have hXi := (h.1 i hi).1
      have hne : X i ≠ X k := by
        rcases Nat.lt_or_gt_of_ne hki with h1 | h1
        · exact fun e => h.2 k i h1 hi e.symm
        · exact h.2 i k h1 (by omega)
      have hlin := lin_isP hp (X k)
      have hm := mul_isP hp ht hlin
      refine ⟨hm.co h0, ?_, ⟨?_, Nat.mod_lt _ h0⟩, ?_, ?_⟩
      · have h1 := ih.len
        have h3 : (trimL t).length ≤ t.length := trim_le' t
        show (mulL p (trimL t) _).length + _ ≤ _
        simp only at h1
        have h4 : (mulL p (trimL t) [(p - X k) % p, 1]).length ≤ t.length + 1 := by
          by_cases h5 : trimL t = []
          · rw [h5, nil_mul]; simp
          · rw [mul_len (List.length_pos_iff.2 h5) (by simp)]
            simp only [List.length_cons, List.length_nil]; omega
        by_cases h6 : i < k
        · rw [if_pos h6] at h1; rw [if_pos (by omega)]; omega
        · rw [if_neg h6] at h1; rw [if_neg (by omega)]; omega
      · show 0 < b * (X i + p - X k) % p
        rcases Nat.eq_zero_or_pos (b * (X i + p - X k) % p) with h1 | h1
        · rcases pri_mul hp h1 with h2 | h2
          · have := ih.by_
            simp only at this
            rw [Nat.mod_eq_of_lt this.2] at h2
            omega
          · exfalso
            by_cases h3 : X k ≤ X i
            · rw [show X i + p - X k = (X i - X k) + p by omega, Nat.add_mod_right, Nat.mod_eq_of_lt (by omega)] at h2
              omega
            · rw [Nat.mod_eq_of_lt (by omega)] at h2
              omega
        · exact h1
      · intro j hj hji
        show valL p (mulL p (trimL t) _) (X j) = 0
        rw [val_mul h0, val_trim h0]
        by_cases hjk : j = k
        · subst hjk
          rw [(lin_val hp hXk hXk).2 rfl, Nat.mul_zero, Nat.zero_mod]
        · have := ih.v0 j (by omega) hji
          simp only at this
          rw [this, Nat.zero_mul, Nat.zero_mod]
      · show valL p (mulL p (trimL t) _) (X i) = Y i * (b * (X i + p - X k) % p) % p
        have := ih.vi
        simp only at this
        rw [val_mul h0, val_trim h0, this, val_lin hp, Nat.add_mod_mod, ← Nat.mul_mod, Nat.mul_mod_mod, Nat.mul_assoc, show X i + (p - X k) = X i + p - X k by omega]
theorem rth_inv {p n : Nat} (hp : Pri p) {X Y : Nat → Nat} (h : Pts p n X Y) : ∀ i, i ≤ n → IsP p (rthL p X Y n i) ∧ (rthL p X Y n i).length ≤ n ∧ (∀ j, j < n → valL p (rthL p X Y n i) (X j) = if j < i then Y j else 0)
  | 0, _ => ⟨isP_nil p, Nat.zero_le _, fun j _ => by rw [if_neg (by omega)]; rfl⟩
  | i + 1, hi => by
    have h0 := hp.pos
    obtain ⟨h1, h2, h3⟩ := rth_inv hp h i (by omega)
    have ht := rt_inv hp h (show i < n by omega) n (Nat.le_refl _)
    rw [rthL]
    generalize rtL p X Y i n = s at *
    obtain ⟨t, b⟩ := s
    have hl := ht.len
    have hb := ht.by_
    have hv0 := ht.v0
    have hvi := ht.vi
    simp only at hl hb hv0 hvi
    rw [if_pos (by omega)] at hl
    have hrl := rs_len p t (iv p b)
    refine ⟨add_isP h0 _ _, ?_, fun j hj => ?_⟩
    · have : (addL p (rthL p X Y n i) (rsL p t (iv p b))).length ≤ max (rthL p X Y n i).length (rsL p t (iv p b)).length := by
        unfold addL; refine Nat.le_trans (trim_le' _) ?_; rw [fl_len]; exact Nat.le_refl _
      show (addL p (rthL p X Y n i) (rsL p t (iv p b))).length ≤ n
      omega
    · show valL p (addL p (rthL p X Y n i) (rsL p t (iv p b))) (X j) = _
      rw [val_add h0, h3 j hj, val_rs h0]
      by_cases hji : j = i
      · subst hji
        rw [hvi, if_neg (by omega), if_pos (by omega), Nat.zero_add, Nat.mod_mul_mod, Nat.mul_assoc, Nat.mul_mod, iv_mul hp hb.1 hb.2, Nat.mul_one, Nat.mod_mod, Nat.mod_mod, Nat.mod_eq_of_lt (h.1 j hj).2]
      · rw [hv0 j hj hji, Nat.zero_mul, Nat.zero_mod, Nat.add_zero]
        by_cases h5 : j < i
        · rw [if_pos h5, if_pos (by omega), Nat.mod_eq_of_lt (h.1 j hj).2]
        · rw [if_neg h5, if_neg (by omega), Nat.zero_mod]
/-- Both ways lead to one polynomial. -/
theorem through_eq {p n : Nat} (hp : Pri p) {X Y : Nat → Nat} (h : Pts p n X Y) : (thL p X Y n).1 = rthL p X Y n n := by
  have h1 := th_inv hp n h
  obtain ⟨h2, h3, h4⟩ := rth_inv hp h n (Nat.le_refl _)
  refine interp_one hp n h1.f h2 h1.lf h3 (fun i hi => (h.1 i hi).1) h.2 (fun i hi => ?_)
  rw [h1.vf i hi, h4 i hi, if_pos hi]
theorem through_again {p n : Nat} (hp : Pri p) {X Y : Nat → Nat} (h : Pts p n X Y) {f : List Nat} (hf : IsP p f) (lf : f.length ≤ n) (hv : ∀ i, i < n → valL p f (X i) = Y i) : (thL p X Y n).1 = f := by
  have h1 := th_inv hp n h
  exact interp_one hp n h1.f hf h1.lf lf (fun i hi => (h.1 i hi).1) h.2 (fun i hi => by rw [h1.vf i hi, hv i hi])
end Go.Poly
