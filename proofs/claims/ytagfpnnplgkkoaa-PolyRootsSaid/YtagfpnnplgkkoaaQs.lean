/- Roots gathered one by one. -/
import Derived.Test.YtagfpnnplgkkoaaQr
set_option linter.unusedSectionVars false
namespace Go.Poly
open Go.W Go.Tree
structure RT (p : Nat) (R Z : List Nat) : Prop where
  rts : Rts p R.length (fun i => R.getD i 0) Z
  top : co Z R.length = 1
theorem getD_app1 {R : List Nat} {x i : Nat} (h : i < R.length) : (R ++ [x]).getD i 0 = R.getD i 0 := by
  rw [List.getD_eq_getElem?_getD, List.getD_eq_getElem?_getD, List.getElem?_append_left h]
theorem getD_app2 {R : List Nat} {x : Nat} : (R ++ [x]).getD R.length 0 = x := by
  rw [List.getD_eq_getElem?_getD, List.getElem?_append_right (Nat.le_refl _), Nat.sub_self]; rfl
theorem getD_mem {R : List Nat} {i : Nat} (h : i < R.length) : R.getD i 0 ∈ R := by
  rw [List.getD_eq_getElem?_getD, List.getElem?_eq_getElem h]
  exact List.getElem_mem h
section
variable {p : Nat} (hp : Pri p)
include hp
theorem rt_nil : RT p [] [1] := by
  refine ⟨⟨isP_one hp, rfl, ⟨fun i hi => by simp at hi, fun i j _ hj => by simp at hj⟩, fun j hj => by simp at hj, fun x _ _ => by rw [val_one hp]; omega⟩, by simp [co]⟩
theorem rt_snoc {R Z : List Nat} (h : RT p R Z) {x : Nat} (hx : x < p) (hne : ∀ y ∈ R, y ≠ x) : RT p (R ++ [x]) (mulL p Z [(p - x) % p, 1]) := by
  have h2 := hp.1
  have hz := h.rts
  have hl := lin_isP hp x
  have hlen := hz.len
  refine ⟨⟨mul_isP hp hz.z hl, ?_, ⟨fun i hi => ?_, fun i j hij hj => ?_⟩, fun j hj => ?_, fun y hy hn => ?_⟩, ?_⟩
  · rw [mul_len (by omega) (by simp), List.length_append]; simp; omega
  · simp only [List.length_append, List.length_singleton] at hi
    by_cases h1 : i < R.length
    · simp only [getD_app1 h1]; exact hz.pts.1 i h1
    · have : i = R.length := by omega
      subst this
      simp only [getD_app2]; exact hx
  · simp only [List.length_append, List.length_singleton] at hj
    simp only [getD_app1 (show i < R.length by omega)]
    by_cases h1 : j < R.length
    · simp only [getD_app1 h1]; exact hz.pts.2 i j hij h1
    · have : j = R.length := by omega
      subst this
      simp only [getD_app2]
      exact hne _ (getD_mem (by omega))
  · simp only [List.length_append, List.length_singleton] at hj
    rw [val_mul hp.pos]
    by_cases h1 : j < R.length
    · simp only [getD_app1 h1]
      rw [hz.v0 j h1, Nat.zero_mul, Nat.zero_mod]
    · have : j = R.length := by omega
      subst this
      simp only [getD_app2]
      rw [(lin_val hp hx hx).2 rfl, Nat.mul_zero, Nat.zero_mod]
  · rw [val_mul hp.pos]
    intro h0
    rcases pri_mul hp h0 with h1 | h1
    · rw [Nat.mod_eq_of_lt (valL_lt' hp.pos _ _)] at h1
      refine hz.vn y hy (fun j hj e => hn j (by simp; omega) ?_) h1
      simp only [getD_app1 hj]; exact e
    · rw [Nat.mod_eq_of_lt (valL_lt' hp.pos _ _)] at h1
      have := (lin_val hp hx hy).1 h1
      exact hn R.length (by simp) (by simp only [getD_app2]; exact this.symm)
  · have ht := h.top
    rw [mul_co, List.length_append, List.length_singleton]
    have := cv_top (f := Z) (g := [(p - x) % p, 1]) (by omega) (by simp)
    rw [hlen, show R.length + 1 + ([(p - x) % p, 1] : List Nat).length - 2 = R.length + 1 by simp, Nat.add_sub_cancel, ht] at this
    rw [this]
    simp [co, Nat.mod_eq_of_lt (show 1 < p by omega)]
theorem rt_monic {R Z : List Nat} (h : RT p R Z) : monicL p Z = Z := by
  have hlen := h.rts.len
  have h2 := hp.1
  unfold monicL
  rw [if_neg (List.ne_nil_of_length_pos (by omega)), hlen, Nat.add_sub_cancel, h.top, iv_of hp (v := 1) (by omega) (Nat.mod_eq_of_lt (by omega))]
  unfold scaleL
  rw [const_of (by omega) (by omega), mulL_one hp h.rts.z]
theorem rt_spl {R Z : List Nat} (h : RT p R Z) (h12 : R.length ≤ 12) (hpl : p ≤ 1021) :
    ∃ ys, sqL p (monicL p Z) = some ys ∧ (spl p ys).length = R.length ∧ ∀ e ∈ spl p ys, e.1.length = 2 ∧ e.2 = 1 := by
  rcases Nat.eq_zero_or_pos R.length with h0 | h0
  · have hlen := h.rts.len
    rw [rt_monic hp h]
    refine ⟨[], ?_, by simp [spl, h0], fun e he => by simp [spl] at he⟩
    unfold sqL
    rw [show (34 : Nat) = 33 + 1 from rfl, sqN, if_pos (by omega)]
  · exact rts_spl hp h.rts h0 h12 hpl (rt_monic hp h)
end
end Go.Poly
