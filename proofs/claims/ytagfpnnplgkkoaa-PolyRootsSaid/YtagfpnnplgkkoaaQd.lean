/- Division of polynomials mod a prime: what it is, and that there is one only. -/
import Derived.Test.YtagfpnnplgkkoaaQc
set_option linter.unusedSectionVars false
namespace Go.Poly

/-- Quotient and rest. -/
def divL (p : Nat) (f g : List Nat) (lead : Nat) : List Nat × List Nat :=
  if f.length < g.length then ([], f) else
    let n := f.length - g.length + 1
    (fl n (dvG p g lead n (co f)).1, trimL (fl f.length (dvG p g lead n (co f)).2))
theorem one_ne {p : Nat} (hp : Pri p) : 1 % p = 1 := Nat.mod_eq_of_lt (by have := hp.1; omega)
section
variable {p lead : Nat} (hp : Pri p) {f g : List Nat} (hf : IsP p f) (hg : IsP p g) (hg0 : 0 < g.length) (hl : co g (g.length - 1) * lead % p = 1 % p)
include hp hf hg hg0 hl
theorem div_isP : IsP p (divL p f g lead).1 ∧ IsP p (divL p f g lead).2 ∧ (divL p f g lead).2.length < g.length := by
  unfold divL
  split
  · rename_i h; exact ⟨⟨(fun c hc => by cases hc), .inl rfl⟩, hf, h⟩
  · rename_i h
    have hlt := dvG_lt (lead := lead) (g := g) hp.pos (f.length - g.length + 1) (co f) (hf.co hp.pos)
    have hz := dvG_zero hp.pos hg0 hl (f.length - g.length + 1) (co f) (hf.co hp.pos)
    have htop : (dvG p g lead (f.length - g.length + 1) (co f)).1 (f.length - g.length) = co f (f.length - 1) * lead % p := by
      rw [dvG]; simp only [if_true]
      rw [show f.length - g.length + g.length - 1 = f.length - 1 by omega]
    simp only
    generalize hn : f.length - g.length + 1 = n at *
    generalize dvG p g lead n (co f) = qr at *
    refine ⟨⟨fl_lt fun i _ => hlt.1 i, .inr ?_⟩, trim_isP (fl_lt fun i _ => hlt.2 i), ?_⟩
    · rw [fl_len, fl_co _ (by omega), show n - 1 = f.length - g.length by omega, htop]
      intro h2
      have hf0 : f ≠ [] := fun e => by
        have : f.length = 0 := by rw [e]; rfl
        omega
      have t1 := hf.2.resolve_left hf0
      rcases pri_mul hp h2 with h3 | h3
      · rw [Nat.mod_eq_of_lt (hf.co hp.pos _)] at h3; exact t1 h3
      · rw [Nat.mul_mod, h3, Nat.mul_zero, Nat.zero_mod, one_ne hp] at hl
        cases hl
    · rw [trim_len, fl_len]
      apply Nat.lt_of_not_le
      intro h3
      rcases tn_top (fl f.length qr.2) f.length with h4 | h4
      · omega
      · have h5 := tn_le (fl f.length qr.2) f.length
        rw [fl_co _ (by omega)] at h4
        exact h4 (hz _ (by omega) (by omega))
theorem div_eq : addL p (mulL p (divL p f g lead).1 g) (divL p f g lead).2 = f := by
  refine isP_ext (add_isP hp.pos _ _) hf fun m => ?_
  rw [add_co, mul_co]
  unfold divL
  split
  · have : cv [] g m = 0 := rfl
    rw [this, Nat.zero_mod, Nat.zero_add, Nat.mod_eq_of_lt (hf.co hp.pos _)]
  · rename_i h
    have hs := dvG_sum (lead := lead) (g := g) hp.pos (f.length - g.length + 1) (co f) (hf.co hp.pos) m
    have ho := dvG_stay (p := p) (lead := lead) hg0 (f.length - g.length + 1) (co f)
    simp only
    generalize hn : f.length - g.length + 1 = n at *
    generalize dvG p g lead n (co f) = qr at *
    have e1 : cv (fl n qr.1) g m = sg n (fun j => tq qr.1 g j m) := by
      rw [cv, fl_len]
      exact sg_congr _ fun i hi => by simp only [tm, tq]; rw [fl_co _ hi]
    have e2 : co (trimL (fl f.length qr.2)) m = qr.2 m := by
      rw [trim_co]
      by_cases h1 : m < f.length
      · exact fl_co _ h1
      · rw [co_out (by rw [fl_len]; omega), ho m (by omega), co_out (by omega)]
    rw [e1, e2, Nat.add_mod, Nat.mod_mod, ← Nat.add_mod]
    exact hs
end
/-- Two divisions by the same polynomial are the same one. -/
theorem div_one {p : Nat} (hp : Pri p) {g q r q' r' : List Nat} (hg : IsP p g) (hg0 : 0 < g.length) (hq : IsP p q) (hr : IsP p r) (hq' : IsP p q') (hr' : IsP p r') (hlr : r.length < g.length) (hlr' : r'.length < g.length)
    (h : addL p (mulL p q g) r = addL p (mulL p q' g) r') : q = q' ∧ r = r' := by
  have hc : ∀ m, (cv q g m + co r m) % p = (cv q' g m + co r' m) % p := by
    intro m
    have := congrArg (fun f => co f m) h
    simp only [add_co, mul_co] at this
    rw [Nat.mod_add_mod, Nat.mod_add_mod] at this
    exact this
  have hgt := hg.2.resolve_left (fun e => by subst e; simp at hg0)
  -- from the top down the coefficients of the quotients agree
  have key : ∀ (d i : Nat), max q.length q'.length ≤ i + d → co q i = co q' i := by
    intro d
    induction d with
    | zero => intro i hi; rw [co_out (show q.length ≤ i by omega), co_out (show q'.length ≤ i by omega)]
    | succ d ih =>
      intro i hi
      have hm := hc (i + (g.length - 1))
      rw [co_out (show r.length ≤ i + (g.length - 1) by omega), co_out (show r'.length ≤ i + (g.length - 1) by omega), Nat.add_zero, Nat.add_zero] at hm
      -- the sum from i on
      have e : ∀ (a : List Nat), cv a g (i + (g.length - 1)) = sg (g.length - 1) (fun b => co a (i + 1 + b) * co g (g.length - 1 - (b + 1))) + co a i * co g (g.length - 1) := by
        intro a
        rw [cv_range]
        have shift : ∀ (i n : Nat) (F : Nat → Nat), (∀ m, m < i → F m = 0) → sg (i + n) F = sg n fun b => F (i + b) := by
          intro i n F h
          induction n with
          | zero => rw [Nat.add_zero, sg]; exact sg_zero _ h
          | succ n ih => rw [← Nat.add_assoc, sg, ih, sg]
        rw [Nat.add_assoc, shift i (g.length - 1 + 1) _ (fun m hm => by rw [co_out (show g.length ≤ i + (g.length - 1) - m by omega), Nat.mul_zero]), sg_front, Nat.add_comm]
        congr 1
        · exact sg_congr _ fun b hb => by rw [show i + (b + 1) = i + 1 + b by omega, show i + (g.length - 1) - (i + 1 + b) = g.length - 1 - (b + 1) by omega]
        · rw [Nat.add_zero, Nat.add_sub_cancel_left]
      rw [e, e, sg_congr (f' := fun b => co q' (i + 1 + b) * co g (g.length - 1 - (b + 1))) _ (fun b _ => by rw [ih (i + 1 + b) (by omega)])] at hm
      generalize sg (g.length - 1) (fun b => co q' (i + 1 + b) * co g (g.length - 1 - (b + 1))) = A at hm
      -- a factor that is not 0 mod p is taken away
      have cancel : ∀ x y : Nat, x < p → y < p → x ≤ y → (A + x * co g (g.length - 1)) % p = (A + y * co g (g.length - 1)) % p → x = y := by
        intro x y hx hy hxy he
        have h1 : (y - x) * co g (g.length - 1) % p = 0 := by
          have h2 : y * co g (g.length - 1) = x * co g (g.length - 1) + (y - x) * co g (g.length - 1) := by rw [← Nat.add_mul]; congr 1; omega
          rw [h2, ← Nat.add_assoc] at he
          generalize (y - x) * co g (g.length - 1) = z at *
          generalize A + x * co g (g.length - 1) = B at *
          have h3 := Nat.sub_mod_eq_zero_of_mod_eq he.symm
          rwa [Nat.add_sub_cancel_left] at h3
        rcases pri_mul hp h1 with h3 | h3
        · rw [Nat.mod_eq_of_lt (by omega)] at h3; omega
        · rw [Nat.mod_eq_of_lt (hg.co hp.pos _)] at h3; exact absurd h3 hgt
      rcases Nat.le_total (co q i) (co q' i) with hle | hle
      · exact cancel _ _ (hq.co hp.pos _) (hq'.co hp.pos _) hle hm
      · exact (cancel _ _ (hq'.co hp.pos _) (hq.co hp.pos _) hle hm.symm).symm
  have hqq : q = q' := isP_ext hq hq' fun i => key _ i (Nat.le_add_left (max q.length q'.length) i)
  refine ⟨hqq, isP_ext hr hr' fun m => ?_⟩
  subst hqq
  have hm := hc m
  have h1 := hr.co hp.pos m
  have h2 := hr'.co hp.pos m
  have cancel2 : ∀ x y : Nat, x < p → y < p → x ≤ y → (cv q g m + x) % p = (cv q g m + y) % p → x = y := by
    intro x y hx hy hxy he
    have h3 : (cv q g m + y) = (cv q g m + x) + (y - x) := by omega
    rw [h3] at he
    have h4 := Nat.sub_mod_eq_zero_of_mod_eq he.symm
    rw [Nat.add_sub_cancel_left, Nat.mod_eq_of_lt (by omega)] at h4
    omega
  rcases Nat.le_total (co r m) (co r' m) with hle | hle
  · exact cancel2 _ _ h1 h2 hle hm
  · exact (cancel2 _ _ h2 h1 hle hm.symm).symm
end Go.Poly
