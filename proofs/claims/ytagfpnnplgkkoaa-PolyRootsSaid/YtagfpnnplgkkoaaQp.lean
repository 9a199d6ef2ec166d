/- The kernel of a product of different linear factors is all. -/
import Derived.Test.YtagfpnnplgkkoaaQo
set_option linter.unusedSectionVars false
set_option maxRecDepth 100000
namespace Go.Poly
open Go.W Go.Tree
def allQ (f : Nat → Bool) : Nat → Bool
  | 0 => true
  | k + 1 => f k && allQ f k
theorem allQ_all {f : Nat → Bool} : ∀ {k : Nat}, allQ f k = true → ∀ i, i < k → f i = true
  | k + 1, h, i, hi => by
    simp only [allQ, Bool.and_eq_true] at h
    by_cases e : i = k
    · subst e; exact h.1
    · exact allQ_all h.2 i (by omega)
def smallDv (p : Nat) : Bool := !allQ (fun d => !(decide (2 ≤ d) && decide (d < p) && decide (p % d = 0))) 32
theorem fermat_dec : allQ (fun p => smallDv p || allQ (fun x => decide (x ^ p % p = x)) p) 1022 = true := by decide +kernel
theorem fermat {p : Nat} (hp : Pri p) (h : p ≤ 1021) {x : Nat} (hx : x < p) : x ^ p % p = x := by
  have h1 := allQ_all fermat_dec p (by omega)
  rw [Bool.or_eq_true] at h1
  rcases h1 with h1 | h1
  · exfalso
    unfold smallDv at h1
    have h2 : allQ (fun d => !(decide (2 ≤ d) && decide (d < p) && decide (p % d = 0))) 32 = true := by
      have : ∀ k, allQ (fun d => !(decide (2 ≤ d) && decide (d < p) && decide (p % d = 0))) k = true := by
        intro k
        induction k with
        | zero => rfl
        | succ k ih =>
          simp only [allQ, ih, Bool.and_true, Bool.not_eq_true', Bool.and_eq_false_iff, decide_eq_false_iff_not]
          by_cases h3 : p % k = 0
          · rcases hp.2 k (Nat.dvd_of_mod_eq_zero h3) with rfl | rfl
            · exact .inl (.inl (by omega))
            · exact .inl (.inr (by omega))
          · exact .inr h3
      exact this 32
    rw [h2] at h1; cases h1
  · exact of_decide_eq_true (allQ_all h1 x hx)
section
variable {p : Nat} (hp : Pri p)
include hp
theorem val_rem {a m : List Nat} (ha : IsP p a) (hm : IsP p m) (hm0 : 0 < m.length) {x : Nat} (hx : valL p m x = 0) : valL p (remL p a m) x = valL p a x := by
  have h := quo_rem hp ha hm hm0
  have h2 : valL p a x = (valL p (mulL p (quoL p a m) m) x + valL p (remL p a m) x) % p := by rw [← val_add hp.pos, h]
  rw [val_mul hp.pos, hx, Nat.mul_zero, Nat.zero_mod, Nat.zero_add, Nat.mod_eq_of_lt (valL_lt' hp.pos _ _)] at h2
  exact h2.symm
theorem powN_ok {m : List Nat} (hm : IsP p m) (hm1 : 1 < m.length) : ∀ (k e : Nat) (out f : List Nat), IsP p out → out.length < m.length → IsP p f → e < 2 ^ k →
    IsP p (powN p m k out f e) ∧ (powN p m k out f e).length < m.length ∧ ∀ x, valL p m x = 0 → valL p (powN p m k out f e) x = valL p out x * valL p f x ^ e % p
  | 0, e, out, f, ho, hl, hf, he => by
    have : e = 0 := by simpa using he
    subst this
    refine ⟨ho, hl, fun x _ => ?_⟩
    rw [powN, Nat.pow_zero, Nat.mul_one, Nat.mod_eq_of_lt (valL_lt' hp.pos _ _)]
  | k + 1, e, out, f, ho, hl, hf, he => by
    have hm0 : 0 < m.length := by omega
    rw [powN]
    by_cases h0 : e = 0
    · rw [if_pos h0]
      subst h0
      refine ⟨ho, hl, fun x _ => ?_⟩
      rw [Nat.pow_zero, Nat.mul_one, Nat.mod_eq_of_lt (valL_lt' hp.pos _ _)]
    rw [if_neg h0]
    have hof := mul_isP hp ho hf
    have hff := mul_isP hp hf hf
    have he2 : e / 2 < 2 ^ k := by rw [Nat.pow_succ] at he; omega
    have hout : IsP p (if e % 2 = 1 then remL p (mulL p out f) m else out) ∧ (if e % 2 = 1 then remL p (mulL p out f) m else out).length < m.length := by
      split
      · exact ⟨rem_isP hp hof hm hm0, rem_lt hp hof hm hm0⟩
      · exact ⟨ho, hl⟩
    obtain ⟨i1, i2, i3⟩ := powN_ok hm hm1 k (e / 2) _ _ hout.1 hout.2 (rem_isP hp hff hm hm0) he2
    refine ⟨i1, i2, fun x hx => ?_⟩
    rw [i3 x hx, val_rem hp hff hm hm0 hx, val_mul hp.pos]
    have hpw : (valL p f x * valL p f x % p) ^ (e / 2) % p = valL p f x ^ (2 * (e / 2)) % p := by
      rw [Nat.pow_mod, Nat.mod_mod, ← Nat.pow_mod, Nat.pow_mul, Nat.pow_two]
    split
    · rename_i h1
      rw [val_rem hp hof hm hm0 hx, val_mul hp.pos, Nat.mul_mod, Nat.mod_mod, hpw, ← Nat.mul_mod, Nat.mul_assoc, ← Nat.pow_succ', show (2 * (e / 2)).succ = e by omega]
    · rw [Nat.mul_mod, hpw, ← Nat.mul_mod, show 2 * (e / 2) = e by omega]
def xi (i : Nat) : List Nat := fl (i + 1) fun k => if k = i then 1 else 0
theorem xi_isP (i : Nat) : IsP p (xi i) := by
  have := hp.1
  refine ⟨fl_lt fun k _ => by split <;> omega, .inr ?_⟩
  unfold xi
  rw [fl_len, Nat.add_sub_cancel, fl_co _ (by omega), if_pos rfl]; omega
theorem xi_val (i x : Nat) : valL p (xi i) x = x ^ i % p := by
  have hl : (xi i).length = i + 1 := fl_len _ _
  rw [valL_sum hp.pos (xi i) x (n := i + 1) (by omega)]
  unfold pv
  rw [sg_last fun k hk => by unfold xi; rw [fl_co _ (by omega), if_neg (by omega), Nat.zero_mul]]
  unfold xi
  rw [fl_co _ (by omega), if_pos rfl, Nat.one_mul]
theorem at_eq {n : Nat} {X : Nat → Nat} {Z : List Nat} (h : Rts p n X Z) (hn : 0 < n) (hpl : p ≤ 1021) : ∀ i, i < n → atL p Z (xpL p Z) i = xi i := by
  have h0 := hp.pos
  have hlen := h.len
  have hZ0 : 0 < Z.length := by omega
  have hx1 : IsP p [0, 1] := ⟨(fun c hc => by have := hp.1; simp at hc; omega), .inr (by simp [co])⟩
  have hr := rem_isP hp hx1 h.z hZ0
  obtain ⟨x1, x2, x3⟩ := powN_ok hp h.z (by omega) p p [1] (remL p [0, 1] Z) (isP_one hp) (by simp; omega) hr Nat.lt_two_pow_self
  have hxp : ∀ j, j < n → valL p (xpL p Z) (X j) = X j := by
    intro j hj
    have hX := h.pts.1 j hj
    show valL p (powN p Z p [1] (remL p [0, 1] Z) p) (X j) = X j
    rw [x3 _ (h.v0 j hj), val_rem hp hx1 h.z hZ0 (h.v0 j hj), val_one hp, Nat.one_mul]
    have : valL p [0, 1] (X j) = X j := by
      rw [val_lin hp, Nat.add_zero, Nat.mod_eq_of_lt hX]
    rw [this, fermat hp hpl hX]
  have x1 : IsP p (xpL p Z) := x1
  generalize xpL p Z = xp at *
  have all : ∀ i, IsP p (atL p Z xp i) ∧ (atL p Z xp i).length < Z.length ∧ ∀ j, j < n → valL p (atL p Z xp i) (X j) = X j ^ i % p := by
    intro i
    induction i with
    | zero => exact ⟨isP_one hp, by simp [atL]; omega, fun j hj => by rw [atL, val_one hp, Nat.pow_zero, Nat.mod_eq_of_lt (by have := hp.1; omega)]⟩
    | succ i ih =>
      have hm := mul_isP hp ih.1 x1
      rw [atL]
      refine ⟨rem_isP hp hm h.z hZ0, rem_lt hp hm h.z hZ0, fun j hj => ?_⟩
      rw [val_rem hp hm h.z hZ0 (h.v0 j hj), val_mul h0, ih.2.2 j hj, hxp j hj, Nat.mod_mul_mod, Nat.pow_succ]
  intro i hi
  obtain ⟨a1, a2, a3⟩ := all i
  refine interp_one hp n a1 (xi_isP hp i) (by omega) (by unfold xi; rw [fl_len]; omega) h.pts.1 h.pts.2 fun j hj => ?_
  rw [a3 j hj, xi_val hp]
theorem mat_zero {n : Nat} {X : Nat → Nat} {Z : List Nat} (h : Rts p n X Z) (hn : 0 < n) (hpl : p ≤ 1021) {i : Nat} (hi : i < n) (j : Nat) :
    mat0 p n Z (xpL p Z) i j = if j = n + i then 1 else 0 := by
  have h2 := hp.1
  unfold mat0
  by_cases h1 : j = n + i
  · rw [if_pos h1, if_pos h1]
  · rw [if_neg h1, if_neg h1, at_eq hp h hn hpl i hi]
    by_cases h3 : j = i
    · rw [if_pos h3]
      unfold xi
      rw [fl_co _ (by omega), if_pos rfl, show 1 + (p - 1) = p by omega, Nat.mod_self]
    · rw [if_neg h3]
      unfold xi
      by_cases h4 : j < i + 1
      · rw [fl_co _ h4, if_neg h3]
      · rw [co_out (by rw [fl_len]; omega)]
end
theorem findK_none {M : Mat} {n c : Nat} (h : ∀ k, k < n → M k c = 0) : ∀ r k, n ≤ k + r → n ≤ findK M n c r k
  | 0, k, hk => by simpa [findK] using hk
  | r + 1, k, hk => by
    rw [findK]
    split
    · exact findK_none h r (k + 1) (by omega)
    · rename_i h1
      by_cases h2 : k < n
      · exact absurd ⟨h2, h k h2⟩ h1
      · omega
theorem elimG_none {p n : Nat} {M : Mat} (h : ∀ k c, k < n → c < n → M k c = 0) : ∀ c, c ≤ n → elimG p n c (0, M) = (0, M)
  | 0, _ => rfl
  | c + 1, hc => by
    rw [elimG, elimG_none h c (by omega), elim1, if_neg]
    have := findK_none (n := n) (fun k hk => h k c hk (by omega)) n 0 (by omega)
    simp only
    omega
theorem rts_kern {p n : Nat} (hp : Pri p) {X : Nat → Nat} {Z : List Nat} (h : Rts p n X Z) (hn : 0 < n) (hpl : p ≤ 1021) :
    kernL p Z = (List.range n).map fun i => trimL (fl n fun j => if j = i then 1 else 0) := by
  have hlen := h.len
  have hz : ∀ {i : Nat}, i < n → ∀ j, mat0 p n Z (xpL p Z) i j = if j = n + i then 1 else 0 := fun {i} hi j => mat_zero hp h hn hpl hi j
  unfold kernL
  rw [show Z.length - 1 = n by omega]
  unfold kernM
  rw [elimG_none (fun k c hk hc => by rw [hz hk, if_neg (by omega)]) n (Nat.le_refl _)]
  simp only [Nat.sub_zero, Nat.zero_add]
  refine List.map_congr_left fun i hi => ?_
  have hi := List.mem_range.1 hi
  congr 1
  refine fl_congr fun j hj => ?_
  rw [hz hi]
  by_cases h1 : j = i
  · rw [if_pos h1, if_pos (by omega)]
  · rw [if_neg h1, if_neg (by omega)]
end Go.Poly
