/- The laws of the ring of polynomials mod p, and values. -/
import Derived.Test.YtagfpnnplgkkoaaQb
namespace Go.Poly

theorem sg_front (f : Nat → Nat) : ∀ n, sg (n + 1) f = f 0 + sg n fun i => f (i + 1)
  | 0 => by simp [sg]
  | n + 1 => by rw [sg, sg_front f n, sg]; omega
theorem sg_add (f f' : Nat → Nat) : ∀ n, sg n (fun i => f i + f' i) = sg n f + sg n f'
  | 0 => rfl
  | n + 1 => by rw [sg, sg_add f f' n, sg, sg]; omega
theorem sg_mul (a : Nat) (f : Nat → Nat) : ∀ n, sg n (fun i => a * f i) = a * sg n f
  | 0 => rfl
  | n + 1 => by rw [sg, sg_mul a f n, sg, Nat.mul_add]
theorem sg_mulr (a : Nat) (f : Nat → Nat) (n : Nat) : sg n (fun i => f i * a) = sg n f * a := by
  rw [Nat.mul_comm, ← sg_mul]
  exact sg_congr n fun i _ => Nat.mul_comm _ _
theorem sg_mod {p : Nat} {f f' : Nat → Nat} : ∀ n, (∀ i, i < n → f i % p = f' i % p) → sg n f % p = sg n f' % p
  | 0, _ => rfl
  | n + 1, h => by rw [sg, sg, Nat.add_mod, sg_mod n fun i hi => h i (by omega), h n (by omega), ← Nat.add_mod]
theorem sg_more {f : Nat → Nat} {n : Nat} : ∀ k, (∀ i, n ≤ i → i < n + k → f i = 0) → sg (n + k) f = sg n f
  | 0, _ => rfl
  | k + 1, h => by rw [← Nat.add_assoc, sg, sg_more k fun i h1 h2 => h i h1 (by omega), h (n + k) (by omega) (by omega), Nat.add_zero]
theorem sg_rev (F : Nat → Nat → Nat) : ∀ m, sg (m + 1) (fun i => F i (m - i)) = sg (m + 1) fun i => F (m - i) i
  | 0 => by simp [sg]
  | m + 1 => by
    have hl : sg (m + 1 + 1) (fun i => F i (m + 1 - i)) = F 0 (m + 1 - 0) + sg (m + 1) (fun i => F (i + 1) (m + 1 - (i + 1))) := sg_front _ _
    have hr : sg (m + 1 + 1) (fun i => F (m + 1 - i) i) = sg (m + 1) (fun i => F (m + 1 - i) i) + F (m + 1 - (m + 1)) (m + 1) := rfl
    have ih := sg_rev (fun a b => F (a + 1) b) m
    have e1 : sg (m + 1) (fun i => F (i + 1) (m + 1 - (i + 1))) = sg (m + 1) fun i => F (i + 1) (m - i) := sg_congr _ fun i _ => by rw [Nat.add_sub_add_right]
    have e2 : sg (m + 1) (fun i => F (m + 1 - i) i) = sg (m + 1) fun i => F (m - i + 1) i := sg_congr _ fun i hi => by rw [show m + 1 - i = m - i + 1 by omega]
    rw [hl, hr, e1, e2, ih, Nat.sub_zero, Nat.sub_self]
    omega
/-- Sums over three parts of m, in two orders. -/
theorem sg_tri (F : Nat → Nat → Nat → Nat) (m : Nat) : sg (m + 1) (fun i => sg (i + 1) fun j => F j (i - j) (m - i)) = sg (m + 1) fun j => sg (m - j + 1) fun l => F j l (m - j - l) := by
  induction m generalizing F with
  | zero => simp [sg]
  | succ m ih =>
    have hR : sg (m + 1 + 1) (fun j => sg (m + 1 - j + 1) fun l => F j l (m + 1 - j - l)) = sg (m + 1 + 1) (fun l => F 0 l (m + 1 - l)) + sg (m + 1) fun j => sg (m - j + 1) fun l => F (j + 1) l (m - j - l) := by
      rw [sg_front]
      simp only [Nat.sub_zero, Nat.add_sub_add_right]
    have hL : sg (m + 1 + 1) (fun i => sg (i + 1) fun j => F j (i - j) (m + 1 - i)) = sg (m + 1 + 1) (fun l => F 0 l (m + 1 - l)) + sg (m + 1) fun i => sg (i + 1) fun j => F (j + 1) (i - j) (m - i) := by
      have e1 : sg (m + 1 + 1) (fun i => sg (i + 1) fun j => F j (i - j) (m + 1 - i)) = sg (m + 1 + 1) fun i => F 0 i (m + 1 - i) + sg i fun j => F (j + 1) (i - (j + 1)) (m + 1 - i) :=
        sg_congr _ fun i _ => by rw [sg_front]; rfl
      rw [e1, sg_add, sg_front (fun i => sg i fun j => F (j + 1) (i - (j + 1)) (m + 1 - i))]
      simp only [sg, Nat.zero_add, Nat.add_sub_add_right]
    rw [hL, hR, ih]
theorem cv_range (f g : List Nat) (m : Nat) : cv f g m = sg (m + 1) fun i => co f i * co g (m - i) := by
  have h1 : cv f g m = sg (f.length + (m + 1)) fun i => tm f g i m := by
    rw [cv, sg_more]
    intro i h1 _
    rw [tm]; split
    · rw [co_out h1, Nat.zero_mul]
    · rfl
  rw [h1, Nat.add_comm, sg_more]
  · exact sg_congr _ fun i hi => by rw [tm, if_pos (by omega)]
  · intro i h2 _
    rw [tm, if_neg (by omega)]
theorem cv_comm (f g : List Nat) (m : Nat) : cv f g m = cv g f m := by
  rw [cv_range, cv_range, sg_rev fun a b => co f a * co g b]
  exact sg_congr _ fun i _ => Nat.mul_comm _ _
section
variable {p : Nat} (hp : Pri p) {f g h : List Nat}
include hp
theorem Pri.pos : 0 < p := by have := hp.1; omega
theorem mulL_comm (hf : IsP p f) (hg : IsP p g) : mulL p f g = mulL p g f :=
  isP_ext (mul_isP hp hf hg) (mul_isP hp hg hf) fun i => by rw [mul_co, mul_co, cv_comm]
theorem addL_comm (f g : List Nat) : addL p f g = addL p g f :=
  isP_ext (add_isP hp.pos _ _) (add_isP hp.pos _ _) fun i => by rw [add_co, add_co, Nat.add_comm]
theorem mulL_assoc (hf : IsP p f) (hg : IsP p g) (hh : IsP p h) : mulL p (mulL p f g) h = mulL p f (mulL p g h) := by
  refine isP_ext (mul_isP hp (mul_isP hp hf hg) hh) (mul_isP hp hf (mul_isP hp hg hh)) fun m => ?_
  rw [mul_co, mul_co, cv_range, cv_range]
  have e1 : sg (m + 1) (fun i => co (mulL p f g) i * co h (m - i)) % p = sg (m + 1) (fun i => sg (i + 1) fun j => co f j * co g (i - j) * co h (m - i)) % p := by
    refine sg_mod _ fun i _ => ?_
    rw [mul_co, Nat.mod_mul_mod, cv_range, sg_mulr]
  have e2 : sg (m + 1) (fun i => co f i * co (mulL p g h) (m - i)) % p = sg (m + 1) (fun j => sg (m - j + 1) fun l => co f j * co g l * co h (m - j - l)) % p := by
    refine sg_mod _ fun i _ => ?_
    rw [mul_co, Nat.mul_mod_mod, cv_range, ← sg_mul]
    congr 1
    exact sg_congr _ fun l _ => (Nat.mul_assoc _ _ _).symm
  rw [e1, e2, sg_tri fun a b c => co f a * co g b * co h c]
theorem mulL_addL (f g : List Nat) (hh : IsP p h) : mulL p (addL p f g) h = addL p (mulL p f h) (mulL p g h) := by
  refine isP_ext (mul_isP hp (add_isP hp.pos _ _) hh) (add_isP hp.pos _ _) fun m => ?_
  rw [mul_co, add_co, mul_co, mul_co, cv_range, cv_range, cv_range, ← Nat.add_mod, ← sg_add]
  refine sg_mod _ fun i _ => ?_
  rw [add_co, Nat.mod_mul_mod, Nat.add_mul]
end
/-- The value at x, as it is reckoned: from the last coefficient on. -/
def valN (p : Nat) (f : List Nat) (x : Nat) : Nat → Nat
  | 0 => 0
  | n + 1 => (valN p f x n * x + co f (f.length - (n + 1))) % p
def valL (p : Nat) (f : List Nat) (x : Nat) : Nat := valN p f x f.length
/-- The value as a sum of powers. -/
def pv (f : List Nat) (x n : Nat) : Nat := sg n fun i => co f i * x ^ i
theorem valN_sum (p : Nat) (f : List Nat) (x : Nat) : ∀ n, n ≤ f.length → valN p f x n % p = (sg n fun i => co f (f.length - n + i) * x ^ i) % p
  | 0, _ => rfl
  | n + 1, h => by
    have ih := valN_sum p f x n (by omega)
    rw [valN, Nat.mod_mod, sg_front, Nat.pow_zero, Nat.mul_one]
    simp only [Nat.add_zero]
    have e1 : (sg n fun i => co f (f.length - (n + 1) + (i + 1)) * x ^ (i + 1)) = (sg n fun i => co f (f.length - n + i) * x ^ i) * x := by
      rw [← sg_mulr]
      refine sg_congr _ fun i _ => ?_
      rw [Nat.pow_succ, ← Nat.mul_assoc, show f.length - (n + 1) + (i + 1) = f.length - n + i by omega]
    rw [e1, Nat.add_comm, Nat.add_mod, Nat.mul_mod, ih, ← Nat.mul_mod, ← Nat.add_mod]
theorem valN_lt {p : Nat} (hp : 0 < p) (f : List Nat) (x : Nat) : ∀ n, valN p f x n < p
  | 0 => hp
  | _ + 1 => Nat.mod_lt _ hp
theorem pv_more (f : List Nat) (x : Nat) {n : Nat} (h : f.length ≤ n) : pv f x n = pv f x f.length := by
  obtain ⟨k, rfl⟩ : ∃ k, n = f.length + k := ⟨n - f.length, by omega⟩
  exact sg_more k fun i h1 _ => by rw [co_out h1, Nat.zero_mul]
theorem valL_sum {p : Nat} (hp : 0 < p) (f : List Nat) (x : Nat) {n : Nat} (h : f.length ≤ n) : valL p f x = pv f x n % p := by
  have h1 := valN_sum p f x f.length (Nat.le_refl _)
  rw [Nat.mod_eq_of_lt (valN_lt hp f x f.length)] at h1
  rw [valL, h1, pv_more f x h]
  simp only [pv, Nat.sub_self, Nat.zero_add]
section
variable {p : Nat} (hp : 0 < p) (f g : List Nat) (x : Nat)
include hp
theorem val_add : valL p (addL p f g) x = (valL p f x + valL p g x) % p := by
  have hl : (addL p f g).length ≤ max f.length g.length := by
    rw [addL, trim_len]; exact Nat.le_trans (tn_le _ _) (by rw [fl_len]; exact Nat.le_refl _)
  rw [valL_sum hp _ x hl, valL_sum hp f x (Nat.le_max_left _ g.length), valL_sum hp g x (Nat.le_max_right f.length _), ← Nat.add_mod, pv, pv, pv, ← sg_add]
  refine sg_mod _ fun i _ => ?_
  rw [add_co, Nat.mod_mul_mod, Nat.add_mul]
theorem val_mul : valL p (mulL p f g) x = valL p f x * valL p g x % p := by
  have hl : (mulL p f g).length ≤ f.length + g.length := by
    unfold mulL; split
    · exact Nat.zero_le _
    · rw [fl_len]; omega
  rw [valL_sum hp _ x hl, valL_sum hp f x (Nat.le_refl _), valL_sum hp g x (Nat.le_refl _), ← Nat.mul_mod]
  have e1 : pv (mulL p f g) x (f.length + g.length) % p = sg (f.length + g.length) (fun m => cv f g m * x ^ m) % p :=
    sg_mod _ fun i _ => by rw [mul_co, Nat.mod_mul_mod]
  rw [e1]
  congr 1
  -- the sum over m of the sums over i is that over i of those over m
  have swap : ∀ (n k : Nat) (F : Nat → Nat → Nat), sg n (fun a => sg k fun b => F a b) = sg k fun b => sg n fun a => F a b := by
    intro n k F
    induction n with
    | zero => simp only [sg]; exact (sg_zero k fun _ _ => rfl).symm
    | succ n ih => simp only [sg]; rw [ih, ← sg_add]
  have e2 : sg (f.length + g.length) (fun m => cv f g m * x ^ m) = sg f.length fun i => sg (f.length + g.length) fun m => tm f g i m * x ^ m := by
    rw [← swap]
    exact sg_congr _ fun m _ => by rw [cv, sg_mulr]
  rw [e2, pv, ← sg_mulr]
  refine sg_congr _ fun i hi => ?_
  -- only the terms from i on count
  have shift : ∀ (i n : Nat) (F : Nat → Nat), (∀ m, m < i → F m = 0) → sg (i + n) F = sg n fun b => F (i + b) := by
    intro i n F h
    induction n with
    | zero => rw [Nat.add_zero, sg]; exact sg_zero _ h
    | succ n ih => rw [← Nat.add_assoc, sg, ih, sg]
  obtain ⟨d, hd⟩ : ∃ d, f.length = i + d := ⟨f.length - i, by omega⟩
  have e3 : f.length + g.length = i + (g.length + d) := by omega
  rw [e3, shift i _ _ (fun m hm => by rw [tm, if_neg (by omega), Nat.zero_mul]), sg_more d, pv, ← sg_mul]
  · refine sg_congr _ fun b _ => ?_
    rw [tm, if_pos (by omega), Nat.add_sub_cancel_left, Nat.pow_add]
    simp only [Nat.mul_assoc, Nat.mul_left_comm]
  · intro b h1 _
    rw [tm, if_pos (by omega), Nat.add_sub_cancel_left, co_out h1, Nat.mul_zero, Nat.zero_mul]
end
end Go.Poly
