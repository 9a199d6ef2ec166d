/- Small fields: the count and the first irreducible polynomial, by reckoning over all monic polynomials of the degree. -/
import Derived.Test.YtlpcocjkffbpeaaR30
namespace Go.Poly
open Go.W Go.Tree
def polD (p n k : Nat) : List Nat := fl (n + 1) fun j => if j = n then 1 else k / p ^ j % p
def chkA (p n : Nat) (F : List Nat) : Nat → Nat → Nat → Option Nat
  | 0, _, c => some c
  | f + 1, k, c => if irrL p (polD p n k) then (if c = 0 ∧ polD p n k ≠ F then none else chkA p n F f (k + 1) (c + 1)) else chkA p n F f (k + 1) c
def allOk (p n : Nat) : Bool := if p ^ n ≤ 130 then
    match firstO p n (p ^ n + 1) (x0 n) with
    | none => false
    | some F => match chkA p n F (p ^ n) 0 0 with
      | none => false
      | some c => decide (cntO p (n + 1) n = some ((c : Int), 0))
  else true
theorem small_2 : (allOk 2 1 && allOk 2 2 && allOk 2 3 && allOk 2 4 && allOk 2 5 && allOk 2 6) = true := by decide +kernel
theorem small_3 : (allOk 3 1 && allOk 3 2 && allOk 3 3 && allOk 3 4) = true := by decide +kernel
theorem small_5 : (allOk 5 1 && allOk 5 2 && allOk 5 3) = true := by decide +kernel
theorem small_7 : (allOk 7 1 && allOk 7 2) = true := by decide +kernel
theorem small_no : (allOk 3 5 && allOk 3 6 && allOk 5 4 && allOk 5 5 && allOk 5 6 && allOk 7 3 && allOk 7 4 && allOk 7 5 && allOk 7 6) = true := by decide +kernel
theorem small_ok {p n : Nat} (hp : p = 2 ∨ p = 3 ∨ p = 5 ∨ p = 7) (h1 : 1 ≤ n) (h6 : n ≤ 6) : allOk p n = true := by
  have s2 := small_2
  have s3 := small_3
  have s5 := small_5
  have s7 := small_7
  have sn := small_no
  simp only [Bool.and_eq_true] at s2 s3 s5 s7 sn
  have hn : n = 1 ∨ n = 2 ∨ n = 3 ∨ n = 4 ∨ n = 5 ∨ n = 6 := by omega
  rcases hp with rfl | rfl | rfl | rfl <;> rcases hn with rfl | rfl | rfl | rfl | rfl | rfl <;> simp only [s2, s3, s5, s7, sn]
theorem small_say {p n : Nat} (hp : p = 2 ∨ p = 3 ∨ p = 5 ∨ p = 7) (h1 : 1 ≤ n) (h6 : n ≤ 6) (hs : p ^ n ≤ 130) :
    ∃ F c, firstO p n (p ^ n + 1) (x0 n) = some F ∧ chkA p n F (p ^ n) 0 0 = some c ∧ cntO p (n + 1) n = some ((c : Int), 0) := by
  have h := small_ok hp h1 h6
  unfold allOk at h
  rw [if_pos hs] at h
  cases hF : firstO p n (p ^ n + 1) (x0 n) with
  | none => rw [hF] at h; cases h
  | some F =>
    rw [hF] at h
    simp only at h
    cases hc : chkA p n F (p ^ n) 0 0 with
    | none => rw [hc] at h; cases h
    | some c =>
      rw [hc] at h
      exact ⟨F, c, rfl, hc, of_decide_eq_true h⟩
theorem polD_isP {p : Nat} (hp : 2 ≤ p) (n k : Nat) : IsP p (polD p n k) := by
  refine ⟨fl_lt fun j hj => ?_, .inr ?_⟩
  · split
    · omega
    · exact Nat.mod_lt _ (by omega)
  · unfold polD
    rw [fl_len, Nat.add_sub_cancel, fl_co _ (by omega), if_pos rfl]
    omega
theorem polD_len (p n k : Nat) : (polD p n k).length = n + 1 := fl_len _ _
end Go.Poly
