/- Sets of whose pairs something is true. -/
import Derived.Test.YtdnkkflpgebfbaaDoorWd
namespace Go.Tree
open Go.W

def pw (p : Nat → Nat → Bool) : List Nat → Bool
  | [] => true
  | a :: l => pw p l && l.all (p a)
def fr (p : Nat → Nat → Bool) (S : Nat) : Bool := pw p (els S)
theorem fr_zero (p : Nat → Nat → Bool) : fr p 0 = true := by simp [fr, els_zero, pw]
theorem fr_step (p : Nat → Nat → Bool) {S : Nat} (h0 : S ≠ 0) (h : S < 65536) : fr p S = (fr p (S &&& (S - 1)) && (els (S &&& (S - 1))).all (p (tz S))) := by
  simp [fr, els_step h0 h, pw]
theorem and_pred_lt' {s : Nat} (h0 : s ≠ 0) : s &&& (s - 1) < s := by
  have : s &&& (s - 1) ≤ s - 1 := Nat.and_le_right
  omega
def bls (xs : List Bool) : List Value := xs.map Value.bool
theorem bls_len (xs : List Bool) : (bls xs).length = xs.length := by simp [bls]
theorem bls_set (xs : List Bool) (i : Nat) (x : Bool) : (bls xs).toArray.setIfInBounds i (.bool x) = (bls (xs.set i x)).toArray := by
  rw [← Array.toList_inj]; simp [bls, List.map_set]
/-- The array where the sets below k are done. -/
def frRow (p : Nat → Nat → Bool) (n k : Nat) : List Bool := (List.range (2 ^ n)).map fun S => if S < k then fr p S else false
theorem frRow_len (p : Nat → Nat → Bool) (n k : Nat) : (frRow p n k).length = 2 ^ n := by simp [frRow]
theorem frRow_zero (p : Nat → Nat → Bool) (n : Nat) : List.replicate (2 ^ n) false = frRow p n 0 := by
  apply List.ext_getElem?
  intro i
  by_cases h : i < 2 ^ n
  · simp [frRow, h]
  · rw [List.getElem?_eq_none (by simp; omega), List.getElem?_eq_none (by simp [frRow]; omega)]
theorem frRow_at {p : Nat → Nat → Bool} {n k S : Nat} (hS : S < 2 ^ n) (hk : S < k) : (bls (frRow p n k))[S]? = some (.bool (fr p S)) := by
  simp [bls, frRow, hS, hk]
theorem frRow_next {p : Nat → Nat → Bool} {n k : Nat} (hk : k < 2 ^ n) : (frRow p n k).set k (fr p k) = frRow p n (k + 1) := by
  apply List.ext_getElem?
  intro i
  by_cases h : i < 2 ^ n
  · by_cases h1 : i = k
    · subst h1
      rw [List.getElem?_set_self (by rw [frRow_len]; exact h)]
      simp [frRow, h]
    · rw [List.getElem?_set_ne (Ne.symm h1)]
      simp only [frRow, List.getElem?_map, List.getElem?_range h, Option.map_some, Option.some.injEq]
      by_cases h2 : i < k
      · rw [if_pos h2, if_pos (by omega)]
      · rw [if_neg h2, if_neg (by omega)]
  · rw [List.getElem?_eq_none (by simp [frRow]; omega), List.getElem?_eq_none (by simp [frRow]; omega)]
end Go.Tree
