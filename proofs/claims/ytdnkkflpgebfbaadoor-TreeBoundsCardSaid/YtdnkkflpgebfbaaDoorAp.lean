/- Independent sets and cliques, as the program counts and compares them. -/
import Derived.Test.YtdnkkflpgebfbaaDoorFr
namespace Go.Tree
open Go.W

def nb (g : List Nat) (u v : Nat) : Bool := (g.getD u 0).testBit v
def apStep (p : Nat → Nat → Bool) (s : Nat × Nat) (S : Nat) : Nat × Nat := if fr p S then (s.1 + 1, max s.2 (pc S)) else s
def apR (p : Nat → Nat → Bool) (k : Nat) : Nat × Nat := (List.range k).foldl (apStep p) (0, 0)
theorem apR_succ (p : Nat → Nat → Bool) (k : Nat) : apR p (k + 1) = apStep p (apR p k) k := by
  simp [apR, List.range_succ]
theorem apR_le (p : Nat → Nat → Bool) (k : Nat) : (apR p k).1 ≤ k := by
  induction k with
  | zero => simp [apR]
  | succ k ih =>
    rw [apR_succ, apStep]
    split
    · show (apR p k).1 + 1 ≤ k + 1; omega
    · omega
def cmpL : List Nat → List Nat → Int
  | [], [] => 0
  | [], _ :: _ => -1
  | _ :: _, [] => 1
  | a :: xs, b :: ys => if a < b then -1 else if b < a then 1 else cmpL xs ys
def clStep (p : Nat → Nat → Bool) (best : List Nat) (S : Nat) : List Nat :=
  if fr p S then (if best.length < (els S).length ∨ (els S).length = best.length ∧ cmpL (els S) best < 0 then els S else best) else best
def clR (p : Nat → Nat → Bool) (k : Nat) : List Nat := (List.range k).foldl (clStep p) []
theorem clR_succ (p : Nat → Nat → Bool) (k : Nat) : clR p (k + 1) = clStep p (clR p k) k := by
  simp [clR, List.range_succ]
end Go.Tree
