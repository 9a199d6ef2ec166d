/- The reference's loops over all vertices; valid orders. -/
import Derived.Test.YtdnkkflpgebfbaaDoorBo
import Derived.Test.YtdnkkflpgebfbaaDoorOd
namespace Go.Tree
open Go.W

def elsTo (c v : Nat) : List Nat := (List.range v).filter fun i => c.testBit i
theorem elsTo_succ (c v : Nat) : elsTo c (v + 1) = elsTo c v ++ (if c.testBit v then [v] else []) := by
  simp only [elsTo, List.range_succ, List.filter_append, List.filter_cons, List.filter_nil]
theorem elsTo_all {c n : Nat} (hn : n ≤ 16) (hc : c < 2 ^ n) : elsTo c n = els c := by
  have e : List.range 16 = List.range n ++ List.range' n (16 - n) := by
    have h := List.range'_append_1 (s := 0) (m := n) (n := 16 - n)
    rw [Nat.zero_add, Nat.add_sub_cancel' hn] at h
    rw [List.range_eq_range', List.range_eq_range', h]
  unfold elsTo els
  rw [e, List.filter_append]
  have : (List.range' n (16 - n)).filter (fun i => c.testBit i) = [] := by
    rw [List.filter_eq_nil_iff]
    intro i hi
    rw [List.mem_range'_1] at hi
    rw [testBit_lt hc hi.1]; simp
  rw [this, List.append_nil]
def vl (n : Nat) : List Int → Nat → Bool
  | [], _ => true
  | v :: r, S => if v < 0 ∨ (n : Int) ≤ v ∨ S.testBit v.toNat = true then false else vl n r (S ||| 2 ^ v.toNat)
theorem ordL_some {g : List Nat} : ∀ (o : List Int) (S : Nat) (k : Int), (ordL g o S k).isSome = vl g.length o S := by
  intro o
  induction o with
  | nil => intro S k; rfl
  | cons v r ih =>
    intro S k
    simp only [ordL, vl]
    split
    · rfl
    · exact ih _ _
end Go.Tree
