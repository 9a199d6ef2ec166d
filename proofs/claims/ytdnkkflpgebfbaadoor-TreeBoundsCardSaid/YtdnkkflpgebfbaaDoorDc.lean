/- The bags and links that the program makes out of an order. -/
import Derived.Test.YtdnkkflpgebfbaaDoorBo
import Derived.Test.YtdnkkflpgebfbaaDoorMk
namespace Go.Tree
open Go.W

def posA (ord : List Nat) (n k : Nat) : List Nat := (List.range k).foldl (fun a i => a.set (ord.getD i 0) i) (List.replicate n 0)
theorem posA_succ (ord : List Nat) (n k : Nat) : posA ord n (k + 1) = (posA ord n k).set (ord.getD k 0) k := by simp [posA, List.range_succ]
theorem posA_len (ord : List Nat) (n k : Nat) : (posA ord n k).length = n := by
  induction k with
  | zero => simp [posA]
  | succ k ih => rw [posA_succ, List.length_set, ih]
def nxt (ps : List Nat) (n i near : Nat) : Nat := if near = 0 then i + 1 else (els near).foldl (fun m u => min m (ps.getD u 0)) n
def dcB (g : List Nat) : List Nat → Nat → List (List Nat)
  | [], _ => []
  | v :: r, S => els (lat g S v ||| 2 ^ v) :: dcB g r (S ||| 2 ^ v)
def dcL (g ps : List Nat) : List Nat → Nat → Nat → List Ed
  | [], _, _ => []
  | v :: r, i, S => (if nxt ps g.length i (lat g S v) < g.length then [((i : Int), ((nxt ps g.length i (lat g S v) : Nat) : Int))] else []) ++ dcL g ps r (i + 1) (S ||| 2 ^ v)
/-- The bags and the links of a graph's decomposition. -/
def bagsOf (g : List Nat) : List (List Nat) := if g.length = 0 then [[]] else dcB g (bestO g) 0
def linksOf (g : List Nat) : List Ed := if g.length = 0 then [] else dcL g (posA (bestO g) g.length g.length) (bestO g) 0 0
theorem bestF_mem {g : List Nat} : ∀ (k S : Nat), ∀ v ∈ bestF g k S, v < g.length := by
  intro k
  induction k with
  | zero => intro S v hv; cases hv
  | succ k ih =>
    intro S v hv
    simp only [bestF] at hv
    cases hx : (List.range g.length).find? (fine g S) with
    | none => rw [hx] at hv; cases hv
    | some u =>
      rw [hx] at hv
      rcases List.mem_cons.1 hv with rfl | hv
      · have := List.mem_of_find?_eq_some hx; simpa using this
      · exact ih _ v hv
theorem bestO_lt {g : List Nat} {i : Nat} (h : i < (bestO g).length) : (bestO g).getD i 0 < g.length := by
  refine bestF_mem _ _ _ (?_ : (bestO g).getD i 0 ∈ bestO g)
  rw [List.getD_eq_getElem?_getD, List.getElem?_eq_getElem h]
  exact List.getElem_mem h
theorem posA_le (ord : List Nat) (n k : Nat) : ∀ i, (posA ord n k).getD i 0 ≤ k := by
  induction k with
  | zero =>
    intro i
    simp only [posA, List.range_zero, List.foldl_nil]
    rw [List.getD_eq_getElem?_getD, List.getElem?_replicate]
    split <;> simp
  | succ k ih =>
    intro i
    rw [posA_succ, List.getD_eq_getElem?_getD, List.getElem?_set]
    have := ih i
    rw [List.getD_eq_getElem?_getD] at this
    split
    · split
      · simp
      · simp
    · omega
end Go.Tree
