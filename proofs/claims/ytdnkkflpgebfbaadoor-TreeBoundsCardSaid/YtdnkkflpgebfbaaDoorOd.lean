/- The width of an order, as the program computes it. -/
import Derived.Test.YtdnkkflpgebfbaaDoorWd
import Derived.Test.YtdnkkflpgebfbaaDoorMk
namespace Go.Tree
open Go.W
def ordL (g : List Nat) : List Int → Nat → Int → Option Int
  | [], _, w => some w
  | v :: r, S, w => if v < 0 ∨ (g.length : Int) ≤ v ∨ S.testBit v.toNat = true then none else ordL g r (S ||| 2 ^ v.toNat) (max w (pc (lat g S v.toNat) : Nat))
end Go.Tree
