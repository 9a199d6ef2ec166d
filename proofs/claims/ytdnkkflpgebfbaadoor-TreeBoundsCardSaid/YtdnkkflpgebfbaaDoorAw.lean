/- The circle with five vertices, reckoned. -/
import Derived.Test.YtdnkkflpgebfbaaDoorL12
import Derived.Test.YtdnkkflpgebfbaaDoorDc
namespace Go.Proofs.YtdnkkflpgebfbaaDoor
open Go.W Go.Tree
def five : List Ed := [(0, 1), (1, 2), (2, 3), (3, 4), (4, 0)]
def g5 : List Nat := [18, 5, 10, 20, 9]
theorem five_g : mkG 5 five = some g5 := by decide +kernel
theorem five_wd : wd g5 0 = 2 := by decide +kernel
theorem five_bags : (bagsOf g5).length = 5 := by decide +kernel
theorem five_links : (linksOf g5).length = 4 := by decide +kernel
theorem five_ap : apR (ap g5) (2 ^ g5.length) = (11, 2) := by decide +kernel
theorem five_cl : clR (nb g5) (2 ^ g5.length) = [0, 1] := by decide +kernel
theorem five_col : colP (cls (fr (ap g5)) (full g5.length)) 3 15 = 30 := by decide +kernel
end Go.Proofs.YtdnkkflpgebfbaaDoor
