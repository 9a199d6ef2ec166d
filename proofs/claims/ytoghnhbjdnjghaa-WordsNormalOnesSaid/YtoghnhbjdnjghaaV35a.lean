/- What Complete says. -/
import Derived.Test.YtoghnhbjdnjghaaV17
namespace Go.Words
open Go.W Go.Proofs.Ytoghnhbjdnjghaa
/-- What Complete says: the system, whether it is confluent, and the error. -/
def CompR (l : List Rl) (k : Int) : List Rl × Bool × Int := if eqnsB l k then match completeM l k.toNat with
    | some (t, b) => (t, b, 0)
    | none => ([], false, 5)
  else ([], false, 2)
theorem CompR_len (l : List Rl) (k : Int) : (CompR l k).1.length ≤ 64 ∧ Dn (CompR l k).1 ∧ Sm 24 (CompR l k).1 := by
  have h0 : ([] : List Rl).length ≤ 64 ∧ Dn [] ∧ Sm 24 [] := ⟨by decide, (fun r hr => by cases hr), (fun r hr => by cases hr)⟩
  unfold CompR
  split
  · rename_i h
    obtain ⟨_, hsm, _⟩ := eqnsB_of h
    cases hc : completeM l k.toNat with
    | none => exact h0
    | some q =>
      have hS := completeM_inv (b := q.2) (t := q.1) hc hsm
      exact ⟨hS.len, hS.dn, hS.sm⟩
  · exact h0
end Go.Words
namespace Go.Proofs.Ytoghnhbjdnjghaa
open Go.W Go.Words Go.RowKit
set_option maxRecDepth 100000
attribute [local irreducible] WC WL WQ WS WH

theorem CompQ.to {l : List Rl} {k : Int} {w w' : World} {u : Value} (h : CompQ l k w u w') :
    ∃ pa pc, u = .tuple #[.slice pa (CompR l k).1.length pc, .bool (CompR l k).2.1, .int .i64 (CompR l k).2.2] ∧ Hp w w' [Rt (.slice pa (CompR l k).1.length pc) (CompR l k).1] := by
  unfold CompQ at h
  unfold CompR
  split at h
  · rename_i h1
    rw [if_pos h1]
    cases hc : completeM l k.toNat with
    | none => rw [hc] at h; exact ⟨none, 0, h.1, h.2.nilrow _ _⟩
    | some q => rw [hc] at h; exact h
  · rename_i h1
    rw [if_neg h1]
    exact ⟨none, 0, h.1, h.2.nilrow _ _⟩
end Go.Proofs.Ytoghnhbjdnjghaa
