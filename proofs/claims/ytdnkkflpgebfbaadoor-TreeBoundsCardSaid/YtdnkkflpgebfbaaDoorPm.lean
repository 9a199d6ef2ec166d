/- Orders that are made by putting vertices in, one after the other. -/
import Derived.Test.YtdnkkflpgebfbaaDoorRb
namespace Go.Tree
open Go.W
theorem vl_ok {n : Nat} : ∀ (o : List Nat) (S : Nat), o.Nodup → (∀ v ∈ o, v < n ∧ S.testBit v = false) → vl n (o.map fun (v : Nat) => (v : Int)) S = true := by
  intro o
  induction o with
  | nil => intro S _ _; rfl
  | cons v r ih =>
    intro S hn h
    obtain ⟨h1, h2⟩ := h v (by simp)
    have hnd := List.nodup_cons.1 hn
    simp only [List.map_cons, vl, Int.toNat_natCast]
    rw [if_neg (by simp [h2]; omega)]
    refine ih _ hnd.2 fun u hu => ?_
    obtain ⟨h3, h4⟩ := h u (by simp [hu])
    refine ⟨h3, ?_⟩
    rw [Nat.testBit_or, h4, Nat.testBit_two_pow]
    have : ¬ v = u := fun e => hnd.1 (by rw [e]; exact hu)
    simp [this]
theorem put_perm {o : List Nat} {v at_ : Nat} (h : o.Perm (List.range v)) : (o.take at_ ++ [v] ++ o.drop at_).Perm (List.range (v + 1)) := by
  rw [List.range_succ]
  refine List.Perm.trans ?_ (List.Perm.append_right [v] h)
  have h1 : (o.take at_ ++ [v] ++ o.drop at_).Perm (o.take at_ ++ (o.drop at_ ++ [v])) := by
    rw [List.append_assoc]
    exact List.Perm.append_left _ List.perm_append_comm
  rw [← List.append_assoc, List.take_append_drop] at h1
  exact h1
theorem perm_ok {g : List Nat} {o : List Nat} (h : o.Perm (List.range g.length)) : ∃ K, ordL g (o.map fun (v : Nat) => (v : Int)) 0 (-1) = some K := by
  have h1 : vl g.length (o.map fun (v : Nat) => (v : Int)) 0 = true := by
    refine vl_ok o 0 (h.nodup_iff.2 List.nodup_range) fun v hv => ⟨?_, by simp⟩
    have := h.mem_iff.1 hv
    simpa using this
  have := ordL_some (g := g) (o.map fun (v : Nat) => (v : Int)) 0 (-1)
  rw [h1] at this
  exact Option.isSome_iff_exists.1 this
end Go.Tree
