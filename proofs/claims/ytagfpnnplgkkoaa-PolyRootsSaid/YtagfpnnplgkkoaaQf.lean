/- Sorting by insertion, in plain terms. -/
import Derived.Test.YtagfpnnplgkkoaaQe
namespace Go.Poly
section
variable {α β : Type}
/-- Two neighbours change places. -/
def sw (l : List α) (k : Nat) : List α := match l[k + 1]?, l[k]? with
  | some x, some y => (l.set (k + 1) y).set k x
  | _, _ => l
def sinkB (lt : α → α → Bool) (l : List α) : Nat → Bool
  | 0 => false
  | k + 1 => match l[k + 1]?, l[k]? with
    | some x, some y => lt x y
    | _, _ => false
def sinkG (lt : α → α → Bool) : Nat → List α → List α
  | 0, l => l
  | k + 1, l => if sinkB lt l (k + 1) then sinkG lt k (sw l k) else l
def isrt (lt : α → α → Bool) : Nat → List α → List α
  | 0, l => l
  | k + 1, l => sinkG lt (k + 1) (isrt lt k l)
theorem sw_len (l : List α) (k : Nat) : (sw l k).length = l.length := by
  unfold sw
  split <;> simp
theorem sw_perm (l : List α) (k : Nat) : (sw l k).Perm l := by
  unfold sw
  split
  · rename_i x y hx hy
    obtain ⟨h1, rfl⟩ := List.getElem?_eq_some_iff.1 hx
    obtain ⟨h2, rfl⟩ := List.getElem?_eq_some_iff.1 hy
    exact List.set_set_perm h1 h2
  · exact List.Perm.refl _
theorem sink_perm (lt : α → α → Bool) : ∀ (k : Nat) (l : List α), (sinkG lt k l).Perm l
  | 0, l => List.Perm.refl _
  | k + 1, l => by
    unfold sinkG
    split
    · exact (sink_perm lt k (sw l k)).trans (sw_perm l k)
    · exact List.Perm.refl _
theorem isrt_perm (lt : α → α → Bool) : ∀ (k : Nat) (l : List α), (isrt lt k l).Perm l
  | 0, l => List.Perm.refl _
  | k + 1, l => (sink_perm lt (k + 1) _).trans (isrt_perm lt k l)
theorem sw_map (f : α → β) (l : List α) (k : Nat) : sw (l.map f) k = (sw l k).map f := by
  unfold sw
  rw [List.getElem?_map, List.getElem?_map]
  cases l[k + 1]? <;> cases l[k]? <;> simp [List.map_set]
theorem sinkB_map (f : α → β) (lt : β → β → Bool) (l : List α) (k : Nat) : sinkB lt (l.map f) k = sinkB (fun a b => lt (f a) (f b)) l k := by
  cases k with
  | zero => rfl
  | succ k =>
    simp only [sinkB, List.getElem?_map]
    cases l[k + 1]? <;> cases l[k]? <;> rfl
theorem sink_map (f : α → β) (lt : β → β → Bool) : ∀ (k : Nat) (l : List α), sinkG lt k (l.map f) = (sinkG (fun a b => lt (f a) (f b)) k l).map f
  | 0, l => rfl
  | k + 1, l => by
    unfold sinkG
    rw [sinkB_map, sw_map]
    split
    · exact sink_map f lt k (sw l k)
    · rfl
theorem isrt_map (f : α → β) (lt : β → β → Bool) : ∀ (k : Nat) (l : List α), isrt lt k (l.map f) = (isrt (fun a b => lt (f a) (f b)) k l).map f
  | 0, l => rfl
  | k + 1, l => by rw [isrt, isrt_map f lt k l, sink_map, isrt]
end
end Go.Poly
