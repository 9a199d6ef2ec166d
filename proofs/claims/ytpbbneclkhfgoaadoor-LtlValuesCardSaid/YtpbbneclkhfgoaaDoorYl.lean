/- The reference's values: two passes for every node. -/
import Derived.Test.YtpbbneclkhfgoaaDoorYk
namespace Go.Ltl
open Go.W
def gR (s : Str) (A B : List Bool) (ms : List Int) (lp k : Nat) (x : Bool) : Bool :=
  if s = wTrue then true else if s = wFalse then false else if s = wNot then !(A.getD k false)
  else if s = wAnd then A.getD k false && B.getD k false else if s = wOr then A.getD k false || B.getD k false
  else if s = wNext then A.getD (aft ms.length lp k) false
  else if s = wUntil then B.getD k false || (A.getD k false && x) else if s = wRelease then B.getD k false && (A.getD k false || x)
  else if s = wAlways then A.getD k false && x else if s = wFinally then A.getD k false || x
  else holdsM s (ms.getD k 0)
def leastR (s : Str) : Bool := decide (s = wUntil) || decide (s = wFinally)
def startR (s : Str) (n lp : Nat) : List Bool := List.replicate lp false ++ List.replicate (n - lp) (!leastR s)
def nodeR (s : Str) (A B : List Bool) (ms : List Int) (lp : Nat) : List Bool :=
  passM (gR s A B ms lp) ms.length lp ms.length (passM (gR s A B ms lp) ms.length lp ms.length (startR s ms.length lp))
theorem getD_set {l : List Bool} {i j : Nat} {v : Bool} (h : i < l.length) : (l.set i v).getD j false = if i = j then v else l.getD j false := by
  rw [List.getD_eq_getElem?_getD, List.getElem?_set, List.getD_eq_getElem?_getD]
  split
  · rename_i e
    subst e
    first | rfl | (rw [if_pos h]; rfl)
  · rfl
theorem pass_agree (f : Nat → Bool → Bool) (n lp : Nat) : ∀ (i : Nat) (o1 o2 : List Bool), i ≤ n → o1.length = n → o2.length = n → (i = n → o1.getD lp false = o2.getD lp false) → (∀ j, i ≤ j → o1.getD j false = o2.getD j false) → passM f n lp i o1 = passM f n lp i o2 := by
  intro i
  induction i with
  | zero =>
    intro o1 o2 _ h1 h2 _ h
    apply List.ext_getElem (h1.trans h2.symm)
    intro j ha hb
    have := h j (Nat.zero_le _)
    simpa [ha, hb] using this
  | succ i ih =>
    intro o1 o2 hi h1 h2 hl h
    rw [passM, passM]
    have e : o1.getD (aft n lp i) false = o2.getD (aft n lp i) false := by
      unfold aft
      split
      · exact h _ (Nat.le_refl _)
      · exact hl (by omega)
    rw [e]
    refine ih _ _ (by omega) (by rw [List.length_set]; exact h1) (by rw [List.length_set]; exact h2) (fun h0 => by omega) (fun j hj => ?_)
    rw [getD_set (by omega), getD_set (by omega)]
    split
    · rfl
    · exact h j (by omega)
theorem pass_const (g : Nat → Bool) (n lp : Nat) : ∀ (i : Nat) (out : List Bool), i ≤ out.length → passM (fun k _ => g k) n lp i out = (List.range i).map g ++ out.drop i := by
  intro i
  induction i with
  | zero => intro out _; rfl
  | succ i ih =>
    intro out hi
    rw [passM, ih _ (by rw [List.length_set]; omega), List.range_succ, List.map_append, List.append_assoc]
    congr 1
    have hi2 : i < (out.set i (g i)).length := by rw [List.length_set]; omega
    rw [List.drop_eq_getElem_cons hi2, List.getElem_set_self, List.drop_set_of_lt (Nat.lt_succ_self i)]
    rfl
theorem startR_len (s : Str) {n lp : Nat} (h : lp < n) : (startR s n lp).length = n := by unfold startR; rw [List.length_append, List.length_replicate, List.length_replicate]; omega
theorem startR_lp (s : Str) {n lp : Nat} (h : lp < n) : (startR s n lp).getD lp false = !leastR s := by
  unfold startR
  rw [List.getD_eq_getElem?_getD, List.getElem?_append_right (by rw [List.length_replicate]; omega), List.length_replicate, Nat.sub_self, List.getElem?_replicate]
  rw [if_pos (by omega)]; rfl
theorem nodeR_rep (s : Str) (A B : List Bool) (ms : List Int) {lp : Nat} (h : lp < ms.length) (f : Nat → Bool → Bool) (hf : gR s A B ms lp = f) : nodeR s A B ms lp = repM (!leastR s) f ms.length lp := by
  unfold nodeR repM
  rw [hf, pass_agree f ms.length lp ms.length (startR s ms.length lp) (List.replicate ms.length (!leastR s)) (Nat.le_refl _) (startR_len s h) (List.length_replicate ..) ?_ ?_]
  · intro _
    rw [startR_lp s h, List.getD_eq_getElem?_getD, List.getElem?_replicate, if_pos h]; rfl
  · intro j hj
    rw [List.getD_eq_getElem?_getD, List.getElem?_eq_none (by rw [startR_len s h]; exact hj), List.getD_eq_getElem?_getD, List.getElem?_eq_none (by rw [List.length_replicate]; exact hj)]
theorem nodeR_map (s : Str) (A B : List Bool) (ms : List Int) {lp : Nat} (h : lp < ms.length) (g : Nat → Bool) (hf : gR s A B ms lp = fun k _ => g k) : nodeR s A B ms lp = (List.range ms.length).map g := by
  unfold nodeR
  rw [hf, pass_const _ _ _ _ _ (by rw [passM_len, startR_len s h]; exact Nat.le_refl _), List.drop_of_length_le (by rw [passM_len, startR_len s h]; exact Nat.le_refl _), List.append_nil]
theorem nodeR_len (s : Str) (A B : List Bool) (ms : List Int) {lp : Nat} (h : lp < ms.length) : (nodeR s A B ms lp).length = ms.length := by unfold nodeR; rw [passM_len, passM_len, startR_len s h]
theorem nodeR_at {s : Str} (hs : s ∈ atomsL) (A B : List Bool) (ms : List Int) {lp : Nat} (h : lp < ms.length) : nodeR s A B ms lp = (List.range ms.length).map fun i => holdsM s (ms.getD i 0) := by
  have hs2 : s = wTrue ∨ s = wFalse ∨ s = [112, 48] ∨ s = [112, 49] ∨ s = [112, 50] ∨ s = [112, 51] := by simpa [atomsL] using hs
  rcases hs2 with rfl | rfl | rfl | rfl | rfl | rfl <;> exact nodeR_map _ A B ms h _ (funext fun k => funext fun x => rfl)
theorem nodeR_on {s : Str} (hs : s ∈ onesL) (A B : List Bool) (ms : List Int) {lp : Nat} (h : lp < ms.length) : nodeR s A B ms lp = onM s A ms.length lp := by
  have hs2 : s = wNot ∨ s = wNext ∨ s = wAlways ∨ s = wFinally := by simpa [onesL] using hs
  rcases hs2 with rfl | rfl | rfl | rfl
  · exact nodeR_map _ A B ms h _ (funext fun k => funext fun x => rfl)
  · exact nodeR_map _ A B ms h _ (funext fun k => funext fun x => rfl)
  · exact nodeR_rep _ A B ms h _ (funext fun k => funext fun x => rfl)
  · exact nodeR_rep _ A B ms h _ (funext fun k => funext fun x => rfl)
theorem nodeR_tw {s : Str} (hs : s ∈ twosL) (A B : List Bool) (ms : List Int) {lp : Nat} (h : lp < ms.length) : nodeR s A B ms lp = twM s A B ms.length lp := by
  have hs2 : s = wAnd ∨ s = wOr ∨ s = wUntil ∨ s = wRelease := by simpa [twosL] using hs
  rcases hs2 with rfl | rfl | rfl | rfl
  · exact nodeR_map _ A B ms h _ (funext fun k => funext fun x => rfl)
  · exact nodeR_map _ A B ms h _ (funext fun k => funext fun x => rfl)
  · exact nodeR_rep _ A B ms h _ (funext fun k => funext fun x => rfl)
  · exact nodeR_rep _ A B ms h _ (funext fun k => funext fun x => rfl)
/-- Nodes that point back only. -/
def OkN (l : List Nd) : Prop := ∀ i x, l[i]? = some x → (x.1 ∈ atomsL ∧ x.2 = (-1, -1)) ∨ (x.1 ∈ onesL ∧ ∃ a : Nat, a < i ∧ x.2 = ((a : Int), -1)) ∨ (x.1 ∈ twosL ∧ ∃ a b : Nat, a < i ∧ b < i ∧ x.2 = ((a : Int), (b : Int)))
theorem OkN_snoc {l : List Nd} {x : Nd} (h : OkN l) (hx : (x.1 ∈ atomsL ∧ x.2 = (-1, -1)) ∨ (x.1 ∈ onesL ∧ ∃ a : Nat, a < l.length ∧ x.2 = ((a : Int), -1)) ∨ (x.1 ∈ twosL ∧ ∃ a b : Nat, a < l.length ∧ b < l.length ∧ x.2 = ((a : Int), (b : Int)))) : OkN (l ++ [x]) := by
  intro i y hy
  by_cases hi : i < l.length
  · rw [List.getElem?_append_left hi] at hy
    exact h i y hy
  · have hl := (List.getElem?_eq_some_iff.1 hy).1
    rw [List.length_append] at hl
    have hi2 : i = l.length := by simp only [List.length_cons, List.length_nil] at hl; omega
    subst hi2
    rw [List.getElem?_append_right (Nat.le_refl _), Nat.sub_self] at hy
    cases hy
    exact hx
theorem OkN_nodes : ∀ (f : Fm) (p : List Nd), wfF f → OkN p → OkN (p ++ nodesN p.length f) := by
  intro f
  induction f with
  | at_ w => intro p hw hp; exact OkN_snoc hp (.inl ⟨hw, rfl⟩)
  | on_ w f ih =>
    rintro p ⟨hw, hf⟩ hp
    have h1 := ih p hf hp
    have hpos := sizeF_pos f
    unfold nodesN
    rw [← List.append_assoc]
    exact OkN_snoc h1 (.inr (.inl ⟨hw, _, by rw [List.length_append, nodesN_len]; omega, rfl⟩))
  | tw_ w f g ihf ihg =>
    rintro p ⟨hw, hf, hg⟩ hp
    have h1 := ihf p hf hp
    have h2 := ihg _ hg h1
    have hpf := sizeF_pos f
    have hpg := sizeF_pos g
    have hl : (p ++ nodesN p.length f).length = p.length + sizeF f := by rw [List.length_append, nodesN_len]
    rw [hl] at h2
    unfold nodesN
    rw [← List.append_assoc, ← List.append_assoc]
    exact OkN_snoc h2 (.inr (.inr ⟨hw, _, _, by rw [List.length_append, hl, nodesN_len]; omega, by rw [List.length_append, hl, nodesN_len]; omega, rfl⟩))
end Go.Ltl
