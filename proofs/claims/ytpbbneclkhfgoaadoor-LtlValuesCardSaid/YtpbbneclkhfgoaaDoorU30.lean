/- ltl, thirtieth: what Value says, and LtlTurns in plain words. -/
import Derived.Test.YtpbbneclkhfgoaaDoorU29
import Derived.Test.YtpbbneclkhfgoaaDoorYj
namespace Go.Ltl
open Go.W
theorem finF_inv {x f : Fm} {k k' : Nat} {l l' : List Str} (h : finF x k l = some (f, l', k')) : l = [41] :: l' ∧ x = f ∧ k = k' := by
  unfold finF at h
  split at h
  · simp only [Option.some.injEq, Prod.mk.injEq] at h
    obtain ⟨rfl, rfl, rfl⟩ := h
    exact ⟨rfl, rfl, rfl⟩
  · cases h
/-- What is parsed hangs on the words of the formula alone. -/
theorem prsN_ext : ∀ (n : Nat) (l : List Str) (k : Nat) (f : Fm) (l' : List Str) (k' : Nat), prsN n l k = some (f, l', k') → ∀ (m : Nat) (r : List Str) (k2 : Nat), n ≤ m → k2 + sizeF f ≤ 12 → prsN m (l ++ r) k2 = some (f, l' ++ r, k2 + sizeF f) := by
  intro n
  induction n with
  | zero => intro l k f l' k' h; cases h
  | succ n ih =>
    intro l k f l' k' h m r k2 hm hk
    obtain ⟨m, rfl⟩ : ∃ m0, m = m0 + 1 := ⟨m - 1, by omega⟩
    have hnm : n ≤ m := by omega
    cases l with
    | nil => rw [prsN_nil] at h; cases h
    | cons s l =>
      by_cases hs : s = [40]
      · subst hs
        cases l with
        | nil => rw [prsN_p0] at h; cases h
        | cons s l =>
          by_cases hb : 12 < k + 1
          · rw [prsN_pb _ _ _ _ hb] at h; cases h
          have hb : k + 1 ≤ 12 := by omega
          by_cases h1 : s ∈ onesL
          · rw [prsN_on _ _ _ _ hb h1] at h
            cases hp : prsN n l (k + 1) with
            | none => rw [hp] at h; cases h
            | some q =>
              obtain ⟨f1, l3, k3⟩ := q
              rw [hp] at h
              obtain ⟨rfl, rfl, rfl⟩ := finF_inv h
              unfold sizeF at hk
              have := ih l (k + 1) f1 _ _ hp m r (k2 + 1) hnm (by omega)
              show prsN (m + 1) ([40] :: s :: (l ++ r)) k2 = _
              rw [prsN_on _ _ _ _ (by omega) h1, this]
              show finF (.on_ s f1) (k2 + 1 + sizeF f1) ([41] :: (l' ++ r)) = _
              show finF (.on_ s f1) (k2 + 1 + sizeF f1) ([41] :: (l' ++ r)) = some (.on_ s f1, l' ++ r, k2 + (1 + sizeF f1))
              rw [show k2 + (1 + sizeF f1) = k2 + 1 + sizeF f1 by omega]; rfl
          by_cases h2 : s ∈ twosL
          · rw [prsN_tw _ _ _ _ hb h1 h2] at h
            cases hp : prsN n l (k + 1) with
            | none => rw [hp] at h; cases h
            | some q =>
              obtain ⟨f1, l3, k3⟩ := q
              rw [hp] at h
              simp only at h
              cases hq : prsN n l3 k3 with
              | none => rw [hq] at h; cases h
              | some q2 =>
                obtain ⟨f2, l4, k4⟩ := q2
                rw [hq] at h
                obtain ⟨rfl, rfl, rfl⟩ := finF_inv h
                unfold sizeF at hk
                have e1 := ih l (k + 1) f1 _ _ hp m r (k2 + 1) hnm (by omega)
                have e2 := ih l3 k3 f2 _ _ hq m r (k2 + 1 + sizeF f1) hnm (by omega)
                show prsN (m + 1) ([40] :: s :: (l ++ r)) k2 = _
                rw [prsN_tw _ _ _ _ (by omega) h1 h2, e1]
                simp only
                rw [e2]
                show finF (.tw_ s f1 f2) (k2 + 1 + sizeF f1 + sizeF f2) ([41] :: (l' ++ r)) = _
                show finF (.tw_ s f1 f2) (k2 + 1 + sizeF f1 + sizeF f2) ([41] :: (l' ++ r)) = some (.tw_ s f1 f2, l' ++ r, k2 + (1 + sizeF f1 + sizeF f2))
                rw [show k2 + (1 + sizeF f1 + sizeF f2) = k2 + 1 + sizeF f1 + sizeF f2 by omega]; rfl
          · rw [prsN_un _ _ _ _ h1 h2] at h; cases h
      · by_cases hb : 12 < k + 1
        · rw [prsN_big _ _ _ _ hs hb] at h; cases h
        rw [prsN_at _ _ _ _ hs (by omega)] at h
        split at h
        · rename_i ha
          simp only [Option.some.injEq, Prod.mk.injEq] at h
          obtain ⟨rfl, rfl, rfl⟩ := h
          show prsN (m + 1) (s :: (l ++ r)) k2 = _
          rw [prsN_at _ _ _ _ hs (by unfold sizeF at hk; omega), if_pos ha]
          rfl
        · cases h
theorem tokN_close : ∀ (s cur : Str), tokN (s ++ [41]) cur = tokN s cur ++ [[41]] := by
  intro s
  induction s with
  | nil => intro cur; show tokN [41] cur = _; unfold tokN; rw [if_neg (by decide), if_pos (by decide)]; rfl
  | cons c s ih =>
    intro cur
    show tokN (c :: (s ++ [41])) cur = _
    unfold tokN
    split
    · rw [ih, List.append_assoc]
    · split
      · rw [ih, List.append_assoc]; rfl
      · rw [ih]
def nextS (s : Str) : Str := [40, 110, 101, 120, 116, 32] ++ s ++ [41]
def notS (s : Str) : Str := [40, 110, 111, 116, 32] ++ s ++ [41]
theorem tok_next (s : Str) : tokM (nextS s) = [40] :: wNext :: (tokM s ++ [[41]]) := by
  unfold tokM nextS
  rw [List.append_assoc]
  show tokN (40 :: 110 :: 101 :: 120 :: 116 :: 32 :: (s ++ [41])) [] = _
  simp only [tokN, tokN_close]
  rfl
theorem tok_not (s : Str) : tokM (notS s) = [40] :: wNot :: (tokM s ++ [[41]]) := by
  unfold tokM notS
  rw [List.append_assoc]
  show tokN (40 :: 110 :: 111 :: 116 :: 32 :: (s ++ [41])) [] = _
  simp only [tokN, tokN_close]
  rfl
theorem parseM_inv {s : Str} {f : Fm} (h : parseM s = some f) : ∃ k, prsN ((tokM s).length + 1) (tokM s) 0 = some (f, [], k) := by
  unfold parseM at h
  split at h
  · rename_i f' k hq
    simp only [Option.some.injEq] at h
    subst h
    exact ⟨k, hq⟩
  · cases h
/-- An operation of one formula ahead of a formula. -/
theorem parse_one {s t : Str} {w : Str} {f g : Fm} (hw : w ∈ onesL) (ht : tokM t = [40] :: w :: (tokM s ++ [[41]])) (hs : parseM s = some f) (hg : parseM t = some g) : g = .on_ w f := by
  obtain ⟨k, hk⟩ := parseM_inv hs
  obtain ⟨k2, hk2⟩ := parseM_inv hg
  rw [ht, show ([40] :: w :: (tokM s ++ [[41]]) : List Str).length = (tokM s).length + 3 by simp] at hk2
  rw [prsN_on _ _ _ _ (by decide) hw] at hk2
  cases hp : prsN ((tokM s).length + 3) (tokM s ++ [[41]]) (0 + 1) with
  | none => rw [hp] at hk2; cases hk2
  | some q =>
    obtain ⟨f1, l3, k3⟩ := q
    rw [hp] at hk2
    obtain ⟨rfl, rfl, rfl⟩ := finF_inv hk2
    have h1 := prsN_sz _ _ _ _ _ _ hp
    have h2 := (parseM_sz hs).2
    have e1 := prsN_ext _ _ _ _ _ _ hp ((tokM s).length + 3) [] 0 (Nat.le_refl _) (by omega)
    have e2 := prsN_ext _ _ _ _ _ _ hk ((tokM s).length + 3) [[41]] 0 (by omega) (by omega)
    rw [List.append_nil] at e1
    rw [e1] at e2
    simp only [Option.some.injEq, Prod.mk.injEq] at e2
    rw [e2.1]
/-- .. and the other way round, if it is not too long. -/
theorem parse_one_ok {s t : Str} {w : Str} {f : Fm} (hw : w ∈ onesL) (ht : tokM t = [40] :: w :: (tokM s ++ [[41]])) (hs : parseM s = some f) (hk : 1 + sizeF f ≤ 12) : parseM t = some (.on_ w f) := by
  obtain ⟨k, hk1⟩ := parseM_inv hs
  have e2 := prsN_ext _ _ _ _ _ _ hk1 ((tokM s).length + 3) [[41]] 1 (by omega) hk
  unfold parseM
  rw [ht, show ([40] :: w :: (tokM s ++ [[41]]) : List Str).length = (tokM s).length + 3 by simp]
  rw [prsN_on _ _ _ _ (by decide) hw, show 0 + 1 = 1 from rfl, e2]
  rfl
end Go.Ltl
namespace Go.Proofs.YtpbbneclkhfgoaaDoor
open Go.W Go.Ltl Go.RowKit
set_option maxRecDepth 100000
attribute [local irreducible] WC WL WQ WS WH

theorem any_mark {l : List Int} (h : ∀ m ∈ l, 0 ≤ m ∧ m ≤ 15) : l.any (fun z => !markB z) = false := by
  rw [List.any_eq_false]
  intro m hm
  have := h m hm
  simp [markB, this.1, this.2]
/-- Value says the truth of the sequence. -/
theorem ValueM_ok {l1 l2 : List Int} {s : Str} {f : Fm} (hf : parseM s = some f) (h1 : l1.length ≤ 65536) (h2 : 1 ≤ l2.length) (h3 : l2.length ≤ 65536) (hm : ∀ m ∈ l1 ++ l2, 0 ≤ m ∧ m ≤ 15) :
    ∃ b, ValueM l1 l2 s = (b, 0) ∧ (b = true ↔ satS (seqL (l1 ++ l2) l1.length) f 0) := by
  refine ⟨(valsM (l1 ++ l2) l1.length f).getD 0 false, ?_, ?_⟩
  · unfold ValueM
    rw [if_pos ⟨by simp [lassoB, h1, h2, h3], any_mark hm⟩, hf]
  · have := vals_sat (l1 ++ l2) l1.length (by rw [List.length_append]; omega) f (parseM_wf hf) 0
    exact this
theorem ValueM_none {l1 l2 : List Int} {s : Str} (hf : parseM s = none) (h1 : l1.length ≤ 65536) (h2 : 1 ≤ l2.length) (h3 : l2.length ≤ 65536) (hm : ∀ m ∈ l1 ++ l2, 0 ≤ m ∧ m ≤ 15) : ValueM l1 l2 s = (false, 4) := by
  unfold ValueM
  rw [if_pos ⟨by simp [lassoB, h1, h2, h3], any_mark hm⟩, hf]
theorem mod16_ok (x : Int) : 0 ≤ mod16 x ∧ mod16 x ≤ 15 := by
  have := modN_lt (n := 16) (by decide) x
  unfold mod16
  omega
theorem stemM_ok (l : List Int) : (stemM l).length ≤ 20 ∧ ∀ m ∈ stemM l, 0 ≤ m ∧ m ≤ 15 := by
  refine ⟨by unfold stemM; rw [List.length_map, List.length_take]; omega, fun m hm => ?_⟩
  obtain ⟨x, _, rfl⟩ := List.mem_map.1 hm
  exact mod16_ok x
theorem lopM_ok (l : List Int) : 1 ≤ (lopM l).length ∧ (lopM l).length ≤ 20 ∧ ∀ m ∈ lopM l, 0 ≤ m ∧ m ≤ 15 := by
  unfold lopM
  split
  · exact ⟨by decide, by decide, fun m hm => by rw [List.mem_singleton.1 hm]; decide⟩
  · rename_i h
    have := List.length_pos_iff.2 h
    refine ⟨by rw [List.length_map, List.length_take]; omega, by rw [List.length_map, List.length_take]; omega, fun m hm => ?_⟩
    obtain ⟨x, _, rfl⟩ := List.mem_map.1 hm
    exact mod16_ok x
/-- The loop's beginning moved into the stem. -/
theorem seq_move (l1 r : List Int) (x : Int) (k : Nat) : seqL ((l1 ++ [x]) ++ (r ++ [x])) (l1 ++ [x]).length k = seqL (l1 ++ (x :: r)) l1.length k := by
  have hl1 : ((l1 ++ [x]) ++ (r ++ [x])).length = l1.length + r.length + 2 := by simp; omega
  have hl2 : (l1 ++ (x :: r)).length = l1.length + r.length + 1 := by simp; omega
  have hl3 : (l1 ++ [x]).length = l1.length + 1 := by simp
  have := seq_bisim (ms := (l1 ++ [x]) ++ (r ++ [x])) (ns := l1 ++ (x :: r)) (lp := (l1 ++ [x]).length) (lq := l1.length) (fun p q => (p < l1.length + r.length + 1 ∧ q = p) ∨ (p = l1.length + r.length + 1 ∧ q = l1.length)) 0 0 (.inl ⟨by show 0 < _; omega, rfl⟩)
    (by
      rintro p q (⟨h1, rfl⟩ | ⟨rfl, rfl⟩)
      · have e : (l1 ++ [x]) ++ (r ++ [x]) = (l1 ++ (x :: r)) ++ [x] := by simp
        rw [e, List.getD_eq_getElem?_getD, List.getD_eq_getElem?_getD, List.getElem?_append_left (by rw [hl2]; omega)]
      · have e : (l1 ++ [x]) ++ (r ++ [x]) = (l1 ++ (x :: r)) ++ [x] := by simp
        have e1 : ((l1 ++ (x :: r)) ++ [x])[l1.length + r.length + 1]? = some x := by rw [← hl2]; simp
        have e2 : (l1 ++ (x :: r))[l1.length]? = some x := by simp
        rw [e, List.getD_eq_getElem?_getD, List.getD_eq_getElem?_getD, e1, e2])
    (by
      rintro p q (⟨h1, rfl⟩ | ⟨rfl, rfl⟩)
      · unfold aft
        rw [hl1, hl2, hl3]
        by_cases h : q + 1 < l1.length + r.length + 1
        · rw [if_pos (by omega), if_pos h]; exact .inl ⟨h, rfl⟩
        · rw [if_pos (by omega), if_neg h]; exact .inr ⟨by omega, rfl⟩
      · unfold aft
        rw [hl1, hl2, hl3, if_neg (by omega)]
        by_cases h : l1.length + 1 < l1.length + r.length + 1
        · rw [if_pos h]; exact .inl ⟨h, rfl⟩
        · rw [if_neg h]; exact .inr ⟨by omega, rfl⟩) k
  simpa using this
/-- The loop twice. -/
theorem seq_twice (l1 l2 : List Int) (h2 : 1 ≤ l2.length) (k : Nat) : seqL (l1 ++ (l2 ++ l2)) l1.length k = seqL (l1 ++ l2) l1.length k := by
  have hl1 : (l1 ++ (l2 ++ l2)).length = l1.length + l2.length + l2.length := by simp; omega
  have hl2 : (l1 ++ l2).length = l1.length + l2.length := by simp
  have := seq_bisim (ms := l1 ++ (l2 ++ l2)) (ns := l1 ++ l2) (lp := l1.length) (lq := l1.length) (fun p q => (p < l1.length + l2.length ∧ q = p) ∨ (l1.length + l2.length ≤ p ∧ p < l1.length + l2.length + l2.length ∧ q + l2.length = p)) 0 0 (.inl ⟨by show 0 < _; omega, rfl⟩)
    (by
      rintro p q (⟨h1, rfl⟩ | ⟨h1, h3, h4⟩)
      · rw [← List.append_assoc, List.getD_eq_getElem?_getD, List.getD_eq_getElem?_getD, List.getElem?_append_left (by rw [hl2]; omega)]
      · rw [List.getD_eq_getElem?_getD, List.getD_eq_getElem?_getD, ← List.append_assoc, List.getElem?_append_right (by rw [hl2]; omega), List.getElem?_append_right (by omega), hl2]
        congr 2; omega)
    (by
      rintro p q (⟨h1, rfl⟩ | ⟨h1, h3, h4⟩)
      · unfold aft
        rw [hl1, hl2]
        by_cases h : q + 1 < l1.length + l2.length
        · rw [if_pos (by omega), if_pos h]; exact .inl ⟨h, rfl⟩
        · rw [if_pos (by omega), if_neg h]; exact .inr ⟨by omega, by omega, by omega⟩
      · unfold aft
        rw [hl1, hl2]
        by_cases h : p + 1 < l1.length + l2.length + l2.length
        · rw [if_pos h, if_pos (by omega)]; exact .inr ⟨by omega, h, by omega⟩
        · rw [if_neg h, if_neg (by omega)]; exact .inl ⟨by omega, rfl⟩) k
  simpa using this
/-- A mark at the beginning. -/
theorem seq_longer (l1 l2 : List Int) (x : Int) (h2 : 1 ≤ l2.length) (k : Nat) : seqL ((x :: l1) ++ l2) (x :: l1).length (1 + k) = seqL (l1 ++ l2) l1.length (0 + k) := by
  have hl1 : ((x :: l1) ++ l2).length = l1.length + l2.length + 1 := by simp
  have hl2 : (l1 ++ l2).length = l1.length + l2.length := by simp
  refine seq_bisim (ms := (x :: l1) ++ l2) (ns := l1 ++ l2) (lp := (x :: l1).length) (lq := l1.length) (fun p q => p = q + 1 ∧ q < l1.length + l2.length) 1 0 ⟨?_, by show 0 < _; omega⟩ ?_ ?_ k
  · show aft _ _ 0 = 0 + 1
    unfold aft; rw [hl1, if_pos (by omega)]
  · rintro p q ⟨rfl, h⟩
    simp
  · rintro p q ⟨rfl, h⟩
    unfold aft
    rw [hl1, hl2, List.length_cons]
    by_cases h3 : q + 1 < l1.length + l2.length
    · rw [if_pos (by omega), if_pos h3]; exact ⟨rfl, h3⟩
    · rw [if_neg (by omega), if_neg h3]; exact ⟨rfl, by omega⟩
theorem bool_iff {a b : Bool} {P : Prop} (h1 : a = true ↔ P) (h2 : b = true ↔ P) : a = b := by
  rw [Bool.eq_iff_iff, h1, h2]
end Go.Proofs.YtpbbneclkhfgoaaDoor
