/- The reference's formulas: lists of nodes; what it parses. -/
import Derived.Test.YtpbbneclkhfgoaaDoorU30
namespace Go.Ltl
open Go.W
abbrev Nd := Str × Int × Int
/-- The nodes of a formula, behind off others. -/
def nodesN : Nat → Fm → List Nd
  | _, .at_ w => [(w, -1, -1)]
  | off, .on_ w f => nodesN off f ++ [(w, ((off + sizeF f - 1 : Nat) : Int), -1)]
  | off, .tw_ w f g => nodesN off f ++ nodesN (off + sizeF f) g ++ [(w, ((off + sizeF f - 1 : Nat) : Int), ((off + sizeF f + sizeF g - 1 : Nat) : Int))]
theorem sizeF_pos : ∀ f, 1 ≤ sizeF f := by intro f; cases f <;> (unfold sizeF; omega)
theorem nodesN_len : ∀ (f : Fm) (off : Nat), (nodesN off f).length = sizeF f := by
  intro f
  induction f with
  | at_ w => intro off; rfl
  | on_ w f ih => intro off; unfold nodesN sizeF; rw [List.length_append, ih]; show sizeF f + 1 = _; omega
  | tw_ w f g ihf ihg => intro off; unfold nodesN sizeF; rw [List.length_append, List.length_append, ihf, ihg]; show sizeF f + sizeF g + 1 = _; omega
/-- A formula read from words, without a limit. -/
def rprs : Nat → List Str → Option (Fm × List Str)
  | 0, _ => none
  | _ + 1, [] => none
  | n + 1, s :: l => if s ∈ atomsL then some (.at_ s, l) else if s ≠ [40] then none else match l with
    | [] => none
    | s :: l => if s ∈ onesL then match rprs n l with
        | some (f, [41] :: l) => some (.on_ s f, l)
        | _ => none
      else if s ∈ twosL then match rprs n l with
        | some (f, l) => match rprs n l with
          | some (g, [41] :: l) => some (.tw_ s f g, l)
          | _ => none
        | none => none
      else none
def parB (s : Str) : Bool := decide (s = [40]) || decide (s = [41])
def wcnt (l : List Str) : Nat := (l.filter fun s => !parB s).length
theorem wcnt_cons (s : Str) (l : List Str) : wcnt (s :: l) = (if parB s then 0 else 1) + wcnt l := by
  unfold wcnt
  rw [List.filter_cons]
  cases parB s <;> simp <;> omega
theorem par_atom : ∀ s ∈ atomsL ++ onesL ++ twosL, parB s = false := by decide
theorem wcnt_op {s : Str} (l : List Str) (h : s ∈ atomsL ++ onesL ++ twosL) : wcnt (s :: l) = 1 + wcnt l := by rw [wcnt_cons, par_atom s h]; rfl
theorem wcnt_close (l : List Str) : wcnt ([41] :: l) = wcnt l := by rw [wcnt_cons]; simp [parB]
theorem wcnt_open (l : List Str) : wcnt ([40] :: l) = wcnt l := by rw [wcnt_cons]; simp [parB]
theorem rprs_wcnt : ∀ (n : Nat) (l : List Str) (f : Fm) (r : List Str), rprs n l = some (f, r) → wcnt l = sizeF f + wcnt r ∧ r.length < l.length ∧ wfF f := by
  intro n
  induction n with
  | zero => intro l f r h; cases h
  | succ n ih =>
    intro l f r h
    cases l with
    | nil => cases h
    | cons s l =>
      unfold rprs at h
      split at h
      · rename_i ha
        simp only [Option.some.injEq, Prod.mk.injEq] at h
        obtain ⟨rfl, rfl⟩ := h
        exact ⟨wcnt_op l (by simp [ha]), Nat.lt_succ_self _, ha⟩
      · split at h
        · cases h
        · rename_i hs
          have hs : s = [40] := Classical.not_not.1 hs
          subst hs
          cases l with
          | nil => cases h
          | cons s2 l2 =>
            simp only at h
            split at h
            · rename_i h1
              split at h
              · rename_i f1 l3 hp
                simp only [Option.some.injEq, Prod.mk.injEq] at h
                obtain ⟨rfl, rfl⟩ := h
                obtain ⟨e1, e2, e3⟩ := ih _ _ _ hp
                rw [wcnt_open, wcnt_op l2 (by simp [h1]), e1, wcnt_close]
                refine ⟨by show 1 + (sizeF f1 + wcnt l3) = 1 + sizeF f1 + wcnt l3; omega, ?_, h1, e3⟩
                simp only [List.length_cons] at e2 ⊢
                omega
              · cases h
            · split at h
              · rename_i h2
                split at h
                · rename_i f1 l3 hp
                  split at h
                  · rename_i g1 l4 hq
                    simp only [Option.some.injEq, Prod.mk.injEq] at h
                    obtain ⟨rfl, rfl⟩ := h
                    obtain ⟨e1, e2, e3⟩ := ih _ _ _ hp
                    obtain ⟨k1, k2, k3⟩ := ih _ _ _ hq
                    rw [wcnt_open, wcnt_op l2 (by simp [h2]), e1, k1, wcnt_close]
                    refine ⟨by show 1 + (sizeF f1 + (sizeF g1 + wcnt l4)) = 1 + sizeF f1 + sizeF g1 + wcnt l4; omega, ?_, h2, e3, k3⟩
                    simp only [List.length_cons] at e2 k2 ⊢
                    omega
                  · cases h
                · cases h
              · cases h
theorem atoms_40 : ([40] : Str) ∉ atomsL := by decide
theorem ops_word : ∀ s ∈ onesL ++ twosL, s ∉ atomsL := by decide
/-- Within the limit both parsers agree. -/
theorem prsN_rprs : ∀ (n : Nat) (l : List Str) (k : Nat), wcnt l + k ≤ 12 → prsN n l k = (rprs n l).map fun q => (q.1, q.2, k + sizeF q.1) := by
  intro n
  induction n with
  | zero => intro l k _; rfl
  | succ n ih =>
    intro l k hk
    cases l with
    | nil => rfl
    | cons s l =>
      by_cases hs : s = [40]
      · subst hs
        rw [wcnt_open] at hk
        unfold rprs
        rw [if_neg atoms_40, if_neg (by simp)]
        cases l with
        | nil => rfl
        | cons s2 l2 =>
          simp only
          by_cases h1 : s2 ∈ onesL
          · rw [wcnt_op l2 (by simp [h1])] at hk
            rw [prsN_on _ _ _ _ (by omega) h1, if_pos h1, ih l2 (k + 1) (by omega)]
            cases hp : rprs n l2 with
            | none => rfl
            | some q =>
              obtain ⟨f1, l3⟩ := q
              show finF (.on_ s2 f1) (k + 1 + sizeF f1) l3 = _
              have e : k + 1 + sizeF f1 = k + sizeF (.on_ s2 f1) := by show _ = k + (1 + sizeF f1); omega
              rw [e]
              unfold finF
              split <;> split <;> simp_all
          · rw [if_neg h1]
            by_cases h2 : s2 ∈ twosL
            · rw [wcnt_op l2 (by simp [h2])] at hk
              rw [prsN_tw _ _ _ _ (by omega) h1 h2, if_pos h2, ih l2 (k + 1) (by omega)]
              cases hp : rprs n l2 with
              | none => rfl
              | some q =>
                obtain ⟨f1, l3⟩ := q
                have hw := (rprs_wcnt _ _ _ _ hp).1
                simp only [Option.map_some]
                rw [ih l3 (k + 1 + sizeF f1) (by omega)]
                cases hq : rprs n l3 with
                | none => rfl
                | some q2 =>
                  obtain ⟨g1, l4⟩ := q2
                  show finF (.tw_ s2 f1 g1) (k + 1 + sizeF f1 + sizeF g1) l4 = _
                  have e : k + 1 + sizeF f1 + sizeF g1 = k + sizeF (.tw_ s2 f1 g1) := by show _ = k + (1 + sizeF f1 + sizeF g1); omega
                  rw [e]
                  unfold finF
                  split <;> split <;> simp_all
            · rw [prsN_un _ _ _ _ h1 h2, if_neg h2]; rfl
      · unfold rprs
        by_cases ha : s ∈ atomsL
        · rw [wcnt_op l (by simp [ha])] at hk
          rw [prsN_at _ _ _ _ hs (by omega), if_pos ha, if_pos ha]
          rfl
        · rw [if_neg ha, if_pos hs]
          by_cases hb : 12 < k + 1
          · rw [prsN_big _ _ _ _ hs hb]; rfl
          · rw [prsN_at _ _ _ _ hs (by omega), if_neg ha]; rfl
theorem prsN_wcnt : ∀ (n : Nat) (l : List Str) (k : Nat) (f : Fm) (r : List Str) (k' : Nat), prsN n l k = some (f, r, k') → wcnt l = sizeF f + wcnt r := by
  intro n
  induction n with
  | zero => intro l k f r k' h; cases h
  | succ n ih =>
    intro l k f r k' h
    cases l with
    | nil => rw [prsN_nil] at h; cases h
    | cons s l =>
      by_cases hs : s = [40]
      · subst hs
        cases l with
        | nil => rw [prsN_p0] at h; cases h
        | cons s l =>
          by_cases hb : 12 < k + 1
          · rw [prsN_pb _ _ _ _ hb] at h; cases h
          have hb : k + 1 ≤ 12 := by omega
          by_cases h1 : s ∈ onesL
          · rw [prsN_on _ _ _ _ hb h1] at h
            cases hp : prsN n l (k + 1) with
            | none => rw [hp] at h; cases h
            | some q =>
              obtain ⟨f1, l3, k3⟩ := q
              rw [hp] at h
              obtain ⟨rfl, rfl, rfl⟩ := finF_inv h
              rw [wcnt_open, wcnt_op l (by simp [h1]), ih _ _ _ _ _ hp, wcnt_close]
              show 1 + (sizeF f1 + wcnt r) = 1 + sizeF f1 + wcnt r; omega
          by_cases h2 : s ∈ twosL
          · rw [prsN_tw _ _ _ _ hb h1 h2] at h
            cases hp : prsN n l (k + 1) with
            | none => rw [hp] at h; cases h
            | some q =>
              obtain ⟨f1, l3, k3⟩ := q
              rw [hp] at h
              simp only at h
              cases hq : prsN n l3 k3 with
              | none => rw [hq] at h; cases h
              | some q2 =>
                obtain ⟨f2, l4, k4⟩ := q2
                rw [hq] at h
                obtain ⟨rfl, rfl, rfl⟩ := finF_inv h
                rw [wcnt_open, wcnt_op l (by simp [h2]), ih _ _ _ _ _ hp, ih _ _ _ _ _ hq, wcnt_close]
                show 1 + (sizeF f1 + (sizeF f2 + wcnt r)) = 1 + sizeF f1 + sizeF f2 + wcnt r; omega
          · rw [prsN_un _ _ _ _ h1 h2] at h; cases h
      · by_cases hb : 12 < k + 1
        · rw [prsN_big _ _ _ _ hs hb] at h; cases h
        rw [prsN_at _ _ _ _ hs (by omega)] at h
        split at h
        · rename_i ha
          simp only [Option.some.injEq, Prod.mk.injEq] at h
          obtain ⟨rfl, rfl, rfl⟩ := h
          exact wcnt_op l (by simp [ha])
        · cases h
/-- What the reference's Parse says. -/
theorem parseM_ref (s : Str) : parseM s = if 12 < wcnt (tokM s) then none else match rprs ((tokM s).length + 1) (tokM s) with
    | some (f, []) => some f
    | _ => none := by
  split
  · rename_i hw
    cases hp : parseM s with
    | none => rfl
    | some f =>
      exfalso
      obtain ⟨k, hk⟩ := parseM_inv hp
      have h1 := prsN_wcnt _ _ _ _ _ _ hk
      have h2 := (parseM_sz hp).2
      have h3 : wcnt [] = 0 := rfl
      omega
  · rename_i hw
    unfold parseM
    rw [prsN_rprs _ _ _ (by omega)]
    cases hp : rprs ((tokM s).length + 1) (tokM s) with
    | none => rfl
    | some q =>
      obtain ⟨f, r⟩ := q
      cases r <;> rfl
/-- A node's formula. -/
def AtN (l : List Nd) : Nat → Fm → Prop
  | k, .at_ w => l[k]? = some (w, -1, -1)
  | k, .on_ w f => ∃ a : Nat, l[k]? = some (w, (a : Int), -1) ∧ AtN l a f
  | k, .tw_ w f g => ∃ a b : Nat, l[k]? = some (w, (a : Int), (b : Int)) ∧ AtN l a f ∧ AtN l b g
theorem AtN_app {l r : List Nd} : ∀ (f : Fm) (k : Nat), AtN l k f → AtN (l ++ r) k f := by
  intro f
  induction f with
  | at_ w =>
    intro k h
    exact (List.getElem?_append_left (List.getElem?_eq_some_iff.1 h).1).trans h
  | on_ w f ih =>
    rintro k ⟨a, h1, h2⟩
    exact ⟨a, (List.getElem?_append_left (List.getElem?_eq_some_iff.1 h1).1).trans h1, ih a h2⟩
  | tw_ w f g ihf ihg =>
    rintro k ⟨a, b, h1, h2, h3⟩
    exact ⟨a, b, (List.getElem?_append_left (List.getElem?_eq_some_iff.1 h1).1).trans h1, ihf a h2, ihg b h3⟩
theorem AtN_nodes : ∀ (f : Fm) (p : List Nd), AtN (p ++ nodesN p.length f) (p.length + sizeF f - 1) f := by
  intro f
  induction f with
  | at_ w => intro p; unfold nodesN AtN sizeF; simp
  | on_ w f ih =>
    intro p
    have h1 := ih p
    have hp := sizeF_pos f
    unfold nodesN
    rw [← List.append_assoc]
    refine ⟨p.length + sizeF f - 1, ?_, AtN_app f _ h1⟩
    have hl : (p ++ nodesN p.length f).length = p.length + sizeF (.on_ w f) - 1 := by rw [List.length_append, nodesN_len]; show _ = p.length + (1 + sizeF f) - 1; omega
    rw [← hl]; simp
  | tw_ w f g ihf ihg =>
    intro p
    have h1 := ihf p
    have h2 := ihg (p ++ nodesN p.length f)
    have hpf := sizeF_pos f
    have hpg := sizeF_pos g
    have hl : (p ++ nodesN p.length f).length = p.length + sizeF f := by rw [List.length_append, nodesN_len]
    rw [hl] at h2
    unfold nodesN
    rw [← List.append_assoc, ← List.append_assoc]
    refine ⟨p.length + sizeF f - 1, p.length + sizeF f + sizeF g - 1, ?_, AtN_app f _ (AtN_app f _ h1), AtN_app g _ h2⟩
    have hl2 : (p ++ nodesN p.length f ++ nodesN (p.length + sizeF f) g).length = p.length + sizeF (.tw_ w f g) - 1 := by rw [List.length_append, hl, nodesN_len]; show _ = p.length + (1 + sizeF f + sizeF g) - 1; omega
    rw [← hl2]; simp
end Go.Ltl
