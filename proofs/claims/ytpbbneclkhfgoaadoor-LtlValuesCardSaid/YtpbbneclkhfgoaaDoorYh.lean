/- The search in plain words: first bounds. -/
import Derived.Test.YtpbbneclkhfgoaaDoorYg
namespace Go.Ltl
open Go.W
theorem graph_row {nx : List (List Nat)} {pairs : Nat} {want : List Nat} (hr : ∀ r ∈ nx, r.length ≤ 16) {row : List Nat} (h : row ∈ graphM nx pairs want) : (∀ u ∈ row, u < want.length) ∧ row.length ≤ 16 * want.length := by
  unfold graphM at h
  obtain ⟨v, _, rfl⟩ := List.mem_map.1 h
  refine ⟨fun u hu => ?_, ?_⟩
  · obtain ⟨t, _, hu2⟩ := List.mem_flatMap.1 hu
    exact List.mem_range.1 (List.mem_filter.1 hu2).1
  · have hl : (nx.getD (v / pairs) []).length ≤ 16 := by
      rw [List.getD_eq_getElem?_getD]
      cases hq : nx[v / pairs]? with
      | none => simp
      | some r => exact hr r (List.mem_of_getElem? hq)
    generalize nx.getD (v / pairs) [] = l at hl
    have key : ∀ l : List Nat, (l.flatMap fun t => (List.range want.length).filter fun u => decide (u / pairs = t ∧ want.getD u 0 = v % pairs)).length ≤ l.length * want.length := by
      intro l
      induction l with
      | nil => simp
      | cons t l ih =>
        rw [List.flatMap_cons, List.length_append, List.length_cons, Nat.add_mul]
        have := List.length_filter_le (fun u => decide (u / pairs = t ∧ want.getD u 0 = v % pairs)) (List.range want.length)
        rw [List.length_range] at this
        omega
    exact Nat.le_trans (key l) (Nat.mul_le_mul_right _ hl)
theorem graph_len (nx : List (List Nat)) (pairs : Nat) (want : List Nat) : (graphM nx pairs want).length = want.length := by simp [graphM]
/-- Numbers of states only. -/
def WBd (N : Nat) (s : Bef × List Nat) : Prop := (∀ p ∈ s.1, 0 ≤ p.2 → p.2.toNat < N) ∧ ∀ x ∈ s.2, x < N
theorem addM_bd {N : Nat} {may : Nat → Bool} {par : Int} {s : Bef × List Nat} {u : Nat} (h : WBd N s) (hu : u < N) (hp : 0 ≤ par → par.toNat < N) : WBd N (addM may par s u) := by
  unfold addM
  split
  · refine ⟨fun p hp2 => ?_, fun x hx => ?_⟩
    · rcases List.mem_append.1 hp2 with h1 | h1
      · exact h.1 p h1
      · rw [List.mem_singleton.1 h1]; exact hp
    · rcases List.mem_append.1 hx with h1 | h1
      · exact h.2 x h1
      · rw [List.mem_singleton.1 h1]; exact hu
  · exact h
theorem addsM_bd {N : Nat} {may : Nat → Bool} {par : Int} (hp : 0 ≤ par → par.toNat < N) : ∀ (l : List Nat) (s : Bef × List Nat), WBd N s → (∀ u ∈ l, u < N) → WBd N (l.foldl (addM may par) s) := by
  intro l
  induction l with
  | nil => intro s h _; exact h
  | cons u l ih => intro s h hl; exact ih _ (addM_bd h (hl u (by simp)) hp) (fun x hx => hl x (List.mem_cons_of_mem _ hx))
theorem lkB_mem {B : Bef} {k : Nat} {x : Int} (h : lkB B k = some x) : (k, x) ∈ B := by
  induction B with
  | nil => cases h
  | cons p r ih =>
    unfold lkB at h
    split at h
    · rename_i hk
      simp only [Option.some.injEq] at h
      subst h; subst hk
      exact List.mem_cons_self ..
    · exact List.mem_cons_of_mem _ (ih h)
theorem backM_bd {N : Nat} {B : Bef} (hB : ∀ p ∈ B, 0 ≤ p.2 → p.2.toNat < N) (hN : 0 < N) : ∀ (f v : Nat) (out l : List Nat), (∀ x ∈ out, x < N) → backM B f v out = some l → (∀ x ∈ l, x < N) ∧ l.length ≤ out.length + f := by
  have hlk : ∀ v, 0 ≤ (lkB B v).getD 0 → ((lkB B v).getD 0).toNat < N := by
    intro v h
    cases hq : lkB B v with
    | none => exact hN
    | some x => rw [hq] at h; exact hB _ (lkB_mem hq) h
  intro f
  induction f with
  | zero =>
    intro v out l h1 h
    unfold backM at h
    split at h
    · cases h
    · simp only [Option.some.injEq] at h; rw [← h]; exact ⟨h1, Nat.le_refl _⟩
  | succ f ih =>
    intro v out l h1 h
    unfold backM at h
    split at h
    · rename_i hx
      have := ih _ _ _ (fun x hx2 => by
        rcases List.mem_cons.1 hx2 with h2 | h2
        · rw [h2]; exact hlk v hx
        · exact h1 x h2) h
      exact ⟨this.1, by have := this.2; rw [List.length_cons] at this; omega⟩
    · simp only [Option.some.injEq] at h; rw [← h]; exact ⟨h1, by omega⟩
theorem wayGo_bd {N G : Nat} {next : List (List Nat)} {may fits : Nat → Bool} (hnext : ∀ v, ∀ u ∈ next.getD v [], u < N) : ∀ (f : Nat) (s : Bef × List Nat) (l : List Nat), WBd N s → wayGo G next may fits f s = some (some l) → (∀ x ∈ l, x < N) ∧ l.length ≤ 1 + G := by
  intro f
  induction f with
  | zero =>
    intro s l hs h
    obtain ⟨B, q⟩ := s
    cases q <;> (unfold wayGo at h; simp at h)
  | succ f ih =>
    intro s l hs h
    obtain ⟨B, q⟩ := s
    cases q with
    | nil => unfold wayGo at h; simp at h
    | cons v q =>
      have hv : v < N := hs.2 v (by simp)
      unfold wayGo at h
      split at h
      · obtain ⟨l', h1, h2⟩ := Option.map_eq_some_iff.1 h
        simp only [Option.some.injEq] at h2
        subst h2
        exact backM_bd hs.1 (by omega) _ _ _ _ (fun x hx => by rw [List.mem_singleton.1 hx]; exact hv) h1
      · exact ih _ l (addsM_bd (par := ((v : Nat) : Int)) (fun _ => by rw [Int.toNat_natCast]; exact hv) _ (B, q) ⟨hs.1, fun x hx => hs.2 x (List.mem_cons_of_mem _ hx)⟩ (hnext v)) h
theorem wayM_bd {N G : Nat} {next : List (List Nat)} {start : List Nat} {may fits : Nat → Bool} {l : List Nat} (hnext : ∀ v, ∀ u ∈ next.getD v [], u < N) (hst : ∀ u ∈ start, u < N) (h : wayM G next start may fits = some (some l)) : (∀ x ∈ l, x < N) ∧ l.length ≤ 1 + G :=
  wayGo_bd hnext _ _ _ (addsM_bd (fun h => absurd h (by decide)) _ _ ⟨fun p hp => (by cases hp), fun x hx => (by cases hx)⟩ hst) h
/-- What is seen stays small. -/
theorem seenM_lt {fair : List Nat} (hf : ∀ x ∈ fair, x < 2 ^ 40) : ∀ (part : List Nat) (s : Nat), s < 2 ^ 40 → seenM fair s part < 2 ^ 40 := by
  intro part
  induction part with
  | nil => intro s hs; exact hs
  | cons v part ih =>
    intro s hs
    refine ih _ (Nat.or_lt_two_pow hs ?_)
    rw [List.getD_eq_getElem?_getD]
    cases hq : fair[v]? with
    | none => decide
    | some x => exact hf x (List.mem_of_getElem? hq)
theorem getD_lt40 {fair : List Nat} (hf : ∀ x ∈ fair, x < 2 ^ 40) (v : Nat) : fair.getD v 0 < 2 ^ 40 := by
  rw [List.getD_eq_getElem?_getD]
  cases hq : fair[v]? with
  | none => decide
  | some x => exact hf x (List.mem_of_getElem? hq)
theorem fairC_lt {of_ fair : List Nat} (hf : ∀ x ∈ fair, x < 2 ^ 40) (c : Nat) : ∀ m, fairC of_ fair m c < 2 ^ 40 := by
  intro m
  induction m with
  | zero => show 0 < 2 ^ 40; decide
  | succ m ih =>
    unfold fairC
    split
    · exact Nat.or_lt_two_pow ih (getD_lt40 hf m)
    · exact ih
/-- Edges within a component, the last state looked at in part. -/
def turnP (of_ : List Nat) (next : List (List Nat)) (m j c : Nat) : Bool := if of_.getD m 0 = c then turnC of_ next m c || ((next.getD m []).take j).any (fun u => of_.getD u 0 = c) else turnC of_ next m c
theorem turnP_zero (of_ : List Nat) (next : List (List Nat)) (m c : Nat) : turnP of_ next m 0 c = turnC of_ next m c := by unfold turnP; simp
theorem turnP_all (of_ : List Nat) (next : List (List Nat)) (m c j : Nat) (h : (next.getD m []).length ≤ j) : turnP of_ next m j c = turnC of_ next (m + 1) c := by
  unfold turnP
  rw [List.take_of_length_le h]
  conv => rhs; unfold turnC
theorem turnP_succ (of_ : List Nat) (next : List (List Nat)) (m j c u : Nat) (h : (next.getD m [])[j]? = some u) : turnP of_ next m (j + 1) c = if c = of_.getD m 0 then turnP of_ next m j c || decide (of_.getD u 0 = of_.getD m 0) else turnP of_ next m j c := by
  unfold turnP
  obtain ⟨h1, h2⟩ := List.getElem?_eq_some_iff.1 h
  by_cases hc : of_.getD m 0 = c
  · rw [if_pos hc, if_pos hc.symm, if_pos hc, List.take_succ_eq_append_getElem h1, List.any_append, h2, hc, Bool.or_assoc]
    simp
  · rw [if_neg hc, if_neg (fun h => hc h.symm), if_neg hc]
end Go.Ltl
