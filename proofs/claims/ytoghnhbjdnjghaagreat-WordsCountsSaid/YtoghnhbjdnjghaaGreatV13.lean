/- Lists in strict order, in plain words: what sorting and removing doubles gives, what the placement of a rule gives. -/
import Derived.Test.YtoghnhbjdnjghaaGreatV12
namespace Go.Words
open Go.W Go.Sort Go.Proofs.YtoghnhbjdnjghaaGreat
theorem ordR_neg (a b : Rl) : ordR b a = - ordR a b := by
  unfold ordR
  have h1 := ordS_neg a.1 b.1
  have h2 := ordS_neg a.2 b.2
  by_cases h : ordS a.1 b.1 = 0
  · rw [if_pos h, if_pos (by omega), h2]
  · rw [if_neg h, if_neg (by omega), h1]
theorem ordR_trans {a b c : Rl} (h : ordR a b < 0) (k : ordR b c < 0) : ordR a c < 0 := by
  unfold ordR at *
  by_cases h1 : ordS a.1 b.1 = 0
  · rw [if_pos h1] at h
    have e1 := ordS_zero h1
    by_cases h2 : ordS b.1 c.1 = 0
    · rw [if_pos h2] at k
      rw [if_pos (by rw [e1]; exact h2)]
      exact ordS_trans h k
    · rw [if_neg h2] at k
      rw [e1, if_neg h2]
      exact k
  · rw [if_neg h1] at h
    by_cases h2 : ordS b.1 c.1 = 0
    · have e2 := ordS_zero h2
      rw [← e2, if_neg h1]
      exact h
    · rw [if_neg h2] at k
      have := ordS_trans h k
      rw [if_neg (by omega)]
      exact this
theorem ordR_swo : SWO (ltO ordR) where
  irrefl := fun x => by unfold ltO; rw [ordR_self]; rfl
  trans := fun x y z h k => by
    unfold ltO at *
    exact decide_eq_true (ordR_trans (of_decide_eq_true h) (of_decide_eq_true k))
  ntrans := fun x y z h k => by
    unfold ltO at *
    have h := of_decide_eq_false h
    have k := of_decide_eq_false k
    refine decide_eq_false fun hz => ?_
    have n1 := ordR_neg x y
    have n2 := ordR_neg y z
    rcases Int.lt_trichotomy (ordR x y) 0 with h1 | h1 | h1
    · omega
    · rw [ordR_zero h1] at hz; omega
    · exact k (ordR_trans (by omega) hz)
/-- In strict order. -/
abbrev Ss (l : List Rl) : Prop := l.Pairwise fun a b => ordR a b < 0
theorem Ss.nodup {l : List Rl} (h : Ss l) : l.Nodup := by
  refine List.nodup_iff_pairwise_ne.2 (List.Pairwise.imp ?_ h)
  intro a b hab e
  rw [e, ordR_self] at hab
  exact absurd hab (by decide)
theorem Ss.at_ {l : List Rl} (h : Ss l) {p q : Nat} (hp : p < l.length) (hq : q < l.length) (hpq : p < q) : ordR l[p] l[q] < 0 := List.pairwise_iff_getElem.1 h p q hp hq hpq
theorem Ss.mo {l : List Rl} (h : Ss l) (r : Rl) : Mo l r := by
  intro p q hq hp hpq hr
  rcases Nat.lt_or_eq_of_le hpq with h1 | rfl
  · exact ordR_trans (h.at_ hp hq h1) hr
  · exact hr
theorem Ss.erase {l : List Rl} (h : Ss l) (i : Nat) : Ss (l.eraseIdx i) := h.sublist (List.eraseIdx_sublist _ _)
theorem posK_lt : ∀ (l : List Rl) (r : Rl) (q : Nat) (h : q < l.length), q < posK l r → ordR l[q] r < 0 := by
  intro l r
  induction l with
  | nil => intro q h; simp at h
  | cons x l ih =>
    intro q h hq
    unfold posK at hq
    rw [List.takeWhile_cons] at hq
    split at hq
    · rename_i hx
      cases q with
      | zero => exact of_decide_eq_true hx
      | succ q => exact ih q (by simpa using h) (by unfold posK; simpa using hq)
    · simp at hq
theorem posK_ge : ∀ (l : List Rl) (r : Rl) (h : posK l r < l.length), ¬ ordR l[posK l r] r < 0 := by
  intro l r
  induction l with
  | nil => intro h; simp at h
  | cons x l ih =>
    intro h
    by_cases hx : ordR x r < 0
    · have e1 : posK (x :: l) r = posK l r + 1 := by
        unfold posK
        rw [List.takeWhile_cons, if_pos (by simpa using hx)]
        rfl
      rw [e1] at h
      have := ih (by simpa using h)
      simp only [e1]
      exact this
    · have e1 : posK (x :: l) r = 0 := by
        unfold posK
        rw [List.takeWhile_cons, if_neg (by simpa using hx)]
        rfl
      simp only [e1]
      exact hx
theorem Ss.ge {l : List Rl} (hs : Ss l) (r : Rl) {q : Nat} (h : q < l.length) (hq : posK l r ≤ q) : ¬ ordR l[q] r < 0 := fun hl =>
  posK_ge l r (by omega) (hs.mo r _ _ h (by omega) hq hl)
theorem mem_putM {l : List Rl} {r y : Rl} : y ∈ putM l r ↔ y ∈ l ∨ y = r := by
  unfold putM
  split
  · rename_i h
    have := List.mem_of_getElem? h
    exact ⟨.inl, fun h => by rcases h with h | rfl; exact h; exact this⟩
  · unfold insL
    rw [List.mem_append, List.mem_cons]
    conv => rhs; rw [← List.take_append_drop (posK l r) l, List.mem_append]
    constructor
    · rintro (h | h | h)
      · exact .inl (.inl h)
      · exact .inr h
      · exact .inl (.inr h)
    · rintro ((h | h) | h)
      · exact .inl h
      · exact .inr (.inr h)
      · exact .inr (.inl h)
theorem putM_len (l : List Rl) (r : Rl) : (putM l r).length ≤ l.length + 1 := by
  unfold putM
  split
  · omega
  · rw [insL_len l _ r (posK_le l r)]; exact Nat.le_refl _
theorem putM_ss {l : List Rl} (hs : Ss l) (r : Rl) : Ss (putM l r) := by
  unfold putM
  split
  · exact hs
  · rename_i hne
    unfold insL
    have hA : ∀ a ∈ l.take (posK l r), ordR a r < 0 := by
      intro a ha
      obtain ⟨q, hq, rfl⟩ := List.mem_take_iff_getElem.1 ha
      exact posK_lt l r q (by omega) (by omega)
    have hB : ∀ b ∈ l.drop (posK l r), ordR r b < 0 := by
      intro b hb
      obtain ⟨j, hj, hjk, rfl⟩ : ∃ j, ∃ h : j < l.length, posK l r ≤ j ∧ l[j] = b := by
        obtain ⟨q, hq, hqb⟩ := List.mem_drop_iff_getElem.1 hb
        exact ⟨posK l r + q, by omega, by omega, hqb⟩
      have h1 := hs.ge r hj hjk
      have n1 := ordR_neg l[j] r
      rcases Int.lt_trichotomy (ordR l[j] r) 0 with h2 | h2 | h2
      · exact absurd h2 h1
      · have e1 := ordR_zero h2
        rcases Nat.lt_or_eq_of_le hjk with h4 | h4
        · have h3 := hs.at_ (by omega) hj h4
          rw [e1] at h3
          exact absurd h3 (posK_ge l r (by omega))
        · exact absurd (by rw [h4, List.getElem?_eq_getElem hj]; exact congrArg some e1) hne
      · omega
    rw [Ss, List.pairwise_append, List.pairwise_cons]
    refine ⟨hs.sublist (List.take_sublist _ _), ⟨hB, hs.sublist (List.drop_sublist _ _)⟩, ?_⟩
    intro a ha b hb
    rcases List.mem_cons.1 hb with rfl | hb
    · exact hA a ha
    · exact ordR_trans (hA a ha) (hB b hb)
theorem Ss.uniq : ∀ {l m : List Rl}, Ss l → Ss m → (∀ y, y ∈ l ↔ y ∈ m) → l = m := by
  intro l
  induction l with
  | nil =>
    intro m _ _ h
    cases m with
    | nil => rfl
    | cons y m => exact absurd ((h y).2 (by simp)) (by simp)
  | cons x l ih =>
    intro m hl hm h
    cases m with
    | nil => exact absurd ((h x).1 (by simp)) (by simp)
    | cons y m =>
      have hl' := List.pairwise_cons.1 hl
      have hm' := List.pairwise_cons.1 hm
      have hxy : x = y := by
        rcases List.mem_cons.1 ((h x).1 (by simp)) with h1 | h1
        · exact h1
        · rcases List.mem_cons.1 ((h y).2 (by simp)) with h2 | h2
          · exact h2.symm
          · have k1 := hm'.1 x h1
            have k2 := hl'.1 y h2
            have := ordR_neg x y
            omega
      subst hxy
      congr 1
      refine ih hl'.2 hm'.2 fun z => ?_
      constructor
      · intro hz
        rcases List.mem_cons.1 ((h z).1 (by simp [hz])) with rfl | h1
        · have := hl'.1 z hz
          rw [ordR_self] at this
          exact absurd this (by decide)
        · exact h1
      · intro hz
        rcases List.mem_cons.1 ((h z).2 (by simp [hz])) with rfl | h1
        · have := hm'.1 z hz
          rw [ordR_self] at this
          exact absurd this (by decide)
        · exact h1
/-- The reference's way: one rule after the other is put in. -/
def srtM (l : List Rl) : List Rl := l.foldl putM []
theorem fold_ss : ∀ (l a : List Rl), Ss a → Ss (l.foldl putM a) ∧ ∀ y, y ∈ l.foldl putM a ↔ y ∈ a ∨ y ∈ l := by
  intro l
  induction l with
  | nil => intro a h; exact ⟨h, fun y => by simp⟩
  | cons x l ih =>
    intro a h
    obtain ⟨h1, h2⟩ := ih (putM a x) (putM_ss h x)
    refine ⟨h1, fun y => ?_⟩
    show y ∈ l.foldl putM (putM a x) ↔ _
    rw [h2, mem_putM, List.mem_cons]
    constructor
    · rintro ((h | h) | h)
      · exact .inl h
      · exact .inr (.inl h)
      · exact .inr (.inr h)
    · rintro (h | h | h)
      · exact .inl (.inl h)
      · exact .inl (.inr h)
      · exact .inr h
theorem srtM_ss (l : List Rl) : Ss (srtM l) := (fold_ss l [] List.Pairwise.nil).1
theorem mem_srtM {l : List Rl} {y : Rl} : y ∈ srtM l ↔ y ∈ l := by
  rw [srtM, (fold_ss l [] List.Pairwise.nil).2]
  simp
end Go.Words
namespace Go.Words
open Go.W Go.Sort Go.Proofs.YtoghnhbjdnjghaaGreat Go.Lib
theorem range_pw (n : Nat) : (List.range n).Pairwise (· < ·) := List.pairwise_lt_range
/-- What sorting and removing neighbours that are equal leaves. -/
theorem compact_srt {l : List Rl} {n : Nat} {d0 d : Array Rl} (h0 : d0.toList = l) (hn : d0.size = n) (hP : PermIn 0 n d0 d) (hS : SortedIn (ltO ordR) 0 n d) : compactUpTo d n = srtM l := by
  have hsz : d.size = n := hP.1.trans hn
  have hperm : d.toList.Perm l := by
    have := hP.2.2
    rw [← h0]
    have e1 : d.extract 0 n = d := by rw [← hsz]; exact Array.extract_size
    have e2 : d0.extract 0 n = d0 := by rw [← hn]; exact Array.extract_size
    rw [e1, e2] at this
    exact this
  have hle : ∀ i j, i < j → j < n → ¬ ordR d[j]! d[i]! < 0 := fun i j hij hj => of_decide_eq_false (hS i j (Nat.zero_le _) hij hj)
  have hmemd : ∀ y, y ∈ d.toList ↔ ∃ m, m < n ∧ d[m]! = y := by
    intro y
    constructor
    · intro hy
      obtain ⟨m, hm, rfl⟩ := List.mem_iff_getElem.1 hy
      have hm' : m < d.size := by simpa using hm
      exact ⟨m, by omega, by rw [getElem!_pos d m hm', Array.getElem_toList]⟩
    · rintro ⟨m, hm, rfl⟩
      rw [getElem!_pos d m (by omega)]
      exact Array.getElem_mem_toList _
  refine Ss.uniq ?_ (srtM_ss l) ?_
  · unfold compactUpTo
    rw [Ss, List.pairwise_map]
    refine List.Pairwise.imp_of_mem ?_ ((range_pw n).filter _)
    intro i j hi hj hij
    have hi := (List.mem_filter.1 hi)
    have hj := (List.mem_filter.1 hj)
    have hjn : j < n := List.mem_range.1 hj.1
    have hk := hj.2
    unfold keeps at hk
    have hk := of_decide_eq_true hk
    have hne : d[j]! ≠ d[j - 1]! := by rcases hk with h | h; omega; exact h
    have h1 : ordR d[j - 1]! d[j]! < 0 := by
      have a1 := hle (j - 1) j (by omega) hjn
      have n1 := ordR_neg d[j - 1]! d[j]!
      rcases Int.lt_trichotomy (ordR d[j - 1]! d[j]!) 0 with h | h | h
      · exact h
      · exact absurd (ordR_zero h).symm hne
      · omega
    rcases Nat.lt_or_eq_of_le (show i ≤ j - 1 by omega) with h | h
    · have a2 := hle i (j - 1) h (by omega)
      have n2 := ordR_neg d[i]! d[j - 1]!
      rcases Int.lt_trichotomy (ordR d[i]! d[j - 1]!) 0 with h3 | h3 | h3
      · exact ordR_trans h3 h1
      · rw [ordR_zero h3]; exact h1
      · omega
    · rw [h]; exact h1
  · intro y
    rw [mem_srtM, ← hperm.mem_iff, hmemd]
    unfold compactUpTo
    rw [List.mem_map]
    constructor
    · rintro ⟨m, hm, rfl⟩
      exact ⟨m, List.mem_range.1 (List.mem_filter.1 hm).1, rfl⟩
    · rintro ⟨m, hm, hmy⟩
      have key : ∀ m, m < n → ∃ q, q ∈ (List.range n).filter (keeps d) ∧ d[q]! = d[m]! := by
        intro m
        induction m with
        | zero => intro h; exact ⟨0, List.mem_filter.2 ⟨List.mem_range.2 h, keeps_lt_one d 0 (by decide)⟩, rfl⟩
        | succ m ih =>
          intro h
          by_cases he : d[m + 1]! = d[m]!
          · obtain ⟨q, hq, hqe⟩ := ih (by omega)
            exact ⟨q, hq, by rw [hqe, he]⟩
          · exact ⟨m + 1, List.mem_filter.2 ⟨List.mem_range.2 h, keeps_pos he⟩, rfl⟩
      obtain ⟨q, hq, hqe⟩ := key m hm
      exact ⟨q, hq, by rw [hqe, hmy]⟩
/-- A list made tidy; no more than k moves. -/
def tidyN : Nat → List Rl → Option (List Rl)
  | 0, l => match nextI l with
    | none => some l
    | some _ => none
  | k + 1, l => match nextI l with
    | none => some l
    | some i => match formsM (l.eraseIdx i) (l.getD i ([], [])) with
      | none => none
      | some q => tidyN k (if q.1 = q.2 then l.eraseIdx i else putM (l.eraseIdx i) (dirM q.1 q.2))
def tidyM (l : List Rl) : Option (List Rl) := tidyN 2000 (srtM l)
end Go.Words
