/- Rules all whose pairs meet have one normal form for each class of strings. -/
import Derived.Test.YtoghnhbjdnjghaaXa
namespace Go.Words
open Go.W

theorem mem_pairsM {l : List Rl} {i k : Nat} (hi : i < l.length) (hk : k < l.length) {p : Rl} (h : p ∈ overM l[i] l[k] (i == k)) : p ∈ pairsM l := by
  unfold pairsM
  rw [List.mem_flatMap]
  refine ⟨i, List.mem_range.2 hi, ?_⟩
  unfold pairsI
  rw [List.mem_flatMap]
  refine ⟨k, List.mem_range.2 hk, ?_⟩
  rw [List.getD_eq_getElem?_getD, List.getD_eq_getElem?_getD, List.getElem?_eq_getElem hi, List.getElem?_eq_getElem hk]
  exact h
theorem overA_mem {a b : Rl} {same : Bool} {z q q' : Str} (ha : a.1 = z ++ q) (hb : b.1 = q ++ q') (hq : q ≠ []) (hs : same = true → z ≠ []) :
    (a.2 ++ q', z ++ b.2) ∈ overM a b same := by
  have hql := List.length_pos_iff.2 hq
  unfold overM
  rw [List.mem_append]
  left
  rw [List.mem_flatMap]
  refine ⟨q.length - 1, ?_, ?_⟩
  · rw [List.mem_range, ha, hb, List.length_append, List.length_append]; omega
  · unfold overA
    have hk : q.length - 1 + 1 = q.length := by omega
    have ht : b.1.take q.length = q := by rw [hb, List.take_left]
    have hdr : b.1.drop q.length = q' := by rw [hb, List.drop_left]
    rw [hk, ht, hdr]
    have hc : (q.isSuffixOf a.1 && !(same && q.length == a.1.length)) = true := by
      rw [Bool.and_eq_true]
      constructor
      · rw [List.isSuffixOf_iff_suffix, ha]; exact List.suffix_append _ _
      · cases same with
        | false => rfl
        | true =>
          have hz := List.length_pos_iff.2 (hs rfl)
          rw [ha, List.length_append, Bool.true_and, Bool.not_eq_true', beq_eq_false_iff_ne]
          omega
    rw [if_pos hc]
    have e1 : replM (a.1 ++ q') 0 a = a.2 ++ q' := by
      unfold replM
      rw [List.take_zero, List.nil_append, Nat.zero_add, List.drop_left]
    have e2 : replM (a.1 ++ q') (a.1.length - q.length) b = z ++ b.2 := by
      have hl : a.1.length - q.length = z.length := by rw [ha, List.length_append]; omega
      unfold replM
      rw [hl, ha, List.append_assoc, List.take_left, ← List.drop_drop, List.drop_left, hb, List.drop_length, List.append_nil]
    rw [e1, e2]
    exact List.mem_singleton.2 rfl
theorem overC_mem {a b : Rl} {z q' : Str} (ha : a.1 = z ++ (b.1 ++ q')) (hz : z ≠ []) (hq : q' ≠ []) : (a.2, z ++ (b.2 ++ q')) ∈ overM a b false := by
  have h1 := List.length_pos_iff.2 hz
  have h2 := List.length_pos_iff.2 hq
  unfold overM
  rw [List.mem_append]
  right
  rw [if_neg (by decide), List.mem_flatMap]
  refine ⟨z.length - 1, ?_, ?_⟩
  · rw [List.mem_range, ha, List.length_append, List.length_append]; omega
  · unfold overC
    have hk : z.length - 1 + 1 = z.length := by omega
    have hd : a.1.drop z.length = b.1 ++ q' := by rw [ha, List.drop_left]
    rw [hk, hd, if_pos (List.isPrefixOf_iff_prefix.2 (List.prefix_append _ _))]
    have e : replM a.1 z.length b = z ++ (b.2 ++ q') := by
      unfold replM
      rw [← List.drop_drop, hd, List.drop_left, ha, List.take_left]
    rw [e]
    exact List.mem_singleton.2 rfl

theorem overlap {l : List Rl} (hp : ∀ p ∈ pairsM l, Jn l p.1 p.2) {r1 r2 : Rl} (h1 : r1 ∈ l) (h2 : r2 ∈ l) {z q q' : Str} (ha : r1.1 = z ++ q) (hb : r2.1 = q ++ q') (hq : q ≠ []) :
    Jn l (r1.2 ++ q') (z ++ r2.2) := by
  obtain ⟨i, hi, rfl⟩ := List.mem_iff_getElem.1 h1
  obtain ⟨j, hj, rfl⟩ := List.mem_iff_getElem.1 h2
  by_cases hs : (i == j) = true ∧ z = []
  · obtain ⟨hij, rfl⟩ := hs
    obtain rfl := eq_of_beq hij
    rw [List.nil_append] at ha
    have : q' = [] := by
      rw [ha] at hb
      exact (List.append_right_eq_self.1 hb.symm)
    rw [this, List.append_nil, List.nil_append]
    exact .refl _
  · exact hp _ (mem_pairsM hi hj (overA_mem ha hb hq (fun h hz => hs ⟨h, hz⟩)))
theorem critical {l : List Rl} (hd : Dc l) (hp : ∀ p ∈ pairsM l, Jn l p.1 p.2) {r1 r2 : Rl} (h1 : r1 ∈ l) (h2 : r2 ∈ l) {z y1 y2 : Str} (he : r1.1 ++ y1 = z ++ (r2.1 ++ y2)) :
    Jn l (r1.2 ++ y1) (z ++ (r2.2 ++ y2)) := by
  have disj : ∀ (u0 : Str), z = r1.1 ++ u0 → y1 = u0 ++ (r2.1 ++ y2) → Jn l (r1.2 ++ y1) (z ++ (r2.2 ++ y2)) := by
    rintro u0 rfl rfl
    refine ⟨r1.2 ++ (u0 ++ (r2.2 ++ y2)), Sts.one ⟨r1.2 ++ u0, r2, y2, h2, by simp, by simp⟩, Sts.one ⟨[], r1, u0 ++ (r2.2 ++ y2), h1, by simp, by simp⟩⟩
  rcases List.append_eq_append_iff.1 he with ⟨u0, hz, hy⟩ | ⟨bs, hr, hy⟩
  · exact disj u0 hz hy
  · by_cases hb : bs = []
    · subst hb
      exact disj [] (by simpa using hr.symm) (by simpa using hy.symm)
    · have over : ∀ (cs : Str), r2.1 = bs ++ cs → y1 = cs ++ y2 → Jn l (r1.2 ++ y1) (z ++ (r2.2 ++ y2)) := by
        rintro cs h3 rfl
        have := (overlap hp h1 h2 hr h3 hb).ctx [] y2
        simpa using this
      rcases List.append_eq_append_iff.1 hy with ⟨u0, h3, h4⟩ | ⟨cs, h3, h4⟩
      · by_cases ha : u0 = []
        · subst ha
          exact over [] (by simpa using h3.symm) (by simpa using h4.symm)
        · subst h4
          by_cases hz : z = []
          · subst hz
            have hne := hd.ne h2
            have := (overlap hp h2 h1 (z := []) (q := r2.1) (q' := u0) (by simp) (by rw [hr, h3]; simp) hne).symm.ctx [] y1
            simpa using this
          · obtain ⟨i, hi, hri⟩ := List.mem_iff_getElem.1 h1
            obtain ⟨j, hj, hrj⟩ := List.mem_iff_getElem.1 h2
            have hij : (i == j) = false := by
              rw [beq_eq_false_iff_ne]
              rintro rfl
              have h12 : r1 = r2 := by rw [← hri, ← hrj]
              have hl := congrArg List.length hr
              rw [h3, h12] at hl
              simp only [List.length_append] at hl
              have := List.length_pos_iff.2 hz
              omega
            have hm : (r1.2, z ++ (r2.2 ++ u0)) ∈ pairsM l := by
              refine mem_pairsM hi hj ?_
              rw [hij, hri, hrj]
              exact overC_mem (by rw [hr, h3]) hz ha
            have := (hp _ hm).ctx [] y1
            simpa using this
      · exact over cs h3 h4
theorem local_conf {l : List Rl} (hd : Dc l) (hp : ∀ p ∈ pairsM l, Jn l p.1 p.2) (s t u : Str) (h : Stp l s t) (k : Stp l s u) : Jn l t u := by
  obtain ⟨x1, r1, y1, h1, rfl, rfl⟩ := h
  obtain ⟨x2, r2, y2, h2, he, rfl⟩ := k
  rcases List.append_eq_append_iff.1 he with ⟨u0, h3, h4⟩ | ⟨bs, h3, h4⟩
  · subst h3
    have := (critical hd hp h1 h2 h4).ctx x1 []
    simpa using this
  · subst h3
    have := (critical hd hp h2 h1 h4).symm.ctx x2 []
    simpa using this
theorem confluent {l : List Rl} (hd : Dc l) (hp : ∀ p ∈ pairsM l, Jn l p.1 p.2) {s t : Str} (h : Cg l s t) : Jn l s t := church hd (local_conf hd hp) h

/-! ### What normal forms say -/
theorem formsM_sts {l : List Rl} {p q : Rl} (h : formsM l p = some q) : Sts l p.1 q.1 ∧ Sts l p.2 q.2 ∧ firstM l q.1 = none ∧ firstM l q.2 = none := by
  unfold formsM at h
  split at h
  · rename_i a b ha hb
    obtain rfl := Option.some.inj h
    obtain ⟨a1, a2, _⟩ := normM_sts (t := a.1) (m := a.2) ha
    obtain ⟨b1, b2, _⟩ := normM_sts (t := b.1) (m := b.2) hb
    exact ⟨a1, b1, a2, b2⟩
  · cases h
theorem clashN_all {l : List Rl} : ∀ (ps : List Rl) (i : Nat), clashN l ps i = some (-1) → ∀ p ∈ ps, ∃ q, formsM l p = some q ∧ q.1 = q.2 := by
  intro ps
  induction ps with
  | nil => intro i _ p hp; cases hp
  | cons x ps ih =>
    intro i h p hp
    rw [clashN] at h
    cases hf : formsM l x with
    | none => rw [hf] at h; cases h
    | some q =>
      rw [hf] at h
      simp only at h
      split at h
      · rename_i he
        rcases List.mem_cons.1 hp with rfl | hp
        · exact ⟨q, hf, he⟩
        · exact ih _ h p hp
      · simp only [Option.some.injEq] at h; omega
theorem clashN_neg {l : List Rl} : ∀ (ps : List Rl) (i : Nat) (n : Int), clashN l ps i = some n → n < 0 → n = -1 := by
  intro ps
  induction ps with
  | nil => intro i n h _; exact (Option.some.inj h).symm
  | cons x ps ih =>
    intro i n h hn
    rw [clashN] at h
    cases hf : formsM l x with
    | none => rw [hf] at h; cases h
    | some q =>
      rw [hf] at h
      simp only at h
      split at h
      · exact ih _ _ h hn
      · simp only [Option.some.injEq] at h; omega
/-- No pair has two normal forms. -/
def Cf (l : List Rl) : Prop := ∀ p ∈ pairsM l, ∃ q, formsM l p = some q ∧ q.1 = q.2
theorem Cf.jn {l : List Rl} (h : Cf l) : ∀ p ∈ pairsM l, Jn l p.1 p.2 := by
  intro p hp
  obtain ⟨q, hq, he⟩ := h p hp
  obtain ⟨h1, h2, _⟩ := formsM_sts hq
  exact ⟨q.1, h1, by rw [he]; exact h2⟩
theorem Cf.uniq {l : List Rl} (hd : Dc l) (h : Cf l) {s t : Str} (hc : Cg l s t) (hs : firstM l s = none) (ht : firstM l t = none) : s = t :=
  (firstM_nf hd hs).jn (firstM_nf hd ht) (confluent hd h.jn hc)
theorem Cf.of_clash {l : List Rl} {n : Int} (h : clashM l = some n) (hn : n < 0) : Cf l := by
  unfold clashM at h
  rw [clashN_neg _ _ _ h hn] at h
  exact clashN_all _ _ h
end Go.Words
