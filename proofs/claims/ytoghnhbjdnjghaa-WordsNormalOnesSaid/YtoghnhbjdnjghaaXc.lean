/- Completion in plain words: the strings that are equal stay so, every rule goes down, and what a confluent system says. -/
import Derived.Test.YtoghnhbjdnjghaaV17
import Derived.Test.YtoghnhbjdnjghaaXb
namespace Go.Words
open Go.W Go.Sort Go.Proofs.Ytoghnhbjdnjghaa

/-- The same strings are equal. -/
def Ceq (l m : List Rl) : Prop := ∀ s t, Cg l s t ↔ Cg m s t
theorem Ceq.of {l m : List Rl} (h : ∀ r ∈ l, Cg m r.1 r.2) (k : ∀ r ∈ m, Cg l r.1 r.2) : Ceq l m := fun _ _ => ⟨fun c => c.map h, fun c => c.map k⟩
theorem Ceq.trans {l m n : List Rl} (h : Ceq l m) (k : Ceq m n) : Ceq l n := fun s t => (h s t).trans (k s t)
theorem Ceq.symm {l m : List Rl} (h : Ceq l m) : Ceq m l := fun s t => (h s t).symm
theorem dirM_cg {m : List Rl} {a b : Str} : Cg m (dirM a b).1 (dirM a b).2 ↔ Cg m a b := by
  unfold dirM
  split
  · exact ⟨fun h => h.symm, fun h => h.symm⟩
  · exact Iff.rfl
theorem dirM_dc {a b : Str} (h : a ≠ b) : ordS (dirM a b).2 (dirM a b).1 < 0 := by
  unfold dirM
  split
  · rename_i h1; exact h1
  · rename_i h1
    have h2 := ordS_neg a b
    have h3 : ordS a b ≠ 0 := fun h4 => h (ordS_zero h4)
    show ordS b a < 0
    omega
theorem dirM_dg {off b : Nat} {x y : Str} (hx : Dg off b x) (hy : Dg off b y) : Dg off b (dirM x y).1 ∧ Dg off b (dirM x y).2 := by
  unfold dirM
  split
  · exact ⟨hy, hx⟩
  · exact ⟨hx, hy⟩
theorem mem_erase_get {l : List Rl} {i : Nat} (hi : i < l.length) {r : Rl} (h : r ∈ l) : r ∈ l.eraseIdx i ∨ r = l[i] := by
  obtain ⟨j, hj, rfl⟩ := List.mem_iff_getElem.1 h
  by_cases he : j = i
  · subst he; exact .inr rfl
  · left
    rw [List.mem_eraseIdx_iff_getElem]
    exact ⟨j, hj, he, rfl⟩
/-- What a list of rules keeps while it is completed. -/
structure Kp3 (off b : Nat) (l : List Rl) : Prop where
  dc : Dc l
  lg : Lg off b l
theorem tidyN_cg {off b : Nat} : ∀ (k : Nat) (l t : List Rl), tidyN k l = some t → Kp3 off b l → Kp3 off b t ∧ Ceq l t := by
  intro k
  induction k with
  | zero =>
    intro l t h hK
    cases hn : nextI l with
    | none =>
      rw [tidyN_none hn] at h
      obtain rfl := Option.some.inj h
      exact ⟨hK, fun _ _ => Iff.rfl⟩
    | some i => rw [tidyN_out hn] at h; cases h
  | succ k ih =>
    intro l t h hK
    cases hn : nextI l with
    | none =>
      rw [tidyN_none hn] at h
      obtain rfl := Option.some.inj h
      exact ⟨hK, fun _ _ => Iff.rfl⟩
    | some i =>
      have hi := nextI_lt hn
      rw [tidyN_go hn hi] at h
      have hmem : ∀ r ∈ l.eraseIdx i, r ∈ l := fun r hr => List.mem_of_mem_eraseIdx hr
      have hd2 : Dc (l.eraseIdx i) := fun r hr => hK.dc r (hmem r hr)
      have hl2 : Lg off b (l.eraseIdx i) := fun r hr => hK.lg r (hmem r hr)
      cases hf : formsM (l.eraseIdx i) l[i] with
      | none => rw [hf] at h; cases h
      | some q =>
        obtain ⟨s1, s2, _, _⟩ := formsM_sts hf
        rw [hf] at h
        simp only at h
        have key : ∀ m : List Rl, (∀ r ∈ l.eraseIdx i, r ∈ m) → Cg m q.1 q.2 → ∀ r ∈ l, Cg m r.1 r.2 := by
          intro m hm hq r hr
          rcases mem_erase_get hi hr with h1 | rfl
          · exact Cg.of_mem (hm r h1)
          · have up : ∀ {s t}, Sts (l.eraseIdx i) s t → Cg m s t := fun h => h.cg.map fun r hr => Cg.of_mem (hm r hr)
            exact (up s1).trans (hq.trans (up s2).symm)
        have hql : Cg l q.1 q.2 := by
          have up : ∀ {s t}, Sts (l.eraseIdx i) s t → Cg l s t := fun h => h.cg.map fun r hr => Cg.of_mem (hmem r hr)
          exact (up s1).symm.trans ((Cg.of_mem (List.getElem_mem hi)).trans (up s2))
        have hqd : Dg off b q.1 ∧ Dg off b q.2 := by
          have := hK.lg l[i] (List.getElem_mem hi)
          exact ⟨s1.dg hl2 this.1, s2.dg hl2 this.2⟩
        by_cases he : q.1 = q.2
        · rw [if_pos he] at h
          obtain ⟨k1, k2⟩ := ih _ _ h ⟨hd2, hl2⟩
          refine ⟨k1, Ceq.trans (Ceq.of (key _ (fun r hr => hr) (by rw [he]; exact .rfl _)) (fun r hr => Cg.of_mem (hmem r hr))) k2⟩
        · rw [if_neg he] at h
          have hd3 : Dc (putM (l.eraseIdx i) (dirM q.1 q.2)) := fun r hr => by
            rcases mem_putM.1 hr with h1 | rfl
            · exact hd2 r h1
            · exact dirM_dc he
          have hl3 : Lg off b (putM (l.eraseIdx i) (dirM q.1 q.2)) := fun r hr => by
            rcases mem_putM.1 hr with h1 | rfl
            · exact hl2 r h1
            · exact dirM_dg hqd.1 hqd.2
          obtain ⟨k1, k2⟩ := ih _ _ h ⟨hd3, hl3⟩
          refine ⟨k1, Ceq.trans (Ceq.of (key _ (fun r hr => mem_putM.2 (.inl hr)) ?_) ?_) k2⟩
          · exact dirM_cg.1 (Cg.of_mem (mem_putM.2 (.inr rfl)))
          · intro r hr
            rcases mem_putM.1 hr with h1 | rfl
            · exact Cg.of_mem (hmem r h1)
            · exact dirM_cg.2 hql
theorem tidyM_cg {off b : Nat} {l t : List Rl} (h : tidyM l = some t) (hK : Kp3 off b l) : Kp3 off b t ∧ Ceq l t := by
  obtain ⟨h1, h2⟩ := tidyN_cg (off := off) (b := b) 2000 _ _ h ⟨fun r hr => hK.dc r (mem_srtM.1 hr), fun r hr => hK.lg r (mem_srtM.1 hr)⟩
  exact ⟨h1, Ceq.trans (Ceq.of (fun r hr => Cg.of_mem (mem_srtM.2 hr)) (fun r hr => Cg.of_mem (mem_srtM.1 hr))) h2⟩
theorem settleM_cg {off b : Nat} {l t : List Rl} (h : settleM l = some t) (hK : Kp3 off b l) : Kp3 off b t ∧ Ceq l t ∧ nextI t = none := by
  unfold settleM at h
  split at h
  · cases ht : tidyM l with
    | none => rw [ht] at h; cases h
    | some q =>
      rw [ht] at h
      simp only at h
      split at h
      · obtain rfl := Option.some.inj h
        obtain ⟨h1, h2⟩ := tidyM_cg ht hK
        have hDn : Dn l := fun r hr => ordS_len (hK.dc r hr)
        refine ⟨h1, h2, ?_⟩
        have hmx : ∃ n, Sm n l := by
          clear ht h1 h2 hDn hK
          induction l with
          | nil => exact ⟨0, fun r hr => by cases hr⟩
          | cons x l ih =>
            rename_i hl
            obtain ⟨n, hn⟩ := ih (by simp only [List.length_cons] at hl; omega)
            refine ⟨max n (max x.1.length x.2.length), fun r hr => ?_⟩
            rcases List.mem_cons.1 hr with rfl | hr
            · constructor <;> omega
            · have := hn r hr
              constructor <;> omega
        obtain ⟨n, hn⟩ := hmx
        exact (tidyM_inv ht hDn hn).2.2.2.2
      · cases h
  · cases h

/-! ### Pairs are equal by the rules -/
theorem overM_cg {l : List Rl} {a b : Rl} {same : Bool} (ha : a ∈ l) (hb : b ∈ l) : ∀ p ∈ overM a b same, Cg l p.1 p.2 := by
  intro p hp
  unfold overM at hp
  have stpA : ∀ (x y : Str), Cg l (x ++ (a.1 ++ y)) (x ++ (a.2 ++ y)) := fun x y => .fwd ⟨x, a, y, ha, rfl, rfl⟩ (.rfl _)
  have stpB : ∀ (x y : Str), Cg l (x ++ (b.1 ++ y)) (x ++ (b.2 ++ y)) := fun x y => .fwd ⟨x, b, y, hb, rfl, rfl⟩ (.rfl _)
  rcases List.mem_append.1 hp with hp | hp
  · obtain ⟨k, hk, hp⟩ := List.mem_flatMap.1 hp
    have hk := List.mem_range.1 hk
    unfold overA at hp
    split at hp
    · rename_i hc
      obtain ⟨hc, _⟩ := Bool.and_eq_true_iff.1 hc
      obtain ⟨z, hz⟩ := List.isSuffixOf_iff_suffix.1 hc
      obtain rfl := List.mem_singleton.1 hp
      have hq : b.1 = b.1.take (k + 1) ++ b.1.drop (k + 1) := (List.take_append_drop _ _).symm
      have hlq : (b.1.take (k + 1)).length = k + 1 := by rw [List.length_take]; omega
      generalize b.1.take (k + 1) = q at *
      generalize b.1.drop (k + 1) = q' at *
      have e1 : replM (a.1 ++ q') 0 a = a.2 ++ q' := by
        unfold replM
        rw [List.take_zero, List.nil_append, Nat.zero_add, List.drop_left]
      have e2 : replM (a.1 ++ q') (a.1.length - (k + 1)) b = z ++ b.2 := by
        have hl : a.1.length - (k + 1) = z.length := by rw [← hz, List.length_append]; omega
        unfold replM
        rw [hl, ← hz, List.append_assoc, List.take_left, ← List.drop_drop, List.drop_left, hq, List.drop_length, List.append_nil]
      rw [e1, e2]
      have h1 := stpA [] q'
      have h2 := stpB z []
      rw [← hz] at h1
      rw [hq] at h2
      simp only [List.nil_append, List.append_nil, List.append_assoc] at h1 h2
      exact h1.symm.trans h2
    · cases hp
  · split at hp
    · cases hp
    · obtain ⟨k, hk, hp⟩ := List.mem_flatMap.1 hp
      have hk := List.mem_range.1 hk
      unfold overC at hp
      split at hp
      · rename_i hc
        obtain ⟨y, hy⟩ := List.isPrefixOf_iff_prefix.1 hc
        obtain rfl := List.mem_singleton.1 hp
        have hz : a.1 = a.1.take (k + 1) ++ a.1.drop (k + 1) := (List.take_append_drop _ _).symm
        have h1 := stpA [] []
        have h2 := stpB (a.1.take (k + 1)) y
        unfold replM
        rw [← List.drop_drop, ← hy, List.drop_left]
        rw [hy, ← hz] at h2
        simp only [List.nil_append, List.append_nil] at h1
        exact h1.symm.trans h2
      · cases hp
theorem pairsM_cg {l : List Rl} : ∀ p ∈ pairsM l, Cg l p.1 p.2 := by
  intro p hp
  unfold pairsM at hp
  obtain ⟨i, hi, hp⟩ := List.mem_flatMap.1 hp
  unfold pairsI at hp
  obtain ⟨k, hk, hp⟩ := List.mem_flatMap.1 hp
  have hi := List.mem_range.1 hi
  have hk := List.mem_range.1 hk
  rw [getD_get hi, getD_get hk] at hp
  exact overM_cg (List.getElem_mem hi) (List.getElem_mem hk) p hp
theorem pairsM_dg {off b : Nat} {l : List Rl} (h : Lg off b l) : ∀ p ∈ pairsM l, Dg off b p.1 ∧ Dg off b p.2 := by
  have hr : ∀ (s : Str) (i : Nat) (r : Rl), Dg off b s → Dg off b r.2 → Dg off b (replM s i r) := by
    intro s i r h1 h2
    unfold replM
    rw [Dg.app, Dg.app]
    exact ⟨fun c hc => h1 c (List.mem_of_mem_take hc), h2, fun c hc => h1 c (List.mem_of_mem_drop hc)⟩
  intro p hp
  unfold pairsM at hp
  obtain ⟨i, hi, hp⟩ := List.mem_flatMap.1 hp
  unfold pairsI at hp
  obtain ⟨k, hk, hp⟩ := List.mem_flatMap.1 hp
  have hi := List.mem_range.1 hi
  have hk := List.mem_range.1 hk
  rw [getD_get hi, getD_get hk] at hp
  have ha := h _ (List.getElem_mem hi)
  have hb := h _ (List.getElem_mem hk)
  unfold overM at hp
  rcases List.mem_append.1 hp with hp | hp
  · obtain ⟨j, _, hp⟩ := List.mem_flatMap.1 hp
    unfold overA at hp
    split at hp
    · obtain rfl := List.mem_singleton.1 hp
      have h0 : Dg off b (l[i].1 ++ l[k].1.drop (j + 1)) := Dg.app.2 ⟨ha.1, fun c hc => hb.1 c (List.mem_of_mem_drop hc)⟩
      exact ⟨hr _ _ _ h0 ha.2, hr _ _ _ h0 hb.2⟩
    · cases hp
  · split at hp
    · cases hp
    · obtain ⟨j, _, hp⟩ := List.mem_flatMap.1 hp
      unfold overC at hp
      split at hp
      · obtain rfl := List.mem_singleton.1 hp
        exact ⟨ha.2, hr _ _ _ ha.1 hb.2⟩
      · cases hp
theorem rndN_cg {off b : Nat} {l : List Rl} (hl : Lg off b l) : ∀ (ps acc t : List Rl), rndN l ps acc = some t → (∀ p ∈ ps, Cg l p.1 p.2 ∧ Dg off b p.1 ∧ Dg off b p.2) → (∀ r ∈ l, r ∈ acc) → (∀ r ∈ acc, Cg l r.1 r.2) → Kp3 off b acc →
    (∀ r ∈ l, r ∈ t) ∧ (∀ r ∈ t, Cg l r.1 r.2) ∧ Kp3 off b t ∧ acc.length ≤ t.length ∧ (t.length = acc.length → t = acc ∧ ∀ p ∈ ps, ∃ q, formsM l p = some q ∧ q.1 = q.2) := by
  intro ps
  induction ps with
  | nil =>
    intro acc t h _ h2 h3 h4
    obtain rfl := Option.some.inj h
    exact ⟨h2, h3, h4, Nat.le_refl _, fun _ => ⟨rfl, fun p hp => by cases hp⟩⟩
  | cons p ps ih =>
    intro acc t h h1 h2 h3 h4
    rw [rndN_at rfl] at h
    have hp := h1 p (List.mem_cons_self)
    have h1' : ∀ p ∈ ps, Cg l p.1 p.2 ∧ Dg off b p.1 ∧ Dg off b p.2 := fun x hx => h1 x (List.mem_cons_of_mem _ hx)
    cases hf : formsM l p with
    | none => rw [hf] at h; cases h
    | some q =>
      obtain ⟨s1, s2, _, _⟩ := formsM_sts hf
      rw [hf] at h
      simp only at h
      by_cases he : q.1 = q.2
      · rw [if_pos he] at h
        obtain ⟨k1, k2, k3, k4, k5⟩ := ih _ _ h h1' h2 h3 h4
        refine ⟨k1, k2, k3, k4, fun hlen => ⟨(k5 hlen).1, fun x hx => ?_⟩⟩
        rcases List.mem_cons.1 hx with rfl | hx
        · exact ⟨q, hf, he⟩
        · exact (k5 hlen).2 x hx
      · rw [if_neg he] at h
        obtain ⟨k1, k2, k3, k4, k5⟩ := ih _ _ h h1' (fun r hr => List.mem_append_left _ (h2 r hr)) (fun r hr => by
          rcases List.mem_append.1 hr with hr | hr
          · exact h3 r hr
          · obtain rfl := List.mem_singleton.1 hr
            exact dirM_cg.2 (s1.cg.symm.trans (hp.1.trans s2.cg))) ⟨fun r hr => by
          rcases List.mem_append.1 hr with hr | hr
          · exact h4.dc r hr
          · obtain rfl := List.mem_singleton.1 hr
            exact dirM_dc he, fun r hr => by
          rcases List.mem_append.1 hr with hr | hr
          · exact h4.lg r hr
          · obtain rfl := List.mem_singleton.1 hr
            exact dirM_dg (s1.dg hl hp.2.1) (s2.dg hl hp.2.2)⟩
        rw [List.length_append, List.length_singleton] at k4
        exact ⟨k1, k2, k3, by omega, fun hlen => by omega⟩
theorem roundM_cg {off b : Nat} {l t : List Rl} (h : roundM l = some t) (hK : Kp3 off b l) : Kp3 off b t ∧ Ceq l t ∧ (t.length = l.length → Cf l) := by
  obtain ⟨k1, k2, k3, _, k5⟩ := rndN_cg hK.lg (pairsM l) l t h (fun p hp => ⟨pairsM_cg p hp, pairsM_dg hK.lg p hp⟩) (fun r hr => hr) (fun r hr => Cg.of_mem hr) hK
  exact ⟨k3, Ceq.of (fun r hr => Cg.of_mem (k1 r hr)) k2, fun hl => (k5 hl).2⟩
theorem compN_cg {off b : Nat} : ∀ (k : Nat) (l t : List Rl) (c : Bool), compN k l = some (t, c) → Kp3 off b l → nextI l = none → Kp3 off b t ∧ Ceq l t ∧ nextI t = none ∧ (c = true → Cf t) := by
  intro k
  induction k with
  | zero =>
    intro l t c h hK hn
    rw [compN] at h
    cases hc : clashM l with
    | none => rw [hc] at h; cases h
    | some n =>
      rw [hc] at h
      simp only [Option.some.injEq, Prod.mk.injEq] at h
      obtain ⟨rfl, rfl⟩ := h
      exact ⟨hK, fun _ _ => Iff.rfl, hn, fun h => Cf.of_clash hc (of_decide_eq_true h)⟩
  | succ k ih =>
    intro l t c h hK hn
    rw [compN] at h
    cases hr : roundM l with
    | none => rw [hr] at h; cases h
    | some nx =>
      obtain ⟨h1, h2, h3⟩ := roundM_cg hr hK
      rw [hr] at h
      simp only at h
      split at h
      · rename_i hl
        simp only [Option.some.injEq, Prod.mk.injEq] at h
        obtain ⟨rfl, rfl⟩ := h
        exact ⟨hK, fun _ _ => Iff.rfl, hn, fun _ => h3 hl⟩
      · cases hs : settleM nx with
        | none => rw [hs] at h; cases h
        | some q =>
          rw [hs] at h
          obtain ⟨q1, q2, q3⟩ := settleM_cg hs h1
          obtain ⟨p1, p2, p3, p4⟩ := ih q t c h q1 q3
          exact ⟨p1, h2.trans (q2.trans p2), p3, p4⟩
theorem eqsM_cg (l : List Rl) : Ceq l (eqsM l) := by
  refine Ceq.of (fun r hr => ?_) (fun r hr => ?_)
  · by_cases he : r.1 = r.2
    · rw [he]; exact .rfl _
    · refine dirM_cg.1 (Cg.of_mem ?_)
      unfold eqsM
      rw [List.mem_flatMap]
      exact ⟨r, hr, by rw [if_neg he]; exact List.mem_singleton.2 rfl⟩
  · unfold eqsM at hr
    obtain ⟨x, hx, hr⟩ := List.mem_flatMap.1 hr
    split at hr
    · cases hr
    · obtain rfl := List.mem_singleton.1 hr
      exact dirM_cg.2 (Cg.of_mem hx)
theorem eqsM_kp {off b : Nat} {l : List Rl} (h : Lg off b l) : Kp3 off b (eqsM l) := by
  constructor
  · intro r hr
    unfold eqsM at hr
    obtain ⟨x, hx, hr⟩ := List.mem_flatMap.1 hr
    split at hr
    · cases hr
    · rename_i he
      obtain rfl := List.mem_singleton.1 hr
      exact dirM_dc he
  · intro r hr
    unfold eqsM at hr
    obtain ⟨x, hx, hr⟩ := List.mem_flatMap.1 hr
    split at hr
    · cases hr
    · obtain rfl := List.mem_singleton.1 hr
      exact dirM_dg (h x hx).1 (h x hx).2
theorem completeM_cg {off b : Nat} {l t : List Rl} {k : Nat} {c : Bool} (h : completeM l k = some (t, c)) (hl : Lg off b l) : Kp3 off b t ∧ Ceq l t ∧ nextI t = none ∧ (c = true → Cf t) := by
  unfold completeM at h
  cases hs : settleM (eqsM l) with
  | none => rw [hs] at h; cases h
  | some q =>
    rw [hs] at h
    obtain ⟨q1, q2, q3⟩ := settleM_cg hs (eqsM_kp hl)
    obtain ⟨p1, p2, p3, p4⟩ := compN_cg k q t c h q1 q3
    exact ⟨p1, (eqsM_cg l).trans (q2.trans p2), p3, p4⟩
/-- In a confluent system equal strings have one normal form, if both are found. -/
theorem forms_eq {off b : Nat} {t : List Rl} (hK : Kp3 off b t) (hC : Cf t) {p q : Rl} (hf : formsM t p = some q) (hc : Cg t p.1 p.2) : q.1 = q.2 := by
  obtain ⟨s1, s2, n1, n2⟩ := formsM_sts hf
  exact hC.uniq hK.dc (s1.cg.symm.trans (hc.trans s2.cg)) n1 n2
end Go.Words
