/- What Count and Size say, in the numbers of normal strings. -/
import Derived.Test.YtoghnhbjdnjghaaGreatXh
namespace Go.Words
open Go.W Go.Proofs.YtoghnhbjdnjghaaGreat

theorem fnd_some : ∀ (L : List Str) (s : Str) (i q : Nat), fnd L s i = some q → i ≤ q ∧ L[q - i]? = some s := by
  intro L
  induction L with
  | nil => intro s i q h; cases h
  | cons p L ih =>
    intro s i q h
    rw [fnd] at h
    split at h
    · rename_i hs
      obtain rfl := Option.some.inj h
      exact ⟨Nat.le_refl _, by rw [Nat.sub_self, hs]; rfl⟩
    · obtain ⟨h1, h2⟩ := ih s (i + 1) q h
      refine ⟨by omega, ?_⟩
      rw [show q - i = (q - (i + 1)) + 1 by omega, List.getElem?_cons_succ]
      exact h2
theorem fnd_none : ∀ (L : List Str) (s : Str) (i : Nat), fnd L s i = none ↔ s ∉ L := by
  intro L
  induction L with
  | nil => intro s i; exact ⟨fun _ h => (by cases h), fun _ => rfl⟩
  | cons p L ih =>
    intro s i
    rw [fnd]
    split
    · rename_i hs
      exact ⟨fun h => (by cases h), fun h => absurd (by rw [hs]; exact List.mem_cons_self) h⟩
    · rename_i hs
      rw [ih s (i + 1), List.mem_cons]
      exact ⟨fun h h2 => h2.elim hs h, fun h h2 => h (.inr h2)⟩
theorem fnd_mem {L : List Str} {s : Str} (h : s ∈ L) : ∃ q, fnd L s 0 = some q ∧ L[q]? = some s := by
  cases hf : fnd L s 0 with
  | none => exact absurd h ((fnd_none L s 0).1 hf)
  | some q => exact ⟨q, rfl, by have := (fnd_some L s 0 q hf).2; simpa using this⟩
theorem nodup_at {L : List Str} (hn : L.Nodup) {i j : Nat} {s : Str} (hi : L[i]? = some s) (hj : L[j]? = some s) : i = j := by
  obtain ⟨h1, h2⟩ := List.getElem?_eq_some_iff.1 hi
  obtain ⟨h3, h4⟩ := List.getElem?_eq_some_iff.1 hj
  have hp := List.pairwise_iff_getElem.1 (List.nodup_iff_pairwise_ne.1 hn)
  rcases Nat.lt_trichotomy i j with h | h | h
  · exact absurd (h2.trans h4.symm) (hp i j h1 h3 h)
  · exact h
  · exact absurd (h4.trans h2.symm) (hp j i h3 h1 h)

theorem up_get {ns : List Nat} {j : Nat} (h : j < (up ns).length) (h2 : j < ns.length) : (up ns)[j] = ((ns[j] : Nat) : Int) := by simp [up]
theorem iniM_get {m j : Nat} (h : j < (iniM m).length) : (iniM m)[j] = if 0 = j then 1 else 0 := by
  simp only [iniM, List.getElem_set, List.getElem_replicate]
/-- Where a string with a letter more leads. -/
def trL (l : List Rl) (P L : List Str) (u : Str) : Int := if endB l u then -1 else ((fnd L (sufS P u) 0).getD 0 : Nat)
def rowL (l : List Rl) (P : List Str) (k : Nat) (L : List Str) (q : Str) : List Int := (List.range k).map fun c => trL l P L (q ++ [ltr c])
/-- A table over states. -/
structure Mch (l : List Rl) (P : List Str) (k : Nat) (L : List Str) (tab : List (List Int)) : Prop where
  pf : Pf l P
  ne : ∀ r ∈ l, r.1 ≠ []
  nodup : L.Nodup
  head : L[0]? = some []
  tab_eq : tab = L.map (rowL l P k L)
  clos : ∀ q ∈ L, ∀ c, c < k → endB l (q ++ [ltr c]) = false → sufS P (q ++ [ltr c]) ∈ L
def cn (l : List Rl) (k : Nat) (P : List Str) (n : Nat) (q : Str) : Nat := (nm l k n).countP fun w => decide (sufS P w = q)
def NN (l : List Rl) (k n : Nat) : Nat := (nm l k n).length
theorem cn_le {l : List Rl} {P : List Str} {k : Nat} (n : Nat) {q : Str} : cn l k P n q ≤ NN l k n := List.countP_le_length
theorem getD_rep (m j : Nat) : (List.replicate m (0 : Int)).getD j 0 = 0 := by
  rw [List.getD_eq_getElem?_getD, List.getElem?_replicate]
  split <;> rfl
section
variable {l : List Rl} {P : List Str} {k : Nat} {L : List Str} {tab : List (List Int)} (hM : Mch l P k L tab)
include hM
theorem nm_in : ∀ n, ∀ w ∈ nm l k n, sufS P w ∈ L := by
  intro n
  induction n with
  | zero =>
    intro w hw
    obtain rfl := List.mem_singleton.1 hw
    exact List.mem_of_getElem? hM.head
  | succ n ih =>
    intro w hw
    rw [nm] at hw
    obtain ⟨v, hv, hw⟩ := List.mem_flatMap.1 hw
    obtain ⟨hw, he⟩ := List.mem_filter.1 hw
    unfold exts at hw
    obtain ⟨c, hc, rfl⟩ := List.mem_map.1 hw
    have he : endB l (v ++ [ltr c]) = false := by simpa using he
    rw [← sufS_step hM.pf]
    refine hM.clos _ (ih v hv) c (List.mem_range.1 hc) ?_
    rw [end_step hM.pf hM.ne]; exact he
theorem vec_sum (n : Nat) : (L.map (cn l k P n)).sum = NN l k n := by
  have h := count_split (sufS P) L (fun _ => 1) hM.nodup (nm l k n) (nm_in hM n)
  rw [sum_one] at h
  unfold NN
  rw [h]
  congr 1
  refine List.map_congr_left (fun q _ => ?_)
  rw [Nat.mul_one]; rfl
theorem hits_row {j : Nat} (hj : j < L.length) {q : Str} (hq : q ∈ L) : hits (rowL l P k L q) j = (List.range k).countP fun c => !endB l (q ++ [ltr c]) && decide (sufS P (q ++ [ltr c]) = L[j]) := by
  unfold hits rowL
  rw [List.countP_map]
  refine List.countP_congr (fun c hc => ?_)
  have hc := List.mem_range.1 hc
  show decide (trL l P L (q ++ [ltr c]) = (j : Int)) = true ↔ _
  rw [decide_eq_true_iff, Bool.and_eq_true, Bool.not_eq_true', decide_eq_true_iff]
  unfold trL
  cases he : endB l (q ++ [ltr c]) with
  | true =>
    rw [if_pos rfl]
    exact ⟨fun h => by omega, fun h => by cases h.1⟩
  | false =>
    rw [if_neg (by decide)]
    obtain ⟨i, hi, hs⟩ := fnd_mem (hM.clos q hq c hc he)
    rw [hi]
    show ((i : Nat) : Int) = (j : Int) ↔ _
    constructor
    · intro h
      have h : i = j := by omega
      subst h
      refine ⟨rfl, ?_⟩
      rw [List.getElem?_eq_getElem hj] at hs
      exact (Option.some.inj hs).symm
    · rintro ⟨_, h⟩
      rw [h] at hs
      have := nodup_at hM.nodup hs (List.getElem?_eq_getElem hj)
      omega
theorem cn_succ (n : Nat) {j : Nat} (hj : j < L.length) : accS (L.map (cn l k P n)) tab j = cn l k P (n + 1) L[j] := by
  have h1 : ∀ M : List Str, accS (M.map (cn l k P n)) (M.map (rowL l P k L)) j = (M.map fun q => cn l k P n q * hits (rowL l P k L q) j).sum := by
    intro M
    induction M with
    | nil => rfl
    | cons q M ih => rw [List.map_cons, List.map_cons, accS, List.map_cons, List.sum_cons, ih]
  rw [hM.tab_eq, h1]
  have h2 : (L.map fun q => cn l k P n q * hits (rowL l P k L q) j) = L.map fun q => ((nm l k n).countP fun w => decide (sufS P w = q)) * ((List.range k).countP fun c => !endB l (q ++ [ltr c]) && decide (sufS P (q ++ [ltr c]) = L[j])) := by
    refine List.map_congr_left (fun q hq => ?_)
    rw [hits_row hM hj hq]; rfl
  rw [h2, ← count_split (sufS P) L (fun q => (List.range k).countP fun c => !endB l (q ++ [ltr c]) && decide (sufS P (q ++ [ltr c]) = L[j])) hM.nodup (nm l k n) (nm_in hM n)]
  show _ = (nm l k (n + 1)).countP _
  rw [nm, countP_flat]
  congr 1
  refine List.map_congr_left (fun w _ => ?_)
  unfold exts
  rw [List.countP_filter, List.countP_map]
  refine List.countP_congr (fun c _ => ?_)
  rw [end_step hM.pf hM.ne, sufS_step hM.pf]
  show (!endB l (w ++ [ltr c]) && decide (sufS P (w ++ [ltr c]) = L[j])) = true ↔ (decide (sufS P (w ++ [ltr c]) = L[j]) && !endB l (w ++ [ltr c])) = true
  rw [Bool.and_comm]
theorem len_pos : 0 < L.length := (List.getElem?_eq_some_iff.1 hM.head).1
theorem tr_lt (u : Str) : trL l P L u < (L.length : Int) := by
  have h0 := len_pos hM
  unfold trL
  split
  · omega
  · cases hf : fnd L (sufS P u) 0 with
    | none => show ((0 : Nat) : Int) < _; omega
    | some q =>
      have := fnd_lt hf
      show ((q : Nat) : Int) < _
      omega
theorem tab_lt {m : Nat} (hm : m = L.length) : ∀ row ∈ tab, ∀ t ∈ row, t < (m : Int) := by
  intro row hr t ht
  rw [hM.tab_eq] at hr
  obtain ⟨q, _, rfl⟩ := List.mem_map.1 hr
  obtain ⟨c, _, rfl⟩ := List.mem_map.1 ht
  rw [hm]
  exact tr_lt hM _
theorem spM_some {n : Nat} {v : List Int} (h : spM tab (up (L.map (cn l k P n))) = some v) : v = up (L.map (cn l k P (n + 1))) := by
  unfold spM at h
  have hlen : (List.replicate (up (L.map (cn l k P n))).length (0 : Int)).length = L.length := by rw [List.length_replicate]; unfold up; rw [List.length_map, List.length_map]
  obtain ⟨h1, h2⟩ := spO_some _ _ _ _ h (by rw [hlen]; exact tab_lt hM rfl)
  rw [hlen] at h1 h2
  have hl2 : (up (L.map (cn l k P (n + 1)))).length = L.length := by unfold up; rw [List.length_map, List.length_map]
  refine List.ext_getElem (by rw [h1, hl2]) (fun j hj1 hj2 => ?_)
  have hj : j < L.length := by rw [← h1]; exact hj1
  have h3 := h2 j hj
  rw [getD_rep, cn_succ hM n hj, getD_i hj1] at h3
  rw [h3, up_get hj2 (by rw [List.length_map]; exact hj), List.getElem_map]
  omega
theorem spM_none {n : Nat} (h : spM tab (up (L.map (cn l k P n))) = none) : 4611686018427387904 < (NN l k (n + 1) : Int) := by
  unfold spM at h
  have hlen : (List.replicate (up (L.map (cn l k P n))).length (0 : Int)).length = L.length := by rw [List.length_replicate]; unfold up; rw [List.length_map, List.length_map]
  obtain ⟨j, hj, h2⟩ := spO_none _ _ _ h (by rw [hlen]; exact tab_lt hM rfl)
  rw [hlen] at hj
  rw [getD_rep, cn_succ hM n hj] at h2
  have := cn_le (l := l) (P := P) (k := k) (n + 1) (q := L[j])
  omega
theorem totM_vec (n : Nat) : totM (up (L.map (cn l k P n))) = if (NN l k n : Int) ≤ 4611686018427387904 then some (NN l k n : Int) else none := by
  have := totN_up (L.map (cn l k P n)) 0 (by decide)
  rw [Nat.zero_add, vec_sum hM n] at this
  exact this
theorem ini_vec : iniM tab.length = up (L.map (cn l k P 0)) := by
  have hlt : tab.length = L.length := by rw [hM.tab_eq, List.length_map]
  have hl2 : (up (L.map (cn l k P 0))).length = L.length := by unfold up; rw [List.length_map, List.length_map]
  have h0 := len_pos hM
  refine List.ext_getElem (by rw [iniM_len, hl2, hlt]) (fun j hj1 hj2 => ?_)
  have hj : j < L.length := by rw [← hl2]; exact hj2
  have hh := hM.head
  rw [List.getElem?_eq_getElem h0] at hh
  have hh := Option.some.inj hh
  have hc : cn l k P 0 L[j] = if j = 0 then 1 else 0 := by
    unfold cn
    show [([] : Str)].countP (fun w => decide (sufS P w = L[j])) = _
    rw [List.countP_singleton]
    show (if decide (([] : Str) = L[j]) = true then 1 else 0) = _
    by_cases h : j = 0
    · subst h
      rw [if_pos (by rw [hh]; rfl), if_pos rfl]
    · rw [if_neg h, if_neg ?_]
      intro h2
      have h2 := of_decide_eq_true h2
      have h3 : L[0]? = some [] := hM.head
      have h4 : L[j]? = some [] := by rw [List.getElem?_eq_getElem hj, ← h2]
      exact h (nodup_at hM.nodup h4 h3)
  rw [iniM_get, up_get hj2 (by rw [List.length_map]; exact hj), List.getElem_map, hc]
  by_cases h : j = 0
  · rw [if_pos h.symm, if_pos h]; rfl
  · rw [if_neg (fun h2 => h h2.symm), if_neg h]; rfl

/-! ### Count and Size -/
theorem couN_ok : ∀ (m n : Nat) (out : List Int), (∀ j, j ≤ m → (NN l k (n + j) : Int) ≤ 4611686018427387904) → couN tab m (up (L.map (cn l k P n))) out = some (out ++ (List.range (m + 1)).map fun j => (NN l k (n + j) : Int)) := by
  intro m
  induction m with
  | zero =>
    intro n out h
    have h0 := h 0 (Nat.le_refl _)
    rw [Nat.add_zero] at h0
    rw [couN, totM_vec hM, if_pos h0]
    rfl
  | succ m ih =>
    intro n out h
    have h0 := h 0 (Nat.zero_le _)
    rw [Nat.add_zero] at h0
    rw [couN, totM_vec hM, if_pos h0]
    simp only
    cases hs : spM tab (up (L.map (cn l k P n))) with
    | none =>
      have h1 := spM_none hM hs
      have h2 := h 1 (by omega)
      omega
    | some v =>
      rw [spM_some hM hs]
      simp only
      rw [ih (n + 1) _ (fun j hj => by have := h (j + 1) (by omega); rw [show n + 1 + j = n + (j + 1) by omega]; exact this), List.append_assoc]
      congr 2
      conv => rhs; rw [List.range_succ_eq_map, List.map_cons, List.map_map]
      show _ :: _ = _ :: _
      congr 1
      refine List.map_congr_left (fun j _ => ?_)
      show ((NN l k (n + 1 + j) : Nat) : Int) = ((NN l k (n + (j + 1)) : Nat) : Int)
      rw [show n + 1 + j = n + (j + 1) by omega]
theorem couN_no : ∀ (m n : Nat) (out : List Int), (∃ j, j ≤ m ∧ 4611686018427387904 < (NN l k (n + j) : Int)) → couN tab m (up (L.map (cn l k P n))) out = none := by
  intro m
  induction m with
  | zero =>
    rintro n out ⟨j, hj, h⟩
    obtain rfl : j = 0 := by omega
    rw [couN, totM_vec hM, if_neg (by rw [Nat.add_zero] at h; omega)]
  | succ m ih =>
    rintro n out ⟨j, hj, h⟩
    rw [couN, totM_vec hM]
    by_cases h0 : (NN l k n : Int) ≤ 4611686018427387904
    · rw [if_pos h0]
      cases hs : spM tab (up (L.map (cn l k P n))) with
      | none => rfl
      | some v =>
        rw [spM_some hM hs]
        simp only
        have hj0 : j ≠ 0 := fun h2 => by rw [h2, Nat.add_zero] at h; omega
        exact ih (n + 1) _ ⟨j - 1, by omega, by rw [show n + 1 + (j - 1) = n + j by omega]; exact h⟩
    · rw [if_neg h0]
end
/-- How many strings of less than n letters are normal. -/
def SS (l : List Rl) (k : Nat) : Nat → Nat
  | 0 => 0
  | n + 1 => SS l k n + NN l k n
theorem NN_zero {l : List Rl} {k n : Nat} (h : NN l k n = 0) : ∀ m, n ≤ m → NN l k m = 0 := by
  intro m hm
  induction hm with
  | refl => exact h
  | step _ ih =>
    unfold NN at ih ⊢
    have := List.eq_nil_of_length_eq_zero ih
    rw [nm, this]; rfl
theorem SS_le {l : List Rl} {k n m : Nat} (h : n ≤ m) : SS l k n ≤ SS l k m := by
  induction h with
  | refl => exact Nat.le_refl _
  | step _ ih => exact Nat.le_trans ih (Nat.le_add_right _ _)
theorem SS_zero {l : List Rl} {k n m : Nat} (h : NN l k n = 0) (hm : n ≤ m) : SS l k m = SS l k n := by
  induction hm with
  | refl => rfl
  | step hle ih => rw [SS, ih, NN_zero h _ hle, Nat.add_zero]
/-- The answer of Size: the sum of all counts, if they end within m letters and the sum is not too great. -/
def SizP (l : List Rl) (k m : Nat) (T : Int) : Prop := ∃ e, e ≤ m ∧ NN l k e = 0 ∧ (SS l k e : Int) ≤ 4611686018427387904 ∧ T = (SS l k e : Int)
section
variable {l : List Rl} {P : List Str} {k : Nat} {L : List Str} {tab : List (List Int)} (hM : Mch l P k L tab)
include hM
theorem finN_vec (n : Nat) (all : Int) : finN (up (L.map (cn l k P n))) all = if NN l k n = 0 then some all else none := by
  unfold finN
  rw [totM_vec hM]
  by_cases h : NN l k n = 0
  · rw [if_pos h, h, if_pos (by decide)]
    simp only
    rw [if_neg (by decide)]
  · rw [if_neg h]
    by_cases h2 : (NN l k n : Int) ≤ 4611686018427387904
    · rw [if_pos h2]
      simp only
      rw [if_pos (by omega)]
    · rw [if_neg h2]
theorem sizN_vec : ∀ (m n : Nat), (SS l k n : Int) ≤ 4611686018427387904 → ∀ T, sizN tab m (up (L.map (cn l k P n))) (SS l k n : Int) = some T ↔ ∃ e, n ≤ e ∧ e ≤ n + m ∧ NN l k e = 0 ∧ (SS l k e : Int) ≤ 4611686018427387904 ∧ T = (SS l k e : Int) := by
  intro m
  induction m with
  | zero =>
    intro n hn T
    rw [sizN, finN_vec hM]
    by_cases h : NN l k n = 0
    · rw [if_pos h]
      constructor
      · intro h2
        exact ⟨n, Nat.le_refl _, Nat.le_refl _, h, hn, (Option.some.inj h2).symm⟩
      · rintro ⟨e, h1, h2, _, _, rfl⟩
        rw [show e = n by omega]
    · rw [if_neg h]
      constructor
      · intro h2; cases h2
      · rintro ⟨e, h1, h2, h3, _⟩
        rw [show e = n by omega] at h3
        exact absurd h3 h
  | succ m ih =>
    intro n hn T
    have big : ∀ e, n ≤ e → NN l k e = 0 → NN l k n ≠ 0 → SS l k (n + 1) ≤ SS l k e := fun e h1 h2 h3 => SS_le (by
      rcases Nat.lt_or_ge n e with h | h
      · exact h
      · rw [show e = n by omega] at h2; exact absurd h2 h3)
    rw [sizN, totM_vec hM]
    by_cases h0 : (NN l k n : Int) ≤ 4611686018427387904
    · rw [if_pos h0]
      simp only
      by_cases h1 : 4611686018427387904 - (SS l k n : Int) < (NN l k n : Int)
      · rw [if_pos h1]
        constructor
        · intro h2; cases h2
        · rintro ⟨e, e1, e2, e3, e4, _⟩
          exfalso
          by_cases hz : NN l k n = 0
          · rw [hz] at h1; omega
          · have := big e e1 e3 hz
            rw [SS] at this
            omega
      · rw [if_neg h1]
        by_cases hz : NN l k n = 0
        · rw [if_pos (by rw [hz]; rfl), finN_vec hM, if_pos hz]
          constructor
          · intro h2
            exact ⟨n, Nat.le_refl _, by omega, hz, hn, (Option.some.inj h2).symm⟩
          · rintro ⟨e, e1, e2, e3, e4, rfl⟩
            rw [SS_zero hz e1]
        · rw [if_neg (by omega)]
          cases hs : spM tab (up (L.map (cn l k P n))) with
          | none =>
            have h2 := spM_none hM hs
            constructor
            · intro h3; cases h3
            · rintro ⟨e, e1, e2, e3, e4, _⟩
              exfalso
              have hz1 : NN l k (n + 1) ≠ 0 := by omega
              rcases Nat.lt_or_ge (n + 1) e with h | h
              · have := SS_le (l := l) (k := k) (show n + 2 ≤ e from h)
                rw [SS] at this
                omega
              · rcases Nat.lt_or_ge n e with h5 | h5
                · rw [show e = n + 1 by omega] at e3; exact hz1 e3
                · rw [show e = n by omega] at e3; exact hz e3
          | some v =>
            rw [spM_some hM hs]
            simp only
            have h3 : ((SS l k n : Nat) : Int) + (NN l k n : Int) = ((SS l k (n + 1) : Nat) : Int) := by rw [SS]; omega
            rw [h3, ih (n + 1) (by omega) T]
            constructor
            · rintro ⟨e, e1, e2, e3⟩
              exact ⟨e, by omega, by omega, e3⟩
            · rintro ⟨e, e1, e2, e3, e4, e5⟩
              refine ⟨e, ?_, by omega, e3, e4, e5⟩
              rcases Nat.lt_or_ge n e with h | h
              · exact h
              · rw [show e = n by omega] at e3; exact absurd e3 hz
    · rw [if_neg h0]
      constructor
      · intro h2; cases h2
      · rintro ⟨e, e1, e2, e3, e4, _⟩
        exfalso
        have := big e e1 e3 (by omega)
        rw [SS] at this
        omega
end

/-! ### The program's table -/
theorem mem_addP {P : List Str} {p q : Str} : q ∈ addP P p ↔ q ∈ P ∨ q = p := by
  unfold addP
  split
  · rename_i h
    obtain ⟨i, hi⟩ := Option.isSome_iff_exists.1 h
    have hm : p ∈ P := by
      by_cases hp : p ∈ P
      · exact hp
      · rw [(fnd_none P p 0).2 hp] at hi; cases hi
    exact ⟨fun h => .inl h, fun h => h.elim id (fun h => by rw [h]; exact hm)⟩
  · rw [List.mem_append, List.mem_singleton]
theorem nodup_addP {P : List Str} (h : P.Nodup) (p : Str) : (addP P p).Nodup := by
  unfold addP
  split
  · exact h
  · rename_i h2
    have hn : p ∉ P := (fnd_none P p 0).1 (Option.not_isSome_iff_eq_none.1 h2)
    rw [List.nodup_append]
    refine ⟨h, List.pairwise_singleton _ _, fun a ha b hb => ?_⟩
    rw [List.mem_singleton.1 hb]
    rintro rfl
    exact hn ha
theorem preR_fold (x : Str) : ∀ (j : Nat) (P : List Str), P.Nodup → ((List.range j).foldl (fun P k => addP P (x.take (k + 1))) P).Nodup ∧ (∃ Q, (List.range j).foldl (fun P k => addP P (x.take (k + 1))) P = P ++ Q) ∧ ∀ q, q ∈ (List.range j).foldl (fun P k => addP P (x.take (k + 1))) P ↔ q ∈ P ∨ ∃ i, i < j ∧ q = x.take (i + 1) := by
  intro j
  induction j with
  | zero => intro P h; exact ⟨h, ⟨[], by simp⟩, fun q => by simp⟩
  | succ j ih =>
    intro P h
    rw [foldl_range_succ]
    obtain ⟨h1, ⟨Q, h2⟩, h3⟩ := ih P h
    refine ⟨nodup_addP h1 _, ?_, fun q => ?_⟩
    · generalize (List.range j).foldl (fun P k => addP P (x.take (k + 1))) P = R at *
      unfold addP
      split
      · exact ⟨Q, h2⟩
      · exact ⟨Q ++ [x.take (j + 1)], by rw [h2, List.append_assoc]⟩
    · rw [mem_addP, h3]
      constructor
      · rintro ((h | ⟨i, hi, rfl⟩) | rfl)
        · exact .inl h
        · exact .inr ⟨i, by omega, rfl⟩
        · exact .inr ⟨j, by omega, rfl⟩
      · rintro (h | ⟨i, hi, rfl⟩)
        · exact .inl (.inl h)
        · rcases Nat.lt_or_ge i j with h | h
          · exact .inl (.inr ⟨i, h, rfl⟩)
          · rw [show i = j by omega]; exact .inr rfl
theorem prefM_facts (l : List Rl) : (prefM l).Nodup ∧ (∃ Q, prefM l = [] :: Q) ∧ ∀ q, q ∈ prefM l ↔ q = [] ∨ ∃ r ∈ l, ∃ i, i + 1 < r.1.length ∧ q = r.1.take (i + 1) := by
  have key : ∀ (l : List Rl) (P : List Str), P.Nodup → (l.foldl (fun P r => preR P r.1) P).Nodup ∧ (∃ Q, l.foldl (fun P r => preR P r.1) P = P ++ Q) ∧ ∀ q, q ∈ l.foldl (fun P r => preR P r.1) P ↔ q ∈ P ∨ ∃ r ∈ l, ∃ i, i + 1 < r.1.length ∧ q = r.1.take (i + 1) := by
    intro l
    induction l with
    | nil => intro P h; exact ⟨h, ⟨[], by simp⟩, fun q => by simp⟩
    | cons r l ih =>
      intro P h
      obtain ⟨h1, ⟨Q, h2⟩, h3⟩ := preR_fold r.1 (r.1.length - 1) P h
      obtain ⟨h4, ⟨Q2, h5⟩, h6⟩ := ih (preR P r.1) h1
      rw [List.foldl_cons]
      refine ⟨h4, ⟨Q ++ Q2, by rw [h5]; show preR P r.1 ++ Q2 = _; rw [show preR P r.1 = P ++ Q from h2, List.append_assoc]⟩, fun q => ?_⟩
      rw [h6, show q ∈ preR P r.1 ↔ _ from h3 q]
      constructor
      · rintro ((h | ⟨i, hi, rfl⟩) | ⟨r', hr', i, hi, rfl⟩)
        · exact .inl h
        · exact .inr ⟨r, List.mem_cons_self, i, by omega, rfl⟩
        · exact .inr ⟨r', List.mem_cons_of_mem _ hr', i, hi, rfl⟩
      · rintro (h | ⟨r', hr', i, hi, rfl⟩)
        · exact .inl (.inl h)
        · rcases List.mem_cons.1 hr' with rfl | hr'
          · exact .inl (.inr ⟨i, by omega, rfl⟩)
          · exact .inr ⟨r', hr', i, hi, rfl⟩
  obtain ⟨h1, ⟨Q, h2⟩, h3⟩ := key l [[]] (List.pairwise_singleton _ _)
  refine ⟨h1, ⟨Q, h2⟩, fun q => ?_⟩
  rw [show q ∈ prefM l ↔ _ from h3 q, List.mem_singleton]
theorem prefM_pf (l : List Rl) : Pf l (prefM l) := by
  obtain ⟨_, ⟨Q, hQ⟩, hm⟩ := prefM_facts l
  refine ⟨by rw [hQ]; exact List.mem_cons_self, fun q c h => ?_, fun r hr q c h => ?_⟩
  · rcases (hm _).1 h with h | ⟨r, hr, i, hi, h⟩
    · have := congrArg List.length h
      rw [List.length_append] at this
      simp at this
    · have hl := congrArg List.length h
      rw [List.length_append, List.length_take, List.length_singleton, Nat.min_eq_left (by omega)] at hl
      have hq : q = r.1.take i := by
        have h2 := congrArg (List.take i) h
        rw [List.take_take, Nat.min_eq_left (by omega), show i = q.length by omega, List.take_left] at h2
        rw [show i = q.length by omega]; exact h2
      rw [hm]
      cases i with
      | zero => exact .inl (by rw [hq]; rfl)
      | succ i => exact .inr ⟨r, hr, i, by omega, hq⟩
  · rw [hm]
    have hl := congrArg List.length h
    rw [List.length_append, List.length_singleton] at hl
    have hq : q = r.1.take q.length := by rw [h, List.take_left]
    cases hn : q.length with
    | zero => exact .inl (List.eq_nil_of_length_eq_zero hn)
    | succ i => exact .inr ⟨r, hr, i, by omega, by rw [← hn]; exact hq⟩
theorem stepS_sufS (L : List Str) : ∀ s : Str, stepS L s = (fnd L (sufS L s) 0).getD 0 := by
  intro s
  induction s with
  | nil => rfl
  | cons c s ih =>
    rw [stepS, sufS]
    cases hf : fnd L (c :: s) 0 with
    | none =>
      rw [if_neg ((fnd_none L _ 0).1 hf)]
      exact ih
    | some q =>
      have hm : c :: s ∈ L := by
        by_cases hp : c :: s ∈ L
        · exact hp
        · rw [(fnd_none L _ 0).2 hp] at hf; cases hf
      rw [if_pos hm, hf]; rfl
theorem tabM_mch {l : List Rl} (hd : Dc l) (k : Nat) : Mch l (prefM l) k (prefM l) (tabM l k) := by
  obtain ⟨h1, ⟨Q, hQ⟩, _⟩ := prefM_facts l
  have hpf := prefM_pf l
  refine ⟨hpf, fun r hr => hd.ne hr, h1, by rw [hQ]; rfl, ?_, fun q _ c _ _ => sufS_mem hpf.nil _⟩
  unfold tabM
  refine List.map_congr_left (fun q _ => ?_)
  unfold rowM rowL
  refine List.map_congr_left (fun c _ => ?_)
  unfold stepM trL
  rw [stepS_sufS]
  rfl
theorem countM_ok {l : List Rl} (hd : Dc l) {k n : Nat} (h : ∀ j, j ≤ n → (NN l k j : Int) ≤ 4611686018427387904) : countM l k n = some ((List.range (n + 1)).map fun j => (NN l k j : Int)) := by
  unfold countM
  rw [ini_vec (tabM_mch hd k), couN_ok (tabM_mch hd k) n 0 [] (fun j hj => by rw [Nat.zero_add]; exact h j hj), List.nil_append]
  congr 2
  funext j
  rw [Nat.zero_add]
theorem countM_no {l : List Rl} (hd : Dc l) {k n : Nat} (h : ∃ j, j ≤ n ∧ 4611686018427387904 < (NN l k j : Int)) : countM l k n = none := by
  unfold countM
  rw [ini_vec (tabM_mch hd k)]
  obtain ⟨j, hj, h⟩ := h
  exact couN_no (tabM_mch hd k) n 0 [] ⟨j, hj, by rw [Nat.zero_add]; exact h⟩
theorem sizeM_iff {l : List Rl} (hd : Dc l) (k : Nat) (T : Int) : sizeM l k = some T ↔ SizP l k (prefM l).length T := by
  unfold sizeM
  have hl : (tabM l k).length = (prefM l).length := by unfold tabM; rw [List.length_map]
  rw [ini_vec (tabM_mch hd k)]
  have := sizN_vec (tabM_mch hd k) (tabM l k).length 0 (by show (0 : Int) ≤ 4611686018427387904; decide) T
  rw [show ((SS l k 0 : Nat) : Int) = 0 from rfl, Nat.zero_add, hl] at this
  rw [hl, this]
  unfold SizP
  exact ⟨fun ⟨e, _, h⟩ => ⟨e, h⟩, fun ⟨e, h⟩ => ⟨e, Nat.zero_le _, h⟩⟩
end Go.Words
