/- Strings that are long enough run through one state twice: the counts end within as many letters as there are states, or never. -/
import Derived.Test.YtoghnhbjdnjghaaGreatV46
namespace Go.Words
open Go.W Go.Proofs.YtoghnhbjdnjghaaGreat
def runS (l : List Rl) (P : List Str) : Str → Str → Option Str
  | q, [] => some q
  | q, c :: v => if endB l (q ++ [c]) then none else runS l P (sufS P (q ++ [c])) v
theorem runS_app {l : List Rl} {P : List Str} : ∀ (y z q : Str), runS l P q (y ++ z) = (runS l P q y).bind fun p => runS l P p z := by
  intro y
  induction y with
  | nil => intro z q; rfl
  | cons c y ih =>
    intro z q
    rw [List.cons_append, runS, runS]
    split
    · rfl
    · exact ih z _
theorem nm_mem {l : List Rl} {k n : Nat} {w : Str} : w ∈ nm l k (n + 1) ↔ ∃ v ∈ nm l k n, ∃ c, c < k ∧ w = v ++ [ltr c] ∧ endB l (v ++ [ltr c]) = false := by
  rw [nm, List.mem_flatMap]
  constructor
  · rintro ⟨v, hv, hw⟩
    obtain ⟨hw, he⟩ := List.mem_filter.1 hw
    unfold exts at hw
    obtain ⟨c, hc, rfl⟩ := List.mem_map.1 hw
    exact ⟨v, hv, c, List.mem_range.1 hc, rfl, by simpa using he⟩
  · rintro ⟨v, hv, c, hc, rfl, he⟩
    refine ⟨v, hv, List.mem_filter.2 ⟨?_, by rw [he]; rfl⟩⟩
    unfold exts
    exact List.mem_map.2 ⟨c, List.mem_range.2 hc, rfl⟩
theorem nm_len {l : List Rl} {k : Nat} : ∀ (n : Nat) (w : Str), w ∈ nm l k n → w.length = n := by
  intro n
  induction n with
  | zero => intro w h; rw [List.mem_singleton.1 h]; rfl
  | succ n ih =>
    intro w h
    obtain ⟨v, hv, c, _, rfl, _⟩ := nm_mem.1 h
    rw [List.length_append, ih v hv]; rfl
def Ltk (k : Nat) (y : Str) : Prop := ∀ c ∈ y, ∃ i, i < k ∧ c = ltr i
section
variable {l : List Rl} {P : List Str} {k : Nat} {L : List Str} {tab : List (List Int)} (hM : Mch l P k L tab)
include hM
theorem run_in : ∀ (v w q : Str) (n : Nat), w ∈ nm l k n → Ltk k v → runS l P (sufS P w) v = some q → w ++ v ∈ nm l k (n + v.length) := by
  intro v
  induction v with
  | nil => intro w q n h _ _; rw [List.append_nil]; exact h
  | cons c v ih =>
    intro w q n h hl hr
    rw [runS, end_step hM.pf hM.ne, sufS_step hM.pf] at hr
    split at hr
    · cases hr
    · rename_i he
      obtain ⟨i, hi, rfl⟩ := hl c (List.mem_cons_self)
      have h1 : w ++ [ltr i] ∈ nm l k (n + 1) := nm_mem.2 ⟨w, h, i, hi, rfl, by simpa using he⟩
      have := ih (w ++ [ltr i]) q (n + 1) h1 (fun c hc => hl c (List.mem_cons_of_mem _ hc)) hr
      rw [List.append_assoc] at this
      rw [List.length_cons, show n + (v.length + 1) = n + 1 + v.length by omega]
      exact this
theorem run_out : ∀ (y x : Str), x ++ y.reverse ∈ nm l k (x.length + y.length) → x ∈ nm l k x.length ∧ Ltk k y.reverse ∧ runS l P (sufS P x) y.reverse = some (sufS P (x ++ y.reverse)) := by
  intro y
  induction y with
  | nil => intro x h; rw [List.reverse_nil, List.append_nil] at h ⊢; exact ⟨h, (fun c hc => by cases hc), rfl⟩
  | cons c y ih =>
    intro x h
    rw [List.reverse_cons, ← List.append_assoc, List.length_cons, show x.length + (y.length + 1) = x.length + y.length + 1 by omega] at h
    obtain ⟨v, hv, i, hi, he, hend⟩ := nm_mem.1 h
    have h1 := List.append_inj' he rfl
    obtain ⟨h2, h3⟩ := h1
    have h3 : c = ltr i := by simpa using h3
    subst h3
    rw [← h2] at hv hend
    obtain ⟨k1, k2, k3⟩ := ih x hv
    refine ⟨k1, ?_, ?_⟩
    · rw [List.reverse_cons]
      intro d hd
      rcases List.mem_append.1 hd with hd | hd
      · exact k2 d hd
      · rw [List.mem_singleton.1 hd]; exact ⟨i, hi, rfl⟩
    · rw [List.reverse_cons, runS_app, k3]
      show runS l P (sufS P (x ++ y.reverse)) [ltr i] = _
      rw [runS, end_step hM.pf hM.ne, if_neg (by rw [hend]; decide), runS, sufS_step hM.pf, List.append_assoc]
theorem run_out2 {x y : Str} (h : x ++ y ∈ nm l k (x.length + y.length)) : x ∈ nm l k x.length ∧ Ltk k y ∧ runS l P (sufS P x) y = some (sufS P (x ++ y)) := by
  have := run_out hM y.reverse x (by rw [List.reverse_reverse, List.length_reverse]; exact h)
  rw [List.reverse_reverse] at this
  exact this
theorem pigeon {e : Nat} (he : NN l k e = 0) : NN l k L.length = 0 := by
  refine Classical.byContradiction (fun hne => ?_)
  obtain ⟨w, hw⟩ : ∃ w, w ∈ nm l k L.length := by
    cases hx : nm l k L.length with
    | nil => exact absurd (by unfold NN; rw [hx]; rfl) hne
    | cons w _ => exact ⟨w, List.mem_cons_self⟩
  have hwl := nm_len _ _ hw
  have hpre : ∀ i, i ≤ L.length → w.take i ∈ nm l k i := fun i hi => by
    have := (run_out2 hM (x := w.take i) (y := w.drop i) (by rw [List.take_append_drop, List.length_take, List.length_drop, show min i w.length + (w.length - i) = L.length by omega]; exact hw)).1
    rw [List.length_take, Nat.min_eq_left (by omega)] at this
    exact this
  have hex : ∃ i j, i < j ∧ j ≤ L.length ∧ sufS P (w.take i) = sufS P (w.take j) := by
    refine Classical.byContradiction (fun hno => ?_)
    have hnd : ((List.range (L.length + 1)).map fun i => sufS P (w.take i)).Nodup := by
      rw [List.nodup_iff_pairwise_ne, List.pairwise_map]
      rw [List.pairwise_iff_getElem]
      intro i j hi hj hij
      rw [List.length_range] at hi hj
      rw [List.getElem_range, List.getElem_range]
      intro h
      exact hno ⟨i, j, hij, by omega, h⟩
    have := nodup_le _ L hnd (fun a ha => by
      obtain ⟨i, hi, rfl⟩ := List.mem_map.1 ha
      exact nm_in hM i _ (hpre i (by have := List.mem_range.1 hi; omega)))
    rw [List.length_map, List.length_range] at this
    omega
  obtain ⟨i, j, hij, hj, hsame⟩ := hex
  have hxy : w.take i ++ (w.take j).drop i = w.take j := by
    have := List.take_append_drop i (w.take j)
    rwa [List.take_take, Nat.min_eq_left (by omega)] at this
  have hxl : (w.take i).length = i := by rw [List.length_take]; omega
  have hyl : ((w.take j).drop i).length = j - i := by rw [List.length_drop, List.length_take]; omega
  obtain ⟨hx, hy, hr⟩ := run_out2 hM (x := w.take i) (y := (w.take j).drop i) (by rw [hxy, hxl, hyl, show i + (j - i) = j by omega]; exact hpre j hj)
  rw [hxy, ← hsame] at hr
  rw [hxl] at hx
  generalize w.take i = x at *
  generalize (w.take j).drop i = y at *
  have hrep : ∀ t, Ltk k (List.replicate t y).flatten ∧ (List.replicate t y).flatten.length = t * (j - i) ∧ runS l P (sufS P x) (List.replicate t y).flatten = some (sufS P x) := by
    intro t
    induction t with
    | zero => exact ⟨(fun c hc => by cases hc), by simp, rfl⟩
    | succ t ih =>
      rw [List.replicate_succ, List.flatten_cons]
      refine ⟨fun c hc => ?_, ?_, ?_⟩
      · rcases List.mem_append.1 hc with h | h
        · exact hy c h
        · exact ih.1 c h
      · rw [List.length_append, ih.2.1, hyl, Nat.add_mul, Nat.one_mul]; omega
      · rw [runS_app, hr]; exact ih.2.2
  obtain ⟨r1, r2, r3⟩ := hrep e
  have hin := run_in hM _ x _ i hx r1 r3
  rw [r2] at hin
  have hz := NN_zero he (i + e * (j - i)) (by
    have : e * 1 ≤ e * (j - i) := Nat.mul_le_mul_left _ (by omega)
    omega)
  unfold NN at hz
  rw [List.eq_nil_of_length_eq_zero hz] at hin
  cases hin
theorem SizP_iff {m : Nat} (hm : L.length ≤ m) (T : Int) : SizP l k m T ↔ SizP l k L.length T := by
  constructor
  · rintro ⟨e, h1, h2, h3, rfl⟩
    have hz := pigeon hM h2
    have hs : SS l k L.length = SS l k e := by
      rcases Nat.le_total e L.length with h | h
      · exact SS_zero h2 h
      · exact (SS_zero hz h).symm
    exact ⟨L.length, Nat.le_refl _, hz, by rw [hs]; exact h3, by rw [hs]⟩
  · rintro ⟨e, h1, h2⟩
    exact ⟨e, Nat.le_trans h1 hm, h2⟩
end
end Go.Words
