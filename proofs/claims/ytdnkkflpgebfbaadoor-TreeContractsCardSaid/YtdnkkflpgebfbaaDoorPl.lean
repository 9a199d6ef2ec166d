/- Graphs with an edge or a vertex less: their edges and their widths. -/
import Derived.Test.YtdnkkflpgebfbaaDoorMP
namespace Go.Tree
open Go.W

/-! ### Lists of edges that make a graph -/
def Okes (n : Nat) (es : List Ed) : Prop := (∀ e ∈ es, 0 ≤ e.1 ∧ e.1 < n ∧ 0 ≤ e.2 ∧ e.2 < n ∧ e.1 ≠ e.2) ∧ es.Pairwise fun e f => f ≠ e ∧ f ≠ (e.2, e.1)
theorem Okes.sub {n : Nat} {es es' : List Ed} (h : Okes n es) (hs : es'.Sublist es) : Okes n es' := ⟨fun e he => h.1 e (hs.subset he), h.2.sublist hs⟩
theorem okes_snoc {n : Nat} {es : List Ed} {e : Ed} : Okes n (es ++ [e]) ↔ Okes n es ∧ (0 ≤ e.1 ∧ e.1 < n ∧ 0 ≤ e.2 ∧ e.2 < n ∧ e.1 ≠ e.2) ∧ ∀ f ∈ es, e ≠ f ∧ e ≠ (f.2, f.1) := by
  unfold Okes
  rw [List.pairwise_append]
  constructor
  · rintro ⟨h1, h2, _, h3⟩
    exact ⟨⟨fun f hf => h1 f (by simp [hf]), h2⟩, h1 e (by simp), fun f hf => h3 f hf e (by simp)⟩
  · rintro ⟨⟨h1, h2⟩, h3, h4⟩
    refine ⟨fun f hf => ?_, h2, by simp, fun f hf x hx => ?_⟩
    · rcases List.mem_append.1 hf with hf | hf
      · exact h1 f hf
      · rw [List.mem_singleton.1 hf]; exact h3
    · rw [List.mem_singleton.1 hx]; exact h4 f hf
theorem hasE_iff {es : List Ed} {u v : Int} : hasE es u v ↔ ∃ f ∈ es, (u, v) = f ∨ (u, v) = (f.2, f.1) := by
  constructor
  · rintro ⟨e, he, rfl | rfl⟩
    · exact ⟨_, he, .inl rfl⟩
    · exact ⟨_, he, .inr rfl⟩
  · rintro ⟨f, hf, h | h⟩
    · exact ⟨f, hf, .inl h.symm⟩
    · refine ⟨f, hf, .inr ?_⟩
      obtain ⟨a, b⟩ := f
      simp only [Prod.mk.injEq] at h ⊢
      exact ⟨h.2.symm, h.1.symm⟩
theorem bad_iff {n : Nat} (hn : n ≤ 14) {es : List Ed} {g : List Nat} (h : addEs n (List.replicate n 0) es = some g) (e : Ed) :
    Bad n g e ↔ ¬ ((0 ≤ e.1 ∧ e.1 < n ∧ 0 ≤ e.2 ∧ e.2 < n ∧ e.1 ≠ e.2) ∧ ∀ f ∈ es, e ≠ f ∧ e ≠ (f.2, f.1)) := by
  obtain ⟨a, b⟩ := e
  unfold Bad
  by_cases hr : 0 ≤ a ∧ a < n ∧ 0 ≤ b ∧ b < n ∧ a ≠ b
  · obtain ⟨h1, h2, h3, h4, h5⟩ := hr
    obtain ⟨u, rfl⟩ := Int.eq_ofNat_of_zero_le h1
    obtain ⟨v, rfl⟩ := Int.eq_ofNat_of_zero_le h3
    have hb := addEs_bits hn es g h u v (by omega) (by omega)
    rw [hasE_iff] at hb
    simp only [Int.toNat_natCast]
    constructor
    · rintro (hx | hx | hx | hx | hx | hx)
      · exact absurd hx (by omega)
      · exact absurd hx (by omega)
      · exact absurd hx (by omega)
      · exact absurd hx (by omega)
      · exact absurd hx h5
      · rintro ⟨_, hall⟩
        obtain ⟨f, hf, h6⟩ := hb.1 hx
        exact h6.elim (hall f hf).1 (hall f hf).2
    · intro hx
      refine .inr (.inr (.inr (.inr (.inr (hb.2 ?_)))))
      apply Classical.byContradiction
      intro hno
      exact hx ⟨⟨by omega, by omega, by omega, by omega, h5⟩, fun f hf => ⟨fun h => hno ⟨f, hf, .inl h⟩, fun h => hno ⟨f, hf, .inr h⟩⟩⟩
  · constructor
    · intro _ h; exact hr h.1
    · intro _
      simp only
      omega
theorem addEs_ok {n : Nat} (hn : n ≤ 14) : ∀ (es pre : List Ed) (g : List Nat), addEs n (List.replicate n 0) pre = some g → Okes n pre → ((addEs n g es).isSome = true ↔ Okes n (pre ++ es)) := by
  intro es
  induction es with
  | nil => intro pre g _ h; simp [addEs, h]
  | cons e r ih =>
    intro pre g hg h
    have hb := bad_iff hn hg e
    have hs := okes_snoc (n := n) (es := pre) (e := e)
    have ea : pre ++ e :: r = (pre ++ [e]) ++ r := by simp
    simp only [addEs]
    by_cases hbad : Bad n g e
    · have : addE n g e = none := by rw [addE, if_pos hbad]
      rw [this]
      simp only [Option.isSome_none, Bool.false_eq_true, false_iff]
      intro hok
      rw [ea] at hok
      exact (hb.1 hbad) (hs.1 (hok.sub (List.sublist_append_left _ _))).2
    · have h1 : ∃ g1, addE n g e = some g1 := by rw [addE, if_neg hbad]; exact ⟨_, rfl⟩
      obtain ⟨g1, h1⟩ := h1
      rw [h1, ea]
      refine ih (pre ++ [e]) g1 ?_ ?_
      · rw [addEs_append, hg]
        simp only [Option.bind_some, addEs, h1]
      · refine hs.2 ⟨h, ?_⟩
        apply Classical.byContradiction
        intro hno
        exact hbad (hb.2 hno)
theorem mkG_iff {n : Int} {es : List Ed} : (mkG n es).isSome = true ↔ 0 ≤ n ∧ n ≤ 14 ∧ es.length ≤ 100 ∧ Okes n.toNat es := by
  unfold mkG
  by_cases h : n < 0 ∨ 14 < n ∨ 100 < es.length
  · rw [if_pos h]
    simp only [Option.isSome_none, Bool.false_eq_true, false_iff]
    omega
  · rw [if_neg h, addEs_ok (by omega) es [] _ rfl ⟨fun e he => (by cases he), List.Pairwise.nil⟩]
    simp only [List.nil_append]
    constructor
    · intro h1; exact ⟨by omega, by omega, by omega, h1⟩
    · intro h1; exact h1.2.2.2
theorem mkG_some {n : Int} {es : List Ed} (h0 : 0 ≤ n) (h1 : n ≤ 14) (h2 : es.length ≤ 100) (h3 : Okes n.toNat es) : ∃ g, mkG n es = some g := Option.isSome_iff_exists.1 (mkG_iff.2 ⟨h0, h1, h2, h3⟩)
theorem mkG_okes {n : Int} {es : List Ed} {g : List Nat} (h : mkG n es = some g) : Okes n.toNat es := (mkG_iff.1 (by rw [h]; rfl)).2.2.2
theorem mkG_bits {n : Int} {es : List Ed} {g : List Nat} (h : mkG n es = some g) {u v : Nat} (hu : u < g.length) (hv : v < g.length) : (g.getD u 0).testBit v = true ↔ hasE es u v := by
  obtain ⟨hg, hl, hn0, hn, _⟩ := mkG_gr h
  have hadd : addEs n.toNat (List.replicate n.toNat 0) es = some g := by
    rw [mkG, if_neg (by omega)] at h; exact h
  exact addEs_bits (by omega) es g hadd u v (by omega) (by omega)
theorem Gr.in_ {g : List Nat} (hg : Gr g) {u v : Nat} (h : (g.getD u 0).testBit v = true) : u < g.length ∧ v < g.length := by
  refine ⟨?_, lt_of_testBit (hg.lt u) h⟩
  rcases Nat.lt_or_ge u g.length with h1 | h1
  · exact h1
  · rw [List.getD_eq_getElem?_getD, List.getElem?_eq_none h1] at h; simp at h

/-! ### Widths -/
def SubE (g' g : List Nat) : Prop := ∀ u x, (g'.getD u 0).testBit x = true → (g.getD u 0).testBit x = true
def Away (a : Nat) (g g' : List Nat) : Prop := ∀ u x, u ≠ a → x ≠ a → (g.getD u 0).testBit x = true → (g'.getD u 0).testBit x = true
theorem rch_sub {g' g : List Nat} (h : SubE g' g) {S' S v : Nat} (hS : ∀ i, S'.testBit i = true → S.testBit i = true) {x : Nat} (hx : Rch g' S' v x) : Rch g S v x := by
  induction hx with
  | base => exact .base
  | step _ hu hb ih => exact .step ih (hu.imp id (hS _)) (h _ _ hb)
theorem rch_away {a : Nat} {g g' : List Nat} (h : Away a g g') {S S' v : Nat} (ha : S.testBit a = false) (hva : v ≠ a) (hS : ∀ i, S.testBit i = true → S'.testBit i = true) {x : Nat} (hx : Rch g S v x) : x = a ∨ Rch g' S' v x := by
  induction hx with
  | base => exact .inr .base
  | @step u y _ hu hb ih =>
    have hua : u ≠ a := by
      rcases hu with hu | hu
      · rw [hu]; exact hva
      · intro e; rw [e, ha] at hu; cases hu
    by_cases hy : y = a
    · exact .inl hy
    · exact .inr (.step (ih.resolve_left hua) (hu.imp id (hS _)) (h _ _ hua hy hb))
theorem lat_sub {g' g : List Nat} (hg' : Gr g') (hg : Gr g) (h : SubE g' g) {S' S v : Nat} (hv' : v < g'.length) (hv : v < g.length) (hS : ∀ i, S'.testBit i = true → S.testBit i = true)
    (hx : ∀ x, x < g'.length → S'.testBit x = false → S.testBit x = false) : pc (lat g' S' v) ≤ pc (lat g S v) := by
  rw [pc_card, pc_card]
  refine card_mono fun x hb => ?_
  have hlt := lt_of_testBit (lat_lt hg' hv') hb
  obtain ⟨h1, h2, h3⟩ := (lat_iff hg' hv' x).1 hb
  exact (lat_iff hg hv x).2 ⟨rch_sub h hS h1, h2, hx x hlt h3⟩
theorem lat_away {a : Nat} {g g' : List Nat} (hg : Gr g) (hg' : Gr g') (h : Away a g g') (ha16 : a < 16) {S S' v : Nat} (hv : v < g.length) (hv' : v < g'.length) (ha : S.testBit a = false) (hva : v ≠ a)
    (hS : ∀ i, S.testBit i = true → S'.testBit i = true) (hx : ∀ x, x ≠ a → S.testBit x = false → S'.testBit x = false) : pc (lat g S v) ≤ pc (lat g' S' v) + 1 := by
  rw [pc_card, pc_card]
  have h1 : card (lat g S v) ≤ card (lat g' S' v ||| 2 ^ a) := by
    refine card_mono fun x hb => ?_
    obtain ⟨h1, h2, h3⟩ := (lat_iff hg hv x).1 hb
    rw [Nat.testBit_or, Nat.testBit_two_pow]
    rcases rch_away h ha hva hS h1 with h4 | h4
    · simp [h4]
    · by_cases hxa : x = a
      · simp [hxa]
      · rw [(lat_iff hg' hv' x).2 ⟨h4, h2, hx x hxa h3⟩]; rfl
  have h2 := card_le_or (lat g' S' v) (2 ^ a)
  rw [card_pow ha16] at h2
  omega
theorem full_ne {n S v : Nat} (hv : v < n) (hS : S.testBit v = false) : S ≠ full n := by
  intro e
  rw [e, full_testBit] at hS
  simp [hv] at hS
theorem wd_sub {g' g : List Nat} (hg' : Gr g') (hg : Gr g) (hl : g'.length = g.length) (h : SubE g' g) : ∀ (k S : Nat), S < 2 ^ g.length → k + card S = g.length → wd g' S ≤ wd g S := by
  intro k
  induction k with
  | zero =>
    intro S hS hk
    have : S = full g.length := by
      apply Classical.byContradiction
      intro hne
      have := card_lt_of_ne hg.len hS hne
      omega
    rw [this, wd_full, ← hl, wd_full]; omega
  | succ k ih =>
    intro S hS hk
    have hne : S ≠ full g.length := by
      intro e
      have := card_full (n := g.length) (by have := hg.len; omega)
      rw [e] at hk
      unfold full at hk
      omega
    obtain ⟨v, hv, h1, h2, h3⟩ := exists_best hg hS hne (Int.le_refl _)
    have h4 := ih _ (or_pow_lt hS hv) (by rw [card_add hg.len hS hv h1]; omega)
    have h5 := wd_step_le hg'.len (v := v) (by omega) h1
    have h6 := lat_sub hg' hg h (S' := S) (S := S) (v := v) (by omega) hv (fun _ h => h) (fun _ _ h => h)
    omega
theorem lat_last {g : List Nat} (hg : Gr g) {S a : Nat} (ha : a < g.length) (h : S ||| 2 ^ a = full g.length) : pc (lat g S a) = 0 := by
  have : lat g S a = 0 := by
    apply Nat.eq_of_testBit_eq
    intro x
    rw [Nat.zero_testBit]
    cases hb : (lat g S a).testBit x with
    | false => rfl
    | true =>
      have hlt := lt_of_testBit (lat_lt hg ha) hb
      obtain ⟨_, h2, h3⟩ := (lat_iff hg ha x).1 hb
      have := congrArg (fun z => z.testBit x) h
      simp only [Nat.testBit_or, h3, Nat.testBit_two_pow, full_testBit, hlt, decide_true, Bool.false_or, decide_eq_true_eq] at this
      exact absurd this.symm h2
  rw [this, pc_card, card_zero]
theorem or_comm3 (S a v : Nat) : (S ||| 2 ^ v) ||| 2 ^ a = (S ||| 2 ^ a) ||| 2 ^ v := by rw [Nat.or_assoc, Nat.or_assoc, Nat.or_comm (2 ^ v)]
theorem bit_or {S v i : Nat} (h : (S ||| 2 ^ v).testBit i = false) : S.testBit i = false ∧ i ≠ v := by
  rw [Nat.testBit_or, Nat.testBit_two_pow] at h
  simp at h
  exact ⟨h.1, fun e => h.2 e.symm⟩
theorem bit_or' {S v i : Nat} (h : S.testBit i = false) (hi : i ≠ v) : (S ||| 2 ^ v).testBit i = false := by
  rw [Nat.testBit_or, Nat.testBit_two_pow, h]
  simpa using fun e : v = i => hi e.symm
theorem bit_up {S v i : Nat} (h : S.testBit i = true) : (S ||| 2 ^ v).testBit i = true := by rw [Nat.testBit_or, h]; rfl
/-- Edges at one vertex more: one more at most. -/
theorem wd_away {g g' : List Nat} (hg : Gr g) (hg' : Gr g') (hl : g'.length = g.length) {a : Nat} (ha : a < g.length) (h : Away a g g') :
    ∀ (k S : Nat), S < 2 ^ g.length → k + card S = g.length → S.testBit a = false → wd g S ≤ wd g' (S ||| 2 ^ a) + 1 ∧ wd g S ≤ wd g' S + 1 := by
  have ha16 : a < 16 := by have := hg.len; omega
  intro k
  induction k with
  | zero =>
    intro S hS hk hSa
    have h1 := card_add hg.len hS ha hSa
    have h2 := card_le (by have := hg.len; omega) (or_pow_lt hS ha)
    omega
  | succ k ih =>
    intro S hS hk hSa
    have hne := full_ne ha hSa
    have first : wd g S ≤ wd g' (S ||| 2 ^ a) + 1 := by
      by_cases hf : S ||| 2 ^ a = full g.length
      · have h1 := wd_step_le hg.len ha hSa
        rw [lat_last hg ha hf, hf, wd_full] at h1
        rw [hf, ← hl, wd_full]
        omega
      · obtain ⟨v, hv, h1, h2, h3⟩ := exists_best hg' (S := S ||| 2 ^ a) (by rw [hl]; exact or_pow_lt hS ha) (by rw [hl]; exact hf) (Int.le_refl _)
        rw [hl] at hv
        obtain ⟨h4, h5⟩ := bit_or h1
        have h6 := (ih _ (or_pow_lt hS hv) (by rw [card_add hg.len hS hv h4]; omega) (bit_or' hSa (fun e => h5 e.symm))).1
        rw [or_comm3] at h6
        have h7 := wd_step_le hg.len hv h4
        have h8 := lat_away hg hg' h ha16 (S := S) (S' := S ||| 2 ^ a) hv (by omega) hSa h5 (fun i hi => bit_up hi) (fun x hx hxs => bit_or' hxs hx)
        omega
    refine ⟨first, ?_⟩
    obtain ⟨v, hv, h1, h2, h3⟩ := exists_best hg' (S := S) (by rw [hl]; exact hS) (by rw [hl]; exact hne) (Int.le_refl _)
    rw [hl] at hv
    by_cases hva : v = a
    · subst hva; omega
    · have h6 := (ih _ (or_pow_lt hS hv) (by rw [card_add hg.len hS hv h1]; omega) (bit_or' hSa (fun e => hva e.symm))).2
      have h7 := wd_step_le hg.len hv h1
      have h8 := lat_away hg hg' h ha16 (S := S) (S' := S) hv (by omega) hSa hva (fun i hi => hi) (fun x _ hxs => hxs)
      omega
section
variable {g g' : List Nat} (hg : Gr g) (hg' : Gr g') (hl : g.length = g'.length + 1)
include hg hg' hl
theorem wd_vert_up (h : Away g'.length g g') : ∀ (k S : Nat), S < 2 ^ g'.length → k + card S = g'.length → wd g S ≤ wd g' S + 1 := by
  have hn := hg.len
  intro k
  induction k with
  | zero =>
    intro S hS hk
    have hf : S = full g'.length := by
      apply Classical.byContradiction
      intro hne
      have := card_lt_of_ne hg'.len hS hne
      omega
    have hSa : S.testBit g'.length = false := testBit_lt hS (Nat.le_refl _)
    have hff : S ||| 2 ^ g'.length = full g.length := by
      apply Nat.eq_of_testBit_eq
      intro i
      rw [hf, Nat.testBit_or, full_testBit, full_testBit, Nat.testBit_two_pow, hl, Bool.eq_iff_iff]
      simp
      omega
    have h1 := wd_step_le hn (show g'.length < g.length by omega) hSa
    rw [lat_last hg (by omega) hff, hff, wd_full] at h1
    rw [hf, wd_full] at *
    omega
  | succ k ih =>
    intro S hS hk
    have hne : S ≠ full g'.length := by
      intro e
      have := card_full (n := g'.length) (by omega)
      rw [e] at hk
      unfold full at hk
      omega
    have hSa : S.testBit g'.length = false := testBit_lt hS (Nat.le_refl _)
    obtain ⟨v, hv, h1, h2, h3⟩ := exists_best hg' hS hne (Int.le_refl _)
    have h6 := ih _ (or_pow_lt hS hv) (by rw [card_add hg'.len hS hv h1]; omega)
    have h7 := wd_step_le hn (show v < g.length by omega) h1
    have h8 := lat_away hg hg' h (by omega) (S := S) (S' := S) (by omega) hv hSa (by omega) (fun i hi => hi) (fun x _ hxs => hxs)
    omega
theorem wd_vert_down (h : SubE g' g) : ∀ (k S : Nat), S < 2 ^ g'.length → k + card S = g'.length → wd g' S ≤ wd g (S ||| 2 ^ g'.length) ∧ wd g' S ≤ wd g S := by
  have hn := hg.len
  have hlt : ∀ S, S < 2 ^ g'.length → S < 2 ^ g.length := fun S hS => Nat.lt_of_lt_of_le hS (Nat.pow_le_pow_right (by decide) (by omega))
  intro k
  induction k with
  | zero =>
    intro S hS hk
    have hf : S = full g'.length := by
      apply Classical.byContradiction
      intro hne
      have := card_lt_of_ne hg'.len hS hne
      omega
    rw [hf, wd_full]
    exact ⟨wd_ge hn _, wd_ge hn _⟩
  | succ k ih =>
    intro S hS hk
    have hSa : S.testBit g'.length = false := testBit_lt hS (Nat.le_refl _)
    have hne : S ≠ full g'.length := by
      intro e
      have := card_full (n := g'.length) (by omega)
      rw [e] at hk
      unfold full at hk
      omega
    have first : wd g' S ≤ wd g (S ||| 2 ^ g'.length) := by
      have hf : S ||| 2 ^ g'.length ≠ full g.length := by
        intro hf
        apply hne
        apply Nat.eq_of_testBit_eq
        intro i
        have := congrArg (fun z => z.testBit i) hf
        simp only [Nat.testBit_or, Nat.testBit_two_pow, full_testBit] at this ⊢
        by_cases hi : i = g'.length
        · rw [hi, hSa]; simp
        · have e1 : ¬ g'.length = i := fun e => hi e.symm
          simp only [e1, decide_false, Bool.or_false] at this
          rw [this, Bool.eq_iff_iff]
          simp
          omega
      obtain ⟨v, hv, h1, h2, h3⟩ := exists_best hg (S := S ||| 2 ^ g'.length) (or_pow_lt (hlt S hS) (by omega)) hf (Int.le_refl _)
      obtain ⟨h4, h5⟩ := bit_or h1
      have hv' : v < g'.length := by omega
      have h6 := (ih _ (or_pow_lt hS hv') (by rw [card_add hg'.len hS hv' h4]; omega)).1
      rw [or_comm3] at h6
      have h7 := wd_step_le hg'.len hv' h4
      have h8 := lat_sub hg' hg h (S' := S) (S := S ||| 2 ^ g'.length) hv' hv (fun i hi => bit_up hi) (fun x hx hxs => bit_or' hxs (by omega))
      omega
    refine ⟨first, ?_⟩
    obtain ⟨v, hv, h1, h2, h3⟩ := exists_best hg (hlt S hS) (full_ne (show g'.length < g.length by omega) hSa) (Int.le_refl _)
    by_cases hva : v = g'.length
    · subst hva; omega
    · have hv' : v < g'.length := by omega
      have h6 := (ih _ (or_pow_lt hS hv') (by rw [card_add hg'.len hS hv' h1]; omega)).2
      have h7 := wd_step_le hg'.len hv' h1
      have h8 := lat_sub hg' hg h (S' := S) (S := S) hv' hv (fun i hi => hi) (fun x _ hxs => hxs)
      omega
end

/-- An edge less. -/
theorem less_edge {n : Int} {es : List Ed} {g : List Nat} (h : mkG n es = some g) {k : Nat} (hk : k < es.length) : ∃ g', mkG n (es.take k ++ es.drop (k + 1)) = some g' ∧ g'.length = g.length ∧ wd g' 0 ≤ wd g 0 ∧ wd g 0 ≤ wd g' 0 + 1 := by
  obtain ⟨hg, hl, hn0, hn, h100⟩ := mkG_gr h
  have hsub : (es.take k ++ es.drop (k + 1)).Sublist es := by
    rw [← List.eraseIdx_eq_take_drop_succ]; exact List.eraseIdx_sublist _ _
  obtain ⟨g', h'⟩ := mkG_some hn0 hn (Nat.le_trans hsub.length_le h100) ((mkG_okes h).sub hsub)
  obtain ⟨hg', hl', _, _, _⟩ := mkG_gr h'
  have hll : g'.length = g.length := by omega
  have hsplit : es = es.take k ++ es[k] :: es.drop (k + 1) := by rw [List.getElem_cons_drop, List.take_append_drop]
  have hmem : ∀ e ∈ es, e ∈ es.take k ++ es.drop (k + 1) ∨ e = es[k] := by
    intro e he
    rw [hsplit] at he
    simp only [List.mem_append, List.mem_cons] at he ⊢
    rcases he with he | he | he
    · exact .inl (.inl he)
    · exact .inr he
    · exact .inl (.inr he)
  refine ⟨g', h', hll, ?_, ?_⟩
  · refine wd_sub hg' hg hll ?_ g.length 0 (Nat.two_pow_pos _) (by rw [card_zero, Nat.add_zero])
    intro u x hb
    obtain ⟨hu, hx⟩ := hg'.in_ hb
    obtain ⟨e, he, hee⟩ := (mkG_bits h' hu hx).1 hb
    exact (mkG_bits h (by omega) (by omega)).2 ⟨e, hsub.subset he, hee⟩
  · obtain ⟨h1, h2, h3, h4, h5⟩ := (mkG_okes h).1 _ (List.getElem_mem hk)
    have ha : (es[k].1).toNat < g.length := by omega
    have haway : Away (es[k].1).toNat g g' := by
      intro u x hu hx hb
      obtain ⟨hu', hx'⟩ := hg.in_ hb
      obtain ⟨e, he, hee⟩ := (mkG_bits h hu' hx').1 hb
      refine (mkG_bits h' (by omega) (by omega)).2 ⟨e, (hmem e he).resolve_right ?_, hee⟩
      intro heq
      rw [heq] at hee
      rcases hee with hee | hee
      · rw [hee] at hu; exact hu rfl
      · rw [hee] at hx; exact hx rfl
    exact (wd_away hg hg' hll ha haway g.length 0 (Nat.two_pow_pos _) (by rw [card_zero, Nat.add_zero]) (Nat.zero_testBit _)).2
/-- The last vertex less. -/
def keepE (n : Int) (e : Ed) : Bool := e.1 != n - 1 && e.2 != n - 1
theorem less_vert {n : Int} {es : List Ed} {g : List Nat} (h : mkG n es = some g) (h1 : n ≠ 0) : ∃ g', mkG (n - 1) (es.filter (keepE n)) = some g' ∧ wd g' 0 ≤ wd g 0 ∧ wd g 0 ≤ wd g' 0 + 1 := by
  obtain ⟨hg, hl, hn0, hn, h100⟩ := mkG_gr h
  have hok := mkG_okes h
  have hok' : Okes (n - 1).toNat (es.filter (keepE n)) := by
    refine ⟨fun e he => ?_, (hok.2).sublist List.filter_sublist⟩
    obtain ⟨h2, h3⟩ := List.mem_filter.1 he
    obtain ⟨h4, h5, h6, h7, h8⟩ := hok.1 e h2
    simp [keepE] at h3
    exact ⟨h4, by omega, h6, by omega, h8⟩
  obtain ⟨g', h'⟩ := mkG_some (n := n - 1) (by omega) (by omega) (Nat.le_trans (List.length_filter_le _ _) h100) hok'
  obtain ⟨hg', hl', _, _, _⟩ := mkG_gr h'
  have hll : g.length = g'.length + 1 := by omega
  refine ⟨g', h', ?_, ?_⟩
  · refine (wd_vert_down hg hg' hll ?_ g'.length 0 (Nat.two_pow_pos _) (by rw [card_zero, Nat.add_zero])).2
    intro u x hb
    obtain ⟨hu, hx⟩ := hg'.in_ hb
    obtain ⟨e, he, hee⟩ := (mkG_bits h' hu hx).1 hb
    exact (mkG_bits h (by omega) (by omega)).2 ⟨e, (List.mem_filter.1 he).1, hee⟩
  · refine wd_vert_up hg hg' hll ?_ g'.length 0 (Nat.two_pow_pos _) (by rw [card_zero, Nat.add_zero])
    intro u x hu hx hb
    obtain ⟨hu', hx'⟩ := hg.in_ hb
    obtain ⟨e, he, hee⟩ := (mkG_bits h hu' hx').1 hb
    refine (mkG_bits h' (by omega) (by omega)).2 ⟨e, List.mem_filter.2 ⟨he, ?_⟩, hee⟩
    have e1 : e.1 ≠ n - 1 ∧ e.2 ≠ n - 1 := by rcases hee with hee | hee <;> rw [hee] <;> constructor <;> simp only <;> omega
    simp [keepE, e1.1, e1.2]
end Go.Tree
