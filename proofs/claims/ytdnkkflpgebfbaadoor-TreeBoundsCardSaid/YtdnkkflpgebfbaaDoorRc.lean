/- The later neighbors are those that are reached through the set. -/
import Derived.Test.YtdnkkflpgebfbaaDoorWd
namespace Go.Tree
open Go.W

inductive Rch (g : List Nat) (S v : Nat) : Nat → Prop
  | base : Rch g S v v
  | step {u x : Nat} : Rch g S v u → (u = v ∨ S.testBit u = true) → (g.getD u 0).testBit x = true → Rch g S v x

structure LJ (g : List Nat) (S v : Nat) (s : LS) : Prop where
  sound : ∀ x, s.1.testBit x = true → Rch g S v x
  start : s.1.testBit v = true
  out : ∀ x, s.2.1.testBit x = true ↔ (s.1.testBit x = true ∧ x ≠ v ∧ S.testBit x = false)
  list : ∀ x, s.2.2.testBit x = true → s.1.testBit x = true ∧ (x = v ∨ S.testBit x = true)
  close : ∀ u, s.1.testBit u = true → (u = v ∨ S.testBit u = true) → s.2.2.testBit u = true ∨ ∀ x, (g.getD u 0).testBit x = true → s.1.testBit x = true

theorem closed_all {g : List Nat} {S v seen : Nat} (hv : seen.testBit v = true) (hc : ∀ u, seen.testBit u = true → (u = v ∨ S.testBit u = true) → ∀ x, (g.getD u 0).testBit x = true → seen.testBit x = true) : ∀ x, Rch g S v x → seen.testBit x = true := by
  intro x hx
  induction hx with
  | base => exact hv
  | step _ h2 h3 ih => exact hc _ ih h2 _ h3

theorem LJ.next {g : List Nat} {S v : Nat} {s : LS} (h : LJ g S v s) (h0 : s.2.2 ≠ 0) (hb : s.2.2 < 16384) : LJ g S v (latStep g S s) := by
  obtain ⟨seen, out, list⟩ := s
  simp only at h0 hb
  obtain ⟨t1, _, t3⟩ := tz_spec h0 (by omega)
  have hlu := h.list _ t1
  generalize hu : tz list = u at *
  have hst : latStep g S (seen, out, list) = (seen ||| bd (g.getD u 0) seen, out ||| bd (bd (g.getD u 0) seen) S, (list &&& (list - 1)) ||| (bd (g.getD u 0) seen &&& S)) := by
    simp only [latStep, hu]
  rw [hst]
  have e1 := h.sound
  have e2 := h.out
  have e3 := h.list
  have e4 := h.close
  have e5 := h.start
  simp only at e1 e2 e3 e4 e5 hlu t1
  refine ⟨?_, ?_, ?_, ?_, ?_⟩
  · intro x hx
    simp only [Nat.testBit_or, testBit_bd, Bool.or_eq_true, Bool.and_eq_true] at hx
    rcases hx with hx | ⟨hx, _⟩
    · exact e1 x hx
    · exact .step (e1 u hlu.1) hlu.2 hx
  · simp only [Nat.testBit_or, e5, Bool.true_or]
  · intro x
    simp only [Nat.testBit_or, testBit_bd, Bool.or_eq_true, Bool.and_eq_true, Bool.not_eq_true', e2 x]
    constructor
    · rintro (⟨h1, h2, h3⟩ | ⟨⟨h1, h2⟩, h3⟩)
      · exact ⟨.inl h1, h2, h3⟩
      · exact ⟨.inr ⟨h1, h2⟩, (fun hx => by rw [hx, e5] at h2; cases h2), h3⟩
    · rintro ⟨h1 | h1, h2, h3⟩
      · exact .inl ⟨h1, h2, h3⟩
      · exact .inr ⟨h1, h3⟩
  · intro x hx
    simp only [Nat.testBit_or, testBit_bd, Bool.or_eq_true, Bool.and_eq_true, Nat.testBit_and, Bool.not_eq_true'] at hx ⊢
    rcases hx with hx | hx
    · obtain ⟨h1, h2⟩ := e3 x hx.1
      exact ⟨.inl h1, h2⟩
    · exact ⟨.inr hx.1, .inr hx.2⟩
  · intro y hy hyS
    simp only [Nat.testBit_or, testBit_bd, Bool.or_eq_true, Bool.and_eq_true, Nat.testBit_and, Bool.not_eq_true'] at hy ⊢
    have hl1 : ∀ z, z ≠ u → list.testBit z = true → (list &&& (list - 1)).testBit z = true := by
      intro z hz hzl
      rw [t3, testBit_bd, Nat.testBit_two_pow, hzl]
      have : ¬ u = z := fun h => hz h.symm
      simp [this]
    have full : (∀ x, (g.getD u 0).testBit x = true → seen.testBit x = true ∨ (g.getD u 0).testBit x = true ∧ seen.testBit x = false) := by
      intro x hx
      cases hs : seen.testBit x with
      | true => exact .inl rfl
      | false => exact .inr ⟨hx, rfl⟩
    by_cases hyu : y = u
    · subst hyu; exact .inr full
    · rcases hy with hy | hy
      · rcases e4 y hy hyS with h1 | h1
        · left; left
          have := hl1 y hyu h1
          rw [Nat.testBit_and, Bool.and_eq_true] at this
          exact this
        · exact .inr fun x hx => .inl (h1 x hx)
      · refine .inl (.inr ⟨hy, ?_⟩)
        rcases hyS with hyv | hyS
        · rw [hyv, e5] at hy; cases hy.2
        · exact hyS
theorem LJ.all {g : List Nat} (hg : Gr g) {S v : Nat} : ∀ (k : Nat) (s : LS), LInv g.length s → LJ g S v s → latM g.length s ≤ k → LJ g S v (latL g S k s) ∧ (latL g S k s).2.2 = 0 := by
  intro k
  induction k with
  | zero =>
    intro s hI hJ hk
    refine ⟨hJ, ?_⟩
    by_cases h0 : s.2.2 = 0
    · exact h0
    · have := latStep_lt (gone := S) hg hI h0
      omega
  | succ k ih =>
    intro s hI hJ hk
    rw [latL]
    split
    · rename_i h0; exact ⟨hJ, h0⟩
    · rename_i h0
      have hlt := latStep_lt (gone := S) hg hI h0
      exact ih _ (latStep_inv hg hI h0) (hJ.next h0 (lt_pow16 hg.len hI.list)) (by omega)
theorem LJ.init (g : List Nat) (S v : Nat) : LJ g S v (2 ^ v, 0, 2 ^ v) := by
  have hb : ∀ x, (2 ^ v).testBit x = true ↔ x = v := by intro x; rw [Nat.testBit_two_pow]; simp [eq_comm]
  refine ⟨fun x hx => ?_, (hb v).2 rfl, fun x => ?_, fun x hx => ⟨hx, .inl ((hb x).1 hx)⟩, fun u hu _ => .inl hu⟩
  · rw [(hb x).1 hx]; exact .base
  · simp only [Nat.zero_testBit, Bool.false_eq_true, false_iff]
    rintro ⟨h1, h2, _⟩
    exact h2 ((hb x).1 h1)
/-- The later neighbors of a vertex. -/
theorem lat_iff {g : List Nat} (hg : Gr g) {S v : Nat} (hv : v < g.length) (x : Nat) : (lat g S v).testBit x = true ↔ (Rch g S v x ∧ x ≠ v ∧ S.testBit x = false) := by
  obtain ⟨h1, h2⟩ := LJ.all hg (S := S) (v := v) 16 _ (linv_init hv) (LJ.init g S v) (by have := latM_init hg.len hv; omega)
  unfold lat
  rw [h1.out x]
  constructor
  · rintro ⟨h3, h4⟩; exact ⟨h1.sound x h3, h4⟩
  · rintro ⟨h3, h4⟩
    refine ⟨closed_all h1.start (fun u hu hus => ?_) x h3, h4⟩
    rcases h1.close u hu hus with h5 | h5
    · rw [h2] at h5; simp at h5
    · exact h5

/-- The state of the reference's search. -/
structure RJ (g : List Nat) (S v : Nat) (seen queue out : Nat) : Prop where
  sound : ∀ x, seen.testBit x = true ∨ queue.testBit x = true → Rch g S v x
  start : seen.testBit v = true
  out : out = card (bd (bd seen (2 ^ v)) S)
  close : ∀ u, seen.testBit u = true → (u = v ∨ S.testBit u = true) → ∀ x, (g.getD u 0).testBit x = true → seen.testBit x = true ∨ queue.testBit x = true
theorem RJ.final {g : List Nat} (hg : Gr g) {S v seen out : Nat} (hv : v < g.length) (h : RJ g S v seen 0 out) : out = pc (lat g S v) := by
  rw [pc_card, h.out]
  congr 1
  apply Nat.eq_of_testBit_eq
  intro x
  have h1 := lat_iff hg (S := S) hv x
  have h2 : seen.testBit x = true ↔ Rch g S v x := ⟨fun h3 => h.sound x (.inl h3), closed_all h.start (fun u hu hus y hy => (h.close u hu hus y hy).elim id (fun h => by simp at h)) x⟩
  rw [Bool.eq_iff_iff, h1, ← h2, testBit_bd, testBit_bd, Nat.testBit_two_pow]
  simp only [Bool.and_eq_true, Bool.not_eq_true', decide_eq_false_iff_not]
  constructor
  · rintro ⟨⟨h3, h4⟩, h5⟩; exact ⟨h3, fun h => h4 h.symm, h5⟩
  · rintro ⟨h3, h4, h5⟩; exact ⟨⟨h3, fun h => h4 h.symm⟩, h5⟩
theorem RJ.init (g : List Nat) (S v : Nat) : RJ g S v (2 ^ v) (g.getD v 0) 0 := by
  have hb : ∀ x, (2 ^ v).testBit x = true ↔ x = v := by intro x; rw [Nat.testBit_two_pow]; simp [eq_comm]
  refine ⟨fun x hx => ?_, (hb v).2 rfl, ?_, fun u hu _ x hx => ?_⟩
  · rcases hx with hx | hx
    · rw [(hb x).1 hx]; exact .base
    · exact .step .base (.inl rfl) hx
  · have : bd (2 ^ v) (2 ^ v) = 0 := by unfold bd; simp
    rw [this]; unfold bd; simp [card_zero]
  · rw [(hb u).1 hu] at hx; exact .inr hx
theorem RJ.skip {g : List Nat} {S v seen queue out u : Nat} (h : RJ g S v seen queue out) (hs : seen.testBit u = true) : RJ g S v seen (bd queue (2 ^ u)) out := by
  refine ⟨fun x hx => h.sound x ?_, h.start, h.out, fun y hy hyS x hx => ?_⟩
  · rcases hx with hx | hx
    · exact .inl hx
    · rw [testBit_bd] at hx; simp at hx; exact .inr hx.1
  · rcases h.close y hy hyS x hx with h1 | h1
    · exact .inl h1
    · by_cases hxu : x = u
      · subst hxu; exact .inl hs
      · refine .inr ?_
        rw [testBit_bd, h1, Nat.testBit_two_pow]
        have : ¬ u = x := fun h => hxu h.symm
        simp [this]
theorem RJ.take {g : List Nat} {S v seen queue out u : Nat} (h : RJ g S v seen queue out) (hq : queue.testBit u = true) (hs : seen.testBit u = false) (hu : u < 16) (hS : S.testBit u = false) :
    RJ g S v (seen ||| 2 ^ u) (bd queue (2 ^ u)) (out + 1) := by
  have hr := h.sound u (.inr hq)
  have huv : u ≠ v := fun e => by rw [e, h.start] at hs; cases hs
  have hb : ∀ x, (2 ^ u).testBit x = true ↔ x = u := by intro x; rw [Nat.testBit_two_pow]; simp [eq_comm]
  refine ⟨fun x hx => ?_, by rw [Nat.testBit_or, h.start, Bool.true_or], ?_, fun y hy hyS x hx => ?_⟩
  · rw [Nat.testBit_or, testBit_bd, Bool.or_eq_true, hb, Bool.and_eq_true] at hx
    rcases hx with (hx | hx) | hx
    · exact h.sound x (.inl hx)
    · rw [hx]; exact hr
    · exact h.sound x (.inr hx.1)
  · have e1 : bd (bd (seen ||| 2 ^ u) (2 ^ v)) S = bd (bd seen (2 ^ v)) S ||| 2 ^ u := by
      apply Nat.eq_of_testBit_eq
      intro x
      rw [testBit_bd, testBit_bd, Nat.testBit_or, Nat.testBit_or, testBit_bd, testBit_bd, Nat.testBit_two_pow, Nat.testBit_two_pow]
      by_cases hx : u = x
      · subst hx
        have : ¬ v = u := fun h => huv h.symm
        simp [this, hS]
      · simp [hx]
    have d : bd (bd seen (2 ^ v)) S &&& 2 ^ u = 0 := by
      apply Nat.eq_of_testBit_eq
      intro x
      rw [Nat.testBit_and, testBit_bd, testBit_bd, Nat.testBit_two_pow]
      by_cases hx : u = x
      · subst hx; simp [hs]
      · simp [hx]
    rw [e1, card_or d, card_pow hu, h.out]
  · rw [Nat.testBit_or, Bool.or_eq_true, hb] at hy
    rcases hy with hy | hy
    · rcases h.close y hy hyS x hx with h1 | h1
      · exact .inl (by rw [Nat.testBit_or, h1, Bool.true_or])
      · by_cases hxu : x = u
        · exact .inl (by rw [Nat.testBit_or, Bool.or_eq_true, hb]; exact .inr hxu)
        · refine .inr ?_
          rw [testBit_bd, h1, Nat.testBit_two_pow]
          have : ¬ u = x := fun h => hxu h.symm
          simp [this]
    · rw [hy] at hyS
      rcases hyS with h1 | h1
      · exact absurd h1 huv
      · rw [hS] at h1; cases h1
theorem RJ.grow {g : List Nat} {S v seen queue out u : Nat} (h : RJ g S v seen queue out) (hq : queue.testBit u = true) (hs : seen.testBit u = false) (hS : S.testBit u = true) :
    RJ g S v (seen ||| 2 ^ u) (bd queue (2 ^ u) ||| bd (g.getD u 0) (seen ||| 2 ^ u)) out := by
  have hr := h.sound u (.inr hq)
  have hb : ∀ x, (2 ^ u).testBit x = true ↔ x = u := by intro x; rw [Nat.testBit_two_pow]; simp [eq_comm]
  refine ⟨fun x hx => ?_, by rw [Nat.testBit_or, h.start, Bool.true_or], ?_, fun y hy hyS x hx => ?_⟩
  · rw [Nat.testBit_or, Nat.testBit_or, testBit_bd, testBit_bd, Bool.or_eq_true, Bool.or_eq_true, hb, Bool.and_eq_true, Bool.and_eq_true] at hx
    rcases hx with (hx | hx) | hx | hx
    · exact h.sound x (.inl hx)
    · rw [hx]; exact hr
    · exact h.sound x (.inr hx.1)
    · exact .step hr (.inr hS) hx.1
  · rw [h.out]
    congr 1
    apply Nat.eq_of_testBit_eq
    intro x
    rw [testBit_bd, testBit_bd, testBit_bd, testBit_bd, Nat.testBit_or, Nat.testBit_two_pow, Nat.testBit_two_pow]
    by_cases hx : u = x
    · subst hx; simp [hS]
    · simp [hx]
  · rw [Nat.testBit_or, Bool.or_eq_true, hb] at hy
    have fin : seen.testBit x = true ∨ queue.testBit x = true ∨ (g.getD u 0).testBit x = true → (seen ||| 2 ^ u).testBit x = true ∨ (bd queue (2 ^ u) ||| bd (g.getD u 0) (seen ||| 2 ^ u)).testBit x = true := by
      intro hh
      cases hsx : (seen ||| 2 ^ u).testBit x with
      | true => exact .inl rfl
      | false =>
        refine .inr ?_
        have h1 := hsx
        rw [Nat.testBit_or, Bool.or_eq_false_iff] at h1
        rw [Nat.testBit_or, testBit_bd, testBit_bd, hsx, h1.2]
        rcases hh with hh | hh | hh
        · rw [h1.1] at hh; cases hh
        · rw [hh]; rfl
        · rw [hh]; simp
    rcases hy with hy | hy
    · rcases h.close y hy hyS x hx with h1 | h1
      · exact fin (.inl h1)
      · exact fin (.inr (.inl h1))
    · rw [hy] at hx; exact fin (.inr (.inr hx))
end Go.Tree
