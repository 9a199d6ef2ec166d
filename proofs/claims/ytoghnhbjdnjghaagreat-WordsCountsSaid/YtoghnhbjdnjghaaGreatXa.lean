/- Rewriting in plain words: steps, congruence, an order that every step goes down in, and Newman's lemma. -/
import Derived.Test.YtoghnhbjdnjghaaGreatWa
namespace Go.Words
open Go.W

def Stp (l : List Rl) (s t : Str) : Prop := ∃ (x : Str) (r : Rl) (y : Str), r ∈ l ∧ s = x ++ (r.1 ++ y) ∧ t = x ++ (r.2 ++ y)
inductive Sts (l : List Rl) : Str → Str → Prop
  | rfl (s : Str) : Sts l s s
  | head {s t u : Str} : Stp l s t → Sts l t u → Sts l s u
inductive Cg (l : List Rl) : Str → Str → Prop
  | rfl (s : Str) : Cg l s s
  | fwd {s t u : Str} : Stp l s t → Cg l t u → Cg l s u
  | bwd {s t u : Str} : Stp l t s → Cg l t u → Cg l s u

theorem Stp.of_mem {l : List Rl} {r : Rl} (h : r ∈ l) : Stp l r.1 r.2 := ⟨[], r, [], h, by simp, by simp⟩
theorem Stp.ctx {l : List Rl} {s t : Str} (p q : Str) (h : Stp l s t) : Stp l (p ++ (s ++ q)) (p ++ (t ++ q)) := by
  obtain ⟨x, r, y, hr, rfl, rfl⟩ := h
  exact ⟨p ++ x, r, y ++ q, hr, by simp, by simp⟩
theorem Sts.trans {l : List Rl} {s t u : Str} (h : Sts l s t) (k : Sts l t u) : Sts l s u := by
  induction h with
  | rfl => exact k
  | head h1 _ ih => exact .head h1 (ih k)
theorem Sts.one {l : List Rl} {s t : Str} (h : Stp l s t) : Sts l s t := .head h (.rfl _)
theorem Sts.ctx {l : List Rl} {s t : Str} (p q : Str) (h : Sts l s t) : Sts l (p ++ (s ++ q)) (p ++ (t ++ q)) := by
  induction h with
  | rfl => exact .rfl _
  | head h1 _ ih => exact .head (h1.ctx p q) ih
theorem Cg.trans {l : List Rl} {s t u : Str} (h : Cg l s t) (k : Cg l t u) : Cg l s u := by
  induction h with
  | rfl => exact k
  | fwd h1 _ ih => exact .fwd h1 (ih k)
  | bwd h1 _ ih => exact .bwd h1 (ih k)
theorem Cg.symm {l : List Rl} {s t : Str} (h : Cg l s t) : Cg l t s := by
  induction h with
  | rfl => exact .rfl _
  | fwd h1 _ ih => exact ih.trans (.bwd h1 (.rfl _))
  | bwd h1 _ ih => exact ih.trans (.fwd h1 (.rfl _))
theorem Cg.ctx {l : List Rl} {s t : Str} (p q : Str) (h : Cg l s t) : Cg l (p ++ (s ++ q)) (p ++ (t ++ q)) := by
  induction h with
  | rfl => exact .rfl _
  | fwd h1 _ ih => exact .fwd (h1.ctx p q) ih
  | bwd h1 _ ih => exact .bwd (h1.ctx p q) ih
theorem Sts.cg {l : List Rl} {s t : Str} (h : Sts l s t) : Cg l s t := by
  induction h with
  | rfl => exact .rfl _
  | head h1 _ ih => exact .fwd h1 ih
theorem Cg.of_mem {l : List Rl} {r : Rl} (h : r ∈ l) : Cg l r.1 r.2 := .fwd (.of_mem h) (.rfl _)
theorem Cg.map {l m : List Rl} (h : ∀ r ∈ l, Cg m r.1 r.2) {s t : Str} (k : Cg l s t) : Cg m s t := by
  have step : ∀ {s t : Str}, Stp l s t → Cg m s t := by
    rintro s t ⟨x, r, y, hr, rfl, rfl⟩
    exact (h r hr).ctx x y
  induction k with
  | rfl => exact .rfl _
  | fwd h1 _ ih => exact (step h1).trans ih
  | bwd h1 _ ih => exact (step h1).symm.trans ih

/-! ### The order -/
theorem cmpB_app : ∀ (x a b : Str), cmpB (x ++ a) (x ++ b) = cmpB a b := by
  intro x a b
  induction x with
  | nil => rfl
  | cons c x ih =>
    rw [List.cons_append, List.cons_append, cmpB_cons, if_neg (UInt8.lt_irrefl c), if_neg (UInt8.lt_irrefl c), ih]
theorem cmpB_appr : ∀ (a b y : Str), a.length = b.length → cmpB (a ++ y) (b ++ y) = cmpB a b := by
  intro a
  induction a with
  | nil => intro b y h; cases b with
    | nil => rw [List.nil_append, cmpB_self]; rfl
    | cons d b => cases h
  | cons c a ih =>
    intro b y h
    cases b with
    | nil => cases h
    | cons d b =>
      rw [List.cons_append, List.cons_append, cmpB_cons, cmpB_cons, ih b y (by simpa using h)]
theorem ordS_ctx {a b : Str} (x y : Str) (h : ordS a b < 0) : ordS (x ++ (a ++ y)) (x ++ (b ++ y)) < 0 := by
  have hl := ordS_len h
  unfold ordS at h ⊢
  have e1 : (x ++ (a ++ y)).length = x.length + a.length + y.length := by simp; omega
  have e2 : (x ++ (b ++ y)).length = x.length + b.length + y.length := by simp; omega
  rw [e1, e2]
  rcases Nat.lt_or_ge a.length b.length with h1 | h1
  · rw [if_pos (by omega)]; decide
  · rw [if_neg (by omega), if_neg (by omega)] at h
    rw [if_neg (by omega), if_neg (by omega), cmpB_app, cmpB_appr a b y (by omega)]
    exact h
/-- Every rule goes down. -/
def Dc (l : List Rl) : Prop := ∀ r ∈ l, ordS r.2 r.1 < 0
theorem Dc.ne {l : List Rl} (h : Dc l) {r : Rl} (hr : r ∈ l) : r.1 ≠ [] := by
  intro h0
  have h1 := h r hr
  have h2 := ordS_len h1
  rw [h0] at h1 h2
  have h3 : r.2 = [] := List.eq_nil_of_length_eq_zero (by simpa using h2)
  rw [h3] at h1
  exact absurd h1 (by decide)
theorem Stp.down {l : List Rl} (h : Dc l) {s t : Str} (k : Stp l s t) : ordS t s < 0 := by
  obtain ⟨x, r, y, hr, rfl, rfl⟩ := k
  exact ordS_ctx x y (h r hr)
theorem Sts.down {l : List Rl} (h : Dc l) {s t : Str} (k : Sts l s t) : t = s ∨ ordS t s < 0 := by
  induction k with
  | rfl => exact .inl _root_.rfl
  | head h1 _ ih =>
    have h1 := h1.down h
    rcases ih with rfl | ih
    · exact .inr h1
    · exact .inr (ordS_trans ih h1)

/-- The number of a string, its letters as digits from 1 to b. -/
def vl (off b : Nat) : Str → Nat
  | [] => 0
  | c :: s => (c.toNat + 1 - off) * b ^ s.length + vl off b s
def geo (b : Nat) : Nat → Nat
  | 0 => 0
  | n + 1 => b ^ n + geo b n
def Dg (off b : Nat) (s : Str) : Prop := ∀ c ∈ s, off ≤ c.toNat ∧ c.toNat + 1 - off ≤ b
theorem Dg.tail {off b : Nat} {c : UInt8} {s : Str} (h : Dg off b (c :: s)) : Dg off b s := fun d hd => h d (List.mem_cons_of_mem _ hd)
theorem geo_succ (b : Nat) : ∀ n, geo b (n + 1) = 1 + b * geo b n := by
  intro n
  induction n with
  | zero => simp [geo]
  | succ n ih =>
    have h1 : geo b (n + 1 + 1) = b ^ (n + 1) + geo b (n + 1) := _root_.rfl
    have h2 : geo b (n + 1) = b ^ n + geo b n := _root_.rfl
    rw [h1]
    conv => rhs; rw [h2, Nat.mul_add, ← Nat.add_assoc]
    rw [ih, Nat.pow_succ, Nat.mul_comm b (b ^ n)]
    omega
theorem geo_mono (b : Nat) : ∀ {m n : Nat}, m ≤ n → geo b m ≤ geo b n := by
  intro m n h
  induction h with
  | refl => exact Nat.le_refl _
  | step _ ih => exact Nat.le_trans ih (Nat.le_add_left _ _)
theorem vl_lo {off b : Nat} : ∀ {s : Str}, Dg off b s → geo b s.length ≤ vl off b s := by
  intro s
  induction s with
  | nil => intro _; exact Nat.le_refl _
  | cons c s ih =>
    intro h
    have h1 := ih h.tail
    have h2 := (h c (List.mem_cons_self)).1
    show b ^ s.length + geo b s.length ≤ (c.toNat + 1 - off) * b ^ s.length + vl off b s
    have h3 : 1 * b ^ s.length ≤ (c.toNat + 1 - off) * b ^ s.length := Nat.mul_le_mul_right _ (by omega)
    omega
theorem vl_hi {off b : Nat} : ∀ {s : Str}, Dg off b s → vl off b s < geo b (s.length + 1) := by
  intro s
  induction s with
  | nil => intro _; exact Nat.lt_of_lt_of_le Nat.zero_lt_one (by simp [geo])
  | cons c s ih =>
    intro h
    have h1 := ih h.tail
    have h2 := (h c (List.mem_cons_self)).2
    have h3 : (c.toNat + 1 - off) * b ^ s.length ≤ b * b ^ s.length := Nat.mul_le_mul_right _ h2
    have h4 : geo b (s.length + 1 + 1) = b ^ (s.length + 1) + geo b (s.length + 1) := _root_.rfl
    rw [Nat.pow_succ, Nat.mul_comm (b ^ s.length) b] at h4
    show (c.toNat + 1 - off) * b ^ s.length + vl off b s < geo b (s.length + 1 + 1)
    omega
theorem vl_cmp {off b : Nat} : ∀ {s t : Str}, Dg off b s → Dg off b t → s.length = t.length → cmpB s t < 0 → vl off b s < vl off b t := by
  intro s
  induction s with
  | nil => intro t _ _ hl h; cases t with
    | nil => exact absurd h (by decide)
    | cons d t => cases hl
  | cons c s ih =>
    intro t hs ht hl h
    cases t with
    | nil => cases hl
    | cons d t =>
      have hl2 : s.length = t.length := by simpa using hl
      clear hl
      rw [cmpB_cons] at h
      show (c.toNat + 1 - off) * b ^ s.length + vl off b s < (d.toNat + 1 - off) * b ^ t.length + vl off b t
      rcases u8_tri c d with k | rfl | k
      · have h1 := vl_hi hs.tail
        have h2 := vl_lo ht.tail
        have h3 : geo b (s.length + 1) = b ^ s.length + geo b s.length := _root_.rfl
        have k := UInt8.lt_iff_toNat_lt.1 k
        have h4 := (hs c (List.mem_cons_self)).1
        have h5 : ((c.toNat + 1 - off) + 1) * b ^ s.length ≤ (d.toNat + 1 - off) * b ^ s.length := Nat.mul_le_mul_right _ (by omega)
        rw [Nat.add_mul, Nat.one_mul] at h5
        rw [← hl2] at h2 ⊢
        omega
      · rw [if_neg (UInt8.lt_irrefl c), if_neg (UInt8.lt_irrefl c)] at h
        have := ih hs.tail ht.tail hl2 h
        rw [hl2]
        omega
      · rw [if_neg (u8_asym k), if_pos k] at h; exact absurd h (by decide)
theorem vl_lt {off b : Nat} {s t : Str} (hs : Dg off b s) (ht : Dg off b t) (h : ordS s t < 0) : vl off b s < vl off b t := by
  have hl := ordS_len h
  unfold ordS at h
  rcases Nat.lt_or_ge s.length t.length with h1 | h1
  · have h2 := vl_hi hs
    have h3 := vl_lo ht
    have h4 := geo_mono b (show s.length + 1 ≤ t.length from h1)
    omega
  · rw [if_neg (by omega), if_neg (by omega)] at h
    exact vl_cmp hs ht (by omega) h
theorem dg_all (s : Str) : Dg 0 256 s := fun c _ => ⟨Nat.zero_le _, by have := c.toNat_lt; omega⟩

/-! ### Newman's lemma -/
def Jn (l : List Rl) (s t : Str) : Prop := ∃ v, Sts l s v ∧ Sts l t v
theorem Jn.symm {l : List Rl} {s t : Str} (h : Jn l s t) : Jn l t s := by
  obtain ⟨v, h1, h2⟩ := h
  exact ⟨v, h2, h1⟩
theorem Jn.refl {l : List Rl} (s : Str) : Jn l s s := ⟨s, .rfl _, .rfl _⟩
theorem Jn.ctx {l : List Rl} {s t : Str} (p q : Str) (h : Jn l s t) : Jn l (p ++ (s ++ q)) (p ++ (t ++ q)) := by
  obtain ⟨v, h1, h2⟩ := h
  exact ⟨_, h1.ctx p q, h2.ctx p q⟩
theorem newman {l : List Rl} (hd : Dc l) (hlc : ∀ s t u, Stp l s t → Stp l s u → Jn l t u) : ∀ (n : Nat) (s t u : Str), vl 0 256 s < n → Sts l s t → Sts l s u → Jn l t u := by
  intro n
  induction n with
  | zero => intro s t u h; omega
  | succ n ih =>
    intro s t u hn h k
    cases h with
    | rfl => exact ⟨u, k, .rfl _⟩
    | head h1 h2 =>
      rename_i s1
      cases k with
      | rfl => exact ⟨t, .rfl _, .head h1 h2⟩
      | head k1 k2 =>
        rename_i s2
        have d1 := vl_lt (dg_all s1) (dg_all s) (h1.down hd)
        have d2 := vl_lt (dg_all s2) (dg_all s) (k1.down hd)
        obtain ⟨v, v1, v2⟩ := hlc s s1 s2 h1 k1
        obtain ⟨p, p1, p2⟩ := ih s1 t v (by omega) h2 v1
        obtain ⟨q, q1, q2⟩ := ih s2 p u (by omega) (v2.trans p2) k2
        exact ⟨q, p1.trans q1, q2⟩
theorem church {l : List Rl} (hd : Dc l) (hlc : ∀ s t u, Stp l s t → Stp l s u → Jn l t u) {s t : Str} (h : Cg l s t) : Jn l s t := by
  induction h with
  | rfl => exact .refl _
  | fwd h1 _ ih =>
    obtain ⟨v, v1, v2⟩ := ih
    exact ⟨v, .head h1 v1, v2⟩
  | bwd h1 _ ih =>
    obtain ⟨v, v1, v2⟩ := ih
    obtain ⟨p, p1, p2⟩ := newman hd hlc _ _ _ _ (Nat.lt_succ_self _) (Sts.one h1) v1
    exact ⟨p, p1, v2.trans p2⟩
def Nf (l : List Rl) (s : Str) : Prop := ∀ t, ¬ Stp l s t
theorem Nf.sts {l : List Rl} {s t : Str} (h : Nf l s) (k : Sts l s t) : t = s := by
  cases k with
  | rfl => exact _root_.rfl
  | head h1 _ => exact absurd h1 (h _)
theorem Nf.jn {l : List Rl} {s t : Str} (h : Nf l s) (k : Nf l t) (j : Jn l s t) : s = t := by
  obtain ⟨v, h1, h2⟩ := j
  rw [← h.sts h1, ← k.sts h2]

/-! ### First steps are steps -/
theorem firstM_stp {l : List Rl} {s : Str} {i : Nat} {r : Rl} (h : firstM l s = some (i, r)) : Stp l s (replM s i r) := by
  obtain ⟨h1, h2, y, hy⟩ := firstM_some h
  refine ⟨s.take i, r, y, h1, ?_, ?_⟩
  · rw [hy, List.take_append_drop]
  · unfold replM
    rw [← List.drop_drop, ← hy, List.drop_left]
theorem hit_nopre {l : List Rl} {s : Str} (h : hit l s = none) {r : Rl} (hr : r ∈ l) : ¬ r.1 <+: s := by
  intro hp
  have := List.find?_eq_none.1 h r hr
  exact this (List.isPrefixOf_iff_prefix.2 hp)
theorem firstM_nohit {l : List Rl} : ∀ {s : Str}, firstM l s = none → ∀ i, i < s.length → hit l (s.drop i) = none := by
  intro s
  induction s with
  | nil => intro _ i hi; cases hi
  | cons c s ih =>
    intro h i hi
    rw [firstM] at h
    cases hh : hit l (c :: s) with
    | some r => rw [hh] at h; cases h
    | none =>
      rw [hh] at h
      have h : firstM l s = none := by simpa using h
      cases i with
      | zero => exact hh
      | succ i => exact ih h i (by simpa using hi)
theorem firstM_nf {l : List Rl} (hd : Dc l) {s : Str} (h : firstM l s = none) : Nf l s := by
  rintro t ⟨x, r, y, hr, rfl, _⟩
  have hne := hd.ne hr
  have h1 := firstM_nohit h x.length (by
    have := List.length_pos_iff.2 hne
    simp only [List.length_append]; omega)
  rw [List.drop_left] at h1
  exact hit_nopre h1 hr ⟨y, _root_.rfl⟩
theorem nf_firstM {l : List Rl} {s : Str} (h : Nf l s) : firstM l s = none := by
  cases hf : firstM l s with
  | none => exact _root_.rfl
  | some p => exact absurd (firstM_stp (i := p.1) (r := p.2) hf) (h _)
theorem normN_sts {l : List Rl} : ∀ (k n : Nat) (s t : Str) (m : Nat), normN l k n s = some (t, m) → Sts l s t ∧ firstM l t = none ∧ (m = n ↔ firstM l s = none) := by
  intro k
  induction k with
  | zero =>
    intro n s t m h
    rw [normN] at h
    split at h
    · rename_i hf
      simp only [Option.some.injEq, Prod.mk.injEq] at h
      obtain ⟨rfl, rfl⟩ := h
      exact ⟨.rfl _, hf, by simp [hf]⟩
    · cases h
  | succ k ih =>
    intro n s t m h
    rw [normN] at h
    split at h
    · rename_i hf
      simp only [Option.some.injEq, Prod.mk.injEq] at h
      obtain ⟨rfl, rfl⟩ := h
      exact ⟨.rfl _, hf, by simp [hf]⟩
    · rename_i p hp
      obtain ⟨h1, h2, _⟩ := ih _ _ _ _ h
      have h4 := normN_le _ _ _ _ _ h
      exact ⟨.head (firstM_stp (i := p.1) (r := p.2) hp) h1, h2, ⟨fun h5 => by omega, fun h5 => by rw [hp] at h5; cases h5⟩⟩
theorem normM_sts {l : List Rl} {s t : Str} {m : Nat} (h : normM l s = some (t, m)) : Sts l s t ∧ firstM l t = none ∧ (m = 0 ↔ firstM l s = none) := normN_sts _ _ _ _ _ h

/-! ### Letters, and how many steps there may be -/
def Lg (off b : Nat) (l : List Rl) : Prop := ∀ r ∈ l, Dg off b r.1 ∧ Dg off b r.2
theorem Dg.app {off b : Nat} {s t : Str} : Dg off b (s ++ t) ↔ Dg off b s ∧ Dg off b t := by
  constructor
  · intro h
    exact ⟨fun c hc => h c (List.mem_append_left _ hc), fun c hc => h c (List.mem_append_right _ hc)⟩
  · rintro ⟨h1, h2⟩ c hc
    rcases List.mem_append.1 hc with h | h
    · exact h1 c h
    · exact h2 c h
theorem Stp.dg {off b : Nat} {l : List Rl} (h : Lg off b l) {s t : Str} (k : Stp l s t) (hs : Dg off b s) : Dg off b t := by
  obtain ⟨x, r, y, hr, rfl, rfl⟩ := k
  rw [Dg.app, Dg.app] at hs ⊢
  exact ⟨hs.1, (h r hr).2, hs.2.2⟩
theorem Sts.dg {off b : Nat} {l : List Rl} (h : Lg off b l) {s t : Str} (k : Sts l s t) (hs : Dg off b s) : Dg off b t := by
  induction k with
  | rfl => exact hs
  | head h1 _ ih => exact ih (h1.dg h hs)
theorem normN_ok {off b : Nat} {l : List Rl} (hd : Dc l) (h : Lg off b l) : ∀ (k n : Nat) (s : Str), Dg off b s → vl off b s ≤ k → ∃ p, normN l k n s = some p := by
  intro k
  induction k with
  | zero =>
    intro n s hs hv
    rw [normN]
    cases hf : firstM l s with
    | none => exact ⟨_, _root_.rfl⟩
    | some p =>
      have h1 := firstM_stp (i := p.1) (r := p.2) hf
      have h2 := vl_lt (h1.dg h hs) hs (h1.down hd)
      omega
  | succ k ih =>
    intro n s hs hv
    rw [normN]
    cases hf : firstM l s with
    | none => exact ⟨_, _root_.rfl⟩
    | some p =>
      have h1 := firstM_stp (i := p.1) (r := p.2) hf
      have h2 := vl_lt (h1.dg h hs) hs (h1.down hd)
      exact ih (n + 1) _ (h1.dg h hs) (by omega)
end Go.Words
