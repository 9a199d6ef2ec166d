/- Graphs without a circle: their width, and their colourings. -/
import Derived.Test.YtdnkkflpgebfbaaDoorPe
import Derived.Test.YtdnkkflpgebfbaaDoorCf
namespace Go.Tree
open Go.W

/-! ### Edges inside a set, and at a vertex -/
def inS (S : Nat) (e : Ed) : Bool := S.testBit e.1.toNat && S.testBit e.2.toNat
def eS (es : List Ed) (S : Nat) : Nat := es.countP (inS S)
def dg (g : List Nat) (S v : Nat) : Nat := card (g.getD v 0 &&& S)
def tE (v : Nat) (e : Ed) (x : Nat) : Bool := (e.1.toNat == v && e.2.toNat == x) || (e.2.toNat == v && e.1.toNat == x)
def inc (S v : Nat) (e : Ed) : Bool := (e.1.toNat == v && S.testBit e.2.toNat) || (e.2.toNat == v && S.testBit e.1.toNat)
def Edg (n : Nat) (es : List Ed) : Prop := (∀ e ∈ es, e.1.toNat < n ∧ e.2.toNat < n ∧ e.1.toNat ≠ e.2.toNat) ∧ es.Pairwise fun e f => ∀ v x, tE v e x = true → tE v f x = false
theorem edg_of {n : Nat} {es : List Ed} (h : Okes n es) : Edg n es := by
  refine ⟨fun e he => ?_, ?_⟩
  · have := h.1 e he
    omega
  · refine List.Pairwise.imp_of_mem (fun {e f} he hf hef v x hx => ?_) h.2
    have h1 := h.1 e he
    have h2 := h.1 f hf
    cases hb : tE v f x with
    | false => rfl
    | true =>
      exfalso
      simp only [tE, Bool.or_eq_true, Bool.and_eq_true, beq_iff_eq] at hx hb
      obtain ⟨e1, e2⟩ := e
      obtain ⟨f1, f2⟩ := f
      simp only at *
      have key : (f1 = e1 ∧ f2 = e2) ∨ (f1 = e2 ∧ f2 = e1) := by omega
      rcases key with ⟨rfl, rfl⟩ | ⟨rfl, rfl⟩
      · exact hef.1 rfl
      · exact hef.2 rfl
theorem count_one {N a : Nat} (P : Nat → Bool) : (List.range N).countP (fun x => x == a && P x) = if a < N ∧ P a = true then 1 else 0 := by
  induction N with
  | zero => simp
  | succ N ih =>
    rw [List.range_succ, List.countP_append, ih]
    simp only [List.countP_cons, List.countP_nil]
    by_cases h : N = a
    · subst h
      simp
    · have e1 : (N == a) = false := beq_eq_false_iff_ne.2 h
      simp only [e1, Bool.false_and]
      by_cases h2 : a < N
      · have : a < N + 1 := by omega
        simp [h2, this]
      · have : ¬ a < N + 1 := by omega
        simp [h2, this]
theorem count_tE {n : Nat} (hn : n ≤ 16) {e : Ed} (h1 : e.1.toNat < n) (h2 : e.2.toNat < n) (hne : e.1.toNat ≠ e.2.toNat) (S v : Nat) : (List.range 16).countP (fun x => tE v e x && S.testBit x) = if inc S v e = true then 1 else 0 := by
  by_cases hv1 : e.1.toNat = v
  · have : (fun x => tE v e x && S.testBit x) = fun x => x == e.2.toNat && S.testBit x := by
      funext x
      simp only [tE, beq_iff_eq.2 hv1, Bool.true_and]
      have : (e.2.toNat == v) = false := beq_eq_false_iff_ne.2 (by omega)
      rw [this, Bool.false_and, Bool.or_false, Bool.beq_comm]
    rw [this, count_one]
    have e2 : (e.2.toNat == v) = false := beq_eq_false_iff_ne.2 (by omega)
    simp only [inc, beq_iff_eq.2 hv1, e2, Bool.true_and, Bool.false_and, Bool.or_false]
    have : e.2.toNat < 16 := by omega
    simp [this]
  · have e1 : (e.1.toNat == v) = false := beq_eq_false_iff_ne.2 hv1
    by_cases hv2 : e.2.toNat = v
    · have : (fun x => tE v e x && S.testBit x) = fun x => x == e.1.toNat && S.testBit x := by
        funext x
        simp only [tE, beq_iff_eq.2 hv2, e1, Bool.true_and, Bool.false_and, Bool.false_or]
        rw [Bool.beq_comm]
      rw [this, count_one]
      simp only [inc, beq_iff_eq.2 hv2, e1, Bool.true_and, Bool.false_and, Bool.false_or]
      have : e.1.toNat < 16 := by omega
      simp [this]
    · have e2 : (e.2.toNat == v) = false := beq_eq_false_iff_ne.2 hv2
      simp [tE, inc, e1, e2]
theorem deg_list {n : Nat} (hn : n ≤ 16) (S v : Nat) : ∀ (es : List Ed), Edg n es → (List.range 16).countP (fun x => (es.any fun e => tE v e x) && S.testBit x) = es.countP (inc S v) := by
  intro es
  induction es with
  | nil => intro _; simp
  | cons e r ih =>
    intro h
    obtain ⟨h1, h2⟩ := h
    rw [List.pairwise_cons] at h2
    obtain ⟨a1, a2, a3⟩ := h1 e (by simp)
    have e1 : (fun x => ((e :: r).any fun e => tE v e x) && S.testBit x) = fun x => (tE v e x && S.testBit x) || ((r.any fun e => tE v e x) && S.testBit x) := by
      funext x
      rw [List.any_cons, Bool.and_or_distrib_right]
    rw [e1, countP_or_disj, count_tE hn a1 a2 a3, ih ⟨fun f hf => h1 f (by simp [hf]), h2.2⟩, List.countP_cons, Nat.add_comm]
    intro x _ hx
    simp only [Bool.and_eq_true, List.any_eq_true] at hx
    obtain ⟨⟨hx1, _⟩, ⟨f, hf, hx2⟩, _⟩ := hx
    rw [h2.1 f hf v x hx1] at hx2
    cases hx2
section
variable {n : Int} {es : List Ed} {g : List Nat} (hmk : mkG n es = some g)
include hmk
theorem mk_edg : Edg g.length es := by
  obtain ⟨_, hl, _⟩ := mkG_gr hmk
  rw [hl]; exact edg_of (mkG_okes hmk)
theorem bit_tE {v : Nat} (hv : v < g.length) (x : Nat) : (g.getD v 0).testBit x = es.any fun e => tE v e x := by
  obtain ⟨hg, hl, _⟩ := mkG_gr hmk
  have hok := (mkG_okes hmk).1
  rw [Bool.eq_iff_iff, List.any_eq_true]
  constructor
  · intro hb
    obtain ⟨_, hx⟩ := hg.in_ hb
    obtain ⟨e, he, hee⟩ := (mkG_bits hmk hv hx).1 hb
    refine ⟨e, he, ?_⟩
    rcases hee with rfl | rfl <;> simp [tE]
  · rintro ⟨e, he, ht⟩
    have hr := hok e he
    simp only [tE, Bool.or_eq_true, Bool.and_eq_true, beq_iff_eq] at ht
    have hx : x < g.length := by omega
    refine (mkG_bits hmk hv hx).2 ⟨e, he, ?_⟩
    obtain ⟨a, b⟩ := e
    simp only at *
    rcases ht with ⟨h1, h2⟩ | ⟨h1, h2⟩
    · left; rw [Prod.mk.injEq]; omega
    · right; rw [Prod.mk.injEq]; omega
theorem dg_count {v : Nat} (hv : v < g.length) (S : Nat) : dg g S v = es.countP (inc S v) := by
  obtain ⟨hg, _⟩ := mkG_gr hmk
  have hn := hg.len
  rw [← deg_list (by omega) S v es (mk_edg hmk), dg, card]
  refine List.countP_congr fun x _ => ?_
  rw [Nat.testBit_and, bit_tE hmk hv]
theorem eS_less {S v : Nat} (hS : S.testBit v = true) (hv : v < g.length) : eS es S = eS es (bd S (2 ^ v)) + dg g S v := by
  rw [dg_count hmk hv, eS, eS, ← countP_or_disj]
  · refine List.countP_congr fun e he => ?_
    have := (mk_edg hmk).1 e he
    simp only [inS, inc, testBit_bd, Nat.testBit_two_pow, Bool.or_eq_true, Bool.and_eq_true, beq_iff_eq, Bool.not_eq_true', decide_eq_false_iff_not]
    constructor
    · rintro ⟨h1, h2⟩
      by_cases c1 : v = e.1.toNat
      · right; left; exact ⟨c1.symm, h2⟩
      · by_cases c2 : v = e.2.toNat
        · right; right; exact ⟨c2.symm, h1⟩
        · left; exact ⟨⟨h1, c1⟩, h2, c2⟩
    · rintro (⟨⟨h1, _⟩, h2, _⟩ | ⟨h1, h2⟩ | ⟨h1, h2⟩)
      · exact ⟨h1, h2⟩
      · exact ⟨by rw [h1]; exact hS, h2⟩
      · exact ⟨h2, by rw [h1]; exact hS⟩
  · intro e _ h
    simp only [inS, inc, testBit_bd, Nat.testBit_two_pow, Bool.or_eq_true, Bool.and_eq_true, beq_iff_eq, Bool.not_eq_true', decide_eq_false_iff_not] at h
    obtain ⟨⟨⟨_, c1⟩, _, c2⟩, h⟩ := h
    rcases h with ⟨h, _⟩ | ⟨h, _⟩
    · exact c1 h.symm
    · exact c2 h.symm
end
theorem sm_count (P : Nat → Bool) : ∀ N, sm N (fun i => if P i = true then 1 else 0) = (List.range N).countP P := by
  intro N
  induction N with
  | zero => rfl
  | succ N ih => rw [sm, ih, List.range_succ, List.countP_append]; simp [List.countP_cons]
theorem card_range {n S : Nat} (hn : n ≤ 16) (hS : S < 2 ^ n) : (List.range n).countP (fun i => S.testBit i) = card S := by
  have e : List.range 16 = List.range n ++ (List.range (16 - n)).map (n + ·) := by
    rw [← List.range_add]; congr 1; omega
  rw [card, e, List.countP_append]
  have : ((List.range (16 - n)).map (n + ·)).countP (fun i => S.testBit i) = 0 := by
    rw [List.countP_eq_zero]
    intro i hi
    obtain ⟨j, _, rfl⟩ := List.mem_map.1 hi
    rw [testBit_lt hS (by omega)]; simp
  omega
theorem deg_sum {n : Nat} (S : Nat) : ∀ (es : List Ed), Edg n es → sm n (fun v => if S.testBit v = true then es.countP (inc S v) else 0) = 2 * eS es S := by
  intro es
  induction es with
  | nil =>
    intro _
    rw [eS, List.countP_nil, Nat.mul_zero]
    refine Eq.trans ?_ (sm_zero n)
    refine sm_congr _ fun v _ => ?_
    simp
  | cons e r ih =>
    intro h
    obtain ⟨h1, h2⟩ := h
    rw [List.pairwise_cons] at h2
    obtain ⟨a1, a2, a3⟩ := h1 e (by simp)
    have ih' := ih ⟨fun f hf => h1 f (by simp [hf]), h2.2⟩
    have e1 : sm n (fun v => if S.testBit v = true then (e :: r).countP (inc S v) else 0) = sm n (fun v => (if v = e.1.toNat then (if inS S e = true then 1 else 0) else 0) + ((if v = e.2.toNat then (if inS S e = true then 1 else 0) else 0) + (if S.testBit v = true then r.countP (inc S v) else 0))) := by
      refine sm_congr _ fun v _ => ?_
      rw [List.countP_cons]
      by_cases c1 : v = e.1.toNat
      · have c2 : ¬ v = e.2.toNat := by omega
        rw [if_pos c1, if_neg c2]
        subst c1
        have c3 : (e.2.toNat == e.1.toNat) = false := beq_eq_false_iff_ne.2 (by omega)
        have hi : inc S e.1.toNat e = S.testBit e.2.toNat := by simp [inc, c3]
        rw [hi, inS]
        cases S.testBit e.1.toNat <;> cases S.testBit e.2.toNat <;> simp <;> omega
      · by_cases c2 : v = e.2.toNat
        · rw [if_neg c1, if_pos c2]
          subst c2
          have c3 : (e.1.toNat == e.2.toNat) = false := beq_eq_false_iff_ne.2 (by omega)
          have hi : inc S e.2.toNat e = S.testBit e.1.toNat := by simp [inc, c3]
          rw [hi, inS]
          cases S.testBit e.1.toNat <;> cases S.testBit e.2.toNat <;> simp <;> omega
        · rw [if_neg c1, if_neg c2]
          have d1 : (e.1.toNat == v) = false := beq_eq_false_iff_ne.2 (fun h => c1 h.symm)
          have d2 : (e.2.toNat == v) = false := beq_eq_false_iff_ne.2 (fun h => c2 h.symm)
          have hi : inc S v e = false := by simp [inc, d1, d2]
          rw [hi]
          simp
    rw [e1, sm_add, sm_add, ih', sm_single e.1.toNat (fun _ => if inS S e = true then 1 else 0), sm_single e.2.toNat (fun _ => if inS S e = true then 1 else 0), if_pos a1, if_pos a2, eS, eS, List.countP_cons]
    split <;> omega
/-- Where there are fewer edges than vertices, some vertex has one neighbor at most. -/
theorem leaf {n : Int} {es : List Ed} {g : List Nat} (hmk : mkG n es = some g) {S : Nat} (hS : S < 2 ^ g.length) (h : eS es S < card S) : ∃ v, v < g.length ∧ S.testBit v = true ∧ dg g S v ≤ 1 := by
  obtain ⟨hg, _⟩ := mkG_gr hmk
  have hn := hg.len
  apply Classical.byContradiction
  intro hno
  have hge : ∀ v, v < g.length → S.testBit v = true → 2 ≤ es.countP (inc S v) := by
    intro v hv hb
    rw [← dg_count hmk hv]
    apply Classical.byContradiction
    intro h2
    exact hno ⟨v, hv, hb, by omega⟩
  have h1 := deg_sum S es (mk_edg hmk)
  have h2 : sm g.length (fun v => 2 * (if S.testBit v = true then 1 else 0)) ≤ sm g.length (fun v => if S.testBit v = true then es.countP (inc S v) else 0) := by
    refine sm_le _ fun v hv => ?_
    cases hb : S.testBit v with
    | true => simpa using hge v hv hb
    | false => simp
  rw [sm_mul, sm_count, card_range (by omega) hS, h1] at h2
  omega

/-! ### Colourings: a vertex with one neighbor at most -/
theorem ind_iff {n : Int} {es : List Ed} {g : List Nat} (hmk : mkG n es = some g) {S : Nat} (hS : S < 2 ^ g.length) : fr (fun u v => !nb g u v) S = true ↔ ∀ u, S.testBit u = true → S &&& g.getD u 0 = 0 := by
  obtain ⟨hg, _⟩ := mkG_gr hmk
  have hn := hg.len
  rw [← ind_fr hmk hS, ind, elsTo_all (by omega) hS, List.all_eq_true]
  constructor
  · intro h u hu
    have := h u (mem_els.2 ⟨by have := lt_of_testBit hS hu; omega, hu⟩)
    simpa using this
  · intro h u hu
    simpa using h u (mem_els.1 hu).2
section
variable {n : Int} {es : List Ed} {g : List Nat} (hmk : mkG n es = some g)
include hmk
theorem ind_more {v x : Nat} (hv : v < g.length) (hx : x < 2 ^ g.length) : fr (fun u v => !nb g u v) (x ||| 2 ^ v) = (fr (fun u v => !nb g u v) x && decide (g.getD v 0 &&& x = 0)) := by
  have hy := mkG_symm hmk
  rw [Bool.eq_iff_iff, Bool.and_eq_true, decide_eq_true_eq, ind_iff hmk (or_pow_lt hx hv), ind_iff hmk hx]
  have hloop := mkG_loop hmk hv
  constructor
  · intro h
    refine ⟨fun u hu => ?_, ?_⟩
    · have := h u (by rw [Nat.testBit_or, hu]; rfl)
      apply Nat.eq_of_testBit_eq
      intro i
      have hi := congrArg (fun z => z.testBit i) this
      simp only [Nat.testBit_and, Nat.testBit_or, Nat.zero_testBit] at hi ⊢
      cases hxi : x.testBit i with
      | false => rfl
      | true => rw [hxi] at hi; simpa using hi
    · have := h v (by simp [Nat.testBit_or])
      apply Nat.eq_of_testBit_eq
      intro i
      have hi := congrArg (fun z => z.testBit i) this
      simp only [Nat.testBit_and, Nat.testBit_or, Nat.zero_testBit] at hi ⊢
      cases hxi : x.testBit i with
      | false => simp
      | true => rw [hxi] at hi; simpa using hi
  · rintro ⟨h1, h2⟩ u hu
    have hvx : ∀ i, x.testBit i = true → (g.getD v 0).testBit i = false := by
      intro i hi
      have := congrArg (fun z => z.testBit i) h2
      simp only [Nat.testBit_and, hi, Bool.and_true, Nat.zero_testBit] at this
      exact this
    apply Nat.eq_of_testBit_eq
    intro i
    rw [Nat.testBit_and, Nat.testBit_or, Nat.testBit_two_pow, Nat.zero_testBit]
    rw [Nat.testBit_or, Nat.testBit_two_pow] at hu
    cases hb : (g.getD u 0).testBit i with
    | false => simp
    | true =>
      have hbs := hy u i hb
      by_cases huv : v = u
      · subst huv
        by_cases hiv : v = i
        · subst hiv; rw [hloop] at hb; cases hb
        · cases hxi : x.testBit i with
          | false => simp [hiv]
          | true => rw [hvx i hxi] at hb; cases hb
      · have hxu : x.testBit u = true := by simpa [huv] using hu
        by_cases hiv : v = i
        · subst hiv; rw [hvx u hxu] at hbs; cases hbs
        · have := congrArg (fun z => z.testBit i) (h1 u hxu)
          simp only [Nat.testBit_and, hb, Bool.and_true, Nat.zero_testBit] at this
          simp [this, hiv]
theorem col_leaf : ∀ (c S v : Nat), S < 2 ^ g.length → S.testBit v = true →
    (g.getD v 0 &&& S = 0 → colD (fr fun u v => !nb g u v) c S = c * colD (fr fun u v => !nb g u v) c (bd S (2 ^ v))) ∧
    (∀ u, g.getD v 0 &&& S = 2 ^ u → colD (fr fun u v => !nb g u v) c S = (c - 1) * colD (fr fun u v => !nb g u v) c (bd S (2 ^ v))) := by
  intro c
  induction c with
  | zero =>
    intro S v hS hb
    have h0 : S ≠ 0 := by intro e; rw [e] at hb; simp at hb
    have : colD (fr fun u v => !nb g u v) 0 S = 0 := by rw [colD, if_neg h0]
    exact ⟨fun _ => by rw [this, Nat.zero_mul], fun _ _ => by rw [this, Nat.zero_sub, Nat.zero_mul]⟩
  | succ c ih =>
    intro S v hS hb
    have hv := lt_of_testBit hS hb
    have hT : bd S (2 ^ v) < 2 ^ g.length := Nat.lt_of_le_of_lt (bd_le _ _) hS
    have hloop := mkG_loop hmk hv
    -- for a part x without the vertex
    have hx1 : ∀ x, x &&& bd S (2 ^ v) = x → x.testBit v = false ∧ x < 2 ^ g.length ∧ (bd S x).testBit v = true ∧ bd (bd S x) (2 ^ v) = bd (bd S (2 ^ v)) x ∧ bd S (x ||| 2 ^ v) = bd (bd S (2 ^ v)) x ∧ bd S x < 2 ^ g.length := by
      intro x hx
      have h1 : x.testBit v = false := by
        cases hq : x.testBit v with
        | false => rfl
        | true =>
          have := sub_iff.1 hx v hq
          rw [testBit_bd, Nat.testBit_two_pow] at this
          simp at this
      refine ⟨h1, ?_, by rw [testBit_bd, hb, h1]; rfl, ?_, ?_, Nat.lt_of_le_of_lt (bd_le _ _) hS⟩
      · have : x &&& bd S (2 ^ v) ≤ bd S (2 ^ v) := Nat.and_le_right
        omega
      · apply Nat.eq_of_testBit_eq; intro i
        simp only [testBit_bd]
        cases S.testBit i <;> cases x.testBit i <;> cases (2 ^ v).testBit i <;> rfl
      · apply Nat.eq_of_testBit_eq; intro i
        simp only [testBit_bd, Nat.testBit_or]
        cases S.testBit i <;> cases x.testBit i <;> cases (2 ^ v).testBit i <;> rfl
    have hmask : ∀ x, g.getD v 0 &&& bd S x = bd (g.getD v 0 &&& S) x := by
      intro x
      apply Nat.eq_of_testBit_eq; intro i
      simp only [testBit_bd, Nat.testBit_and]
      cases S.testBit i <;> cases x.testBit i <;> cases (g.getD v 0).testBit i <;> rfl
    have hsplit := ss_part (n := g.length) hS hb (fun x => if fr (fun u v => !nb g u v) x = true then colD (fr fun u v => !nb g u v) c (bd S x) else 0)
    have hcol : colD (fr fun u v => !nb g u v) (c + 1) S = ss S (fun x => if fr (fun u v => !nb g u v) x = true then colD (fr fun u v => !nb g u v) c (bd S x) else 0) := rfl
    have hcolT : colD (fr fun u v => !nb g u v) (c + 1) (bd S (2 ^ v)) = ss (bd S (2 ^ v)) (fun x => if fr (fun u v => !nb g u v) x = true then colD (fr fun u v => !nb g u v) c (bd (bd S (2 ^ v)) x) else 0) := rfl
    have ss_add : ∀ (R : Nat) (f f' : Nat → Nat), ss R f + ss R f' = ss R (fun x => f x + f' x) := by
      intro R f f'
      unfold ss
      rw [← sm_add]
      refine sm_congr _ fun x _ => ?_
      split <;> rfl
    constructor
    · intro h0
      rw [hcol, hsplit, hcolT, ss_add, ← ss_mul]
      refine ss_congr fun x hx => ?_
      obtain ⟨h1, h2, h3, h4, h5, h6⟩ := hx1 x hx
      have hgx : g.getD v 0 &&& x = 0 := by
        apply Nat.eq_of_testBit_eq; intro i
        have hi := congrArg (fun z => z.testBit i) h0
        simp only [Nat.testBit_and, Nat.zero_testBit] at hi ⊢
        cases hq : x.testBit i with
        | false => simp
        | true =>
          have := sub_iff.1 hx i hq
          rw [testBit_bd, Bool.and_eq_true] at this
          rw [this.1] at hi
          simpa using hi
      rw [ind_more hmk hv h2, h5, decide_eq_true hgx, Bool.and_true]
      split
      · have h0' : g.getD v 0 &&& bd S x = 0 := by rw [hmask, h0]; exact Nat.le_zero.1 (bd_le 0 x)
        rw [(ih _ v h6 h3).1 h0', h4, Nat.add_mul, Nat.one_mul]
      · simp
    · intro u hu
      rw [hcol, hsplit, hcolT, ss_add, Nat.add_sub_cancel, ← ss_mul]
      refine ss_congr fun x hx => ?_
      obtain ⟨h1, h2, h3, h4, h5, h6⟩ := hx1 x hx
      have hub : (g.getD v 0).testBit u = true ∧ S.testBit u = true := by
        have := congrArg (fun z => z.testBit u) hu
        simpa [Nat.testBit_and, Nat.testBit_two_pow] using this
      have huv : u ≠ v := by intro e; rw [e, hloop] at hub; cases hub.1
      rw [ind_more hmk hv h2, h5]
      by_cases hux : x.testBit u = true
      · have hgx : ¬ (g.getD v 0 &&& x = 0) := by
          intro e
          have := congrArg (fun z => z.testBit u) e
          simp only [Nat.testBit_and, Nat.zero_testBit] at this
          rw [hub.1, hux] at this
          cases this
        rw [decide_eq_false hgx, Bool.and_false]
        simp only [Bool.false_eq_true, if_false, Nat.add_zero]
        split
        · have h0' : g.getD v 0 &&& bd S x = 0 := by
            rw [hmask, hu]
            apply Nat.eq_of_testBit_eq; intro i
            rw [testBit_bd, Nat.testBit_two_pow, Nat.zero_testBit]
            by_cases hi : u = i
            · subst hi; simp [hux]
            · simp [hi]
          rw [(ih _ v h6 h3).1 h0', h4]
        · rw [Nat.mul_zero]
      · have hux : x.testBit u = false := by simpa using hux
        have hgx : g.getD v 0 &&& x = 0 := by
          apply Nat.eq_of_testBit_eq; intro i
          have hi := congrArg (fun z => z.testBit i) hu
          simp only [Nat.testBit_and, Nat.testBit_two_pow, Nat.zero_testBit] at hi ⊢
          cases hq : x.testBit i with
          | false => simp
          | true =>
            have := sub_iff.1 hx i hq
            rw [testBit_bd, Bool.and_eq_true] at this
            rw [this.1] at hi
            have hne : ¬ u = i := by intro e; rw [e, hq] at hux; cases hux
            simpa [hne] using hi
        rw [decide_eq_true hgx, Bool.and_true]
        split
        · have hu' : g.getD v 0 &&& bd S x = 2 ^ u := by
            rw [hmask, hu]
            apply Nat.eq_of_testBit_eq; intro i
            rw [testBit_bd, Nat.testBit_two_pow]
            by_cases hi : u = i
            · subst hi; simp [hux]
            · simp [hi]
          rw [(ih _ v h6 h3).2 u hu', h4]
          cases c with
          | zero =>
            have hne : bd (bd S (2 ^ v)) x ≠ 0 := by
              intro e
              have := congrArg (fun z => z.testBit u) e
              have hvu : ¬ v = u := fun h => huv h.symm
              simp [testBit_bd, Nat.testBit_two_pow, hub.2, hux, hvu] at this
            rw [colD, if_neg hne]
          | succ c => rw [Nat.add_sub_cancel, Nat.add_mul c 1, Nat.one_mul]
        · rw [Nat.mul_zero]
theorem dg_cases {S v : Nat} (h : dg g S v ≤ 1) (hS : S < 2 ^ g.length) : (dg g S v = 0 ∧ g.getD v 0 &&& S = 0) ∨ (dg g S v = 1 ∧ ∃ u, g.getD v 0 &&& S = 2 ^ u) := by
  obtain ⟨hg, _⟩ := mkG_gr hmk
  have hn := hg.len
  have hlt : g.getD v 0 &&& S < 2 ^ g.length := Nat.lt_of_le_of_lt Nat.and_le_right hS
  have hlt' : g.getD v 0 &&& S < 16384 := lt_pow16 hn hlt
  unfold dg at *
  generalize g.getD v 0 &&& S = X at *
  by_cases h0 : X = 0
  · left; rw [h0, card_zero]; exact ⟨rfl, rfl⟩
  · right
    have h1 := card_rst h0 hlt'
    have h2 : card (rst X) = 0 := by omega
    refine ⟨by omega, tz X, ?_⟩
    have hr0 : rst X = 0 := by
      apply Classical.byContradiction
      intro hne
      obtain ⟨i, hi⟩ := pos_testBit hne
      have := card_pos (s := rst X) (i := i) (by have := lt_of_testBit (n := 14) (Nat.lt_of_le_of_lt (bd_le _ _) hlt') hi; omega) hi
      omega
    apply Nat.eq_of_testBit_eq; intro i
    have := congrArg (fun z => z.testBit i) hr0
    simp only [rst, low, testBit_bd, Nat.zero_testBit] at this
    have hb := (tz_spec h0 (by omega)).1
    rw [Nat.testBit_two_pow] at this ⊢
    by_cases hi : tz X = i
    · subst hi; simp [hb]
    · simpa [hi] using this
/-- The colourings of a forest. -/
theorem col_forest (hf : ∀ S, S ≠ 0 → S < 2 ^ g.length → eS es S < card S) (k : Nat) : ∀ (m S : Nat), card S = m → S < 2 ^ g.length → colD (fr fun u v => !nb g u v) k S = k ^ (card S - eS es S) * (k - 1) ^ eS es S := by
  obtain ⟨hg, _⟩ := mkG_gr hmk
  have hn := hg.len
  intro m
  induction m with
  | zero =>
    intro S hm hS
    have h0 : S = 0 := by
      apply Classical.byContradiction
      intro h
      have := hf S h hS
      omega
    subst h0
    have : eS es 0 = 0 := by
      rw [eS, List.countP_eq_zero]
      intro e _
      simp [inS]
    rw [colD_zero (fr_zero _), card_zero, this]
    rfl
  | succ m ih =>
    intro S hm hS
    have h0 : S ≠ 0 := by intro e; rw [e, card_zero] at hm; omega
    obtain ⟨v, hv, hb, hd⟩ := leaf hmk hS (hf S h0 hS)
    have hT : bd S (2 ^ v) < 2 ^ g.length := Nat.lt_of_le_of_lt (bd_le _ _) hS
    have hcT : card (bd S (2 ^ v)) + 1 = card S := by
      have := card_bd (a := S) (b := 2 ^ v) (fun i hi => by
        rw [Nat.testBit_two_pow] at hi
        have : v = i := by simpa using hi
        rw [← this]; exact hb)
      rw [card_pow (by omega)] at this
      exact this
    have he := eS_less hmk hb hv
    have ihT := ih (bd S (2 ^ v)) (by omega) hT
    have hle : eS es (bd S (2 ^ v)) ≤ card (bd S (2 ^ v)) := by
      by_cases hz : bd S (2 ^ v) = 0
      · have : eS es 0 = 0 := by
          rw [eS, List.countP_eq_zero]
          intro e _
          simp [inS]
        rw [hz, this]; omega
      · exact Nat.le_of_lt (hf _ hz hT)
    rcases dg_cases hmk hd hS with ⟨h1, h2⟩ | ⟨h1, u, h2⟩
    · rw [(col_leaf hmk k S v hS hb).1 h2, ihT, he, h1, Nat.add_zero, ← Nat.mul_assoc, ← Nat.pow_succ']
      congr 2
      omega
    · rw [(col_leaf hmk k S v hS hb).2 u h2, ihT, he, h1, Nat.pow_succ, Nat.mul_left_comm, Nat.mul_comm (k - 1)]
      congr 2
      omega
end
end Go.Tree
