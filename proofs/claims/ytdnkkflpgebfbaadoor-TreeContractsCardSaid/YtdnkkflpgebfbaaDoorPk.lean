/- The colourings without an edge: those with it and those where its ends are one vertex. -/
import Derived.Test.YtdnkkflpgebfbaaDoorPc
set_option linter.unusedSectionVars false
namespace Go.Tree
open Go.W

def mgV (a b n v : Nat) : Nat := if v = b then a else if v + 1 = n then b else v
def scV (b n x : Nat) : Nat := if x = b then n - 1 else x
structure Con (g g' h : List Nat) (a b : Nat) : Prop where
  ab : a < b
  bn : b < g.length
  edge : (g.getD a 0).testBit b = true
  len' : g'.length = g.length
  len : h.length + 1 = g.length
  bits' : ∀ u v, (g'.getD u 0).testBit v = true ↔ (g.getD u 0).testBit v = true ∧ ¬ (u = a ∧ v = b) ∧ ¬ (u = b ∧ v = a)
  bits : ∀ x y, x < h.length → y < h.length → ((h.getD x 0).testBit y = true ↔ ∃ u v, (g'.getD u 0).testBit v = true ∧ mgV a b g.length u = x ∧ mgV a b g.length v = y)
section
variable {n n1 n2 : Int} {es es1 es2 : List Ed} {g g' h : List Nat} (hmk : mkG n es = some g) (hmk1 : mkG n1 es1 = some g') (hmk2 : mkG n2 es2 = some h) {a b : Nat} (C : Con g g' h a b)
/-- The vertices of a set, taken apart. -/
def xt (g : List Nat) (a b x : Nat) : Nat := mkS (fun p => x.testBit (mgV a b g.length p)) g.length
theorem xt_bit (x p : Nat) : (xt g a b x).testBit p = (decide (p < g.length) && x.testBit (mgV a b g.length p)) := mkS_bit _ _ _
theorem xt_lt (x : Nat) : xt g a b x < 2 ^ g.length := mkS_lt _ _
theorem xt_bd (x y : Nat) : xt g a b (bd x y) = bd (xt g a b x) (xt g a b y) := by
  refine eq_bits fun p => ?_
  simp only [xt_bit, testBit_bd]
  cases decide (p < g.length) <;> simp
section
include C
theorem mg_lt {p : Nat} (hp : p < g.length) : mgV a b g.length p < h.length := by
  have := C.ab; have := C.bn; have := C.len
  unfold mgV
  split
  · omega
  · split <;> omega
theorem mg_a {p : Nat} : mgV a b g.length p = a ↔ p = a ∨ p = b := by
  have := C.ab; have := C.bn; have := C.len
  unfold mgV
  split
  · simp [*]
  · split
    · omega
    · omega
theorem sc_lt {x : Nat} (hx : x < h.length) : scV b g.length x < g.length := by
  have := C.ab; have := C.bn; have := C.len
  unfold scV
  split <;> omega
theorem mg_sc {x : Nat} (hx : x < h.length) : mgV a b g.length (scV b g.length x) = x := by
  have := C.ab; have := C.bn; have := C.len
  unfold mgV scV
  split
  · rename_i h1
    rw [if_neg (by omega), if_pos (by omega)]; exact h1.symm
  · rename_i h1
    rw [if_neg (by omega)]
theorem sc_mg {p : Nat} (hb : p ≠ b) : scV b g.length (mgV a b g.length p) = p := by
  have := C.ab; have := C.bn; have := C.len
  unfold mgV
  rw [if_neg hb]
  split
  · unfold scV; rw [if_pos rfl]; omega
  · unfold scV; rw [if_neg hb]
theorem xt_a (x : Nat) : (xt g a b x).testBit a = x.testBit a ∧ (xt g a b x).testBit b = x.testBit a := by
  have := C.ab; have := C.bn
  have h1 := (mg_a C (p := a)).2 (.inl rfl)
  have h2 := (mg_a C (p := b)).2 (.inr rfl)
  rw [xt_bit, xt_bit, h1, h2, decide_eq_true (show a < g.length by omega), decide_eq_true (show b < g.length by omega)]
  simp
theorem xt_or (x : Nat) : xt g a b (x ||| 2 ^ a) = (xt g a b x ||| 2 ^ a) ||| 2 ^ b := by
  have := C.ab; have := C.bn
  refine eq_bits fun p => ?_
  rw [xt_bit, Nat.testBit_or, Nat.testBit_or, Nat.testBit_or, xt_bit, Nat.testBit_two_pow, Nat.testBit_two_pow, Nat.testBit_two_pow]
  have hm : decide (a = mgV a b g.length p) = (decide (a = p) || decide (b = p)) := by
    rw [Bool.eq_iff_iff]
    simp only [Bool.or_eq_true, decide_eq_true_eq]
    constructor
    · intro e
      rcases (mg_a C).1 e.symm with h | h
      · exact .inl h.symm
      · exact .inr h.symm
    · rintro (h | h)
      · exact ((mg_a C).2 (.inl h.symm)).symm
      · exact ((mg_a C).2 (.inr h.symm)).symm
  rw [hm]
  by_cases hp : p < g.length
  · rw [decide_eq_true hp]
    cases x.testBit (mgV a b g.length p) <;> cases decide (a = p) <;> cases decide (b = p) <;> rfl
  · have e1 : ¬ a = p := by omega
    have e2 : ¬ b = p := by omega
    simp [hp, e1, e2]
theorem xt_full : xt g a b (full h.length) = full g.length := by
  refine eq_bits fun p => ?_
  rw [xt_bit, full_testBit, full_testBit]
  by_cases hp : p < g.length
  · rw [decide_eq_true hp, decide_eq_true (mg_lt C hp)]; rfl
  · rw [decide_eq_false hp]; rfl
/-- Sums over the parts of a set without the vertex a. -/
theorem xt_sum {R : Nat} (hR : R < 2 ^ h.length) (ha : R.testBit a = false) (f : Nat → Nat) : ss R (fun x => f (xt g a b x)) = ss (xt g a b R) f ∧ ∀ x, x &&& R = x → mkS (fun i => (xt g a b x).testBit (scV b g.length i)) h.length = x := by
  have key : ∀ x, x &&& R = x → mkS (fun i => (xt g a b x).testBit (scV b g.length i)) h.length = x := by
    intro x hx
    refine eq_bits fun i => ?_
    rw [mkS_bit]
    by_cases hi : i < h.length
    · rw [xt_bit, mg_sc C hi, decide_eq_true hi, decide_eq_true (sc_lt C hi)]; rfl
    · rw [decide_eq_false hi, Bool.false_and, sub_bit hx (testBit_lt hR (by omega))]
  refine ⟨ss_bij (xt g a b) (fun y => mkS (fun i => y.testBit (scV b g.length i)) h.length) f (fun x hx => ⟨?_, key x hx⟩) (fun y hy => ⟨?_, ?_⟩), key⟩
  · refine sub_iff.2 fun p hp => ?_
    rw [xt_bit, Bool.and_eq_true] at hp ⊢
    exact ⟨hp.1, sub_iff.1 hx _ hp.2⟩
  · refine sub_iff.2 fun i hi => ?_
    rw [mkS_bit, Bool.and_eq_true, decide_eq_true_eq] at hi
    have := sub_iff.1 hy _ hi.2
    rw [xt_bit, mg_sc C hi.1, Bool.and_eq_true] at this
    exact this.2
  · have hya := sub_bit hy (show (xt g a b R).testBit a = false by rw [(xt_a C R).1]; exact ha)
    have hyb := sub_bit hy (show (xt g a b R).testBit b = false by rw [(xt_a C R).2]; exact ha)
    refine eq_bits fun p => ?_
    rw [xt_bit, mkS_bit]
    by_cases hp : p < g.length
    · rw [decide_eq_true hp, decide_eq_true (mg_lt C hp), Bool.true_and, Bool.true_and]
      by_cases hb : p = b
      · have h2 : mgV a b g.length p = a := (mg_a C).2 (.inr hb)
        have h3 : scV b g.length a = a := by unfold scV; rw [if_neg (by have := C.ab; omega)]
        rw [h2, h3, hb, hya, hyb]
      · rw [sc_mg C hb]
    · rw [decide_eq_false hp, Bool.false_and]
      exact (sub_bit hy (testBit_lt (xt_lt _) (by omega))).symm
include hmk hmk1 hmk2
theorem ind_h {x : Nat} (hx : x < 2 ^ h.length) : Ind h x = Ind g' (xt g a b x) := by
  have hl : xt g a b x < 2 ^ g'.length := by rw [C.len']; exact xt_lt _
  rw [Bool.eq_iff_iff, ind_ex hmk2 hx, ind_ex hmk1 hl]
  constructor
  · intro H u v hu hv
    rw [xt_bit, Bool.and_eq_true, decide_eq_true_eq] at hu hv
    cases hb : (g'.getD u 0).testBit v with
    | false => rfl
    | true =>
      have := (C.bits _ _ (mg_lt C hu.1) (mg_lt C hv.1)).2 ⟨u, v, hb, rfl, rfl⟩
      rw [H _ _ hu.2 hv.2] at this
      cases this
  · intro H u v hu hv
    have h1 := lt_of_testBit hx hu
    have h2 := lt_of_testBit hx hv
    cases hb : (h.getD u 0).testBit v with
    | false => rfl
    | true =>
      obtain ⟨p, q, hpq, e1, e2⟩ := (C.bits u v h1 h2).1 hb
      obtain ⟨hg', _⟩ := mkG_gr hmk1
      obtain ⟨hp, hq⟩ := hg'.in_ hpq
      rw [C.len'] at hp hq
      have := H p q (by rw [xt_bit, e1, hu, decide_eq_true hp]; rfl) (by rw [xt_bit, e2, hv, decide_eq_true hq]; rfl)
      rw [this] at hpq; cases hpq
omit hmk2 in
theorem ind_same {S : Nat} (hS : S < 2 ^ g.length) (hn : ¬ (S.testBit a = true ∧ S.testBit b = true)) : Ind g' S = Ind g S := by
  have hl : S < 2 ^ g'.length := by rw [C.len']; exact hS
  rw [Bool.eq_iff_iff, ind_ex hmk1 hl, ind_ex hmk hS]
  constructor
  · intro H u v hu hv
    cases hb : (g.getD u 0).testBit v with
    | false => rfl
    | true =>
      have := (C.bits' u v).2 ⟨hb, fun h => hn ⟨by rw [← h.1]; exact hu, by rw [← h.2]; exact hv⟩, fun h => hn ⟨by rw [← h.2]; exact hv, by rw [← h.1]; exact hu⟩⟩
      rw [H u v hu hv] at this
      cases this
  · intro H u v hu hv
    cases hb : (g'.getD u 0).testBit v with
    | false => rfl
    | true =>
      have := ((C.bits' u v).1 hb).1
      rw [H u v hu hv] at this
      cases this
omit hmk1 hmk2 in
theorem ind_both {S : Nat} (hS : S < 2 ^ g.length) (ha : S.testBit a = true) (hb : S.testBit b = true) : Ind g S = false := by
  cases hq : Ind g S with
  | false => rfl
  | true =>
    have := (ind_ex hmk hS).1 hq a b ha hb
    rw [C.edge] at this; cases this
omit hmk2 in
theorem col_same : ∀ (k S : Nat), S < 2 ^ g.length → ¬ (S.testBit a = true ∧ S.testBit b = true) → colD (Ind g') k S = colD (Ind g) k S := by
  intro k
  induction k with
  | zero => intro S _ _; rfl
  | succ k ih =>
    intro S hS hn
    rw [colD, colD]
    refine ss_congr fun x hx => ?_
    have hxl : x < 2 ^ g.length := by
      have : x &&& S ≤ S := Nat.and_le_right
      omega
    rw [ind_same hmk hmk1 C hxl (fun h => hn ⟨sub_iff.1 hx _ h.1, sub_iff.1 hx _ h.2⟩), ih _ (Nat.lt_of_le_of_lt (bd_le _ _) hS) (fun h => hn (by rw [testBit_bd, testBit_bd, Bool.and_eq_true, Bool.and_eq_true] at h; exact ⟨h.1.1, h.2.1⟩))]
theorem col_con : ∀ (k S : Nat), S < 2 ^ h.length → (S.testBit a = false → colD (Ind h) k S = colD (Ind g) k (xt g a b S)) ∧ (S.testBit a = true → colD (Ind g') k (xt g a b S) = colD (Ind g) k (xt g a b S) + colD (Ind h) k S) := by
  have hab := C.ab
  have hbn := C.bn
  intro k
  induction k with
  | zero =>
    intro S hS
    constructor
    · intro ha
      rw [colD, colD]
      by_cases h0 : S = 0
      · subst h0
        have : xt g a b 0 = 0 := eq_bits fun p => by rw [xt_bit]; simp
        rw [this]
      · have : xt g a b S ≠ 0 := by
          intro e
          obtain ⟨i, hi⟩ := pos_testBit h0
          have hil := lt_of_testBit hS hi
          have := congrArg (fun z => z.testBit (scV b g.length i)) e
          simp only [xt_bit, mg_sc C hil, hi, decide_eq_true (sc_lt C hil), Nat.zero_testBit] at this
          cases this
        rw [if_neg h0, if_neg this]
    · intro ha
      have h0 : S ≠ 0 := by intro e; rw [e] at ha; simp at ha
      have h1 : xt g a b S ≠ 0 := by
        intro e
        have := (xt_a C S).1
        rw [e, ha] at this
        simp at this
      rw [colD, colD, colD, if_neg h0, if_neg h1]
  | succ k ih =>
    intro S hS
    have hSb : ∀ x, bd S x < 2 ^ h.length := fun x => Nat.lt_of_le_of_lt (bd_le _ _) hS
    have hsub : ∀ {x R : Nat}, x &&& R = x → R < 2 ^ h.length → x < 2 ^ h.length := by
      intro x R hx hR
      have : x &&& R ≤ R := Nat.and_le_right
      omega
    constructor
    · intro ha
      rw [colD, colD, ← (xt_sum C hS ha _).1]
      refine ss_congr fun x hx => ?_
      have hxa := sub_bit hx ha
      have h1 := (ih (bd S x) (hSb x)).1 (by rw [testBit_bd, ha]; rfl)
      rw [ind_h hmk hmk1 hmk2 C (hsub hx hS), ind_same hmk hmk1 C (xt_lt _) (fun h => by rw [(xt_a C x).1, hxa] at h; cases h.1), h1, xt_bd]
    · intro ha
      have hX := xt_lt (g := g) (a := a) (b := b) S
      have hXa : (xt g a b S).testBit a = true := by rw [(xt_a C S).1]; exact ha
      have hXb : (xt g a b S).testBit b = true := by rw [(xt_a C S).2]; exact ha
      have hRa : (bd S (2 ^ a)).testBit a = false := by rw [testBit_bd, Nat.testBit_two_pow]; simp
      have hR : bd S (2 ^ a) < 2 ^ h.length := hSb _
      have hT : bd (bd (xt g a b S) (2 ^ b)) (2 ^ a) = xt g a b (bd S (2 ^ a)) := by
        rw [xt_bd]
        refine eq_bits fun p => ?_
        simp only [testBit_bd, Nat.testBit_two_pow]
        have : (xt g a b (2 ^ a)).testBit p = (decide (p < g.length) && (decide (a = p) || decide (b = p))) := by
          rw [xt_bit, Nat.testBit_two_pow]
          congr 1
          rw [Bool.eq_iff_iff]
          simp only [Bool.or_eq_true, decide_eq_true_eq]
          constructor
          · intro e
            rcases (mg_a C).1 e.symm with h | h
            · exact .inl h.symm
            · exact .inr h.symm
          · rintro (h | h)
            · exact ((mg_a C).2 (.inl h.symm)).symm
            · exact ((mg_a C).2 (.inr h.symm)).symm
        rw [this]
        by_cases hp : p < g.length
        · rw [decide_eq_true hp]
          cases (xt g a b S).testBit p <;> cases decide (a = p) <;> cases decide (b = p) <;> rfl
        · rw [testBit_lt hX (by omega)]; rfl
      have four : ∀ F : Nat → Nat, ss (xt g a b S) F = (ss (xt g a b (bd S (2 ^ a))) F + ss (xt g a b (bd S (2 ^ a))) (fun z => F (z ||| 2 ^ a))) + (ss (xt g a b (bd S (2 ^ a))) (fun z => F (z ||| 2 ^ b)) + ss (xt g a b (bd S (2 ^ a))) (fun z => F ((z ||| 2 ^ a) ||| 2 ^ b))) := by
        intro F
        have hXb2 : bd (xt g a b S) (2 ^ b) < 2 ^ g.length := Nat.lt_of_le_of_lt (bd_le _ _) hX
        have hba : (bd (xt g a b S) (2 ^ b)).testBit a = true := by
          rw [testBit_bd, hXa, Nat.testBit_two_pow]
          have : ¬ b = a := by omega
          simp [this]
        rw [ss_part hX hXb, ss_part hXb2 hba, ss_part hXb2 hba, hT]
      have tz : ∀ {z : Nat}, z &&& xt g a b (bd S (2 ^ a)) = z → z.testBit a = false ∧ z.testBit b = false ∧ z < 2 ^ g.length := by
        intro z hz
        refine ⟨sub_bit hz (by rw [(xt_a C _).1]; exact hRa), sub_bit hz (by rw [(xt_a C _).2]; exact hRa), ?_⟩
        have : z &&& xt g a b (bd S (2 ^ a)) ≤ xt g a b (bd S (2 ^ a)) := Nat.and_le_right
        have := xt_lt (g := g) (a := a) (b := b) (bd S (2 ^ a))
        omega
      have hcolh : colD (Ind h) (k + 1) S = ss (bd S (2 ^ a)) (fun x => if Ind h x = true then colD (Ind h) k (bd S x) else 0) + ss (bd S (2 ^ a)) (fun x => if Ind h (x ||| 2 ^ a) = true then colD (Ind h) k (bd S (x ||| 2 ^ a)) else 0) := by
        rw [colD, ss_part hS ha]
      rw [hcolh, colD, colD, four, four]
      -- neither of both
      have p1 : ss (xt g a b (bd S (2 ^ a))) (fun z => if Ind g' z = true then colD (Ind g') k (bd (xt g a b S) z) else 0) = ss (xt g a b (bd S (2 ^ a))) (fun z => if Ind g z = true then colD (Ind g) k (bd (xt g a b S) z) else 0) + ss (bd S (2 ^ a)) (fun x => if Ind h x = true then colD (Ind h) k (bd S x) else 0) := by
        rw [← (xt_sum C hR hRa _).1, ← (xt_sum C hR hRa _).1]
        have ss_add : ∀ (R : Nat) (f f' : Nat → Nat), ss R f + ss R f' = ss R (fun x => f x + f' x) := by
          intro R f f'
          unfold ss
          rw [← sm_add]
          refine sm_congr _ fun x _ => ?_
          split <;> rfl
        rw [ss_add]
        refine ss_congr fun x hx => ?_
        have hxa := sub_bit hx hRa
        have hsa := ind_same hmk hmk1 C (xt_lt (g := g) (a := a) (b := b) x) (fun h => by rw [(xt_a C x).1, hxa] at h; cases h.1)
        have h1 := (ih (bd S x) (hSb x)).2 (by rw [testBit_bd, ha, hxa]; rfl)
        rw [← xt_bd, ind_h hmk hmk1 hmk2 C (hsub hx hR), hsa]
        split
        · exact h1
        · rfl
      -- one of both
      have p2 : ss (xt g a b (bd S (2 ^ a))) (fun z => if Ind g' (z ||| 2 ^ a) = true then colD (Ind g') k (bd (xt g a b S) (z ||| 2 ^ a)) else 0) = ss (xt g a b (bd S (2 ^ a))) (fun z => if Ind g (z ||| 2 ^ a) = true then colD (Ind g) k (bd (xt g a b S) (z ||| 2 ^ a)) else 0) := by
        refine ss_congr fun z hz => ?_
        obtain ⟨z1, z2, z3⟩ := tz hz
        have hne : ¬ a = b := by omega
        rw [ind_same hmk hmk1 C (or_pow_lt z3 (by omega)) (fun h => by have h2 := h.2; rw [Nat.testBit_or, z2, Nat.testBit_two_pow] at h2; simp [hne] at h2),
          col_same hmk hmk1 C k _ (Nat.lt_of_le_of_lt (bd_le _ _) hX) (fun h => by have h2 := h.1; rw [testBit_bd, Nat.testBit_or, Nat.testBit_two_pow] at h2; simp at h2)]
      have p3 : ss (xt g a b (bd S (2 ^ a))) (fun z => if Ind g' (z ||| 2 ^ b) = true then colD (Ind g') k (bd (xt g a b S) (z ||| 2 ^ b)) else 0) = ss (xt g a b (bd S (2 ^ a))) (fun z => if Ind g (z ||| 2 ^ b) = true then colD (Ind g) k (bd (xt g a b S) (z ||| 2 ^ b)) else 0) := by
        refine ss_congr fun z hz => ?_
        obtain ⟨z1, z2, z3⟩ := tz hz
        have hne : ¬ b = a := by omega
        rw [ind_same hmk hmk1 C (or_pow_lt z3 hbn) (fun h => by have h2 := h.1; rw [Nat.testBit_or, z1, Nat.testBit_two_pow] at h2; simp [hne] at h2),
          col_same hmk hmk1 C k _ (Nat.lt_of_le_of_lt (bd_le _ _) hX) (fun h => by have h2 := h.2; rw [testBit_bd, Nat.testBit_or, Nat.testBit_two_pow] at h2; simp at h2)]
      -- both
      have p4 : ss (xt g a b (bd S (2 ^ a))) (fun z => if Ind g ((z ||| 2 ^ a) ||| 2 ^ b) = true then colD (Ind g) k (bd (xt g a b S) ((z ||| 2 ^ a) ||| 2 ^ b)) else 0) = 0 := by
        rw [ss_congr (g := fun _ => 0), ss_null]
        intro z hz
        obtain ⟨z1, z2, z3⟩ := tz hz
        rw [ind_both hmk C (or_pow_lt (or_pow_lt z3 (by omega)) hbn) (by simp [Nat.testBit_or, Nat.testBit_two_pow]) (by simp [Nat.testBit_or, Nat.testBit_two_pow])]
        rfl
      have p5 : ss (xt g a b (bd S (2 ^ a))) (fun z => if Ind g' ((z ||| 2 ^ a) ||| 2 ^ b) = true then colD (Ind g') k (bd (xt g a b S) ((z ||| 2 ^ a) ||| 2 ^ b)) else 0) = ss (bd S (2 ^ a)) (fun x => if Ind h (x ||| 2 ^ a) = true then colD (Ind h) k (bd S (x ||| 2 ^ a)) else 0) := by
        rw [← (xt_sum C hR hRa _).1]
        refine ss_congr fun x hx => ?_
        have hxa : x ||| 2 ^ a < 2 ^ h.length := or_pow_lt (hsub hx hR) (by have := C.len; omega)
        have hna : (bd S (x ||| 2 ^ a)).testBit a = false := by rw [testBit_bd, Nat.testBit_or, Nat.testBit_two_pow]; simp
        rw [← xt_or C, ← ind_h hmk hmk1 hmk2 C hxa, ← xt_bd, col_same hmk hmk1 C k _ (xt_lt _) (fun h => by rw [(xt_a C _).1, hna] at h; cases h.1), ← (ih _ (hSb _)).1 hna]
      rw [p1, p2, p3, p4, p5]
      omega
/-- The colourings without the edge. -/
theorem col_contract (k : Nat) : colD (Ind g') k (full g'.length) = colD (Ind g) k (full g.length) + colD (Ind h) k (full h.length) := by
  have := (col_con hmk hmk1 hmk2 C k (full h.length) (full_lt _)).2 (by rw [full_testBit]; have := C.ab; have := C.bn; have := C.len; simp; omega)
  rw [xt_full C] at this
  rw [C.len']
  exact this
end
end
end Go.Tree
