/- Plain facts for the law 'TreeContracts': lists that grow, marks and names. -/
import Derived.Test.YtdnkkflpgebfbaaDoorPo
import Derived.Test.YtdnkkflpgebfbaaDoorL29
namespace Go.Tree
open Go.W
theorem lessE_zero (es : List Ed) (K : Nat) : lessE (es.take 0) K = [] := by simp [lessE]
theorem lessE_take {es : List Ed} {K j : Nat} (hj : j < es.length) : lessE (es.take (j + 1)) K = lessE (es.take j) K ++ (if j = K then [] else [es[j]]) := by
  rw [List.take_succ_eq_append_getElem hj]
  have hl : (es.take j).length = j := by rw [List.length_take]; omega
  generalize es[j] = x
  generalize es.take j = L at *
  subst hl
  unfold lessE
  rcases Nat.lt_trichotomy L.length K with h | h | h
  · rw [List.take_of_length_le (by simp; omega), List.drop_of_length_le (by simp; omega), List.take_of_length_le (by omega), List.drop_of_length_le (by omega), if_neg (by omega)]
    simp
  · subst h
    rw [if_pos rfl, List.take_append_of_le_length (Nat.le_refl _), List.drop_of_length_le (by simp), List.drop_of_length_le (by omega)]
    simp
  · rw [if_neg (by omega), List.take_append_of_le_length (by omega), List.drop_append_of_le_length (by omega)]
    simp
theorem lessE_len (es : List Ed) (K j : Nat) : (lessE (es.take j) K).length ≤ j := by
  unfold lessE
  simp only [List.length_append, List.length_take, List.length_drop]
  omega
theorem lessE_all (es : List Ed) (K : Nat) : lessE (es.take es.length) K = lessE es K := by rw [List.take_length]
/-- Truth values in a row of twenty. -/
def gv (p : Nat → Bool) : List Value := (List.range 20).map fun i => .bool (p i)
theorem gv_at (p : Nat → Bool) {i : Nat} (h : i < 20) : (gv p)[i]? = some (.bool (p i)) := by simp [gv, h]
theorem gv_set (p : Nat → Bool) (i : Nat) : (gv p).toArray.setIfInBounds i (.bool true) = (gv fun j => j == i || p j).toArray := by
  rw [List.setIfInBounds_toArray]
  congr 1
  apply List.ext_getElem?
  intro j
  rw [List.getElem?_set]
  by_cases h : j < 20
  · by_cases h1 : i = j
    · subst h1
      rw [if_pos rfl, if_pos (by simp [gv, h]), gv_at _ h]; simp
    · rw [if_neg h1, gv_at _ h, gv_at _ h]
      have : (j == i) = false := by simp; omega
      rw [this, Bool.false_or]
  · by_cases h1 : i = j
    · subst h1
      rw [if_pos rfl, if_neg (by simp [gv]; omega)]
      exact (List.getElem?_eq_none (by simp [gv]; omega)).symm
    · rw [if_neg h1, List.getElem?_eq_none (by simp [gv]; omega), List.getElem?_eq_none (by simp [gv]; omega)]
/-- Who is gone: a and its neighbours. -/
def gon (a : Nat) (es : List Ed) (v : Nat) : Bool := v == a || es.any fun e => (e.1.toNat == a || e.2.toNat == a) && (e.1.toNat == v || e.2.toNat == v)
theorem gon_snoc (a : Nat) (es : List Ed) (e : Ed) (v : Nat) : gon a (es ++ [e]) v = (gon a es v || (e.1.toNat == a || e.2.toNat == a) && (e.1.toNat == v || e.2.toNat == v)) := by
  unfold gon
  rw [List.any_append, List.any_cons, List.any_nil, Bool.or_false, Bool.or_assoc]
theorem gon_spec {N : Nat} {es : List Ed} {g : List Nat} (hmk : mkG (N : Nat) es = some g) {a : Nat} (ha : a < N) (v : Nat) (hv : v < N) : ((!gon a es v) = true ↔ v ≠ a ∧ (g.getD a 0).testBit v = false) := by
  obtain ⟨_, hgn, _, _, _⟩ := mkG_gr hmk
  have hgn : g.length = N := by simpa using hgn
  have hok := (mkG_okes hmk).1
  have hb := mkG_bits hmk (u := a) (v := v) (by omega) (by omega)
  have key : v ≠ a → (hasE es (a : Int) (v : Int) ↔ (es.any fun e => (e.1.toNat == a || e.2.toNat == a) && (e.1.toNat == v || e.2.toNat == v)) = true) := by
    intro hva
    rw [List.any_eq_true]
    constructor
    · rintro ⟨e, he, h⟩
      refine ⟨e, he, ?_⟩
      rcases h with rfl | rfl <;> simp
    · rintro ⟨e, he, h⟩
      have := hok e he
      refine ⟨e, he, ?_⟩
      obtain ⟨p, q⟩ := e
      simp only [Bool.and_eq_true, Bool.or_eq_true, beq_iff_eq] at h this
      simp only [Prod.mk.injEq]
      omega
  unfold gon
  simp only [Bool.not_or, Bool.and_eq_true, Bool.not_eq_true', beq_eq_false_iff_ne, ne_eq]
  constructor
  · rintro ⟨h1, h2⟩
    refine ⟨h1, ?_⟩
    rw [← Bool.not_eq_true, hb, key h1, h2]; decide
  · rintro ⟨h1, h2⟩
    refine ⟨h1, ?_⟩
    rw [← Bool.not_eq_true, hb, key h1, Bool.not_eq_true] at h2
    exact h2
theorem nmV_succ (V : Nat → Bool) (v : Nat) : nmV V (v + 1) = nmV V v + (if V v = true then 1 else 0) := by
  unfold nmV
  rw [List.range_succ, List.countP_append]
  simp [List.countP_cons]
theorem nmV_le (V : Nat → Bool) (v : Nat) : nmV V v ≤ v := by
  unfold nmV
  exact Nat.le_trans List.countP_le_length (by simp)
/-- The names given so far. -/
def nam (V : Nat → Bool) (n q : Nat) : Nat := if q < n ∧ V q = true then nmV V q else 0
theorem nam_succ (V : Nat → Bool) (v q : Nat) : nam V (v + 1) q = if V v = true then (if q = v then nmV V v else nam V v q) else nam V v q := by
  unfold nam
  by_cases hV : V v = true
  · rw [if_pos hV]
    by_cases hq : q = v
    · subst hq; rw [if_pos rfl, if_pos ⟨by omega, hV⟩]
    · rw [if_neg hq]
      by_cases h : q < v ∧ V q = true
      · rw [if_pos h, if_pos ⟨by omega, h.2⟩]
      · rw [if_neg h, if_neg (fun k => h ⟨by omega, k.2⟩)]
  · rw [if_neg hV]
    by_cases h : q < v ∧ V q = true
    · rw [if_pos h, if_pos ⟨by omega, h.2⟩]
    · rw [if_neg h, if_neg (fun k => h ⟨by have : q ≠ v := fun e => hV (e ▸ k.2); omega, k.2⟩)]
def outE (N a : Nat) (es : List Ed) : List Ed := (es.filter fun e => (e.1.toNat != a) && (e.2.toNat != a)).map fun e => (((if e.1.toNat + 1 = N then a else e.1.toNat : Nat) : Int), ((if e.2.toNat + 1 = N then a else e.2.toNat : Nat) : Int))
def aptE (V : Nat → Bool) (es : List Ed) : List Ed := (es.filter fun e => V e.1.toNat && V e.2.toNat).map fun e => ((nmV V e.1.toNat : Int), (nmV V e.2.toNat : Int))
theorem outE_snoc (N a : Nat) (es : List Ed) (e : Ed) : outE N a (es ++ [e]) = outE N a es ++ (if ((e.1.toNat != a) && (e.2.toNat != a)) = true then [(((if e.1.toNat + 1 = N then a else e.1.toNat : Nat) : Int), ((if e.2.toNat + 1 = N then a else e.2.toNat : Nat) : Int))] else []) := by
  unfold outE
  rw [List.filter_append, List.map_append, List.filter_cons]
  congr 1
  split <;> simp
theorem aptE_snoc (V : Nat → Bool) (es : List Ed) (e : Ed) : aptE V (es ++ [e]) = aptE V es ++ (if (V e.1.toNat && V e.2.toNat) = true then [((nmV V e.1.toNat : Int), (nmV V e.2.toNat : Int))] else []) := by
  unfold aptE
  rw [List.filter_append, List.map_append, List.filter_cons]
  congr 1
  split <;> simp
theorem outE_len (N a : Nat) (es : List Ed) : (outE N a es).length ≤ es.length := by
  unfold outE; rw [List.length_map]; exact List.length_filter_le _ _
theorem aptE_len (V : Nat → Bool) (es : List Ed) : (aptE V es).length ≤ es.length := by
  unfold aptE; rw [List.length_map]; exact List.length_filter_le _ _
theorem mgI_out {v a N : Nat} (hn : 0 < N) (hv : v ≠ a) : mgI v N a N = ((if v + 1 = N then a else v : Nat) : Int) := by
  unfold mgI
  rw [if_neg (by omega)]
  by_cases h : v + 1 = N
  · rw [if_pos (by omega), if_pos h]
  · rw [if_neg (by omega), if_neg h]
theorem nI_le {n : Int} {es : List Ed} {g : List Nat} (hmk : mkG n es = some g) : nI g ≤ 16384 := by
  have hn := (mkG_gr hmk).1.len
  have h2 : 2 ^ g.length ≤ 2 ^ 14 := Nat.pow_le_pow_right (by decide) hn
  rw [← apR_nI]
  have := apR_le (fun u v => !nb g u v) (2 ^ g.length)
  omega
end Go.Tree
