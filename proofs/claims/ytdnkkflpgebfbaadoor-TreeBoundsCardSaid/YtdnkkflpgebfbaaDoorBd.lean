/- No order is narrower than the graph; the best order has its width; a clique's bound. -/
import Derived.Test.YtdnkkflpgebfbaaDoorBo
import Derived.Test.YtdnkkflpgebfbaaDoorOd
import Derived.Test.YtdnkkflpgebfbaaDoorRc
import Derived.Test.YtdnkkflpgebfbaaDoorGp
import Derived.Test.YtdnkkflpgebfbaaDoorAp
namespace Go.Tree
open Go.W

theorem ord_ge {g : List Nat} (hn : g.length ≤ 14) : ∀ (o : List Int) (S : Nat) (k K : Int), ordL g o S k = some K → S < 2 ^ g.length → card S + o.length = g.length → -1 ≤ k → k ≤ K ∧ wd g S ≤ K := by
  intro o
  induction o with
  | nil =>
    intro S k K h hS hc hk
    simp only [ordL, Option.some.injEq] at h
    have hf : S = full g.length := by
      by_cases hf : S = full g.length
      · exact hf
      · have := card_lt_of_ne hn hS hf
        simp at hc; omega
    rw [hf, wd_full]
    omega
  | cons v r ih =>
    intro S k K h hS hc hk
    rw [ordL] at h
    split at h
    · cases h
    rename_i hv
    simp only [not_or] at hv
    obtain ⟨h1, h2, h3⟩ := hv
    obtain ⟨v, rfl⟩ := Int.eq_ofNat_of_zero_le (show 0 ≤ v by omega)
    have hvn : v < g.length := by omega
    simp only [Int.toNat_natCast] at h h3
    have h3 : S.testBit v = false := by simpa using h3
    have hca := card_add hn hS hvn h3
    obtain ⟨i1, i2⟩ := ih _ _ _ h (or_pow_lt hS hvn) (by rw [hca]; simp at hc; omega) (by omega)
    have := wd_step_le hn hvn h3
    omega
theorem ord_le {g : List Nat} (hg : Gr g) : ∀ (o : List Int) (S : Nat) (k K : Int), ordL g o S k = some K → k ≤ (g.length : Int) - 1 → K ≤ (g.length : Int) - 1 := by
  intro o
  induction o with
  | nil =>
    intro S k K h hk
    simp only [ordL, Option.some.injEq] at h
    omega
  | cons v r ih =>
    intro S k K h hk
    rw [ordL] at h
    split at h
    · cases h
    rename_i hv
    simp only [not_or] at hv
    obtain ⟨h1, h2, h3⟩ := hv
    obtain ⟨v, rfl⟩ := Int.eq_ofNat_of_zero_le (show 0 ≤ v by omega)
    have hvn : v < g.length := by omega
    simp only [Int.toNat_natCast] at h
    refine ih _ _ _ h ?_
    have hl := lat_lt hg hvn (gone := S)
    have hb : (lat g S v).testBit v = false := by
      cases hb : (lat g S v).testBit v with
      | false => rfl
      | true => exact absurd rfl ((lat_iff hg hvn v).1 hb).2.1
    have h4 := card_add hg.len hl hvn hb
    have h5 := card_le (by have := hg.len; omega) (or_pow_lt hl hvn)
    rw [pc_card]
    omega
theorem ord_best {g : List Nat} (hg : Gr g) : ∀ (k S : Nat) (q : Int), S < 2 ^ g.length → k + card S = g.length → wd g S ≤ wd g 0 → ∃ K, ordL g ((bestF g k S).map fun (v : Nat) => (v : Int)) S q = some K ∧ K ≤ max q (wd g 0) := by
  intro k
  induction k with
  | zero => intro S q _ _ _; exact ⟨q, rfl, by omega⟩
  | succ k ih =>
    intro S q hS hk hw
    have hne : S ≠ full g.length := by
      intro e
      have := card_full (n := g.length) (by have := hg.len; omega)
      rw [e] at hk
      unfold full at hk
      omega
    obtain ⟨v, hv, h1, h2, h3⟩ := exists_best hg hS hne hw
    have hf : fine g S v = true := fine_iff.2 ⟨h1, h2, h3⟩
    cases hx : (List.range g.length).find? (fine g S) with
    | none => rw [List.find?_eq_none] at hx; exact absurd hf (hx v (by simpa using hv))
    | some u =>
      have hu := List.find?_some hx
      have hul : u < g.length := by have := List.mem_of_find?_eq_some hx; simpa using this
      obtain ⟨h4, h5, h6⟩ := fine_iff.1 hu
      obtain ⟨K, hK, hle⟩ := ih (S ||| 2 ^ u) (max q (pc (lat g S u) : Nat)) (or_pow_lt hS hul) (by rw [card_add hg.len hS hul h4]; omega) h6
      refine ⟨K, ?_, by omega⟩
      simp only [bestF, hx, List.map_cons, ordL, Int.toNat_natCast]
      rw [if_neg (by simp [h4]; omega)]
      exact hK
theorem wd_ge {g : List Nat} (hn : g.length ≤ 14) (S : Nat) : -1 ≤ wd g S := by
  by_cases h : S = full g.length
  · rw [h, wd_full]; omega
  · have h3 := (foldl_min (fun v => max (pc (lat g S v) : Int) (wd g (S ||| 2 ^ v))) (els (bd (full g.length) S)) g.length).2.2
    rw [wd_eq hn h]
    change _ ≤ (els (bd (full g.length) S)).foldl (fun b v => min b (max (pc (lat g S v) : Int) (wd g (S ||| 2 ^ v)))) g.length
    rcases h3 with h3 | ⟨v, _, h3⟩ <;> rw [h3] <;> omega
/-- The best order has the graph's width. -/
theorem ord_bestO {g : List Nat} (hg : Gr g) : ordL g ((bestO g).map fun (v : Nat) => (v : Int)) 0 (-1) = some (wd g 0) := by
  obtain ⟨K, hK, hle⟩ := ord_best hg g.length 0 (-1) (Nat.two_pow_pos _) (by rw [card_zero, Nat.add_zero]) (Int.le_refl _)
  have h1 := ord_ge hg.len _ 0 (-1) K hK (Nat.two_pow_pos _) (by rw [card_zero, List.length_map, Nat.zero_add]; exact bestO_len hg) (Int.le_refl _)
  have h2 := wd_ge hg.len 0
  have h3 : bestF g g.length 0 = bestO g := rfl
  rw [← h3, hK]
  congr 1
  omega

/-- A clique outside a set that is gone. -/
def Cq (g : List Nat) (C : Nat) : Prop := ∀ u v, C.testBit u = true → C.testBit v = true → u ≠ v → (g.getD u 0).testBit v = true
theorem wd_clique {g : List Nat} (hg : Gr g) {C : Nat} (hC : C < 2 ^ g.length) (h0 : C ≠ 0) (hq : Cq g C) : ∀ (k S : Nat), S < 2 ^ g.length → k + card S = g.length → S &&& C = 0 → (card C : Int) - 1 ≤ wd g S := by
  have hn := hg.len
  have hdis : ∀ S, S &&& C = 0 → ∀ i, C.testBit i = true → S.testBit i = false := by
    intro S h i hi
    have : (S &&& C).testBit i = false := by rw [h]; simp
    rw [Nat.testBit_and, hi, Bool.and_true] at this
    exact this
  intro k
  induction k with
  | zero =>
    intro S hS hk hd
    exfalso
    obtain ⟨i, hi⟩ := pos_testBit h0
    have hin := lt_of_testBit hC hi
    have h1 := hdis S hd i hi
    have h2 := card_add hn hS hin h1
    have h3 := card_le (by omega) (or_pow_lt hS hin)
    omega
  | succ k ih =>
    intro S hS hk hd
    have hne : S ≠ full g.length := by
      intro e
      have := card_full (n := g.length) (by omega)
      rw [e] at hk
      unfold full at hk
      omega
    have hcn := card_le (by omega) hC
    have h3 := (foldl_min (fun v => max (pc (lat g S v) : Int) (wd g (S ||| 2 ^ v))) (els (bd (full g.length) S)) g.length).2.2
    rw [wd_eq hn hne]
    change _ ≤ (els (bd (full g.length) S)).foldl (fun b v => min b (max (pc (lat g S v) : Int) (wd g (S ||| 2 ^ v)))) g.length
    rcases h3 with h3 | ⟨v, hv, h3⟩
    · rw [h3]; omega
    · rw [h3]
      obtain ⟨hvn, hvS⟩ := (mem_compl hn).1 hv
      cases hvC : C.testBit v with
      | true =>
        have hsub : ∀ i, (bd C (2 ^ v)).testBit i = true → (lat g S v).testBit i = true := by
          intro i hi
          rw [testBit_bd, Nat.testBit_two_pow] at hi
          simp at hi
          rw [lat_iff hg hvn]
          exact ⟨.step .base (.inl rfl) (hq v i hvC hi.1 hi.2), fun h => hi.2 h.symm, hdis S hd i hi.1⟩
        have h4 := card_mono hsub
        have h5 := card_bd (a := C) (b := 2 ^ v) (fun i hi => by
          rw [Nat.testBit_two_pow] at hi
          have : v = i := by simpa using hi
          rw [← this]; exact hvC)
        have h6 : card (2 ^ v) = 1 := card_pow (by omega)
        rw [pc_card]
        omega
      | false =>
        have h4 := ih (S ||| 2 ^ v) (or_pow_lt hS hvn) (by rw [card_add hn hS hvn hvS]; omega) (by
          apply Nat.eq_of_testBit_eq
          intro i
          rw [Nat.testBit_and, Nat.testBit_or, Nat.testBit_two_pow]
          cases hiC : C.testBit i with
          | false => simp
          | true =>
            rw [hdis S hd i hiC]
            by_cases hvi : v = i
            · rw [hvi, hiC] at hvC; cases hvC
            · simp [hvi])
        omega
theorem pw_all {p : Nat → Nat → Bool} : ∀ (l : List Nat), pw p l = true → l.Pairwise fun a b => p a b = true := by
  intro l
  induction l with
  | nil => intro _; exact List.Pairwise.nil
  | cons a l ih =>
    intro h
    simp only [pw, Bool.and_eq_true, List.all_eq_true] at h
    exact List.Pairwise.cons (fun b hb => h.2 b hb) (ih h.1)
theorem mkG_sym {n : Int} {es : List Ed} {g : List Nat} (h : mkG n es = some g) {u v : Nat} (hu : u < g.length) (hv : v < g.length) : (g.getD u 0).testBit v = (g.getD v 0).testBit u := by
  obtain ⟨hg, hl, hn0, hn, h100⟩ := mkG_gr h
  have hadd : addEs n.toNat (List.replicate n.toNat 0) es = some g := by
    rw [mkG, if_neg (by omega)] at h; exact h
  have h1 := addEs_bits (by omega) es g hadd u v (by omega) (by omega)
  have h2 := addEs_bits (by omega) es g hadd v u (by omega) (by omega)
  rw [Bool.eq_iff_iff, h1, h2]
  exact ⟨fun ⟨e, he, h⟩ => ⟨e, he, h.symm⟩, fun ⟨e, he, h⟩ => ⟨e, he, h.symm⟩⟩
theorem clR_set (p : Nat → Nat → Bool) : ∀ k, ∃ C, (C < k ∨ C = 0) ∧ clR p k = els C ∧ fr p C = true := by
  intro k
  induction k with
  | zero => exact ⟨0, .inr rfl, by simp [clR, els_zero], fr_zero p⟩
  | succ k ih =>
    obtain ⟨C, h1, h2, h3⟩ := ih
    rw [clR_succ, clStep]
    split
    · split
      · exact ⟨k, .inl (by omega), rfl, ‹_›⟩
      · exact ⟨C, h1.imp (by omega) id, h2, h3⟩
    · exact ⟨C, h1.imp (by omega) id, h2, h3⟩
/-- The width is at least a clique's size minus 1. -/
theorem wd_clR {n : Int} {es : List Ed} {g : List Nat} (h : mkG n es = some g) : ((clR (nb g) (2 ^ g.length)).length : Int) - 1 ≤ wd g 0 := by
  obtain ⟨hg, _, _, _, _⟩ := mkG_gr h
  have hpos := Nat.two_pow_pos g.length
  obtain ⟨C, hC, hcl, hf⟩ := clR_set (nb g) (2 ^ g.length)
  have hC : C < 2 ^ g.length := by omega
  rw [hcl, els_len]
  by_cases h0 : C = 0
  · subst h0; rw [card_zero]; exact wd_ge hg.len 0
  · refine wd_clique hg hC h0 ?_ g.length 0 hpos (by rw [card_zero, Nat.add_zero]) (by simp)
    have hpw := pw_all _ hf
    have hso := els_sorted C
    have key : ∀ u v, C.testBit u = true → C.testBit v = true → u < v → nb g u v = true := by
      intro u v hu hv huv
      have hn := hg.len
      have hu' := lt_of_testBit hC hu
      have hv' := lt_of_testBit hC hv
      have m1 : u ∈ els C := mem_els.2 ⟨by omega, hu⟩
      have m2 : v ∈ els C := mem_els.2 ⟨by omega, hv⟩
      obtain ⟨i, hi, rfl⟩ := List.mem_iff_getElem.1 m1
      obtain ⟨j, hj, rfl⟩ := List.mem_iff_getElem.1 m2
      rcases Nat.lt_trichotomy i j with h1 | h1 | h1
      · exact (List.pairwise_iff_getElem.1 hpw) i j hi hj h1
      · subst h1; omega
      · have := (List.pairwise_iff_getElem.1 hso) j i hj hi h1; omega
    intro u v hu hv huv
    have hu' := lt_of_testBit hC hu
    have hv' := lt_of_testBit hC hv
    rcases Nat.lt_or_gt_of_ne huv with h1 | h1
    · exact key u v hu hv h1
    · rw [mkG_sym h hu' hv']; exact key v u hv hu h1
end Go.Tree
