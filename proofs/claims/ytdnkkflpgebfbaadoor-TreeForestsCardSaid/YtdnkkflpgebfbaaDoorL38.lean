/- The program's check of a decomposition and the reference's are the same. -/
import Derived.Test.YtdnkkflpgebfbaaDoorL37
import Derived.Test.YtdnkkflpgebfbaaDoorPl
namespace Go.Proofs.YtdnkkflpgebfbaaDoor
open Go.W Go.Tree

theorem ufB_joins {N : Nat} : ∀ (L : List Ed) (f : Nat → Nat), ufB N f L = true ↔ (∀ l ∈ L, 0 ≤ l.1 ∧ l.1 < N ∧ 0 ≤ l.2 ∧ l.2 < N) ∧ joins (fun _ => true) f (lks L) = L.length := by
  intro L
  induction L with
  | nil => intro f; simp [ufB, lks, joins]
  | cons l L ih =>
    intro f
    have hlk : lks (l :: L) = (l.1.toNat, l.2.toNat) :: lks L := rfl
    have ht : inW (fun _ => true) (l.1.toNat, l.2.toNat) = true := rfl
    have hle := joins_le (W := fun _ => true) (lks L) (mrg f l.1.toNat l.2.toNat)
    have hle2 : (lks L).countP (inW fun _ => true) ≤ L.length := Nat.le_trans List.countP_le_length (by simp [lks])
    rw [ufB, Bool.and_eq_true, ih, hlk, joins, if_pos ht, List.length_cons]
    have hb : (!badL N f l) = true ↔ (0 ≤ l.1 ∧ l.1 < N ∧ 0 ≤ l.2 ∧ l.2 < N) ∧ f l.1.toNat ≠ f l.2.toNat := by
      simp [badL]
      omega
    rw [hb]
    by_cases hf : f l.1.toNat = f l.2.toNat
    · rw [if_neg (fun h => h.2 hf)]
      constructor
      · rintro ⟨⟨_, h⟩, _⟩; exact absurd hf h
      · rintro ⟨_, h⟩
        simp only at h
        omega
    · rw [if_pos ⟨ht, hf⟩]
      constructor
      · rintro ⟨⟨h1, _⟩, h2, h3⟩
        refine ⟨fun x hx => ?_, by simp only; omega⟩
        rcases List.mem_cons.1 hx with rfl | hx
        · exact h1
        · exact h2 x hx
      · rintro ⟨h1, h2⟩
        simp only at h2
        exact ⟨⟨h1 l (by simp), hf⟩, fun x hx => h1 x (by simp [hx]), by omega⟩
theorem ufB_ne {N : Nat} : ∀ (L : List Ed) (f : Nat → Nat), ufB N f L = true → ∀ l ∈ L, l.1 ≠ l.2 := by
  intro L
  induction L with
  | nil => intro f _ l hl; cases hl
  | cons l L ih =>
    intro f h x hx
    rw [ufB, Bool.and_eq_true] at h
    rcases List.mem_cons.1 hx with rfl | hx
    · have h1 := h.1
      simp [badL] at h1
      intro e
      exact h1.2.2.2.2 (by rw [e])
    · exact ih _ h.2 x hx
theorem lks_rng {N : Nat} {ls : List Ed} (hr : ∀ l ∈ ls, 0 ≤ l.1 ∧ l.1 < N ∧ 0 ≤ l.2 ∧ l.2 < N) : Rng N (lks ls) := by
  intro l hl
  obtain ⟨e, he, rfl⟩ := List.mem_map.1 hl
  have := hr e he
  simp only
  omega
theorem Wv_neg (ss : List Nat) : Wv ss (-1) = fun _ => true := by funext i; simp [Wv]
theorem Wv_nat (ss : List Nat) (v : Nat) : Wv ss (v : Nat) = fun i => (ss.getD i 0).testBit v := by
  funext i
  rw [Wv, decide_eq_false (by omega)]; rfl
theorem count_getD (ss : List Nat) (q : Nat → Bool) : (List.range ss.length).countP (fun i => q (ss.getD i 0)) = ss.countP q := by
  have : ss = (List.range ss.length).map fun i => ss.getD i 0 := by
    apply List.ext_getElem
    · simp
    · intro i h1 h2; simp [h1]
  conv => rhs; rw [this, List.countP_map]
  rfl
theorem covS_bit (ss : List Nat) (v x : Nat) : (covS ss v ss.length).testBit x = ss.any fun s => s.testBit v && s.testBit x := by
  rw [covS, List.take_length]
  have : ∀ (l : List Nat) (s : Nat), (l.foldl (fun s x => if x.testBit v = true then s ||| x else s) s).testBit x = (s.testBit x || l.any fun s => s.testBit v && s.testBit x) := by
    intro l
    induction l with
    | nil => intro s; simp
    | cons y l ih =>
      intro s
      rw [List.foldl_cons, ih, List.any_cons]
      split
      · rename_i h; rw [Nat.testBit_or, h, Bool.true_and, Bool.or_assoc]
      · rename_i h; rw [Bool.not_eq_true] at h; rw [h, Bool.false_and, Bool.false_or]
  rw [this]; simp
theorem cover_iff {n : Nat} {es : List Ed} {g : List Nat} (hmk : mkG (n : Nat) es = some g) (ss : List Nat) : (∀ v, v < g.length → bd (g.getD v 0) (covS ss v ss.length) = 0) ↔ es.all (covE ss) = true := by
  obtain ⟨hg, hgn, _, _, _⟩ := mkG_gr hmk
  have hok := (mkG_okes hmk).1
  have hgn : g.length = n := by simpa using hgn
  rw [List.all_eq_true]
  constructor
  · intro h e he
    obtain ⟨r1, r2, r3, r4, _⟩ := hok e he
    obtain ⟨x, y⟩ := e
    obtain ⟨x, rfl⟩ := Int.eq_ofNat_of_zero_le r1
    obtain ⟨y, rfl⟩ := Int.eq_ofNat_of_zero_le r3
    have hx : x < g.length := by simp only at r2; omega
    have hy : y < g.length := by simp only at r4; omega
    have hb : (g.getD x 0).testBit y = true := (mkG_bits hmk hx hy).2 ⟨_, he, .inl rfl⟩
    have h1 := congrArg (fun z => z.testBit y) (h x hx)
    simp only [testBit_bd, hb, Nat.zero_testBit, Bool.true_and] at h1
    rw [covS_bit] at h1
    simp only [Bool.not_eq_eq_eq_not, Bool.not_false] at h1
    exact h1
  · intro h v hv
    apply Nat.eq_of_testBit_eq
    intro x
    rw [testBit_bd, Nat.zero_testBit]
    cases hb : (g.getD v 0).testBit x with
    | false => rfl
    | true =>
      obtain ⟨_, hx⟩ := hg.in_ hb
      obtain ⟨e, he, hee⟩ := (mkG_bits hmk hv hx).1 hb
      have hc := h e he
      rw [covS_bit]
      have : (ss.any fun s => s.testBit v && s.testBit x) = true := by
        rcases hee with rfl | rfl
        · exact hc
        · rw [← hc]
          unfold covE
          simp only [Int.toNat_natCast]
          congr 1
          funext s
          exact Bool.and_comm _ _
      rw [this]; rfl
theorem okTo_le {n : Nat} {b : List Int} : ∀ {j i : Nat}, i ≤ j → okTo n b j = true → okTo n b i = true := by
  intro j i hij h
  rw [okTo, List.all_eq_true] at h ⊢
  intro x hx
  exact h x (by simp at hx ⊢; omega)
theorem setTo_next {n : Nat} {b : List Int} : ∀ i, i < b.length → okTo n b (i + 1) = true → setTo b i < 2 ^ (b.getD i 0).toNat := by
  intro i
  induction i with
  | zero => intro _ _; exact Nat.two_pow_pos _
  | succ i ih =>
    intro hi h
    have h1 := ih (by omega) (okTo_le (by omega) h)
    rw [okTo_succ, Bool.and_eq_true] at h
    have h2 := h.2
    have h3 := h.1
    rw [okTo_succ, Bool.and_eq_true] at h3
    have h4 := h3.2
    simp only [okAt, Bool.and_eq_true, decide_eq_true_eq, Nat.add_sub_cancel] at h2
    simp only [okAt, Bool.and_eq_true, decide_eq_true_eq] at h4
    have h5 : b.getD i 0 < b.getD (i + 1) 0 := by
      have := h2.2
      simp only [Bool.or_eq_true, beq_iff_eq, decide_eq_true_eq] at this
      omega
    rw [setTo_succ (by omega)]
    refine Nat.or_lt_two_pow (Nat.lt_of_lt_of_le h1 (Nat.pow_le_pow_right (by decide) (by omega))) (Nat.pow_lt_pow_right (by decide) (by omega))
theorem setTo_card {n : Nat} (hn : n ≤ 14) {b : List Int} : ∀ i, i ≤ b.length → okTo n b i = true → card (setTo b i) = i := by
  intro i
  induction i with
  | zero => intro _ _; exact card_zero
  | succ i ih =>
    intro hi h
    have h1 := setTo_next i (by omega) h
    have h0 := h
    rw [okTo_succ, Bool.and_eq_true] at h
    have h2 := h.2
    simp only [okAt, Bool.and_eq_true, decide_eq_true_eq] at h2
    rw [setTo_succ (by omega), card_add hn (setTo_lt i (by omega) h.1) (by omega) (testBit_lt h1 (Nat.le_refl _)), ih (by omega) h.1]
theorem wdS_wdL {n : Nat} (hn : n ≤ 14) {bs : List (List Int)} (h : bs.all (bagB n) = true) : ∀ k, k ≤ bs.length → wdS (bs.map setAll) k = wdL bs k := by
  intro k
  induction k with
  | zero => intro _; rfl
  | succ k ih =>
    intro hk
    rw [wdS_succ (by simp; omega), wdL_succ (by omega), ih (by omega)]
    have h1 : (bs.map setAll).getD k 0 = setAll bs[k] := by
      rw [List.getD_eq_getElem?_getD, List.getElem?_map, List.getElem?_eq_getElem (by omega)]; rfl
    rw [List.all_eq_true] at h
    have h2 : pc (setAll bs[k]) = bs[k].length := by rw [pc_card]; exact setTo_card hn _ (Nat.le_refl _) (h _ (List.getElem_mem _))
    rw [h1, h2]
theorem parts_at {N : Nat} {ss : List Nat} {ls : List Ed} (hN : ss.length = N) (hr : ∀ l ∈ ls, 0 ≤ l.1 ∧ l.1 < N ∧ 0 ≤ l.2 ∧ l.2 < N) (hj : joins (fun _ => true) id (lks ls) = ls.length) (v : Nat) :
    partsN N (Wv ss (v : Nat)) (lks ls) + cntK ss ls v ls.length = cntS ss v ss.length := by
  have h1 := partsN_eq (W := Wv ss (v : Nat)) (lks_rng hr)
  have h2 := joins_sub (W := Wv ss (v : Nat)) (lks ls) id id (fun _ _ h => h) (by rw [hj]; simp [lks])
  have h3 : (lks ls).countP (inW (Wv ss (v : Nat))) = cntK ss ls v ls.length := by
    rw [cntK, List.take_length, lks, List.countP_map]
    refine List.countP_congr fun l _ => ?_
    simp only [Function.comp, inW, Wv_nat, lkB]
  have h4 : (List.range N).countP (Wv ss (v : Nat)) = cntS ss v ss.length := by
    rw [cntS, List.take_length, ← hN, Wv_nat]
    exact count_getD ss fun s => s.testBit v
  omega
/-- The two checks. -/
theorem chk_rgt {n : Nat} {es : List Ed} {g : List Nat} (hmk : mkG (n : Nat) es = some g) (bs : List (List Int)) (ls : List Ed) : chkO g bs ls = if rgtB n es bs ls = true then some (wdL bs bs.length) else none := by
  obtain ⟨hg, hgn, _, _, _⟩ := mkG_gr hmk
  have hn := hg.len
  have hgn : g.length = n := by simpa using hgn
  have hssl : (bs.map setAll).length = bs.length := by simp
  by_cases h0 : bs.length < 1 ∨ 64 < bs.length
  · rw [chkO, if_pos (by rcases h0 with h | h; exact .inl h; exact .inr (.inl h)), if_neg]
    intro h
    rw [rgtB] at h
    simp only [Bool.and_eq_true, decide_eq_true_eq] at h
    omega
  by_cases hT : isTreeB bs.length ls = true
  · have hT' := hT
    rw [isTreeB, Bool.and_eq_true, ufB_joins] at hT'
    obtain ⟨hl, hr, hj⟩ := hT'
    have hl : ls.length + 1 = bs.length := by simpa using hl
    have hne := ufB_ne ls id (by rw [isTreeB, Bool.and_eq_true] at hT; exact hT.2)
    rw [chkO, if_neg (by rw [hT]; rintro (h | h | h); exact h0 (.inl h); exact h0 (.inr h); cases h)]
    have hP1 : partsN bs.length (Wv (bs.map setAll) (-1)) (lks ls) = 1 := by
      have h1 := partsN_eq (W := Wv (bs.map setAll) (-1)) (lks_rng hr)
      rw [Wv_neg] at h1 ⊢
      rw [hj, List.countP_eq_length.2 (fun _ _ => rfl), List.length_range] at h1
      omega
    have hrl : ls.all (rngL bs.length) = true := by
      rw [List.all_eq_true]
      intro l hl
      have h1 := hr l hl
      have h2 := hne l hl
      simp [rngL]
      omega
    have hrb : rgtB n es bs ls = (bs.all (bagB n) && (partsB n (bs.map setAll) ls && es.all (covE (bs.map setAll)))) := by
      rw [rgtB, decide_eq_true (by omega), decide_eq_true (by omega), decide_eq_true hl, hrl, hP1]
      simp
    rw [hrb, hgn]
    by_cases hB : bs.all (bagB n) = true
    · rw [setsV, if_pos hB, hB, Bool.true_and]
      have hR : isRightB g (bs.map setAll) ls = (partsB n (bs.map setAll) ls && es.all (covE (bs.map setAll))) := by
        rw [Bool.eq_iff_iff, Bool.and_eq_true, ← cover_iff hmk, isRightB, List.all_eq_true, partsB, List.all_eq_true]
        have hpa : ∀ v, partsN (bs.map setAll).length (Wv (bs.map setAll) (v : Nat)) (lks ls) + cntK (bs.map setAll) ls v ls.length = cntS (bs.map setAll) v (bs.map setAll).length := fun v => parts_at rfl (by rw [hssl]; exact hr) hj v
        constructor
        · intro h
          refine ⟨fun v hv => ?_, fun v hv => ?_⟩
          · have := h v (by simp at hv ⊢; omega)
            rw [rightAt, Bool.and_eq_true] at this
            have h1 := this.1
            have h2 := hpa v
            simp only [beq_iff_eq] at h1 ⊢
            omega
          · have := h v (by simpa using hv)
            rw [rightAt, Bool.and_eq_true] at this
            simpa using this.2
        · rintro ⟨h1, h2⟩ v hv
          have h3 := h1 v (by simp at hv ⊢; omega)
          have h4 := h2 v (by simpa using hv)
          have h5 := hpa v
          rw [rightAt, Bool.and_eq_true]
          simp only [beq_iff_eq] at h3 ⊢
          exact ⟨by omega, h4⟩
      simp only [hR]
      rw [show (bs.map setAll).length = bs.length from hssl, wdS_wdL hn (by rw [hgn]; exact hB) _ (Nat.le_refl _)]
    · rw [setsV, if_neg hB]
      rw [Bool.not_eq_true] at hB
      rw [hB]
      rfl
  · rw [Bool.not_eq_true] at hT
    rw [chkO, if_pos (.inr (.inr hT)), if_neg]
    intro h
    rw [rgtB] at h
    simp only [Bool.and_eq_true, decide_eq_true_eq, beq_iff_eq] at h
    obtain ⟨_, _, hl, _, hrl, hP1, _⟩ := h
    have hr : ∀ l ∈ ls, 0 ≤ l.1 ∧ l.1 < bs.length ∧ 0 ≤ l.2 ∧ l.2 < bs.length := by
      intro l hl
      rw [List.all_eq_true] at hrl
      have := hrl l hl
      simp [rngL] at this
      omega
    have h1 := partsN_eq (W := Wv (bs.map setAll) (-1)) (lks_rng hr)
    rw [hP1, Wv_neg, List.countP_eq_length.2 (fun _ _ => rfl), List.length_range] at h1
    have : isTreeB bs.length ls = true := by
      rw [isTreeB, Bool.and_eq_true, ufB_joins]
      exact ⟨by simpa using hl, hr, by omega⟩
    rw [hT] at this
    cases this
end Go.Proofs.YtdnkkflpgebfbaaDoor
