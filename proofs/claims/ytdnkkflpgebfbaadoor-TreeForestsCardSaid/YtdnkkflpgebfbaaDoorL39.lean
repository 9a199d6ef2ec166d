/- The decomposition that 'Decompose' makes is right, by both checks. -/
import Derived.Test.YtdnkkflpgebfbaaDoorL38
import Derived.Test.YtdnkkflpgebfbaaDoorPe
namespace Go.Proofs.YtdnkkflpgebfbaaDoor
open Go.W Go.Tree

def upz (b : List Nat) : List Int := b.map fun (v : Nat) => (v : Int)
theorem upz_getD (b : List Nat) {i : Nat} (h : i < b.length) : (upz b).getD i 0 = (b.getD i 0 : Nat) := by
  simp [upz, h]
theorem upz_set (b : List Nat) : ∀ i, setTo (upz b) i = acc 0 (b.take i) := by
  intro i
  rw [setTo, acc, upz, ← List.map_take, List.foldl_map]
  rfl
theorem acc_els {S : Nat} (hS : S < 65536) : acc 0 (els S) = S := by
  apply Nat.eq_of_testBit_eq
  intro x
  rw [acc_bit, Nat.zero_testBit, Bool.false_or, Bool.eq_iff_iff, decide_eq_true_eq, mem_els]
  exact ⟨fun h => h.2, fun h => ⟨lt_of_testBit (n := 16) hS h, h⟩⟩
theorem setAll_els {S : Nat} (hS : S < 65536) : setAll (upz (els S)) = S := by
  rw [setAll, upz_set, List.take_of_length_le (by simp [upz]), acc_els hS]
theorem bagB_els {n S : Nat} (hS : S < 2 ^ n) : bagB n (upz (els S)) = true := by
  rw [bagB, okTo, List.all_eq_true]
  intro i hi
  have hi : i < (els S).length := by simpa [upz] using hi
  have hm := mem_els.1 (List.getElem_mem hi)
  have hlt := lt_of_testBit hS hm.2
  have hgi : (els S).getD i 0 = (els S)[i] := by rw [List.getD_eq_getElem?_getD, List.getElem?_eq_getElem hi]; rfl
  rw [okAt, upz_getD _ hi, hgi]
  simp only [Bool.and_eq_true, decide_eq_true_eq, Bool.or_eq_true, beq_iff_eq]
  refine ⟨⟨by omega, by omega⟩, ?_⟩
  by_cases h0 : i = 0
  · exact .inl h0
  · right
    have hi1 : i - 1 < (els S).length := by omega
    have hgj : (els S).getD (i - 1) 0 = (els S)[i - 1] := by rw [List.getD_eq_getElem?_getD, List.getElem?_eq_getElem hi1]; rfl
    rw [upz_getD _ hi1, hgj]
    have := (List.pairwise_iff_getElem.1 (els_sorted S)) (i - 1) i hi1 hi (by omega)
    omega
theorem bagsOf_eq {g : List Nat} (hg : Gr g) (h0 : g.length ≠ 0) : bagsOf g = (List.range g.length).map fun i => els (bagS g (bestO g) i) := by
  apply List.ext_getElem?
  intro i
  by_cases h : i < g.length
  · rw [bags_at h0 (by rw [bestO_len hg]; exact h)]
    simp [h]
  · rw [List.getElem?_eq_none (by rw [bags_len hg h0]; omega), List.getElem?_eq_none (by simp; omega)]
/-- The decomposition is right, and its width is the graph's. -/
theorem dec_right {n : Nat} {es : List Ed} {g : List Nat} (hmk : mkG (n : Nat) es = some g) : rgtB n es ((bagsOf g).map upz) (linksOf g) = true ∧ wdL ((bagsOf g).map upz) ((bagsOf g).map upz).length = wd g 0 := by
  obtain ⟨hg, hgn, _, _, _⟩ := mkG_gr hmk
  have hn := hg.len
  have hok := (mkG_okes hmk).1
  have hgn : g.length = n := by simpa using hgn
  by_cases h0 : g.length = 0
  · have hb : bagsOf g = [[]] := by rw [bagsOf, if_pos h0]
    have hl : linksOf g = [] := by rw [linksOf, if_pos h0]
    have hes : es = [] := by
      cases es with
      | nil => rfl
      | cons e r => have := hok e (by simp); omega
    have hw : wd g 0 = -1 := by
      have : (0 : Nat) = full g.length := by rw [h0]; rfl
      rw [this, wd_full]
    rw [hb, hl, hes, hw, ← hgn, h0]
    exact ⟨by decide, by decide⟩
  · have ho := bestO_ordr hg
    have hy := mkG_symm hmk
    have hbs := bagsOf_eq hg h0
    have hlen : (bagsOf g).length = g.length := bags_len hg h0
    have hbl : ((bagsOf g).map upz).length = g.length := by rw [List.length_map, hlen]
    have hss : ((bagsOf g).map upz).map setAll = (List.range g.length).map fun i => bagS g (bestO g) i := by
      rw [hbs, List.map_map, List.map_map]
      refine List.map_congr_left fun i hi => ?_
      have hi : i < g.length := by simpa using hi
      show setAll (upz (els (bagS g (bestO g) i))) = _
      refine setAll_els (Nat.lt_of_lt_of_le (bag_lt hg ho hi) ?_)
      exact Nat.le_trans (Nat.pow_le_pow_right (by decide) hn) (by decide)
    have hsl : (((bagsOf g).map upz).map setAll).length = g.length := by rw [List.length_map, hbl]
    have hsg : ∀ i, i < g.length → (((bagsOf g).map upz).map setAll).getD i 0 = bagS g (bestO g) i := by
      intro i hi
      rw [hss]; simp [hi]
    have hlk : lks (linksOf g) = dl g := by
      rw [links_eq hg h0, lks, List.map_map, dl]
      refine List.map_congr_left fun j _ => ?_
      simp
    have hll : (linksOf g).length = g.length - 1 := by rw [links_eq hg h0]; simp
    constructor
    · rw [rgtB, hbl, hlk, Wv_neg, parts_all hg h0]
      rw [decide_eq_true (show 1 ≤ g.length by omega), decide_eq_true (show g.length ≤ 64 by omega), decide_eq_true (show (linksOf g).length + 1 = g.length by omega)]
      have c1 : ((bagsOf g).map upz).all (bagB n) = true := by
        rw [hbs, List.map_map, List.all_eq_true]
        intro b hb
        obtain ⟨i, hi, rfl⟩ := List.mem_map.1 hb
        exact bagB_els (by rw [← hgn]; exact bag_lt hg ho (by simpa using hi))
      have c2 : (linksOf g).all (rngL g.length) = true := by
        rw [links_eq hg h0, List.all_eq_true]
        intro l hl
        obtain ⟨j, hj, rfl⟩ := List.mem_map.1 hl
        have hj : j < g.length - 1 := by simpa using hj
        have h1 := nx_lt hg ho (i := j) (by omega)
        have h2 := (nx_spec hg ho (i := j) (by omega)).1
        simp only [rngL, Bool.and_eq_true, decide_eq_true_eq]
        omega
      have c3 : partsB n (((bagsOf g).map upz).map setAll) (linksOf g) = true := by
        rw [partsB, List.all_eq_true]
        intro v hv
        have hv : v < g.length := by rw [hgn]; simpa using hv
        rw [hsl, hlk, parts_vert hg hy hv]
        · rfl
        · intro i hi
          rw [Wv_nat]
          show ((((bagsOf g).map upz).map setAll).getD i 0).testBit v = _
          rw [hsg i hi]
      have c4 : es.all (covE (((bagsOf g).map upz).map setAll)) = true := by
        rw [List.all_eq_true]
        intro e he
        obtain ⟨r1, r2, r3, r4, r5⟩ := hok e he
        obtain ⟨x, y⟩ := e
        obtain ⟨x, rfl⟩ := Int.eq_ofNat_of_zero_le r1
        obtain ⟨y, rfl⟩ := Int.eq_ofNat_of_zero_le r3
        simp only at r2 r4 r5
        have hb : (g.getD x 0).testBit y = true := (mkG_bits hmk (by omega) (by omega)).2 ⟨_, he, .inl rfl⟩
        obtain ⟨i, hi, h1, h2⟩ := edge_bag hg hy (by omega) hb
        rw [covE, List.any_eq_true]
        refine ⟨_, List.mem_iff_getElem.2 ⟨i, by rw [hsl]; exact hi, rfl⟩, ?_⟩
        have := hsg i hi
        rw [List.getD_eq_getElem?_getD, List.getElem?_eq_getElem (by rw [hsl]; exact hi)] at this
        simp only [Option.getD_some] at this
        rw [this]
        simp only [Int.toNat_natCast, h1, h2, Bool.and_self]
      rw [c1, c2, c3, c4]
      rfl
    · rw [wdL, List.take_length, wd_near hg, hbs, List.map_map, List.foldl_map]
      have : ∀ (l : List Nat) (q : Int), (∀ i ∈ l, i < g.length) → l.foldl (fun m i => max m (((upz (els (bagS g (bestO g) i))).length : Int) - 1)) q = l.foldl (fun m j => max m (pc (nearO g (bestO g) j) : Int)) q := by
        intro l
        induction l with
        | nil => intro q _; rfl
        | cons i l ih =>
          intro q hl
          have hi := hl i (by simp)
          have h1 : (upz (els (bagS g (bestO g) i))).length = pc (nearO g (bestO g) i) + 1 := by
            rw [upz, List.length_map, els_len, bag_card hg ho hi, pc_card]
          have h2 : (((pc (nearO g (bestO g) i) + 1 : Nat) : Int) - 1) = (pc (nearO g (bestO g) i) : Int) := by omega
          rw [List.foldl_cons, List.foldl_cons, h1, h2, ih _ (fun j hj => hl j (by simp [hj]))]
      exact this _ _ (fun i hi => by simpa using hi)
end Go.Proofs.YtdnkkflpgebfbaaDoor
