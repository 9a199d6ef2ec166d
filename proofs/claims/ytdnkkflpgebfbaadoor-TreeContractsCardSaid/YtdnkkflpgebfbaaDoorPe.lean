/- The decomposition out of an elimination order: its links, its parts, its width. -/
import Derived.Test.YtdnkkflpgebfbaaDoorPd
import Derived.Test.YtdnkkflpgebfbaaDoorPt
import Derived.Test.YtdnkkflpgebfbaaDoorPl
namespace Go.Tree
open Go.W

theorem cntL_one {N : Nat} {W : Nat → Bool} {f : Nat → Nat} {i0 : Nat} (hi : i0 < N) (hW : W i0 = true) (hf : f i0 < N) (h : ∀ i, i < N → W i = true → f i = f i0) : cntL N W f = 1 := by
  have h1 := count_drop (N := N) (M := f i0) (P := pres N W f) hf (pres_iff.2 ⟨i0, hi, hW, rfl⟩)
  unfold cntL
  rw [← h1]
  have : (List.range N).countP (fun i => pres N W f i && i != f i0) = 0 := by
    rw [List.countP_eq_zero]
    intro c _ hc
    rw [Bool.and_eq_true] at hc
    obtain ⟨i, h2, h3, h4⟩ := pres_iff.1 hc.1
    have := h i h2 h3
    rw [h4] at this
    simp [this] at hc
  rw [this]
theorem foldl_minN (f : Nat → Nat) : ∀ (l : List Nat) (b : Nat), l.foldl (fun m u => min m (f u)) b ≤ b ∧ (∀ u ∈ l, l.foldl (fun m u => min m (f u)) b ≤ f u) ∧ (l.foldl (fun m u => min m (f u)) b = b ∨ ∃ u ∈ l, l.foldl (fun m u => min m (f u)) b = f u) := by
  intro l
  induction l with
  | nil => intro b; exact ⟨Nat.le_refl _, fun v hv => (by cases hv), .inl rfl⟩
  | cons a l ih =>
    intro b
    obtain ⟨h1, h2, h3⟩ := ih (min b (f a))
    refine ⟨by rw [List.foldl_cons]; omega, ?_, ?_⟩
    · intro v hv
      rw [List.foldl_cons]
      rcases List.mem_cons.1 hv with rfl | hv
      · omega
      · exact h2 v hv
    · rw [List.foldl_cons]
      rcases h3 with h3 | ⟨v, hv, h3⟩
      · by_cases h : b ≤ f a
        · left; omega
        · right; exact ⟨a, by simp, by omega⟩
      · exact .inr ⟨v, by simp [hv], h3⟩

/-! ### An order of all vertices -/
structure Ordr (n : Nat) (o : List Nat) : Prop where
  len : o.length = n
  nd : o.Nodup
  lt : ∀ v ∈ o, v < n
  all : ∀ v, v < n → v ∈ o
theorem bestO_ordr {g : List Nat} (hg : Gr g) : Ordr g.length (bestO g) := by
  obtain ⟨h1, h2, h3⟩ := bestO_all hg
  exact ⟨bestO_len hg, h1, h2, h3⟩
section
variable {n : Nat} {o : List Nat} (ho : Ordr n o)
include ho
theorem ordr_inj {i j : Nat} (hi : i < n) (hj : j < n) (h : o.getD i 0 = o.getD j 0) : i = j := by
  have hi' : i < o.length := by rw [ho.len]; exact hi
  have hj' : j < o.length := by rw [ho.len]; exact hj
  rw [List.getD_eq_getElem?_getD, List.getD_eq_getElem?_getD, List.getElem?_eq_getElem hi', List.getElem?_eq_getElem hj'] at h
  simp only [Option.getD_some] at h
  have hp := List.pairwise_iff_getElem.1 ho.nd
  rcases Nat.lt_trichotomy i j with h1 | h1 | h1
  · exact absurd h (hp i j hi' hj' h1)
  · exact h1
  · exact absurd h.symm (hp j i hj' hi' h1)
theorem ordr_lt {i : Nat} (hi : i < n) : o.getD i 0 < n := by
  have hi' : i < o.length := by rw [ho.len]; exact hi
  rw [List.getD_eq_getElem?_getD, List.getElem?_eq_getElem hi']
  exact ho.lt _ (List.getElem_mem hi')
theorem ordr_pos {v : Nat} (hv : v < n) : ∃ i, i < n ∧ o.getD i 0 = v := by
  obtain ⟨i, hi, h⟩ := List.mem_iff_getElem.1 (ho.all v hv)
  exact ⟨i, by rw [← ho.len]; exact hi, by rw [List.getD_eq_getElem?_getD, List.getElem?_eq_getElem hi]; exact h⟩
theorem gone_at {i j : Nat} (hj : j < n) : (gone o i).testBit (o.getD j 0) = decide (j < i) := by
  have hj' : j < o.length := by rw [ho.len]; exact hj
  have hgd : o.getD j 0 = o[j] := by rw [List.getD_eq_getElem?_getD, List.getElem?_eq_getElem hj']; rfl
  rw [gone_bit, Bool.eq_iff_iff, decide_eq_true_eq, decide_eq_true_eq]
  constructor
  · intro h
    obtain ⟨k, hk, hke⟩ := List.mem_iff_getElem.1 h
    rw [List.length_take] at hk
    rw [List.getElem_take] at hke
    have hkn : k < n := by have := ho.len; omega
    have hgk : o.getD k 0 = o[k] := by rw [List.getD_eq_getElem?_getD, List.getElem?_eq_getElem (by omega)]; rfl
    have := ordr_inj ho hkn hj (by rw [hgk, hke])
    omega
  · intro h
    rw [hgd]
    exact List.mem_iff_getElem.2 ⟨j, by rw [List.length_take]; omega, by rw [List.getElem_take]⟩
theorem posA_at : ∀ k, k ≤ n → ∀ j, j < k → (posA o n k).getD (o.getD j 0) 0 = j := by
  intro k
  induction k with
  | zero => intro _ j hj; omega
  | succ k ih =>
    intro hk j hj
    rw [posA_succ, List.getD_eq_getElem?_getD]
    by_cases hjk : j = k
    · subst hjk
      rw [List.getElem?_set_self (by rw [posA_len]; exact ordr_lt ho (by omega))]
      rfl
    · have hne : o.getD k 0 ≠ o.getD j 0 := fun e => hjk (ordr_inj ho (by omega) (by omega) e.symm)
      rw [List.getElem?_set_ne hne, ← List.getD_eq_getElem?_getD]
      exact ih (by omega) j (by omega)
end

section
variable {g : List Nat} (hg : Gr g) {o : List Nat} (ho : Ordr g.length o)
include hg ho
/-- The neighbors of the i-th vertex, when those before it are gone. -/
def nearO (g o : List Nat) (i : Nat) : Nat := lat g (gone o i) (o.getD i 0)
def nx (g o : List Nat) (i : Nat) : Nat := nxt (posA o g.length g.length) g.length i (nearO g o i)
theorem near_iff {i j : Nat} (hi : i < g.length) (hj : j < g.length) : (nearO g o i).testBit (o.getD j 0) = true ↔ Rch g (gone o i) (o.getD i 0) (o.getD j 0) ∧ i < j := by
  rw [nearO, lat_iff hg (ordr_lt ho hi), gone_at ho hj]
  constructor
  · rintro ⟨h1, h2, h3⟩
    have h4 := of_decide_eq_false h3
    refine ⟨h1, ?_⟩
    rcases Nat.lt_trichotomy i j with h | h | h
    · exact h
    · rw [h] at h2; exact absurd rfl h2
    · omega
  · rintro ⟨h1, h2⟩
    exact ⟨h1, fun e => by have := ordr_inj ho hj hi e; omega, decide_eq_false (by omega)⟩
theorem near_lt {i : Nat} (hi : i < g.length) : nearO g o i < 2 ^ g.length := lat_lt hg (ordr_lt ho hi)
theorem near_pos {i x : Nat} (hi : i < g.length) (h : (nearO g o i).testBit x = true) : ∃ j, i < j ∧ j < g.length ∧ o.getD j 0 = x := by
  obtain ⟨j, hj, rfl⟩ := ordr_pos ho (lt_of_testBit (near_lt hg ho hi) h)
  exact ⟨j, ((near_iff hg ho hi hj).1 h).2, hj, rfl⟩
/-- The next bag. -/
theorem nx_spec {i : Nat} (hi : i < g.length) : i < nx g o i ∧ (nearO g o i ≠ 0 → nx g o i < g.length ∧ (nearO g o i).testBit (o.getD (nx g o i) 0) = true ∧ ∀ j, j < g.length → (nearO g o i).testBit (o.getD j 0) = true → nx g o i ≤ j) ∧ (nearO g o i = 0 → nx g o i = i + 1) := by
  have hn := hg.len
  by_cases h0 : nearO g o i = 0
  · rw [nx, nxt, if_pos h0]
    exact ⟨by omega, fun h => absurd h0 h, fun _ => rfl⟩
  · have hps : ∀ j, j < g.length → (posA o g.length g.length).getD (o.getD j 0) 0 = j := fun j hj => posA_at ho g.length (Nat.le_refl _) j hj
    obtain ⟨h1, h2, h3⟩ := foldl_minN (fun u => (posA o g.length g.length).getD u 0) (els (nearO g o i)) g.length
    have hnx : nx g o i = (els (nearO g o i)).foldl (fun m u => min m ((posA o g.length g.length).getD u 0)) g.length := by rw [nx, nxt, if_neg h0]
    rw [← hnx] at h1 h2 h3
    have hmem : ∀ u, (nearO g o i).testBit u = true → u ∈ els (nearO g o i) := fun u hu => mem_els.2 ⟨by have := lt_of_testBit (near_lt hg ho hi) hu; omega, hu⟩
    have hatt : ∃ j, i < j ∧ j < g.length ∧ (nearO g o i).testBit (o.getD j 0) = true ∧ nx g o i = j := by
      rcases h3 with h3 | ⟨u, hu, h3⟩
      · exfalso
        obtain ⟨u, hu⟩ := pos_testBit h0
        obtain ⟨j, hij, hj, hje⟩ := near_pos hg ho hi hu
        have := h2 u (hmem u hu)
        rw [← hje] at this
        simp only [hps j hj] at this
        omega
      · obtain ⟨j, hij, hj, hje⟩ := near_pos hg ho hi (mem_els.1 hu).2
        rw [← hje] at h3
        simp only [hps j hj] at h3
        exact ⟨j, hij, hj, by rw [hje]; exact (mem_els.1 hu).2, h3⟩
    obtain ⟨j, hij, hj, hjb, hje⟩ := hatt
    refine ⟨by omega, fun _ => ⟨by omega, by rw [hje]; exact hjb, fun q hq hqb => ?_⟩, fun h => absurd h h0⟩
    have := h2 _ (hmem _ hqb)
    simp only [hps q hq] at this
    exact this
theorem near_last {i : Nat} (hi : i + 1 = g.length) : nearO g o i = 0 := by
  apply Nat.eq_of_testBit_eq
  intro x
  rw [Nat.zero_testBit]
  cases hb : (nearO g o i).testBit x with
  | false => rfl
  | true =>
    obtain ⟨j, h1, h2, _⟩ := near_pos hg ho (by omega) hb
    omega
theorem nx_lt {i : Nat} (hi : i + 1 < g.length) : nx g o i < g.length := by
  obtain ⟨_, h2, h3⟩ := nx_spec hg ho (i := i) (by omega)
  by_cases h0 : nearO g o i = 0
  · rw [h3 h0]; exact hi
  · exact (h2 h0).1
theorem nx_last {i : Nat} (hi : i + 1 = g.length) : nx g o i = g.length := by
  obtain ⟨_, _, h3⟩ := nx_spec hg ho (i := i) (by omega)
  rw [h3 (near_last hg ho hi)]; exact hi
theorem dcL_drop : ∀ (k i : Nat), i + k = g.length → dcL g (posA o g.length g.length) (o.drop i) i (gone o i) = (List.range' i (k - 1)).map fun (j : Nat) => ((j : Int), ((nx g o j : Nat) : Int)) := by
  intro k
  induction k with
  | zero =>
    intro i hi
    rw [List.drop_eq_nil_of_le (by rw [ho.len]; omega)]
    rfl
  | succ k ih =>
    intro i hi
    have hil : i < o.length := by rw [ho.len]; omega
    have hgd : o.getD i 0 = o[i] := by rw [List.getD_eq_getElem?_getD, List.getElem?_eq_getElem hil]; rfl
    have hgs : gone o i ||| 2 ^ o[i] = gone o (i + 1) := by
      rw [gone, gone, List.take_succ_eq_append_getElem hil, acc, acc, List.foldl_append]; rfl
    have hnx : nxt (posA o g.length g.length) g.length i (lat g (gone o i) o[i]) = nx g o i := by rw [nx, nearO, hgd]
    rw [List.drop_eq_getElem_cons hil, dcL, hgs, hnx, ih (i + 1) (by omega)]
    cases k with
    | zero =>
      rw [nx_last hg ho (by omega), if_neg (by omega)]
      rfl
    | succ k =>
      rw [if_pos (nx_lt hg ho (by omega))]
      show [((i : Int), ((nx g o i : Nat) : Int))] ++ (List.range' (i + 1) (k + 1 - 1)).map _ = (List.range' i (k + 1 + 1 - 1)).map _
      rw [show k + 1 + 1 - 1 = k + 1 by omega, show k + 1 - 1 = k by omega, List.range'_succ, List.map_cons]
      rfl
end
section
variable {g : List Nat} (hg : Gr g) (h0 : g.length ≠ 0)
include hg h0
theorem links_eq : linksOf g = (List.range (g.length - 1)).map fun (j : Nat) => ((j : Int), ((nx g (bestO g) j : Nat) : Int)) := by
  have ho := bestO_ordr hg
  have := dcL_drop hg ho g.length 0 (by omega)
  rw [List.drop_zero] at this
  rw [linksOf, if_neg h0]
  have hz : gone (bestO g) 0 = 0 := rfl
  rw [hz] at this
  rw [this, List.range_eq_range']
theorem links_mem {i : Nat} (hi : i + 1 < g.length) : ((i : Int), ((nx g (bestO g) i : Nat) : Int)) ∈ linksOf g := by
  rw [links_eq hg h0]
  exact List.mem_map.2 ⟨i, by simp; omega, rfl⟩
end
/-- The bags with a vertex. -/
theorem bag_bit {g : List Nat} {o : List Nat} (ho : Ordr g.length o) {i p : Nat} (hi : i < g.length) (hp : p < g.length) : (bagS g o i).testBit (o.getD p 0) = true ↔ i = p ∨ (nearO g o i).testBit (o.getD p 0) = true := by
  rw [bagS, Nat.testBit_or, Nat.testBit_two_pow, Bool.or_eq_true, decide_eq_true_eq]
  constructor
  · rintro (h | h)
    · exact .inr h
    · exact .inl (ordr_inj ho hi hp h)
  · rintro (h | h)
    · exact .inr (by rw [h])
    · exact .inl h
def Symm (g : List Nat) : Prop := ∀ u v, (g.getD u 0).testBit v = true → (g.getD v 0).testBit u = true
theorem mkG_symm {n : Int} {es : List Ed} {g : List Nat} (h : mkG n es = some g) : Symm g := by
  obtain ⟨hg, _⟩ := mkG_gr h
  intro u v hb
  obtain ⟨h1, h2⟩ := hg.in_ hb
  rw [mkG_sym h h2 h1]; exact hb
theorem rch_rev {g : List Nat} (hy : Symm g) {S T v : Nat} (hS : ∀ x, S.testBit x = true → T.testBit x = true) (hv : T.testBit v = true) {x : Nat} (hx : Rch g S v x) : ∀ z, Rch g T z x → (x = z ∨ T.testBit x = true) → Rch g T z v := by
  induction hx with
  | base => intro z h _; exact h
  | @step u y _ hu hb ih =>
    intro z h hz
    have hTu : T.testBit u = true := by
      rcases hu with hu | hu
      · rw [hu]; exact hv
      · exact hS _ hu
    exact ih z (.step h hz (hy _ _ hb)) (.inr hTu)
/-- A vertex of a bag stays in the next bag, until it is eliminated itself. -/
theorem bag_next {g : List Nat} (hg : Gr g) (hy : Symm g) {o : List Nat} (ho : Ordr g.length o) {i p : Nat} (hi : i < g.length) (hp : p < g.length) (hb : (nearO g o i).testBit (o.getD p 0) = true) :
    i < nx g o i ∧ nx g o i ≤ p ∧ (bagS g o (nx g o i)).testBit (o.getD p 0) = true := by
  have hne : nearO g o i ≠ 0 := by intro e; rw [e] at hb; simp at hb
  obtain ⟨h1, h2, _⟩ := nx_spec hg ho hi
  obtain ⟨h3, h4, h5⟩ := h2 hne
  have hle := h5 p hp hb
  refine ⟨h1, hle, ?_⟩
  rw [bag_bit ho h3 hp]
  by_cases hq : nx g o i = p
  · exact .inl hq
  · refine .inr ((near_iff hg ho h3 hp).2 ⟨?_, by omega⟩)
    -- a way from the next vertex over the i-th one to the vertex
    have r1 := ((near_iff hg ho hi h3).1 h4).1
    have r2 := ((near_iff hg ho hi hp).1 hb).1
    generalize nx g o i = q at *
    have sub : ∀ x, (gone o i).testBit x = true → (gone o q).testBit x = true := by
      intro x hx
      rw [gone_bit, decide_eq_true_eq] at hx ⊢
      exact (List.take_subset_take_left o (Nat.le_of_lt h1)) hx
    have hgi : (gone o q).testBit (o.getD i 0) = true := by rw [gone_at ho hi]; simpa using h1
    -- forwards from the i-th vertex
    have fwd : ∀ {x}, Rch g (gone o i) (o.getD i 0) x → Rch g (gone o q) (o.getD q 0) (o.getD i 0) → Rch g (gone o q) (o.getD q 0) x := by
      intro x hx hstart
      induction hx with
      | base => exact hstart
      | step _ hu hb ih =>
        refine .step ih (.inr ?_) hb
        rcases hu with hu | hu
        · rw [hu]; exact hgi
        · exact sub _ hu
    exact fwd r2 (rch_rev hy sub hgi r1 _ .base (.inl rfl))

/-! ### One part -/
def dl (g : List Nat) : List Lk := (List.range (g.length - 1)).map fun (j : Nat) => (j, nx g (bestO g) j)
theorem dl_rng {g : List Nat} (hg : Gr g) : Rng g.length (dl g) := by
  intro l hl
  obtain ⟨j, hj, rfl⟩ := List.mem_map.1 hl
  have hj : j < g.length - 1 := by simpa using hj
  have := nx_lt hg (bestO_ordr hg) (i := j) (by omega)
  simp only
  omega
theorem parts_one {g : List Nat} (hg : Gr g) (W : Nat → Bool) {p : Nat} (hp : p < g.length) (hW : W p = true)
    (h : ∀ i, i < g.length → W i = true → i ≠ p → i + 1 < g.length ∧ i < nx g (bestO g) i ∧ nx g (bestO g) i ≤ p ∧ W (nx g (bestO g) i) = true) : partsN g.length W (dl g) = 1 := by
  refine cntL_one hp hW (uf_lt (dl g) id (dl_rng hg) (fun i hi => hi) p hp) ?_
  have key : ∀ d i, p - i = d → i < g.length → W i = true → i ≤ p → uf W id (dl g) i = uf W id (dl g) p := by
    intro d
    induction d using Nat.strongRecOn with
    | _ d ih =>
      intro i hd hi hWi hip
      by_cases e : i = p
      · rw [e]
      · obtain ⟨h1, h2, h3, h4⟩ := h i hi hWi e
        have hm : (i, nx g (bestO g) i) ∈ dl g := List.mem_map.2 ⟨i, by simp; omega, rfl⟩
        have := uf_link (W := W) (dl g) id _ hm (by simp [inW, hWi, h4])
        rw [this]
        exact ih (p - nx g (bestO g) i) (by omega) _ rfl (by omega) h4 h3
  intro i hi hWi
  by_cases e : i = p
  · rw [e]
  · have := h i hi hWi e
    exact key _ i rfl hi hWi (by omega)
theorem parts_all {g : List Nat} (hg : Gr g) (h0 : g.length ≠ 0) : partsN g.length (fun _ => true) (dl g) = 1 := by
  have ho := bestO_ordr hg
  refine parts_one hg _ (p := g.length - 1) (by omega) rfl fun i hi _ hne => ?_
  have h1 := nx_lt hg ho (i := i) (by omega)
  have h2 := (nx_spec hg ho hi).1
  exact ⟨by omega, h2, by omega, rfl⟩
theorem parts_vert {g : List Nat} (hg : Gr g) (hy : Symm g) {v : Nat} (hv : v < g.length) (W : Nat → Bool) (hWW : ∀ i, i < g.length → W i = (bagS g (bestO g) i).testBit v) : partsN g.length W (dl g) = 1 := by
  have ho := bestO_ordr hg
  obtain ⟨p, hp, rfl⟩ := ordr_pos ho hv
  refine parts_one hg _ (p := p) hp (by rw [hWW p hp, bag_bit ho hp hp]; exact .inl rfl) fun i hi hb hne => ?_
  rw [hWW i hi, bag_bit ho hi hp] at hb
  have hb := hb.resolve_left hne
  have hip := ((near_iff hg ho hi hp).1 hb).2
  obtain ⟨h1, h2, h3⟩ := bag_next hg hy ho hi hp hb
  exact ⟨by omega, h1, h2, by rw [hWW _ (by omega)]; exact h3⟩
theorem edge_bag {g : List Nat} (hg : Gr g) (hy : Symm g) {u x : Nat} (hux : u ≠ x) (hb : (g.getD u 0).testBit x = true) : ∃ i, i < g.length ∧ (bagS g (bestO g) i).testBit u = true ∧ (bagS g (bestO g) i).testBit x = true := by
  have ho := bestO_ordr hg
  obtain ⟨hu, hx⟩ := hg.in_ hb
  obtain ⟨i, hi, rfl⟩ := ordr_pos ho hu
  obtain ⟨j, hj, rfl⟩ := ordr_pos ho hx
  rcases Nat.lt_trichotomy i j with h | h | h
  · exact ⟨i, hi, by rw [bag_bit ho hi hi]; exact .inl rfl, by rw [bag_bit ho hi hj]; exact .inr ((near_iff hg ho hi hj).2 ⟨.step .base (.inl rfl) hb, h⟩)⟩
  · rw [h] at hux; exact absurd rfl hux
  · exact ⟨j, hj, by rw [bag_bit ho hj hi]; exact .inr ((near_iff hg ho hj hi).2 ⟨.step .base (.inl rfl) (hy _ _ hb), h⟩), by rw [bag_bit ho hj hj]; exact .inl rfl⟩
theorem bag_card {g : List Nat} (hg : Gr g) {o : List Nat} (ho : Ordr g.length o) {i : Nat} (hi : i < g.length) : card (bagS g o i) = card (nearO g o i) + 1 := by
  have hn := hg.len
  have hlt := ordr_lt ho hi
  refine card_add hn (near_lt hg ho hi) hlt ?_
  cases hb : (nearO g o i).testBit (o.getD i 0) with
  | false => exact hb
  | true => have := ((near_iff hg ho hi hi).1 hb).2; omega
theorem bag_lt {g : List Nat} (hg : Gr g) {o : List Nat} (ho : Ordr g.length o) {i : Nat} (hi : i < g.length) : bagS g o i < 2 ^ g.length := or_pow_lt (near_lt hg ho hi) (ordr_lt ho hi)
/-- The width of an order. -/
theorem ordL_max {g : List Nat} {o : List Nat} (ho : Ordr g.length o) : ∀ (k i : Nat) (q : Int), i + k = g.length →
    ordL g ((o.drop i).map fun (v : Nat) => (v : Int)) (gone o i) q = some ((List.range' i k).foldl (fun m j => max m (pc (nearO g o j) : Int)) q) := by
  intro k
  induction k with
  | zero =>
    intro i q hi
    rw [List.drop_eq_nil_of_le (by rw [ho.len]; omega)]
    rfl
  | succ k ih =>
    intro i q hi
    have hil : i < o.length := by rw [ho.len]; omega
    have hgd : o.getD i 0 = o[i] := by rw [List.getD_eq_getElem?_getD, List.getElem?_eq_getElem hil]; rfl
    have hgs : gone o i ||| 2 ^ o[i] = gone o (i + 1) := by
      rw [gone, gone, List.take_succ_eq_append_getElem hil, acc, acc, List.foldl_append]; rfl
    have hb : (gone o i).testBit o[i] = false := by rw [← hgd, gone_at ho (by omega)]; exact decide_eq_false (by omega)
    have hlt : o[i] < g.length := ho.lt _ (List.getElem_mem hil)
    rw [List.drop_eq_getElem_cons hil, List.map_cons, ordL, Int.toNat_natCast, if_neg (by rw [hb]; rintro (h | h | h); omega; omega; cases h), hgs, ih (i + 1) _ (by omega), List.range'_succ, List.foldl_cons, nearO, hgd]
theorem wd_near {g : List Nat} (hg : Gr g) : wd g 0 = (List.range g.length).foldl (fun m j => max m (pc (nearO g (bestO g) j) : Int)) (-1) := by
  have h1 := ordL_max (bestO_ordr hg) g.length 0 (-1) (by omega)
  rw [List.drop_zero, show gone (bestO g) 0 = 0 from rfl, ord_bestO hg] at h1
  rw [List.range_eq_range']
  exact Option.some.inj h1
end Go.Tree
