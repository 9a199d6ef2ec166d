/- Bags of a decomposition: an order's bags; cliques in bags; independent sets and cliques. -/
import Derived.Test.YtdnkkflpgebfbaaDoorMP
namespace Go.Tree
open Go.W

/-! ### The least order of least width is an order of all vertices -/
theorem bestF_step {g : List Nat} (hg : Gr g) {k S : Nat} (hS : S < 2 ^ g.length) (hk : k + 1 + card S = g.length) (hw : wd g S ≤ wd g 0) :
    ∃ u, bestF g (k + 1) S = u :: bestF g k (S ||| 2 ^ u) ∧ u < g.length ∧ S.testBit u = false ∧ (pc (lat g S u) : Int) ≤ wd g 0 ∧ wd g (S ||| 2 ^ u) ≤ wd g 0 ∧ S ||| 2 ^ u < 2 ^ g.length ∧ k + card (S ||| 2 ^ u) = g.length := by
  have hne : S ≠ full g.length := by
    intro e
    have := card_full (n := g.length) (by have := hg.len; omega)
    rw [e] at hk
    unfold full at hk
    omega
  obtain ⟨v, hv, h1, h2, h3⟩ := exists_best hg hS hne hw
  have hf : fine g S v = true := fine_iff.2 ⟨h1, h2, h3⟩
  cases hx : (List.range g.length).find? (fine g S) with
  | none => rw [List.find?_eq_none] at hx; exact absurd hf (hx v (by simpa using hv))
  | some u =>
    have hu := List.find?_some hx
    have hul : u < g.length := by have := List.mem_of_find?_eq_some hx; simpa using this
    obtain ⟨h4, h5, h6⟩ := fine_iff.1 hu
    exact ⟨u, by simp only [bestF, hx], hul, h4, h5, h6, or_pow_lt hS hul, by rw [card_add hg.len hS hul h4]; omega⟩
theorem bestF_all {g : List Nat} (hg : Gr g) : ∀ (k S : Nat), S < 2 ^ g.length → k + card S = g.length → wd g S ≤ wd g 0 →
    (bestF g k S).Nodup ∧ (∀ v ∈ bestF g k S, v < g.length ∧ S.testBit v = false) ∧ ∀ v, v < g.length → S.testBit v = false → v ∈ bestF g k S := by
  intro k
  induction k with
  | zero =>
    intro S hS hk _
    refine ⟨List.nodup_nil, fun v hv => (by cases hv), fun v hv hb => ?_⟩
    have h1 := card_add hg.len hS hv hb
    have h2 := card_le (by have := hg.len; omega) (or_pow_lt hS hv)
    omega
  | succ k ih =>
    intro S hS hk hw
    obtain ⟨u, he, hu, hSu, _, hw2, hS2, hk2⟩ := bestF_step hg hS hk hw
    obtain ⟨i1, i2, i3⟩ := ih _ hS2 hk2 hw2
    rw [he]
    refine ⟨List.nodup_cons.2 ⟨fun hm => ?_, i1⟩, fun v hv => ?_, fun v hv hb => ?_⟩
    · have := (i2 u hm).2
      rw [Nat.testBit_or, Nat.testBit_two_pow] at this
      simp at this
    · rcases List.mem_cons.1 hv with rfl | hv
      · exact ⟨hu, hSu⟩
      · obtain ⟨h1, h2⟩ := i2 v hv
        rw [Nat.testBit_or] at h2
        simp at h2
        exact ⟨h1, h2.1⟩
    · by_cases hvu : v = u
      · rw [hvu]; exact List.mem_cons_self
      · refine List.mem_cons_of_mem _ (i3 v hv ?_)
        rw [Nat.testBit_or, hb, Nat.testBit_two_pow]
        simpa using fun e : u = v => hvu e.symm
theorem bestO_all {g : List Nat} (hg : Gr g) : (bestO g).Nodup ∧ (∀ v ∈ bestO g, v < g.length) ∧ ∀ v, v < g.length → v ∈ bestO g := by
  obtain ⟨h1, h2, h3⟩ := bestF_all hg g.length 0 (Nat.two_pow_pos _) (by rw [card_zero, Nat.add_zero]) (Int.le_refl _)
  exact ⟨h1, fun v hv => (h2 v hv).1, fun v hv => h3 v hv (Nat.zero_testBit _)⟩
/-- The vertices that are gone. -/
def acc (S : Nat) (l : List Nat) : Nat := l.foldl (fun s v => s ||| 2 ^ v) S
theorem acc_bit : ∀ (l : List Nat) (S x : Nat), (acc S l).testBit x = (S.testBit x || decide (x ∈ l)) := by
  intro l
  induction l with
  | nil => intro S x; simp [acc]
  | cons v l ih =>
    intro S x
    have : acc S (v :: l) = acc (S ||| 2 ^ v) l := rfl
    rw [this, ih, Nat.testBit_or, Nat.testBit_two_pow]
    simp only [List.mem_cons]
    by_cases h : x = v
    · subst h; simp
    · have h' : ¬ v = x := fun e => h e.symm
      simp [h, h']
def gone (o : List Nat) (i : Nat) : Nat := acc 0 (o.take i)
theorem gone_bit (o : List Nat) (i x : Nat) : (gone o i).testBit x = decide (x ∈ o.take i) := by
  rw [gone, acc_bit, Nat.zero_testBit, Bool.false_or]
theorem dcB_len (g : List Nat) : ∀ (o : List Nat) (S : Nat), (dcB g o S).length = o.length := by
  intro o
  induction o with
  | nil => intro S; rfl
  | cons v r ih => intro S; simp [dcB, ih]
theorem dcB_at (g : List Nat) : ∀ (o : List Nat) (S i : Nat) (hi : i < o.length), (dcB g o S)[i]? = some (els (lat g (acc S (o.take i)) o[i] ||| 2 ^ o[i])) := by
  intro o
  induction o with
  | nil => intro S i hi; simp at hi
  | cons v r ih =>
    intro S i hi
    cases i with
    | zero => rfl
    | succ i =>
      simp only [dcB, List.getElem?_cons_succ, List.take_succ_cons, List.getElem_cons_succ]
      rw [ih _ i (by simpa using hi)]
      rfl
/-- The i-th bag as a set. -/
def bagS (g o : List Nat) (i : Nat) : Nat := lat g (gone o i) (o.getD i 0) ||| 2 ^ (o.getD i 0)
theorem bags_at {g : List Nat} {i : Nat} (h0 : g.length ≠ 0) (hi : i < (bestO g).length) : (bagsOf g)[i]? = some (els (bagS g (bestO g) i)) := by
  rw [bagsOf, if_neg h0, dcB_at g _ 0 i hi, bagS, gone]
  congr 3
  · rw [List.getD_eq_getElem?_getD, List.getElem?_eq_getElem hi]; rfl
  · rw [List.getD_eq_getElem?_getD, List.getElem?_eq_getElem hi]; rfl
theorem bags_len {g : List Nat} (hg : Gr g) (h0 : g.length ≠ 0) : (bagsOf g).length = g.length := by
  rw [bagsOf, if_neg h0, dcB_len, bestO_len hg]
/-- A clique lies inside a bag. -/
theorem clique_bag {g : List Nat} (hg : Gr g) {C : Nat} (hC : C < 2 ^ g.length) (h0 : C ≠ 0) (hq : Cq g C) : ∃ i, i < (bestO g).length ∧ ∀ u, C.testBit u = true → (bagS g (bestO g) i).testBit u = true := by
  obtain ⟨hnd, hlt, hall⟩ := bestO_all hg
  generalize bestO g = o at *
  have hex : ∃ i, ∃ (hi : i < o.length), C.testBit o[i] = true := by
    obtain ⟨u, hu⟩ := pos_testBit h0
    obtain ⟨i, hi, rfl⟩ := List.mem_iff_getElem.1 (hall u (lt_of_testBit hC hu))
    exact ⟨i, hi, hu⟩
  have hleast : ∃ i, (∃ (hi : i < o.length), C.testBit o[i] = true) ∧ ∀ j, j < i → ¬ ∃ (hj : j < o.length), C.testBit o[j] = true := by
    obtain ⟨i, hi⟩ := hex
    induction i using Nat.strongRecOn with
    | _ i ih =>
      by_cases h : ∃ j, j < i ∧ ∃ (hj : j < o.length), C.testBit o[j] = true
      · obtain ⟨j, hji, hj⟩ := h
        exact ih j hji hj
      · exact ⟨i, hi, fun j hj hc => h ⟨j, hj, hc⟩⟩
  obtain ⟨i, ⟨hi, hb⟩, hmin⟩ := hleast
  refine ⟨i, hi, fun u hu => ?_⟩
  have hgd : o.getD i 0 = o[i] := by rw [List.getD_eq_getElem?_getD, List.getElem?_eq_getElem hi]; rfl
  rw [bagS, hgd, Nat.testBit_or, Nat.testBit_two_pow]
  by_cases hui : u = o[i]
  · simp [hui]
  · have h1 : (lat g (gone o i) o[i]).testBit u = true := by
      refine (lat_iff hg (hlt _ (List.getElem_mem hi)) u).2 ⟨.step .base (.inl rfl) (hq _ _ hb hu (fun e => hui e.symm)), hui, ?_⟩
      rw [gone_bit]
      apply decide_eq_false
      intro hm
      obtain ⟨j, hj, hje⟩ := List.mem_iff_getElem.1 hm
      rw [List.length_take] at hj
      rw [List.getElem_take] at hje
      exact hmin j (by omega) ⟨by omega, by rw [hje]; exact hu⟩
    rw [h1]; rfl
theorem fr_clique {n : Int} {es : List Ed} {g : List Nat} (h : mkG n es = some g) {C : Nat} (hC : C < 2 ^ g.length) (hf : fr (nb g) C = true) : Cq g C := by
  obtain ⟨hg, _, _, _, _⟩ := mkG_gr h
  have hpw := pw_all _ hf
  have hso := els_sorted C
  have hn := hg.len
  have key : ∀ u v, C.testBit u = true → C.testBit v = true → u < v → nb g u v = true := by
    intro u v hu hv huv
    have hu' := lt_of_testBit hC hu
    have hv' := lt_of_testBit hC hv
    have m1 : u ∈ els C := mem_els.2 ⟨by omega, hu⟩
    have m2 : v ∈ els C := mem_els.2 ⟨by omega, hv⟩
    obtain ⟨i, hi, rfl⟩ := List.mem_iff_getElem.1 m1
    obtain ⟨j, hj, rfl⟩ := List.mem_iff_getElem.1 m2
    rcases Nat.lt_trichotomy i j with h1 | h1 | h1
    · exact (List.pairwise_iff_getElem.1 hpw) i j hi hj h1
    · subst h1; omega
    · have := (List.pairwise_iff_getElem.1 hso) j i hj hi h1; omega
  intro u v hu hv huv
  have hu' := lt_of_testBit hC hu
  have hv' := lt_of_testBit hC hv
  rcases Nat.lt_or_gt_of_ne huv with h1 | h1
  · exact key u v hu hv h1
  · rw [mkG_sym h hu' hv']; exact key v u hv hu h1
theorem fr_pair {p : Nat → Nat → Bool} {C u v : Nat} (hC : C < 65536) (hf : fr p C = true) (hu : C.testBit u = true) (hv : C.testBit v = true) (huv : u < v) : p u v = true := by
  have hpw := pw_all _ hf
  have hso := els_sorted C
  have m1 : u ∈ els C := mem_els.2 ⟨lt_of_testBit (n := 16) hC hu, hu⟩
  have m2 : v ∈ els C := mem_els.2 ⟨lt_of_testBit (n := 16) hC hv, hv⟩
  obtain ⟨i, hi, rfl⟩ := List.mem_iff_getElem.1 m1
  obtain ⟨j, hj, rfl⟩ := List.mem_iff_getElem.1 m2
  rcases Nat.lt_trichotomy i j with h1 | h1 | h1
  · exact (List.pairwise_iff_getElem.1 hpw) i j hi hj h1
  · subst h1; omega
  · have := (List.pairwise_iff_getElem.1 hso) j i hj hi h1; omega
theorem apR_set (p : Nat → Nat → Bool) : ∀ k, ∃ I, (I < k ∨ I = 0) ∧ (apR p k).2 = pc I ∧ fr p I = true := by
  intro k
  induction k with
  | zero => exact ⟨0, .inr rfl, by rw [pc_card, card_zero]; rfl, fr_zero p⟩
  | succ k ih =>
    obtain ⟨I, h1, h2, h3⟩ := ih
    rw [apR_succ, apStep]
    split
    · rename_i hf
      show ∃ I, (I < k + 1 ∨ I = 0) ∧ max (apR p k).2 (pc k) = pc I ∧ _
      rcases Nat.le_total (apR p k).2 (pc k) with hle | hle
      · exact ⟨k, .inl (by omega), Nat.max_eq_right hle, hf⟩
      · exact ⟨I, h1.imp (by omega) id, by rw [Nat.max_eq_left hle]; exact h2, h3⟩
    · exact ⟨I, h1.imp (by omega) id, h2, h3⟩
theorem card_one {x : Nat} (hx : x < 65536) (h : ∀ u v, x.testBit u = true → x.testBit v = true → ¬ u < v) : card x ≤ 1 := by
  by_cases h0 : x = 0
  · rw [h0, card_zero]; omega
  · obtain ⟨u, hu⟩ := pos_testBit h0
    have : x = 2 ^ u := by
      apply Nat.eq_of_testBit_eq
      intro i
      rw [Nat.testBit_two_pow]
      by_cases hi : u = i
      · subst hi; simp [hu]
      · cases hb : x.testBit i with
        | false => simp [hi]
        | true =>
          exfalso
          have h1 := h u i hu hb
          have h2 := h i u hb hu
          omega
    rw [this, card_pow (lt_of_testBit (n := 16) hx hu)]; omega
/-- An independent set and a clique share at most one vertex. -/
theorem ap_clique {n : Int} {es : List Ed} {g : List Nat} (h : mkG n es = some g) : (apR (fun u v => !nb g u v) (2 ^ g.length)).2 + (clR (nb g) (2 ^ g.length)).length ≤ g.length + 1 := by
  obtain ⟨hg, _, _, _, _⟩ := mkG_gr h
  have hn := hg.len
  have hpos := Nat.two_pow_pos g.length
  have hp14 : 2 ^ g.length ≤ 2 ^ 14 := Nat.pow_le_pow_right (by decide) hn
  obtain ⟨I, hI, hap, hfi⟩ := apR_set (fun u v => !nb g u v) (2 ^ g.length)
  obtain ⟨C, hC, hcl, hfc⟩ := clR_set (nb g) (2 ^ g.length)
  have hI : I < 2 ^ g.length := by omega
  have hC : C < 2 ^ g.length := by omega
  rw [hap, hcl, els_len, pc_card]
  have h1 : card (I &&& C) ≤ 1 := by
    refine card_one (Nat.lt_of_le_of_lt Nat.and_le_left (by omega)) fun u v hu hv huv => ?_
    rw [Nat.testBit_and, Bool.and_eq_true] at hu hv
    have h2 := fr_pair (by omega) hfi hu.1 hv.1 huv
    have h3 := fr_pair (by omega) hfc hu.2 hv.2 huv
    simp only [nb] at h2 h3
    rw [h3] at h2; cases h2
  have h2 : card (I ||| C) ≤ g.length := card_le (by omega) (Nat.or_lt_two_pow hI hC)
  have h3 : card (I ||| C) = card I + card (bd C I) := by
    rw [← card_or]
    · congr 1
      apply Nat.eq_of_testBit_eq; intro i
      simp only [Nat.testBit_or, testBit_bd]
      cases I.testBit i <;> cases C.testBit i <;> rfl
    · apply Nat.eq_of_testBit_eq; intro i
      simp only [Nat.testBit_and, testBit_bd, Nat.zero_testBit]
      cases I.testBit i <;> cases C.testBit i <;> rfl
  have h4 : card C = card (bd C I) + card (I &&& C) := by
    rw [← card_or]
    · congr 1
      apply Nat.eq_of_testBit_eq; intro i
      simp only [Nat.testBit_or, Nat.testBit_and, testBit_bd]
      cases I.testBit i <;> cases C.testBit i <;> rfl
    · apply Nat.eq_of_testBit_eq; intro i
      simp only [Nat.testBit_and, testBit_bd, Nat.zero_testBit]
      cases I.testBit i <;> cases C.testBit i <;> rfl
  omega
/-! ### How often the clique's vertices stand in a bag -/
def cnt (B : List Nat) (x j : Nat) : Nat := (B.take j).countP fun y => y == x
def tot (B cl : List Nat) : Nat → Nat
  | 0 => 0
  | k + 1 => tot B cl k + cnt B (cl.getD k 0) B.length
theorem cnt_succ {B : List Nat} {x j : Nat} (hj : j < B.length) : cnt B x (j + 1) = cnt B x j + (if B.getD j 0 = x then 1 else 0) := by
  rw [cnt, List.take_succ_eq_append_getElem hj, List.countP_append, cnt]
  congr 1
  rw [List.getD_eq_getElem?_getD, List.getElem?_eq_getElem hj]
  simp [List.countP_cons]
theorem cnt_le (B : List Nat) (x j : Nat) : cnt B x j ≤ B.length := Nat.le_trans List.countP_le_length (by rw [List.length_take]; omega)
theorem tot_le (B cl : List Nat) : ∀ k, tot B cl k ≤ k * B.length := by
  intro k
  induction k with
  | zero => exact Nat.zero_le _
  | succ k ih => rw [tot, Nat.add_mul, Nat.one_mul]; have := cnt_le B (cl.getD k 0) B.length; omega
theorem cnt_one {B : List Nat} (hnd : B.Nodup) {x : Nat} (hx : x ∈ B) : cnt B x B.length = 1 := by
  rw [cnt, List.take_length]
  induction B with
  | nil => cases hx
  | cons y B ih =>
    obtain ⟨h1, h2⟩ := List.nodup_cons.1 hnd
    rw [List.countP_cons]
    by_cases hyx : y = x
    · subst hyx
      have : B.countP (fun z => z == y) = 0 := by
        rw [List.countP_eq_zero]
        intro z hz
        have : z ≠ y := fun e => h1 (by rw [← e]; exact hz)
        simpa using this
      simp [this]
    · rw [ih h2 ((List.mem_cons.1 hx).resolve_left (fun e => hyx e.symm))]
      simp [hyx]
theorem tot_sub {B cl : List Nat} (hnd : B.Nodup) (h : ∀ x ∈ cl, x ∈ B) : ∀ k, k ≤ cl.length → tot B cl k = k := by
  intro k
  induction k with
  | zero => intro _; rfl
  | succ k ih =>
    intro hk
    rw [tot, ih (by omega), cnt_one hnd]
    apply h
    rw [List.getD_eq_getElem?_getD, List.getElem?_eq_getElem (by omega)]
    exact List.getElem_mem _
/-- Some bag has them all. -/
theorem fits {n : Int} {es : List Ed} {g : List Nat} (h : mkG n es = some g) : ∃ (i : Nat) (B : List Nat), (bagsOf g)[i]? = some B ∧ tot B (clR (nb g) (2 ^ g.length)) (clR (nb g) (2 ^ g.length)).length = (clR (nb g) (2 ^ g.length)).length := by
  obtain ⟨hg, _, _, _, _⟩ := mkG_gr h
  have hn := hg.len
  have hpos := Nat.two_pow_pos g.length
  obtain ⟨C, hC, hcl, hfc⟩ := clR_set (nb g) (2 ^ g.length)
  have hC : C < 2 ^ g.length := by omega
  rw [hcl]
  have nod : ∀ S, (els S).Nodup := fun S => (els_sorted S).imp (fun h => by omega)
  by_cases h0 : C = 0
  · subst h0
    rw [els_zero]
    have hne : ∃ B, (bagsOf g)[0]? = some B := by
      by_cases hl : g.length = 0
      · rw [bagsOf, if_pos hl]; exact ⟨[], rfl⟩
      · have := bags_len hg hl
        exact ⟨_, List.getElem?_eq_getElem (by omega)⟩
    obtain ⟨B, hB⟩ := hne
    exact ⟨0, B, hB, rfl⟩
  · have hl : g.length ≠ 0 := by
      intro e
      rw [e] at hC
      omega
    obtain ⟨i, hi, hsub⟩ := clique_bag hg hC h0 (fr_clique h hC hfc)
    refine ⟨i, _, bags_at hl hi, tot_sub (nod _) ?_ _ (Nat.le_refl _)⟩
    intro x hx
    obtain ⟨h1, h2⟩ := mem_els.1 hx
    exact mem_els.2 ⟨h1, hsub x h2⟩
end Go.Tree
