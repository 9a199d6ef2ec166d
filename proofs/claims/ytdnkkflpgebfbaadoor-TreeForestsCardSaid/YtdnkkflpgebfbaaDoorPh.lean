/- A graph has the width 1 at most where no edge closes a circle. -/
import Derived.Test.YtdnkkflpgebfbaaDoorPg
namespace Go.Tree
open Go.W

/-- The edges as links, the second end first. -/
def lk2 (es : List Ed) : List Lk := es.map fun e => (e.2.toNat, e.1.toNat)
theorem lk2_rng {n : Nat} {es : List Ed} (h : Edg n es) : Rng n (lk2 es) := by
  intro l hl
  obtain ⟨e, he, rfl⟩ := List.mem_map.1 hl
  exact ⟨(h.1 e he).2.1, (h.1 e he).1⟩
theorem lk2_count (es : List Ed) (S : Nat) : (lk2 es).countP (inW fun i => S.testBit i) = eS es S := by
  rw [lk2, List.countP_map, eS]
  refine List.countP_congr fun e _ => ?_
  simp only [Function.comp, inW, inS, Bool.and_comm]
theorem joins_congr {W W' : Nat → Bool} : ∀ (L : List Lk) (f : Nat → Nat), (∀ l ∈ L, inW W l = inW W' l) → joins W f L = joins W' f L := by
  intro L
  induction L with
  | nil => intro f _; rfl
  | cons l L ih =>
    intro f h
    rw [joins, joins, h l (by simp), ih _ (fun x hx => h x (by simp [hx]))]
theorem cntL_pos {N : Nat} {W : Nat → Bool} {f : Nat → Nat} {i : Nat} (hi : i < N) (hf : f i < N) (hW : W i = true) : 0 < cntL N W f := by
  unfold cntL
  exact List.countP_pos_iff.2 ⟨f i, by simpa using hf, pres_iff.2 ⟨i, hi, hW, rfl⟩⟩
section
variable {n : Int} {es : List Ed} {g : List Nat} (hmk : mkG n es = some g)
include hmk
theorem parts_set {S : Nat} (hS : S < 2 ^ g.length) : partsN g.length (fun i => S.testBit i) (lk2 es) + joins (fun i => S.testBit i) id (lk2 es) = card S := by
  obtain ⟨hg, _⟩ := mkG_gr hmk
  have hn := hg.len
  have := partsN_eq (W := fun i => S.testBit i) (lk2_rng (mk_edg hmk))
  rw [this, card_range (by omega) hS]
/-- Where all edges join, every set of vertices has fewer edges than vertices. -/
theorem forest_of (hj : joins (fun _ => true) id (lk2 es) = es.length) : ∀ S, S ≠ 0 → S < 2 ^ g.length → eS es S < card S := by
  intro S h0 hS
  have h1 := joins_sub (W := fun i => S.testBit i) (lk2 es) id id (fun _ _ h => h) (by rw [hj]; simp [lk2])
  rw [lk2_count] at h1
  have h2 := parts_set hmk hS
  obtain ⟨i, hi⟩ := pos_testBit h0
  have hin := lt_of_testBit hS hi
  have h3 : 0 < partsN g.length (fun i => S.testBit i) (lk2 es) := cntL_pos hin (uf_lt (lk2 es) id (lk2_rng (mk_edg hmk)) (fun i hi => hi) i hin) hi
  omega

/-! ### Width 1 at most: no circle -/
theorem joins_step {S v : Nat} (hb : S.testBit v = true) (hv : v < g.length) (hd : dg g S v ≤ 1) (hS : S < 2 ^ g.length) (ih : joins (fun i => (bd S (2 ^ v)).testBit i) id (lk2 es) = eS es (bd S (2 ^ v))) : joins (fun i => S.testBit i) id (lk2 es) = eS es S := by
  obtain ⟨hg, _⟩ := mkG_gr hmk
  have hn := hg.len
  have hr := lk2_rng (mk_edg hmk)
  have hT : bd S (2 ^ v) < 2 ^ g.length := Nat.lt_of_le_of_lt (bd_le _ _) hS
  have hTS : ∀ i, (bd S (2 ^ v)).testBit i = true → S.testBit i = true := by
    intro i hi
    rw [testBit_bd, Bool.and_eq_true] at hi
    exact hi.1
  have hcT : card (bd S (2 ^ v)) + 1 = card S := by
    have := card_bd (a := S) (b := 2 ^ v) (fun i hi => by
      rw [Nat.testBit_two_pow] at hi
      have : v = i := by simpa using hi
      rw [← this]; exact hb)
    rw [card_pow (by omega)] at this
    exact this
  have hle := joins_le (W := fun i => S.testBit i) (lk2 es) id
  rw [lk2_count] at hle
  have he := eS_less hmk hb hv
  have p1 := parts_set hmk hS
  have p2 := parts_set hmk hT
  -- the parts of the set, by those without the vertex
  let fS := uf (fun i => S.testBit i) id (lk2 es)
  let fT := uf (fun i => (bd S (2 ^ v)).testBit i) id (lk2 es)
  have hfS : ∀ i, i < g.length → fS i < g.length := uf_lt (lk2 es) id hr (fun i hi => hi)
  have hfT : ∀ i, i < g.length → fT i < g.length := uf_lt (lk2 es) id hr (fun i hi => hi)
  have hTW : ∀ l ∈ lk2 es, inW (fun i => (bd S (2 ^ v)).testBit i) l = true → fS l.1 = fS l.2 := by
    intro l hl hw
    refine uf_link (lk2 es) id l hl ?_
    rw [inW, Bool.and_eq_true] at hw ⊢
    exact ⟨hTS _ hw.1, hTS _ hw.2⟩
  have c1 : cntL g.length (fun i => (bd S (2 ^ v)).testBit i) fS ≤ cntL g.length (fun i => (bd S (2 ^ v)).testBit i) fT :=
    cntL_kernel hfT fun i j _ _ _ _ h => uf_least (lk2 es) id fS (fun a b hab => congrArg fS hab) hTW i j h
  have hpr : ∀ c, pres g.length (fun i => S.testBit i) fS c = true → pres g.length (fun i => (bd S (2 ^ v)).testBit i) fS c = true ∨ c = fS v := by
    intro c hc
    obtain ⟨i, h1, h2, h3⟩ := pres_iff.1 hc
    by_cases hi : i = v
    · right; rw [← h3, hi]
    · left
      refine pres_iff.2 ⟨i, h1, ?_, h3⟩
      rw [testBit_bd, h2, Nat.testBit_two_pow]
      have : ¬ v = i := fun h => hi h.symm
      simp [this]
  have c2 : cntL g.length (fun i => S.testBit i) fS + dg g S v ≤ cntL g.length (fun i => (bd S (2 ^ v)).testBit i) fS + 1 := by
    rcases dg_cases hmk hd hS with ⟨h1, _⟩ | ⟨h1, u, h2⟩
    · rw [h1, Nat.add_zero]
      have hv' := hfS v hv
      have h4 := countP_le (pres g.length (fun i => S.testBit i) fS) (fun c => pres g.length (fun i => (bd S (2 ^ v)).testBit i) fS c || (c == fS v && true)) (List.range g.length) (fun c _ hc => by
        rcases hpr c hc with h | h
        · rw [h]; rfl
        · rw [h]; simp)
      have h5 : ∀ (l : List Nat) (P Q : Nat → Bool), l.countP (fun c => P c || Q c) ≤ l.countP P + l.countP Q := by
        intro l P Q
        induction l with
        | nil => simp
        | cons x l ih => simp only [List.countP_cons]; cases P x <;> cases Q x <;> simp <;> omega
      have h6 := h5 (List.range g.length) (pres g.length (fun i => (bd S (2 ^ v)).testBit i) fS) (fun c => c == fS v && true)
      rw [count_one (fun _ => true), if_pos ⟨hv', rfl⟩] at h6
      unfold cntL
      omega
    · rw [h1]
      have hub : (g.getD v 0).testBit u = true ∧ S.testBit u = true := by
        have := congrArg (fun z => z.testBit u) h2
        simp only [Nat.testBit_and, Nat.testBit_two_pow, decide_true, Bool.and_eq_true] at this
        exact this
      have huv : u ≠ v := by
        intro e
        have := mkG_loop hmk hv
        rw [e, this] at hub
        cases hub.1
      have hug := lt_of_testBit hS hub.2
      have hfv : fS v = fS u := by
        obtain ⟨e, he, hee⟩ := (mkG_bits hmk hv hug).1 hub.1
        have hl : (e.2.toNat, e.1.toNat) ∈ lk2 es := List.mem_map.2 ⟨e, he, rfl⟩
        have := uf_link (W := fun i => S.testBit i) (lk2 es) id _ hl
        rcases hee with rfl | rfl
        · exact (this (by simp [inW, hb, hub.2])).symm
        · exact this (by simp [inW, hb, hub.2])
      have h4 := countP_le (pres g.length (fun i => S.testBit i) fS) (pres g.length (fun i => (bd S (2 ^ v)).testBit i) fS) (List.range g.length) (fun c _ hc => by
        rcases hpr c hc with h | h
        · exact h
        · refine pres_iff.2 ⟨u, hug, ?_, by rw [h, hfv]⟩
          rw [testBit_bd, hub.2, Nat.testBit_two_pow]
          have : ¬ v = u := fun h => huv h.symm
          simp [this])
      unfold cntL
      omega
  have c3 : partsN g.length (fun i => S.testBit i) (lk2 es) = cntL g.length (fun i => S.testBit i) fS := rfl
  have c4 : partsN g.length (fun i => (bd S (2 ^ v)).testBit i) (lk2 es) = cntL g.length (fun i => (bd S (2 ^ v)).testBit i) fT := rfl
  omega
theorem wd_joins : ∀ (k A : Nat), A < 2 ^ g.length → k + card A = g.length → wd g A ≤ 1 → joins (fun i => (bd (full g.length) A).testBit i) id (lk2 es) = eS es (bd (full g.length) A) := by
  obtain ⟨hg, _⟩ := mkG_gr hmk
  have hn := hg.len
  intro k
  induction k with
  | zero =>
    intro A hA hk _
    have hf : A = full g.length := by
      apply Classical.byContradiction
      intro hne
      have := card_lt_of_ne hn hA hne
      omega
    have hz : bd (full g.length) A = 0 := by
      rw [hf]
      apply Nat.eq_of_testBit_eq; intro i
      rw [testBit_bd, Nat.zero_testBit]
      cases (full g.length).testBit i <;> rfl
    have h1 := joins_le (W := fun i => (bd (full g.length) A).testBit i) (lk2 es) id
    rw [lk2_count, hz] at h1
    have h2 : eS es 0 = 0 := by
      rw [eS, List.countP_eq_zero]
      intro e _
      simp [inS]
    rw [hz]
    omega
  | succ k ih =>
    intro A hA hk hw
    have hne : A ≠ full g.length := by
      intro e
      have := card_full (n := g.length) (by omega)
      rw [e] at hk
      unfold full at hk
      omega
    obtain ⟨v, hv, h1, h2, h3⟩ := exists_best hg hA hne hw
    have ih' := ih _ (or_pow_lt hA hv) (by rw [card_add hn hA hv h1]; omega) h3
    have hbd : bd (full g.length) (A ||| 2 ^ v) = bd (bd (full g.length) A) (2 ^ v) := by
      apply Nat.eq_of_testBit_eq; intro i
      simp only [testBit_bd, Nat.testBit_or]
      cases (full g.length).testBit i <;> cases A.testBit i <;> cases (2 ^ v).testBit i <;> rfl
    rw [hbd] at ih'
    refine joins_step hmk (by rw [testBit_bd, full_testBit, h1]; simp [hv]) hv ?_ (Nat.lt_of_le_of_lt (bd_le _ _) (full_lt _)) ih'
    have : dg g (bd (full g.length) A) v ≤ pc (lat g A v) := by
      rw [pc_card, dg]
      refine card_mono fun i hi => ?_
      rw [Nat.testBit_and, testBit_bd, Bool.and_eq_true, Bool.and_eq_true] at hi
      refine (lat_iff hg hv i).2 ⟨.step .base (.inl rfl) hi.1, ?_, by simpa using hi.2.2⟩
      intro e
      have := mkG_loop hmk hv
      rw [e, this] at hi
      cases hi.1
    omega

/-! ### No circle: width 1 at most -/
omit hmk in
theorem rch_pre {S b u a : Nat} (hbu : (g.getD b 0).testBit u = true) (hu : S.testBit u = true) (h : Rch g S u a) : Rch g S b a := by
  induction h with
  | base => exact .step .base (.inl rfl) hbu
  | step _ hw hb ih =>
    refine .step ih (.inr ?_) hb
    rcases hw with hw | hw
    · rw [hw]; exact hu
    · exact hw
theorem rch_back {S a b : Nat} (h : Rch g S a b) : Rch g S b a := by
  have hy := mkG_symm hmk
  induction h with
  | base => exact .base
  | @step u y _ hu hb ih =>
    rcases hu with hu | hu
    · rw [hu] at hb
      exact .step .base (.inl rfl) (hy _ _ hb)
    · exact rch_pre (hy _ _ hb) hu ih
omit hmk in
theorem rch_or {A v x z : Nat} (h : Rch g (A ||| 2 ^ v) x z) : Rch g A x z ∨ (Rch g A x v ∧ Rch g A v z) := by
  induction h with
  | base => exact .inl .base
  | @step u y _ hu hb ih =>
    have hu' : u = x ∨ A.testBit u = true ∨ u = v := by
      rcases hu with hu | hu
      · exact .inl hu
      · rw [Nat.testBit_or, Nat.testBit_two_pow, Bool.or_eq_true, decide_eq_true_eq] at hu
        rcases hu with hu | hu
        · exact .inr (.inl hu)
        · exact .inr (.inr hu.symm)
    rcases ih with h1 | ⟨h1, h2⟩
    · rcases hu' with hu' | hu' | hu'
      · exact .inl (.step h1 (.inl hu') hb)
      · exact .inl (.step h1 (.inr hu') hb)
      · right
        rw [hu'] at h1 hb
        exact ⟨h1, .step .base (.inl rfl) hb⟩
    · rcases hu' with hu' | hu' | hu'
      · left
        rw [hu'] at hb
        exact .step .base (.inl rfl) hb
      · exact .inr ⟨h1, .step h2 (.inr hu') hb⟩
      · exact .inr ⟨h1, .step h2 (.inl hu') hb⟩
/-- Ways over the vertices that are gone lead to neighbors only. -/
def Dir (g : List Nat) (A : Nat) : Prop := ∀ x z, A.testBit x = false → A.testBit z = false → x ≠ z → Rch g A x z → (g.getD x 0).testBit z = true
omit hmk in
theorem dir_zero : Dir g 0 := by
  intro x z _ _ hne h
  have key : ∀ y, Rch g 0 x y → y = x ∨ (g.getD x 0).testBit y = true := by
    intro y hy
    induction hy with
    | base => exact .inl rfl
    | step _ hu hb ih =>
      rcases hu with hu | hu
      · rw [hu] at hb; exact .inr hb
      · simp at hu
  exact (key z h).resolve_left (fun e => hne e.symm)
theorem wd_forest (hf : ∀ S, S ≠ 0 → S < 2 ^ g.length → eS es S < card S) : ∀ (k A : Nat), A < 2 ^ g.length → k + card A = g.length → Dir g A → wd g A ≤ 1 := by
  obtain ⟨hg, _⟩ := mkG_gr hmk
  have hn := hg.len
  intro k
  induction k with
  | zero =>
    intro A hA hk _
    have hf : A = full g.length := by
      apply Classical.byContradiction
      intro hne
      have := card_lt_of_ne hn hA hne
      omega
    rw [hf, wd_full]; omega
  | succ k ih =>
    intro A hA hk hdir
    have hne : A ≠ full g.length := by
      intro e
      have := card_full (n := g.length) (by omega)
      rw [e] at hk
      unfold full at hk
      omega
    have hSlt : bd (full g.length) A < 2 ^ g.length := Nat.lt_of_le_of_lt (bd_le _ _) (full_lt _)
    have hS0 : bd (full g.length) A ≠ 0 := by
      obtain ⟨v, hv, hb⟩ := exists_out hA hne
      intro e
      have := congrArg (fun z => z.testBit v) e
      simp [testBit_bd, full_testBit, hv, hb] at this
    obtain ⟨v, hv, hb, hd⟩ := leaf hmk hSlt (hf _ hS0 hSlt)
    have hAv : A.testBit v = false := by
      rw [testBit_bd, Bool.and_eq_true] at hb
      simpa using hb.2
    have hlat : pc (lat g A v) ≤ dg g (bd (full g.length) A) v := by
      rw [pc_card, dg]
      refine card_mono fun i hi => ?_
      have hil := lt_of_testBit (lat_lt hg hv) hi
      obtain ⟨h1, h2, h3⟩ := (lat_iff hg hv i).1 hi
      rw [Nat.testBit_and, testBit_bd, full_testBit, h3, hdir v i hAv h3 (fun e => h2 e.symm) h1]
      simp [hil]
    have h1 := wd_step_le hn hv hAv
    have h2 := ih (A ||| 2 ^ v) (or_pow_lt hA hv) (by rw [card_add hn hA hv hAv]; omega) (by
      intro x z hx hz hxz hr
      rw [Nat.testBit_or, Nat.testBit_two_pow, Bool.or_eq_false_iff, decide_eq_false_iff_not] at hx hz
      rcases rch_or hr with h | ⟨ha, hc⟩
      · exact hdir x z hx.1 hz.1 hxz h
      · exfalso
        have n1 := hdir v x hAv hx.1 hx.2 (rch_back hmk ha)
        have n2 := hdir v z hAv hz.1 hz.2 hc
        have i1 := (hg.in_ n1).2
        have i2 := (hg.in_ n2).2
        have m1 : (g.getD v 0 &&& bd (full g.length) A).testBit x = true := by rw [Nat.testBit_and, n1, testBit_bd, full_testBit, hx.1]; simp [i1]
        have m2 : (g.getD v 0 &&& bd (full g.length) A).testBit z = true := by rw [Nat.testBit_and, n2, testBit_bd, full_testBit, hz.1]; simp [i2]
        rcases dg_cases hmk hd hSlt with ⟨_, h0⟩ | ⟨_, u, h0⟩
        · rw [h0] at m1; simp at m1
        · rw [h0, Nat.testBit_two_pow, decide_eq_true_eq] at m1 m2
          exact hxz (by rw [← m1, ← m2]))
    omega
/-- The law of forests. -/
theorem forest_law : (wd g 0 ≤ 1 ↔ joins (fun _ => true) id (lk2 es) = es.length) ∧ (joins (fun _ => true) id (lk2 es) = es.length → es.length ≤ g.length ∧ (g.length ≠ 0 → es.length < g.length) ∧
    ∀ k, colD (fr fun u v => !nb g u v) k (full g.length) = k ^ (g.length - es.length) * (k - 1) ^ es.length) := by
  obtain ⟨hg, _⟩ := mkG_gr hmk
  have hn := hg.len
  have hcf : card (full g.length) = g.length := card_full (by omega)
  have hed := mk_edg hmk
  have hEf : eS es (full g.length) = es.length := by
    rw [eS, List.countP_eq_length.2]
    intro e he
    have := hed.1 e he
    simp [inS, full_testBit, this.1, this.2.1]
  refine ⟨⟨fun h => ?_, fun h => ?_⟩, fun h => ?_⟩
  · have h1 := wd_joins hmk g.length 0 (Nat.two_pow_pos _) (by rw [card_zero, Nat.add_zero]) h
    have hbz : bd (full g.length) 0 = full g.length := by
      apply Nat.eq_of_testBit_eq; intro i
      rw [testBit_bd, Nat.zero_testBit]
      cases (full g.length).testBit i <;> rfl
    rw [hbz, hEf] at h1
    rw [← h1]
    refine joins_congr (lk2 es) id fun l hl => ?_
    obtain ⟨e, he, rfl⟩ := List.mem_map.1 hl
    have := hed.1 e he
    simp [inW, full_testBit, this.1, this.2.1]
  · exact wd_forest hmk (forest_of hmk h) g.length 0 (Nat.two_pow_pos _) (by rw [card_zero, Nat.add_zero]) dir_zero
  · have hf := forest_of hmk h
    have hlt : g.length ≠ 0 → es.length < g.length := by
      intro h0
      have hne : full g.length ≠ 0 := by
        intro e
        rw [e, card_zero] at hcf
        omega
      have := hf _ hne (full_lt _)
      omega
    refine ⟨?_, hlt, fun k => ?_⟩
    · by_cases h0 : g.length = 0
      · cases es with
        | nil => exact Nat.zero_le _
        | cons e r => have := hed.1 e (by simp); omega
      · exact Nat.le_of_lt (hlt h0)
    · rw [col_forest hmk hf k _ (full g.length) rfl (full_lt _), hcf, hEf]
end
end Go.Tree
