/- Parts of a structure of links: labels, joined one link after the other. -/
import Derived.Test.YtdnkkflpgebfbaaDoorMP
namespace Go.Tree
open Go.W

theorem sub_length {α : Type} [DecidableEq α] : ∀ (l1 l2 : List α), l1.Nodup → (∀ x ∈ l1, x ∈ l2) → l1.length ≤ l2.length := by
  intro l1
  induction l1 with
  | nil => intro l2 _ _; exact Nat.zero_le _
  | cons a l1 ih =>
    intro l2 hn hs
    obtain ⟨h1, h2⟩ := List.nodup_cons.1 hn
    have ha := hs a (by simp)
    have := ih (l2.erase a) h2 (fun x hx => (List.mem_erase_of_ne (fun e => h1 (by rw [← e]; exact hx))).2 (hs x (by simp [hx])))
    rw [List.length_erase_of_mem ha] at this
    have := List.length_pos_of_mem ha
    rw [List.length_cons]; omega
theorem nodup_range (n : Nat) : (List.range n).Nodup := List.nodup_range
theorem count_inj {N : Nat} {P Q : Nat → Bool} (R : Nat → Nat → Prop) (h : ∀ c, c < N → P c = true → ∃ d, d < N ∧ Q d = true ∧ R c d) (inj : ∀ c c' d, R c d → R c' d → c = c') :
    (List.range N).countP P ≤ (List.range N).countP Q := by
  rw [List.countP_eq_length_filter, List.countP_eq_length_filter]
  have hc : ∀ c, ∃ d, c < N → P c = true → d < N ∧ Q d = true ∧ R c d := by
    intro c
    by_cases h1 : c < N ∧ P c = true
    · obtain ⟨d, hd⟩ := h c h1.1 h1.2
      exact ⟨d, fun _ _ => hd⟩
    · exact ⟨0, fun h2 h3 => absurd ⟨h2, h3⟩ h1⟩
  let k : Nat → Nat := fun c => Classical.choose (hc c)
  have hk : ∀ c, c < N → P c = true → k c < N ∧ Q (k c) = true ∧ R c (k c) := fun c => Classical.choose_spec (hc c)
  have hlen : (((List.range N).filter P).map k).length = ((List.range N).filter P).length := by rw [List.length_map]
  rw [← hlen]
  refine sub_length _ _ ?_ ?_
  · have hnd : ((List.range N).filter P).Nodup := (nodup_range N).filter _
    have : ∀ (l : List Nat), l.Nodup → (∀ c ∈ l, c < N ∧ P c = true) → (l.map k).Nodup := by
      intro l
      induction l with
      | nil => intro _ _; exact List.nodup_nil
      | cons c l ih =>
        intro hn hm
        obtain ⟨h1, h2⟩ := List.nodup_cons.1 hn
        rw [List.map_cons, List.nodup_cons]
        refine ⟨fun hmem => ?_, ih h2 (fun x hx => hm x (by simp [hx]))⟩
        obtain ⟨c', hc', he⟩ := List.mem_map.1 hmem
        have a1 := hk c (hm c (by simp)).1 (hm c (by simp)).2
        have a2 := hk c' (hm c' (by simp [hc'])).1 (hm c' (by simp [hc'])).2
        rw [he] at a2
        have := inj c c' _ a1.2.2 a2.2.2
        rw [← this] at hc'
        exact h1 hc'
    refine this _ hnd fun c hc => ?_
    rw [List.mem_filter] at hc
    exact ⟨by simpa using hc.1, hc.2⟩
  · intro d hd
    obtain ⟨c, hc, rfl⟩ := List.mem_map.1 hd
    rw [List.mem_filter] at hc ⊢
    have := hk c (by simpa using hc.1) hc.2
    exact ⟨by simpa using this.1, this.2.1⟩
theorem count_drop {N M : Nat} {P : Nat → Bool} (hM : M < N) (hP : P M = true) : (List.range N).countP (fun i => P i && i != M) + 1 = (List.range N).countP P := by
  rw [range_split hM, List.countP_append, List.countP_append, List.countP_cons, List.countP_cons, hP]
  have e1 : (List.range M).countP (fun i => P i && i != M) = (List.range M).countP P := by
    refine List.countP_congr fun i hi => ?_
    have : i ≠ M := by have : i < M := by simpa using hi
                       omega
    simp [this]
  have e2 : (List.range' (M + 1) (N - M - 1)).countP (fun i => P i && i != M) = (List.range' (M + 1) (N - M - 1)).countP P := by
    refine List.countP_congr fun i hi => ?_
    have : i ≠ M := by have := List.mem_range'_1.1 hi; omega
    simp [this]
  rw [e1, e2]
  simp
  omega

/-! ### Labels -/
abbrev Lk := Nat × Nat
def pres (N : Nat) (W : Nat → Bool) (f : Nat → Nat) (c : Nat) : Bool := (List.range N).any fun i => W i && f i == c
theorem pres_iff {N : Nat} {W : Nat → Bool} {f : Nat → Nat} {c : Nat} : pres N W f c = true ↔ ∃ i, i < N ∧ W i = true ∧ f i = c := by
  simp [pres]
def cntL (N : Nat) (W : Nat → Bool) (f : Nat → Nat) : Nat := (List.range N).countP (pres N W f)
theorem cntL_kernel {N : Nat} {W : Nat → Bool} {f f' : Nat → Nat} (hf' : ∀ i, i < N → f' i < N) (h : ∀ i j, i < N → j < N → W i = true → W j = true → f' i = f' j → f i = f j) : cntL N W f ≤ cntL N W f' := by
  refine count_inj (fun c d => ∃ i, i < N ∧ W i = true ∧ f i = c ∧ f' i = d) (fun c hc hp => ?_) ?_
  · obtain ⟨i, h1, h2, h3⟩ := pres_iff.1 hp
    exact ⟨f' i, hf' i h1, pres_iff.2 ⟨i, h1, h2, rfl⟩, i, h1, h2, h3, rfl⟩
  · rintro c c' d ⟨i, h1, h2, h3, h4⟩ ⟨j, h5, h6, h7, h8⟩
    rw [← h3, ← h7]
    exact h i j h1 h5 h2 h6 (by rw [h4, h8])
theorem cntL_eq {N : Nat} {W : Nat → Bool} {f f' : Nat → Nat} (hf : ∀ i, i < N → f i < N) (hf' : ∀ i, i < N → f' i < N) (h : ∀ i j, i < N → j < N → W i = true → W j = true → (f' i = f' j ↔ f i = f j)) : cntL N W f = cntL N W f' :=
  Nat.le_antisymm (cntL_kernel hf' fun i j h1 h2 h3 h4 => (h i j h1 h2 h3 h4).1) (cntL_kernel hf fun i j h1 h2 h3 h4 => (h i j h1 h2 h3 h4).2)
theorem cntL_id (N : Nat) (W : Nat → Bool) : cntL N W id = (List.range N).countP W := by
  refine List.countP_congr fun i hi => ?_
  rw [pres_iff]
  constructor
  · rintro ⟨j, _, h2, h3⟩; rw [← h3]; exact h2
  · intro h; exact ⟨i, by simpa using hi, h, rfl⟩
def mrg (f : Nat → Nat) (a b : Nat) : Nat → Nat := fun i => if f i = f a then f b else f i
theorem mrg_same {f : Nat → Nat} {a b : Nat} (h : f a = f b) : mrg f a b = f := by
  funext i
  unfold mrg
  split
  · rename_i h1; rw [h1, h]
  · rfl
theorem mrg_lt {N a b : Nat} {f : Nat → Nat} (hf : ∀ i, i < N → f i < N) (hb : b < N) : ∀ i, i < N → mrg f a b i < N := by
  intro i hi
  unfold mrg
  split
  · exact hf b hb
  · exact hf i hi
theorem cntL_mrg {N a b : Nat} {W : Nat → Bool} {f : Nat → Nat} (hf : ∀ i, i < N → f i < N) (ha : a < N) (hb : b < N) (hWa : W a = true) (hWb : W b = true) (hne : f a ≠ f b) : cntL N W (mrg f a b) + 1 = cntL N W f := by
  have h1 := count_drop (N := N) (M := f a) (P := pres N W f) (hf a ha) (pres_iff.2 ⟨a, ha, hWa, rfl⟩)
  unfold cntL
  rw [← h1]
  congr 1
  refine List.countP_congr fun c hc => ?_
  rw [Bool.and_eq_true, pres_iff, pres_iff]
  constructor
  · rintro ⟨i, h2, h3, h4⟩
    unfold mrg at h4
    split at h4
    · exact ⟨⟨b, hb, hWb, h4⟩, by rw [← h4]; simpa using fun e => hne e.symm⟩
    · exact ⟨⟨i, h2, h3, h4⟩, by rw [← h4]; simpa using ‹¬ _›⟩
  · rintro ⟨⟨i, h2, h3, h4⟩, h5⟩
    refine ⟨i, h2, h3, ?_⟩
    unfold mrg
    rw [if_neg]
    · exact h4
    · rw [h4]; simpa using h5
section
variable (W : Nat → Bool)
def inW (l : Lk) : Bool := W l.1 && W l.2
/-- All links that lie in W, joined one after the other. -/
def uf : (Nat → Nat) → List Lk → (Nat → Nat)
  | f, [] => f
  | f, l :: L => uf (if inW W l = true then mrg f l.1 l.2 else f) L
def joins : (Nat → Nat) → List Lk → Nat
  | _, [] => 0
  | f, l :: L => (if inW W l = true ∧ f l.1 ≠ f l.2 then 1 else 0) + joins (if inW W l = true then mrg f l.1 l.2 else f) L
variable {W}
def Rng (N : Nat) (L : List Lk) : Prop := ∀ l ∈ L, l.1 < N ∧ l.2 < N
theorem uf_lt {N : Nat} : ∀ (L : List Lk) (f : Nat → Nat), Rng N L → (∀ i, i < N → f i < N) → ∀ i, i < N → uf W f L i < N := by
  intro L
  induction L with
  | nil => intro f _ hf; exact hf
  | cons l L ih =>
    intro f hr hf
    refine ih _ (fun x hx => hr x (by simp [hx])) ?_
    split
    · exact mrg_lt hf (hr l (by simp)).2
    · exact hf
theorem uf_cnt {N : Nat} : ∀ (L : List Lk) (f : Nat → Nat), Rng N L → (∀ i, i < N → f i < N) → cntL N W (uf W f L) + joins W f L = cntL N W f := by
  intro L
  induction L with
  | nil => intro f _ _; rfl
  | cons l L ih =>
    intro f hr hf
    obtain ⟨h1, h2⟩ := hr l (by simp)
    have hr' : Rng N L := fun x hx => hr x (by simp [hx])
    rw [uf, joins]
    by_cases hw : inW W l = true
    · rw [if_pos hw]
      have h3 := ih (mrg f l.1 l.2) hr' (mrg_lt hf h2)
      have hw' := hw
      rw [inW, Bool.and_eq_true] at hw'
      by_cases hne : f l.1 = f l.2
      · rw [if_neg (fun h => h.2 hne)]
        rw [mrg_same hne] at h3 ⊢
        omega
      · rw [if_pos ⟨hw, hne⟩]
        have := cntL_mrg hf h1 h2 hw'.1 hw'.2 hne
        omega
    · rw [if_neg hw, if_neg (fun h => hw h.1)]
      have := ih f hr' hf
      omega
theorem joins_le : ∀ (L : List Lk) (f : Nat → Nat), joins W f L ≤ L.countP (inW W) := by
  intro L
  induction L with
  | nil => intro f; exact Nat.le_refl _
  | cons l L ih =>
    intro f
    rw [joins, List.countP_cons]
    have := ih (if inW W l = true then mrg f l.1 l.2 else f)
    generalize joins W (if inW W l = true then mrg f l.1 l.2 else f) L = q at *
    by_cases hw : inW W l = true
    · rw [if_pos hw]; split <;> omega
    · rw [if_neg hw, if_neg (fun h => hw h.1)]; omega
/-- Labels of linked ones are alike. -/
theorem uf_keep : ∀ (L : List Lk) (f : Nat → Nat) {i j : Nat}, f i = f j → uf W f L i = uf W f L j := by
  intro L
  induction L with
  | nil => intro f i j h; exact h
  | cons l L ih =>
    intro f i j h
    rw [uf]
    refine ih _ ?_
    split
    · unfold mrg; rw [h]
    · exact h
theorem uf_link : ∀ (L : List Lk) (f : Nat → Nat), ∀ l ∈ L, inW W l = true → uf W f L l.1 = uf W f L l.2 := by
  intro L
  induction L with
  | nil => intro f l hl; cases hl
  | cons l L ih =>
    intro f x hx hw
    rw [uf]
    rcases List.mem_cons.1 hx with rfl | hx
    · rw [if_pos hw]
      refine uf_keep L _ ?_
      unfold mrg
      rw [if_pos rfl]
      split <;> rfl
    · exact ih _ x hx hw
/-- .. and no others. -/
theorem uf_least : ∀ (L : List Lk) (f h : Nat → Nat), (∀ i j, f i = f j → h i = h j) → (∀ l ∈ L, inW W l = true → h l.1 = h l.2) → ∀ i j, uf W f L i = uf W f L j → h i = h j := by
  intro L
  induction L with
  | nil => intro f h hf _ i j hij; exact hf i j hij
  | cons l L ih =>
    intro f h hf hl
    rw [uf]
    refine ih _ h ?_ (fun x hx => hl x (by simp [hx]))
    intro i j hij
    by_cases hw : inW W l = true
    · rw [if_pos hw] at hij
      have hab := hl l (by simp) hw
      unfold mrg at hij
      by_cases h1 : f i = f l.1
      · rw [if_pos h1] at hij
        by_cases h2 : f j = f l.1
        · exact hf i j (by rw [h1, h2])
        · rw [if_neg h2] at hij
          rw [hf i _ h1, hab, hf _ j hij]
      · rw [if_neg h1] at hij
        by_cases h2 : f j = f l.1
        · rw [if_pos h2] at hij
          rw [hf j _ h2, hab, hf i _ hij]
        · rw [if_neg h2] at hij
          exact hf i j hij
    · rw [if_neg hw] at hij
      exact hf i j hij
/-- Where all links join, those in W join too. -/
theorem joins_sub : ∀ (L : List Lk) (f fW : Nat → Nat), (∀ i j, fW i = fW j → f i = f j) → joins (fun _ => true) f L = L.length → joins W fW L = L.countP (inW W) := by
  intro L
  induction L with
  | nil => intro f fW _ _; rfl
  | cons l L ih =>
    intro f fW hf hj
    have ht : inW (fun _ => true) l = true := rfl
    rw [joins, if_pos ht, List.length_cons] at hj
    have hle := joins_le (W := fun _ => true) L (mrg f l.1 l.2)
    have hle2 : L.countP (inW fun _ => true) ≤ L.length := List.countP_le_length
    have hne : f l.1 ≠ f l.2 := by
      intro e
      rw [if_neg (fun h => h.2 e)] at hj
      omega
    rw [if_pos ⟨ht, hne⟩] at hj
    rw [joins, List.countP_cons]
    have hneW : fW l.1 ≠ fW l.2 := fun e => hne (hf _ _ e)
    have hsub : joins W (if inW W l = true then mrg fW l.1 l.2 else fW) L = L.countP (inW W) := by
      refine ih (mrg f l.1 l.2) _ ?_ (by omega)
      intro i j hij
      by_cases hw : inW W l = true
      · rw [if_pos hw] at hij
        unfold mrg at hij ⊢
        by_cases h1 : fW i = fW l.1
        · rw [if_pos h1] at hij
          rw [if_pos (hf _ _ h1)]
          by_cases h2 : fW j = fW l.1
          · rw [if_pos (hf _ _ h2)]
          · rw [if_neg h2] at hij
            have := hf _ _ hij
            split
            · rfl
            · exact this
        · rw [if_neg h1] at hij
          by_cases h2 : fW j = fW l.1
          · rw [if_pos h2] at hij
            have h3 := hf _ _ hij
            rw [if_pos (hf _ _ h2)]
            split
            · rfl
            · exact h3
          · rw [if_neg h2] at hij
            have h3 := hf _ _ hij
            by_cases h4 : f i = f l.1
            · rw [if_pos h4, if_pos (by rw [← h3]; exact h4)]
            · rw [if_neg h4, if_neg (fun h => h4 (by rw [h3]; exact h))]
              exact h3
      · rw [if_neg hw] at hij
        have h3 := hf _ _ hij
        unfold mrg
        rw [h3]
    rw [hsub]
    by_cases hw : inW W l = true
    · rw [if_pos ⟨hw, hneW⟩, if_pos hw]; omega
    · rw [if_neg (fun h => hw h.1), if_neg hw]; omega

/-- Labels that stand: each is a label of its own part, and linked ones have the same. -/
structure Fixed (W : Nat → Bool) (N : Nat) (L : List Lk) (p : Nat → Nat) : Prop where
  own : ∀ i, uf W id L (p i) = uf W id L i
  lt : ∀ i, i < N → p i < N
  link : ∀ l ∈ L, inW W l = true → p l.1 = p l.2
/-- How many parts the links leave of W. -/
def partsN (N : Nat) (W : Nat → Bool) (L : List Lk) : Nat := cntL N W (uf W id L)
theorem partsN_eq {N : Nat} {L : List Lk} (hr : Rng N L) : partsN N W L + joins W id L = (List.range N).countP W := by
  rw [partsN, uf_cnt L id hr (fun i hi => hi), cntL_id]
theorem fixed_count {N : Nat} {L : List Lk} {p : Nat → Nat} (hr : Rng N L) (h : Fixed W N L p) : (List.range N).countP (fun i => p i == i && W i) = partsN N W L := by
  have ker : ∀ i j, p i = p j ↔ uf W id L i = uf W id L j := by
    intro i j
    constructor
    · intro e; rw [← h.own i, ← h.own j, e]
    · intro e; exact uf_least L id p (fun a b hab => congrArg p hab) h.link i j e
  have hW : ∀ i, W (p i) = W i := by
    intro i
    have := uf_least L id (fun i => if W i = true then 1 else 0) (fun a b hab => by rw [show a = b from hab]) (fun l hl hw => by
      rw [inW, Bool.and_eq_true] at hw
      simp only [hw.1, hw.2]) (p i) i (h.own i)
    cases h1 : W (p i) <;> cases h2 : W i <;> simp [h1, h2] at this <;> rfl
  rw [partsN, cntL_eq (f := uf W id L) (f' := p) (uf_lt L id hr (fun i hi => hi)) h.lt (fun i j _ _ _ _ => ker i j)]
  refine List.countP_congr fun c hc => ?_
  have hc : c < N := by simpa using hc
  rw [Bool.and_eq_true, pres_iff]
  constructor
  · rintro ⟨h1, h2⟩; exact ⟨c, hc, h2, by simpa using h1⟩
  · rintro ⟨i, h1, h2, rfl⟩
    refine ⟨?_, by rw [hW]; exact h2⟩
    simpa using (ker (p i) i).2 (h.own i)
/-- A label handed on along a link. -/
theorem own_step {L : List Lk} {p : Nat → Nat} (h : ∀ i, uf W id L (p i) = uf W id L i) {l : Lk} (hl : l ∈ L) (hw : inW W l = true) (m : Nat) (hm : m = p l.1 ∨ m = p l.2) :
    ∀ i, uf W id L ((fun j => if j = l.1 ∨ j = l.2 then m else p j) i) = uf W id L i := by
  intro i
  have hk := uf_link (W := W) L id l hl hw
  have h0 : uf W id L m = uf W id L l.1 := by
    rcases hm with hm | hm
    · rw [hm, h]
    · rw [hm, h, hk]
  simp only
  split
  · rename_i hi
    rcases hi with hi | hi
    · rw [h0, hi]
    · rw [h0, hi, hk]
  · exact h i
end
end Go.Tree
