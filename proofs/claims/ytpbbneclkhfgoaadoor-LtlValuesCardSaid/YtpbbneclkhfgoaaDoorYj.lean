/- The truth of formulas of endless sequences, and the values on lassos. -/
import Derived.Test.YtpbbneclkhfgoaaDoorYb
namespace Go.Ltl
open Go.W
/-- Whether a formula is true of a sequence, from a position on. -/
def satS (σ : Nat → Int) : Fm → Nat → Prop
  | .at_ w, i => holdsM w (σ i) = true
  | .on_ w f, i => if w = wNot then ¬ satS σ f i else if w = wNext then satS σ f (i + 1) else if w = wAlways then ∀ j, i ≤ j → satS σ f j else ∃ j, i ≤ j ∧ satS σ f j
  | .tw_ w f g, i => if w = wAnd then satS σ f i ∧ satS σ g i else if w = wOr then satS σ f i ∨ satS σ g i
    else if w = wUntil then ∃ j, i ≤ j ∧ satS σ g j ∧ ∀ k, i ≤ k → k < j → satS σ f k
    else ∀ j, i ≤ j → satS σ g j ∨ ∃ k, i ≤ k ∧ k < j ∧ satS σ f k
/-- The position on a lasso. -/
def pos (n lp : Nat) : Nat → Nat
  | 0 => 0
  | i + 1 => aft n lp (pos n lp i)
theorem aft_lt {n lp i : Nat} (h : lp < n) : aft n lp i < n := by unfold aft; split <;> omega
theorem pos_lt {n lp : Nat} (h : lp < n) : ∀ i, pos n lp i < n
  | 0 => by unfold pos; omega
  | i + 1 => aft_lt h
/-- The sequence of a lasso. -/
def seqL (ms : List Int) (lp i : Nat) : Int := ms.getD (pos ms.length lp i) 0
/-- m steps on. -/
def aftN (n lp : Nat) : Nat → Nat → Nat
  | 0, i => i
  | m + 1, i => aftN n lp m (aft n lp i)
theorem aftN_lt {n lp : Nat} (h : lp < n) : ∀ m i, i < n → aftN n lp m i < n
  | 0, i, hi => hi
  | m + 1, i, _ => aftN_lt h m _ (aft_lt h)
theorem pos_add (n lp : Nat) : ∀ m i, aftN n lp m (pos n lp i) = pos n lp (i + m)
  | 0, i => rfl
  | m + 1, i => by
    show aftN n lp m (pos n lp (i + 1)) = _
    rw [pos_add n lp m (i + 1)]
    congr 1; omega

section
variable {n lp : Nat} (hlp : lp < n) (A B : Nat → Bool)
/-- Up to B by A, from a position on. -/
def Reach (A B : Nat → Bool) (n lp i : Nat) : Prop := ∃ m, B (aftN n lp m i) = true ∧ ∀ k, k < m → A (aftN n lp k i) = true
theorem Reach.here {i : Nat} (h : B i = true) : Reach A B n lp i := ⟨0, h, fun k hk => absurd hk (Nat.not_lt_zero k)⟩
theorem Reach.step {i : Nat} (ha : A i = true) (h : Reach A B n lp (aft n lp i)) : Reach A B n lp i := by
  obtain ⟨m, h1, h2⟩ := h
  refine ⟨m + 1, h1, fun k hk => ?_⟩
  cases k with
  | zero => exact ha
  | succ k => exact h2 k (by omega)
/-- Straight on, without going round. -/
def Str8 (A B : Nat → Bool) (n i : Nat) : Prop := ∃ j, i ≤ j ∧ j < n ∧ B j = true ∧ ∀ k, i ≤ k → k < j → A k = true
theorem Reach.once (hlp : lp < n) : ∀ m i, i < n → B (aftN n lp m i) = true → (∀ k, k < m → A (aftN n lp k i) = true) → Str8 A B n i ∨ ((∀ k, i ≤ k → k < n → A k = true) ∧ Str8 A B n lp) := by
  intro m
  induction m with
  | zero => intro i hi hb _; exact .inl ⟨i, Nat.le_refl _, hi, hb, fun k h1 h2 => absurd h2 (by omega)⟩
  | succ m ih =>
    intro i hi hb ha
    have ha0 : A i = true := ha 0 (Nat.succ_pos _)
    have hi2 := ih (aft n lp i) (aft_lt hlp) hb (fun k hk => ha (k + 1) (by omega))
    by_cases h : i + 1 < n
    · have e : aft n lp i = i + 1 := if_pos h
      rw [e] at hi2
      rcases hi2 with ⟨j, h1, h2, h3, h4⟩ | ⟨h1, h2⟩
      · exact .inl ⟨j, by omega, h2, h3, fun k hk1 hk2 => by
          rcases Nat.eq_or_lt_of_le hk1 with hk | hk
          · rw [← hk]; exact ha0
          · exact h4 k (by omega) hk2⟩
      · exact .inr ⟨fun k hk1 hk2 => by
          rcases Nat.eq_or_lt_of_le hk1 with hk | hk
          · rw [← hk]; exact ha0
          · exact h1 k (by omega) hk2, h2⟩
    · have e : aft n lp i = lp := if_neg h
      rw [e] at hi2
      refine .inr ⟨fun k hk1 hk2 => ?_, ?_⟩
      · have : k = i := by omega
        rw [this]; exact ha0
      · rcases hi2 with h1 | ⟨_, h1⟩ <;> exact h1
/-- The function that a pass uses. -/
def upG (A B : Nat → Bool) : Nat → Bool → Bool := fun i x => B i || (A i && x)
theorem getD_set_eq {l : List Bool} {i : Nat} {x : Bool} (h : i < l.length) : (l.set i x).getD i false = x := by simp [h]
theorem getD_set_ne {l : List Bool} {i j : Nat} {x : Bool} (h : i ≠ j) : (l.set i x).getD j false = l.getD j false := by simp [h]
/-- A pass only says what is so. -/
theorem pass_sound (hlp : lp < n) : ∀ (i : Nat) (out : List Bool), i ≤ n → out.length = n → (∀ q, q < n → out.getD q false = true → Reach A B n lp q) → ∀ q, q < n → (passM (upG A B) n lp i out).getD q false = true → Reach A B n lp q := by
  intro i
  induction i with
  | zero => intro out _ _ h q hq hv; exact h q hq hv
  | succ i ih =>
    intro out hi hl h q hq hv
    unfold passM at hv
    refine ih _ (by omega) (by rw [List.length_set]; exact hl) (fun p hp hpv => ?_) q hq hv
    by_cases hpi : i = p
    · subst hpi
      rw [getD_set_eq (by omega)] at hpv
      simp only [upG, Bool.or_eq_true, Bool.and_eq_true] at hpv
      rcases hpv with h1 | ⟨h1, h2⟩
      · exact Reach.here A B h1
      · exact Reach.step A B h1 (h _ (aft_lt hlp) h2)
    · rw [getD_set_ne hpi] at hpv
      exact h p hp hpv
/-- What lies behind the position is left by the rest of a pass. -/
theorem pass_keep (f : Nat → Bool → Bool) : ∀ (i : Nat) (out : List Bool) (q : Nat), i ≤ q → (passM f n lp i out).getD q false = out.getD q false := by
  intro i
  induction i with
  | zero => intro out q _; rfl
  | succ i ih =>
    intro out q hq
    unfold passM
    rw [ih _ q (by omega), getD_set_ne (by omega)]
/-- A pass finds what lies straight on, and what lies behind the end if the loop's beginning has it. -/
theorem pass_go (L : Prop) (hlp : lp < n) : ∀ (i : Nat) (out : List Bool), i ≤ n → out.length = n → (L → i = n → out.getD lp false = true) → (∀ q, i ≤ q → q < n → (Str8 A B n q ∨ (L ∧ ∀ k, q ≤ k → k < n → A k = true)) → out.getD q false = true) →
    ∀ q, q < n → (Str8 A B n q ∨ (L ∧ ∀ k, q ≤ k → k < n → A k = true)) → (passM (upG A B) n lp i out).getD q false = true := by
  intro i
  induction i with
  | zero => intro out _ _ _ h q hq hw; exact h q (Nat.zero_le _) hq hw
  | succ i ih =>
    intro out hi hl hL h q hq hw
    unfold passM
    refine ih _ (by omega) (by rw [List.length_set]; exact hl) (fun _ he => by omega) (fun p hp1 hp2 hpw => ?_) q hq hw
    by_cases hpi : i = p
    · subst hpi
      rw [getD_set_eq (by omega)]
      simp only [upG, Bool.or_eq_true, Bool.and_eq_true]
      have next : A i = true → ((i + 1 < n ∧ (Str8 A B n (i + 1) ∨ (L ∧ ∀ k, i + 1 ≤ k → k < n → A k = true))) ∨ (i + 1 = n ∧ L)) → B i = true ∨ A i = true ∧ out.getD (aft n lp i) false = true := by
        intro ha hn
        refine .inr ⟨ha, ?_⟩
        rcases hn with ⟨h1, h2⟩ | ⟨h1, h2⟩
        · rw [show aft n lp i = i + 1 from if_pos h1]
          exact h (i + 1) (Nat.le_refl _) h1 h2
        · rw [show aft n lp i = lp from if_neg (by omega)]
          exact hL h2 h1
      rcases hpw with ⟨j, h1, h2, h3, h4⟩ | ⟨h1, h2⟩
      · rcases Nat.eq_or_lt_of_le h1 with he | hlt
        · rw [← he] at h3; exact .inl h3
        · exact next (h4 i (Nat.le_refl _) hlt) (.inl ⟨by omega, .inl ⟨j, by omega, h2, h3, fun k hk1 hk2 => h4 k (by omega) hk2⟩⟩)
      · refine next (h2 i (Nat.le_refl _) hp2) ?_
        by_cases hlt : i + 1 < n
        · exact .inl ⟨hlt, .inr ⟨h1, fun k hk1 hk2 => h2 k (by omega) hk2⟩⟩
        · exact .inr ⟨by omega, h1⟩
    · rw [getD_set_ne hpi]
      exact h p (by omega) hp2 hpw
theorem rep_iff (hlp : lp < n) (i : Nat) (hi : i < n) : (repM false (upG A B) n lp).getD i false = true ↔ Reach A B n lp i := by
  have h0 : ∀ q, q < n → (List.replicate n false).getD q false = true → Reach A B n lp q := by
    intro q hq h
    simp [hq] at h
  have hs1 := pass_sound A B hlp n (List.replicate n false) (Nat.le_refl _) (by simp) h0
  constructor
  · intro h
    unfold repM at h
    exact pass_sound A B hlp n _ (Nat.le_refl _) (by rw [passM_len, List.length_replicate]) hs1 i hi h
  · rintro ⟨m, h1, h2⟩
    have hw := Reach.once A B hlp m i hi h1 h2
    have p1 : ∀ q, q < n → Str8 A B n q → (passM (upG A B) n lp n (List.replicate n false)).getD q false = true := fun q hq hs =>
      pass_go A B False hlp n _ (Nat.le_refl _) (by simp) (fun h => h.elim) (fun q h1 h2 => absurd h2 (by omega)) q hq (.inl hs)
    unfold repM
    refine pass_go A B (Str8 A B n lp) hlp n _ (Nat.le_refl _) (by rw [passM_len, List.length_replicate]) (fun h _ => p1 lp hlp h) (fun q h1 h2 => absurd h2 (by omega)) i hi ?_
    rcases hw with h | ⟨h3, h4⟩
    · exact .inl h
    · exact .inr ⟨h4, h3⟩
end
/-- The contrary function, in a pass. -/
theorem passM_not (f : Nat → Bool → Bool) (n lp : Nat) (hlp : lp < n) : ∀ (i : Nat) (out : List Bool), i ≤ n → out.length = n → passM (fun i x => !(f i (!x))) n lp i (out.map (!·)) = (passM f n lp i out).map (!·) := by
  intro i
  induction i with
  | zero => intro out _ _; rfl
  | succ i ih =>
    intro out hi hl
    unfold passM
    rw [← ih _ (by omega) (by rw [List.length_set]; exact hl)]
    congr 1
    have e : (out.map (!·)).getD (aft n lp i) false = !(out.getD (aft n lp i) false) := by
      have : aft n lp i < out.length := by rw [hl]; exact aft_lt hlp
      simp [this]
    rw [e, Bool.not_not, List.map_set]
theorem repM_not (f : Nat → Bool → Bool) (last : Bool) (n lp : Nat) (hlp : lp < n) : repM (!last) (fun i x => !(f i (!x))) n lp = (repM last f n lp).map (!·) := by
  unfold repM
  have : List.replicate n (!last) = (List.replicate n last).map (!·) := by rw [List.map_replicate]
  rw [this, passM_not f n lp hlp n _ (Nat.le_refl _) (by simp), passM_not f n lp hlp n _ (Nat.le_refl _) (by rw [passM_len, List.length_replicate])]
theorem rep_true (A B : Nat → Bool) {n lp : Nat} (hlp : lp < n) (i : Nat) (hi : i < n) (g : Nat → Bool → Bool) (hg : ∀ i x, (!(g i (!x))) = upG A B i x) : (repM true g n lp).getD i false = true ↔ ¬ Reach A B n lp i := by
  have h1 := repM_not g true n lp hlp
  have e : (fun i x => !(g i (!x))) = upG A B := by funext i x; exact hg i x
  rw [e] at h1
  have h2 := rep_iff A B hlp i hi
  have h3 : (repM (!true) (upG A B) n lp).getD i false = !((repM true g n lp).getD i false) := by
    rw [h1]
    have : i < (repM true g n lp).length := by rw [repM_len]; exact hi
    simp [this]
  rw [show repM false (upG A B) n lp = repM (!true) (upG A B) n lp from rfl, h3] at h2
  rw [← h2]
  simp
theorem range_get (n i : Nat) (f : Nat → Bool) (h : i < n) : ((List.range n).map f).getD i false = f i := by simp [h]
/-- The values are the truth. -/
theorem vals_sat (ms : List Int) (lp : Nat) (hlp : lp < ms.length) : ∀ f, wfF f → ∀ i, (valsM ms lp f).getD (pos ms.length lp i) false = true ↔ satS (seqL ms lp) f i := by
  intro f
  induction f with
  | at_ w => intro _ i; unfold valsM satS; rw [range_get _ _ _ (pos_lt hlp i)]; rfl
  | on_ w f ih =>
    intro hwf i
    have ihf := ih hwf.2
    have hi := pos_lt hlp i
    have hs : w = wNot ∨ w = wNext ∨ w = wAlways ∨ w = wFinally := by simpa [onesL] using hwf.1
    have hreach : ∀ (A B : Nat → Bool) (i : Nat), Reach A B ms.length lp (pos ms.length lp i) ↔ ∃ j, i ≤ j ∧ B (pos ms.length lp j) = true ∧ ∀ k, i ≤ k → k < j → A (pos ms.length lp k) = true := by
      intro A B i
      constructor
      · rintro ⟨m, h1, h2⟩
        rw [pos_add] at h1
        exact ⟨i + m, Nat.le_add_right _ _, h1, fun k hk1 hk2 => by have := h2 (k - i) (by omega); rw [pos_add, show i + (k - i) = k by omega] at this; exact this⟩
      · rintro ⟨j, h1, h2, h3⟩
        exact ⟨j - i, by rw [pos_add, show i + (j - i) = j by omega]; exact h2, fun k hk => by rw [pos_add]; exact h3 _ (by omega) (by omega)⟩
    unfold valsM satS
    rcases hs with rfl | rfl | rfl | rfl
    · unfold onM
      rw [if_pos rfl, if_pos rfl, range_get _ _ _ hi, ← ihf i]
      simp
    · unfold onM
      rw [if_neg (by decide), if_pos rfl, if_neg (by decide), if_pos rfl, range_get _ _ _ hi, ← ihf (i + 1)]
      rfl
    · unfold onM
      rw [if_neg (by decide), if_neg (by decide), if_pos rfl, if_neg (by decide), if_neg (by decide), if_pos rfl]
      rw [rep_true (fun _ => true) (fun i => !(valsM ms lp f).getD i false) hlp _ hi _ (fun i x => by simp [upG]), hreach]
      constructor
      · intro h j hj
        rw [← ihf j]
        cases hv : (valsM ms lp f).getD (pos ms.length lp j) false with
        | true => rfl
        | false => exact absurd ⟨j, hj, by rw [hv]; rfl, fun _ _ _ => rfl⟩ h
      · rintro h ⟨j, h1, h2, _⟩
        have := (ihf j).2 (h j h1)
        rw [this] at h2
        cases h2
    · unfold onM
      rw [if_neg (by decide), if_neg (by decide), if_neg (by decide), if_pos rfl, if_neg (by decide), if_neg (by decide), if_neg (by decide)]
      have e : (fun i x => (valsM ms lp f).getD i false || x) = upG (fun _ => true) (fun i => (valsM ms lp f).getD i false) := by funext i x; simp [upG]
      rw [e, rep_iff _ _ hlp _ hi, hreach]
      constructor
      · rintro ⟨j, h1, h2, _⟩; exact ⟨j, h1, (ihf j).1 h2⟩
      · rintro ⟨j, h1, h2⟩; exact ⟨j, h1, (ihf j).2 h2, fun _ _ _ => rfl⟩
  | tw_ w f g ihf0 ihg0 =>
    intro hwf i
    have ihf := ihf0 hwf.2.1
    have ihg := ihg0 hwf.2.2
    have hi := pos_lt hlp i
    have hs : w = wAnd ∨ w = wOr ∨ w = wUntil ∨ w = wRelease := by simpa [twosL] using hwf.1
    have hreach : ∀ (A B : Nat → Bool) (i : Nat), Reach A B ms.length lp (pos ms.length lp i) ↔ ∃ j, i ≤ j ∧ B (pos ms.length lp j) = true ∧ ∀ k, i ≤ k → k < j → A (pos ms.length lp k) = true := by
      intro A B i
      constructor
      · rintro ⟨m, h1, h2⟩
        rw [pos_add] at h1
        exact ⟨i + m, Nat.le_add_right _ _, h1, fun k hk1 hk2 => by have := h2 (k - i) (by omega); rw [pos_add, show i + (k - i) = k by omega] at this; exact this⟩
      · rintro ⟨j, h1, h2, h3⟩
        exact ⟨j - i, by rw [pos_add, show i + (j - i) = j by omega]; exact h2, fun k hk => by rw [pos_add]; exact h3 _ (by omega) (by omega)⟩
    unfold valsM satS
    rcases hs with rfl | rfl | rfl | rfl
    · unfold twM
      rw [if_pos rfl, if_pos rfl, range_get _ _ _ hi, Bool.and_eq_true, ihf i, ihg i]
    · unfold twM
      rw [if_neg (by decide), if_pos rfl, if_neg (by decide), if_pos rfl, range_get _ _ _ hi, Bool.or_eq_true, ihf i, ihg i]
    · unfold twM
      rw [if_neg (by decide), if_neg (by decide), if_pos rfl, if_neg (by decide), if_neg (by decide), if_pos rfl]
      have e : (fun i x => (valsM ms lp g).getD i false || ((valsM ms lp f).getD i false && x)) = upG (fun i => (valsM ms lp f).getD i false) (fun i => (valsM ms lp g).getD i false) := rfl
      rw [e, rep_iff _ _ hlp _ hi, hreach]
      constructor
      · rintro ⟨j, h1, h2, h3⟩; exact ⟨j, h1, (ihg j).1 h2, fun k hk1 hk2 => (ihf k).1 (h3 k hk1 hk2)⟩
      · rintro ⟨j, h1, h2, h3⟩; exact ⟨j, h1, (ihg j).2 h2, fun k hk1 hk2 => (ihf k).2 (h3 k hk1 hk2)⟩
    · unfold twM
      rw [if_neg (by decide), if_neg (by decide), if_neg (by decide), if_pos rfl, if_neg (by decide), if_neg (by decide), if_neg (by decide)]
      rw [rep_true (fun i => !(valsM ms lp f).getD i false) (fun i => !(valsM ms lp g).getD i false) hlp _ hi _ (fun i x => by simp [upG, Bool.not_and, Bool.not_or]), hreach]
      constructor
      · intro h j hj
        by_cases hg : satS (seqL ms lp) g j
        · exact .inl hg
        · refine .inr ?_
          apply Classical.byContradiction
          intro hno
          refine h ⟨j, hj, ?_, fun k hk1 hk2 => ?_⟩
          · cases hv : (valsM ms lp g).getD (pos ms.length lp j) false with
            | true => exact absurd ((ihg j).1 hv) hg
            | false => rfl
          · cases hv : (valsM ms lp f).getD (pos ms.length lp k) false with
            | true => exact absurd ⟨k, hk1, hk2, (ihf k).1 hv⟩ hno
            | false => rfl
      · rintro h ⟨j, h1, h2, h3⟩
        rcases h j h1 with h4 | ⟨k, hk1, hk2, hk3⟩
        · rw [(ihg j).2 h4] at h2; cases h2
        · have := h3 k hk1 hk2
          rw [(ihf k).2 hk3] at this; cases this
/-- Only the sequence counts. -/
theorem satS_congr {σ τ : Nat → Int} {a b : Nat} (h : ∀ k, σ (a + k) = τ (b + k)) : ∀ f i, satS σ f (a + i) ↔ satS τ f (b + i) := by
  intro f
  induction f with
  | at_ w => intro i; unfold satS; rw [h i]
  | on_ w f ih =>
    intro i
    unfold satS
    split
    · rw [ih i]
    · split
      · exact ih (i + 1)
      · split
        · constructor
          · intro hh j hj; have := (ih (j - b)).1 (hh (a + (j - b)) (by omega)); rwa [show b + (j - b) = j by omega] at this
          · intro hh j hj; have := (ih (j - a)).2 (hh (b + (j - a)) (by omega)); rwa [show a + (j - a) = j by omega] at this
        · constructor
          · rintro ⟨j, h1, h2⟩; exact ⟨b + (j - a), by omega, (ih (j - a)).1 (by rwa [show a + (j - a) = j by omega])⟩
          · rintro ⟨j, h1, h2⟩; exact ⟨a + (j - b), by omega, (ih (j - b)).2 (by rwa [show b + (j - b) = j by omega])⟩
  | tw_ w f g ihf ihg =>
    intro i
    unfold satS
    split
    · rw [ihf i, ihg i]
    · split
      · rw [ihf i, ihg i]
      · split
        · constructor
          · rintro ⟨j, h1, h2, h3⟩
            exact ⟨b + (j - a), by omega, (ihg (j - a)).1 (by rwa [show a + (j - a) = j by omega]), fun k hk1 hk2 => by have := (ihf (k - b)).1 (h3 (a + (k - b)) (by omega) (by omega)); rwa [show b + (k - b) = k by omega] at this⟩
          · rintro ⟨j, h1, h2, h3⟩
            exact ⟨a + (j - b), by omega, (ihg (j - b)).2 (by rwa [show b + (j - b) = j by omega]), fun k hk1 hk2 => by have := (ihf (k - a)).2 (h3 (b + (k - a)) (by omega) (by omega)); rwa [show a + (k - a) = k by omega] at this⟩
        · constructor
          · intro hh j hj
            rcases hh (a + (j - b)) (by omega) with h1 | ⟨k, h1, h2, h3⟩
            · left; have := (ihg (j - b)).1 h1; rwa [show b + (j - b) = j by omega] at this
            · exact .inr ⟨b + (k - a), by omega, by omega, (ihf (k - a)).1 (by rwa [show a + (k - a) = k by omega])⟩
          · intro hh j hj
            rcases hh (b + (j - a)) (by omega) with h1 | ⟨k, h1, h2, h3⟩
            · left; have := (ihg (j - a)).2 h1; rwa [show a + (j - a) = j by omega] at this
            · exact .inr ⟨a + (k - b), by omega, by omega, (ihf (k - b)).2 (by rwa [show b + (k - b) = k by omega])⟩
/-- Two lassos that go together. -/
theorem seq_bisim {ms ns : List Int} {lp lq : Nat} (R : Nat → Nat → Prop) (p0 q0 : Nat) (h0 : R (pos ms.length lp p0) (pos ns.length lq q0)) (hm : ∀ p q, R p q → ms.getD p 0 = ns.getD q 0) (hs : ∀ p q, R p q → R (aft ms.length lp p) (aft ns.length lq q)) :
    ∀ k, seqL ms lp (p0 + k) = seqL ns lq (q0 + k) := by
  have key : ∀ k, R (pos ms.length lp (p0 + k)) (pos ns.length lq (q0 + k)) := by
    intro k
    induction k with
    | zero => exact h0
    | succ k ih => exact hs _ _ ih
  intro k
  exact hm _ _ (key k)
end Go.Ltl
