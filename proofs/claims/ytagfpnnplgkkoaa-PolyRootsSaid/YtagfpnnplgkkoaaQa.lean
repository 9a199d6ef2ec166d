/- Polynomials mod p as lists of coefficients: sums, products, quotients, in plain terms. -/
import Derived.Test.YtagfpnnplgkkoaaMW
namespace Go.Poly

def sg : Nat → (Nat → Nat) → Nat
  | 0, _ => 0
  | n + 1, f => sg n f + f n
theorem sg_congr {f f' : Nat → Nat} : ∀ (n : Nat), (∀ i, i < n → f i = f' i) → sg n f = sg n f'
  | 0, _ => rfl
  | n + 1, h => by rw [sg, sg, sg_congr n fun i hi => h i (by omega), h n (by omega)]
theorem sg_zero {f : Nat → Nat} : ∀ (n : Nat), (∀ i, i < n → f i = 0) → sg n f = 0
  | 0, _ => rfl
  | n + 1, h => by rw [sg, sg_zero n fun i hi => h i (by omega), h n (by omega)]
/-- A coefficient, 0 behind the last one. -/
def co (f : List Nat) (i : Nat) : Nat := f.getD i 0
theorem co_get {f : List Nat} {i : Nat} (h : i < f.length) : co f i = f[i] := by
  unfold co; rw [List.getD_eq_getElem?_getD, List.getElem?_eq_getElem h]; rfl
theorem co_out {f : List Nat} {i : Nat} (h : f.length ≤ i) : co f i = 0 := by
  unfold co; rw [List.getD_eq_getElem?_getD, List.getElem?_eq_none h]; rfl
/-- A list with a number for each place. -/
def fl (N : Nat) (f : Nat → Nat) : List Nat := (List.range N).map f
theorem fl_len (N : Nat) (f : Nat → Nat) : (fl N f).length = N := by simp [fl]
theorem fl_congr {N : Nat} {f f' : Nat → Nat} (h : ∀ j, j < N → f j = f' j) : fl N f = fl N f' := by
  unfold fl
  exact List.map_congr_left fun j hj => h j (by simpa using hj)
theorem fl_get {N i : Nat} (f : Nat → Nat) (h : i < N) : (fl N f)[i]? = some (f i) := by simp [fl, h]
theorem fl_co {N i : Nat} (f : Nat → Nat) (h : i < N) : co (fl N f) i = f i := by
  unfold co; rw [List.getD_eq_getElem?_getD, fl_get f h]; rfl
theorem fl_set (N i x : Nat) (f : Nat → Nat) : (fl N f).set i x = fl N fun j => if j = i then x else f j := by
  apply List.ext_getElem?
  intro j
  by_cases h : j < N
  · by_cases h1 : j = i
    · subst h1
      rw [List.getElem?_set_self (by rw [fl_len]; exact h)]
      simp [fl, h]
    · rw [List.getElem?_set_ne (Ne.symm h1)]
      simp [fl, h, h1]
  · rw [List.getElem?_eq_none (by simp [fl_len]; omega), List.getElem?_eq_none (by simp [fl_len]; omega)]
theorem fl_zero (N : Nat) : List.replicate N 0 = fl N fun _ => 0 := by
  apply List.ext_getElem?
  intro i
  by_cases h : i < N
  · simp [fl, h]
  · rw [List.getElem?_eq_none (by simp; omega), List.getElem?_eq_none (by simp [fl]; omega)]
theorem fl_self (f : List Nat) : fl f.length (co f) = f := by
  apply List.ext_getElem?
  intro i
  by_cases h : i < f.length
  · rw [fl_get _ h, co_get h, List.getElem?_eq_getElem h]
  · rw [List.getElem?_eq_none (by rw [fl_len]; omega), List.getElem?_eq_none (by omega)]
theorem fl_ext {f : List Nat} {N : Nat} {F : Nat → Nat} (hl : f.length = N) (h : ∀ i, i < N → co f i = F i) : f = fl N F := by
  rw [← fl_self f, hl]; exact fl_congr h
/-- The length without zeros at the end. -/
def tn (f : List Nat) : Nat → Nat
  | 0 => 0
  | n + 1 => if co f n = 0 then tn f n else n + 1
def trimL (f : List Nat) : List Nat := f.take (tn f f.length)
theorem tn_le (f : List Nat) : ∀ n, tn f n ≤ n
  | 0 => Nat.le_refl _
  | n + 1 => by
    have := tn_le f n
    unfold tn; split <;> omega
theorem tn_top (f : List Nat) : ∀ n, tn f n = 0 ∨ co f (tn f n - 1) ≠ 0
  | 0 => .inl rfl
  | n + 1 => by
    unfold tn
    split
    · exact tn_top f n
    · rename_i h; exact .inr h
theorem tn_zero (f : List Nat) : ∀ n i, tn f n ≤ i → i < n → co f i = 0
  | 0, _, _, h => by omega
  | n + 1, i, h1, h2 => by
    unfold tn at h1
    split at h1
    · rename_i h
      by_cases hi : i = n
      · subst hi; exact h
      · exact tn_zero f n i h1 (by omega)
    · omega
theorem trim_len (f : List Nat) : (trimL f).length = tn f f.length := by
  have := tn_le f f.length
  rw [trimL, List.length_take]; omega
theorem trim_co (f : List Nat) (i : Nat) : co (trimL f) i = co f i := by
  by_cases h : i < tn f f.length
  · have h2 := tn_le f f.length
    unfold co trimL
    rw [List.getD_eq_getElem?_getD, List.getD_eq_getElem?_getD, List.getElem?_take_of_lt h]
  · rw [co_out (by rw [trim_len]; omega)]
    by_cases h2 : i < f.length
    · exact (tn_zero f f.length i (by omega) h2).symm
    · exact (co_out (by omega)).symm
theorem trim_id {f : List Nat} (h : f = [] ∨ co f (f.length - 1) ≠ 0) : trimL f = f := by
  unfold trimL
  rcases h with rfl | h
  · rfl
  · cases hn : f.length with
    | zero => rw [List.length_eq_zero_iff] at hn; subst hn; rfl
    | succ n =>
      rw [hn] at h
      simp only [Nat.add_sub_cancel] at h
      rw [tn, if_neg h, ← hn, List.take_length]
/-- A polynomial over the field of p. -/
def IsP (p : Nat) (f : List Nat) : Prop := (∀ c ∈ f, c < p) ∧ (f = [] ∨ co f (f.length - 1) ≠ 0)
theorem IsP.co {p : Nat} {f : List Nat} (h : IsP p f) (hp : 0 < p) (i : Nat) : co f i < p := by
  by_cases hi : i < f.length
  · rw [co_get hi]; exact h.1 _ (List.getElem_mem hi)
  · rw [co_out (by omega)]; exact hp
theorem trim_isP {p : Nat} {f : List Nat} (h : ∀ c ∈ f, c < p) : IsP p (trimL f) := by
  refine ⟨fun c hc => h c (List.mem_of_mem_take hc), ?_⟩
  rcases tn_top f f.length with h1 | h1
  · left; rw [← List.length_eq_zero_iff, trim_len, h1]
  · right; rw [trim_len, trim_co]; exact h1
theorem isP_ext {p : Nat} {f g : List Nat} (hf : IsP p f) (hg : IsP p g) (h : ∀ i, co f i = co g i) : f = g := by
  have key : ∀ {a b : List Nat}, IsP p a → (∀ i, Go.Poly.co a i = Go.Poly.co b i) → a.length ≤ b.length := by
    intro a b ha h
    rcases ha.2 with rfl | ht
    · exact Nat.zero_le _
    · apply Nat.le_of_not_lt
      intro hlt
      rw [h, co_out (by omega)] at ht
      exact ht rfl
  have hl : f.length = g.length := Nat.le_antisymm (key hf h) (key hg fun i => (h i).symm)
  rw [← fl_self f, ← fl_self g, hl]
  exact fl_congr fun i _ => h i
/-- The sum and the difference. -/
def addL (p : Nat) (f g : List Nat) : List Nat := trimL (fl (max f.length g.length) fun i => (co f i + co g i) % p)
def subL (p : Nat) (f g : List Nat) : List Nat := trimL (fl (max f.length g.length) fun i => (co f i + (p - co g i)) % p)
theorem fl_lt {p N : Nat} {F : Nat → Nat} (h : ∀ i, i < N → F i < p) : ∀ c ∈ fl N F, c < p := by
  intro c hc
  obtain ⟨i, hi, rfl⟩ := List.mem_map.1 hc
  exact h i (by simpa using hi)
theorem add_isP {p : Nat} (hp : 0 < p) (f g : List Nat) : IsP p (addL p f g) := trim_isP (fl_lt fun _ _ => Nat.mod_lt _ hp)
theorem sub_isP {p : Nat} (hp : 0 < p) (f g : List Nat) : IsP p (subL p f g) := trim_isP (fl_lt fun _ _ => Nat.mod_lt _ hp)
theorem add_co {p : Nat} (f g : List Nat) (i : Nat) : co (addL p f g) i = (co f i + co g i) % p := by
  rw [addL, trim_co]
  by_cases h : i < max f.length g.length
  · rw [fl_co _ h]
  · rw [co_out (by rw [fl_len]; omega), co_out (show f.length ≤ i by omega), co_out (show g.length ≤ i by omega)]
    exact (Nat.zero_mod p).symm
theorem sub_co {p : Nat} (hp : 0 < p) (f g : List Nat) (i : Nat) : co (subL p f g) i = (co f i + (p - co g i)) % p := by
  rw [subL, trim_co]
  by_cases h : i < max f.length g.length
  · rw [fl_co _ h]
  · rw [co_out (by rw [fl_len]; omega), co_out (show f.length ≤ i by omega), co_out (show g.length ≤ i by omega)]
    simp
/-- The terms of a product. -/
def tm (f g : List Nat) (i m : Nat) : Nat := if i ≤ m then co f i * co g (m - i) else 0
def cv (f g : List Nat) (m : Nat) : Nat := sg f.length fun i => tm f g i m
/-- The product while it is made: all rows before i, and k terms of row i. -/
def mulP (f g : List Nat) (i k m : Nat) : Nat := sg i (fun j => tm f g j m) + if m < i + k then tm f g i m else 0
theorem mulP_zero (f g : List Nat) (m : Nat) : mulP f g 0 0 m = 0 := by simp [mulP, sg]
theorem mulP_step (f g : List Nat) (i k m : Nat) : mulP f g i (k + 1) m = if m = i + k then mulP f g i k m + co f i * co g k else mulP f g i k m := by
  unfold mulP
  by_cases h : m = i + k
  · subst h
    rw [if_pos rfl, if_pos (by omega), if_neg (by omega), tm, if_pos (by omega), Nat.add_sub_cancel_left]
    omega
  · rw [if_neg h]
    by_cases h1 : m < i + k
    · rw [if_pos h1, if_pos (by omega)]
    · rw [if_neg h1, if_neg (by omega)]
theorem mulP_next (f g : List Nat) (i m : Nat) : mulP f g i g.length m = mulP f g (i + 1) 0 m := by
  unfold mulP
  rw [sg]
  by_cases h : m < i + g.length
  · rw [if_pos h]
    by_cases h1 : m < i + 1 + 0
    · rw [if_pos h1]
      have : tm f g (i + 1) m = 0 := by rw [tm, if_neg (by omega)]
      omega
    · rw [if_neg h1]; omega
  · rw [if_neg h]
    have h0 : tm f g i m = 0 := by
      rw [tm]
      split
      · rw [co_out (show g.length ≤ m - i by omega), Nat.mul_zero]
      · rfl
    rw [h0]
    split
    · have : tm f g (i + 1) m = 0 := by
        rw [tm]; split
        · rw [co_out (show g.length ≤ m - (i + 1) by omega), Nat.mul_zero]
        · rfl
      omega
    · omega
theorem mulP_all (f g : List Nat) (m : Nat) : mulP f g f.length 0 m = cv f g m := by
  unfold mulP cv
  split
  · have : tm f g f.length m = 0 := by
      rw [tm]; split
      · rw [co_out (Nat.le_refl _), Nat.zero_mul]
      · rfl
    omega
  · omega
def mulL (p : Nat) (f g : List Nat) : List Nat := if f = [] ∨ g = [] then [] else fl (f.length + g.length - 1) fun m => cv f g m % p
theorem cv_out {f g : List Nat} {m : Nat} (h : f.length + g.length - 1 ≤ m) : cv f g m = 0 := by
  unfold cv
  refine sg_zero _ fun i hi => ?_
  rw [tm]
  split
  · rw [co_out (show g.length ≤ m - i by omega), Nat.mul_zero]
  · rfl
theorem sg_last {f : Nat → Nat} {n : Nat} (h : ∀ i, i < n → f i = 0) : sg (n + 1) f = f n := by rw [sg, sg_zero n h, Nat.zero_add]
theorem cv_top {f g : List Nat} (hf : 0 < f.length) (hg : 0 < g.length) : cv f g (f.length + g.length - 2) = co f (f.length - 1) * co g (g.length - 1) := by
  unfold cv
  obtain ⟨n, hn⟩ : ∃ n, f.length = n + 1 := ⟨f.length - 1, by omega⟩
  rw [hn, sg_last, tm, if_pos (by omega)]
  · congr 2
    omega
  · intro i hi
    rw [tm]
    split
    · rw [co_out (show g.length ≤ n + 1 + g.length - 2 - i by omega), Nat.mul_zero]
    · rfl
theorem mul_co {p : Nat} (f g : List Nat) (i : Nat) : co (mulL p f g) i = cv f g i % p := by
  unfold mulL
  split
  · rename_i h
    have : cv f g i = 0 := by
      rcases h with rfl | rfl
      · rfl
      · exact sg_zero _ fun j _ => by rw [tm]; split <;> simp [co]
    rw [this, Nat.zero_mod, co_out (Nat.zero_le _)]
  · by_cases h : i < f.length + g.length - 1
    · rw [fl_co _ h]
    · rw [co_out (by rw [fl_len]; omega), cv_out (by omega), Nat.zero_mod]
end Go.Poly
