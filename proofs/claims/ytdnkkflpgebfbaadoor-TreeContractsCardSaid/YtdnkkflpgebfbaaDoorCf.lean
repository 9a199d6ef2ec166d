/- What the program's sum over classes comes to: the number of colourings. -/
import Derived.Test.YtdnkkflpgebfbaaDoorCe
namespace Go.Tree
open Go.W

def tab (f : Nat → Nat) : List Int := (List.range 15).map fun m => (f m : Int)
theorem tab_len (f : Nat → Nat) : (tab f).length = 15 := by simp [tab]
theorem tab_getD (f : Nat → Nat) {j : Nat} (h : j < 15) : (tab f).getD j 0 = f j := by
  simp [tab, h]
theorem tab_congr {f g : Nat → Nat} (h : ∀ m, m < 15 → f m = g m) : tab f = tab g := by
  unfold tab
  refine List.map_congr_left fun m hm => ?_
  rw [h m (by simpa using hm)]
theorem tab_set (f : Nat → Nat) (k x : Nat) : (tab f).set k (x : Int) = tab fun m => if m = k then x else f m := by
  apply List.ext_getElem?
  intro i
  by_cases h : i < 15
  · by_cases h1 : i = k
    · subst h1
      rw [List.getElem?_set_self (by rw [tab_len]; exact h)]
      simp [tab, h]
    · rw [List.getElem?_set_ne (Ne.symm h1)]
      simp [tab, h, h1]
  · rw [List.getElem?_eq_none (by simp [tab_len]; omega), List.getElem?_eq_none (by simp [tab_len]; omega)]
def sh (c : Nat → Nat) : Nat → Nat
  | 0 => 0
  | m + 1 => c m
theorem addC_tab {f c : Nat → Nat} (h14 : c 14 = 0) (hb : ∀ m, m < 15 → f m + sh c m < 9223372036854775808) : addC (tab f) (tab c) = tab fun m => f m + sh c m := by
  have key : ∀ k, k ≤ 15 → addP (tab f) (tab c) k = tab fun m => f m + (if m ≤ k then sh c m else 0) := by
    intro k
    induction k with
    | zero =>
      intro _
      refine tab_congr fun m _ => ?_
      by_cases hm : m ≤ 0
      · have : m = 0 := by omega
        subst this; rfl
      · rw [if_neg hm]; rfl
    | succ k ih =>
      intro hk
      rw [addP_succ, ih (by omega), addStep, tab_getD c (by omega)]
      split
      · rename_i hpos
        have hk14 : k + 1 < 15 := by
          rcases Nat.lt_or_ge (k + 1) 15 with h1 | h1
          · exact h1
          · have : k = 14 := by omega
            rw [this, h14] at hpos
            omega
        have h1 := hb (k + 1) hk14
        rw [sh] at h1
        rw [addAt, tab_getD _ hk14, if_neg (by omega)]
        have e : IntKind.i64.wrap (((f (k + 1) + 0 : Nat) : Int) + (c k : Int)) = ((f (k + 1) + c k : Nat) : Int) := by rw [wrap_i64_in (by omega) (by omega)]; omega
        rw [e, tab_set]
        refine tab_congr fun m hm => ?_
        by_cases h2 : m = k + 1
        · rw [if_pos h2, h2, if_pos (by omega)]; rfl
        · rw [if_neg h2]
          by_cases h3 : m ≤ k
          · rw [if_pos h3, if_pos (by omega)]
          · rw [if_neg h3, if_neg (by omega)]
      · rename_i hpos
        refine tab_congr fun m hm => ?_
        by_cases h2 : m = k + 1
        · rw [if_neg (by omega), if_pos (by omega), h2, sh]
          have : c k = 0 := by omega
          rw [this]
        · by_cases h3 : m ≤ k
          · rw [if_pos h3, if_pos (by omega)]
          · rw [if_neg h3, if_neg (by omega)]
  rw [addC, key 15 (by omega)]
  refine tab_congr fun m hm => ?_
  rw [if_pos (by omega)]

section
variable {p : Nat → Bool} {S : Nat}
def hh (p : Nat → Bool) (S m x : Nat) : Nat := if p (x ||| low S) = true then sh (fun m => pp p m (bd (rst S) x)) m else 0
theorem foldl_ge (f : Nat → Nat) : ∀ (l : List Nat) (a : Nat), a ≤ l.foldl (fun a x => a + f x) a := by
  intro l
  induction l with
  | nil => intro a; exact Nat.le_refl _
  | cons x l ih => intro a; rw [List.foldl_cons]; have := ih (a + f x); omega
theorem cls_fold (h0 : S ≠ 0) (hS : S < 16384) (ih : ∀ T, T < S → cls p T = tab fun m => pp p m T) : ∀ (l : List Nat) (f : Nat → Nat),
    (∀ m, m < 15 → l.foldl (fun a x => a + hh p S m x) (f m) < 9223372036854775808) →
    l.foldl (clStepF p S (cls p)) (tab f) = tab fun m => l.foldl (fun a x => a + hh p S m x) (f m) := by
  intro l
  induction l with
  | nil => intro f _; rfl
  | cons x l ihl =>
    intro f hb
    have h1 := card_rst h0 hS
    have h2 := rst_lt h0 hS
    have h3 := bd_le (rst S) x
    have h4 := card_sub (rst S) x
    have hc : card S ≤ 14 := card_le (by decide) hS
    have step : clStepF p S (cls p) (tab f) x = tab fun m => f m + hh p S m x := by
      unfold clStepF
      split
      · rename_i hp
        rw [ih _ (by omega), addC_tab (c := fun m => pp p m (bd (rst S) x)) (pp_supp p 14 (bd (rst S) x) (by omega) (by omega))]
        · refine tab_congr fun m _ => ?_
          rw [hh, if_pos hp]
        · intro m hm
          have h5 := hb m hm
          rw [List.foldl_cons] at h5
          have h6 := foldl_ge (hh p S m) l (f m + hh p S m x)
          rw [hh, if_pos hp] at h5 h6
          omega
      · rename_i hp
        refine tab_congr fun m _ => ?_
        rw [hh, if_neg hp, Nat.add_zero]
    rw [List.foldl_cons, step, ihl]
    · rfl
    · intro m hm; exact hb m hm
theorem hh_sum (h0 : S ≠ 0) (m : Nat) : (subsR (rst S) (rst S)).foldl (fun a x => a + hh p S m x) 0 = pp p m S := by
  rw [subs_ss, Nat.zero_add]
  cases m with
  | zero =>
    rw [pp, if_neg h0, ss_congr (g := fun _ => 0), ss_null]
    intro x _
    unfold hh
    split <;> rfl
  | succ m => rw [pp, if_neg h0]; rfl
theorem pp_lt (p : Nat → Bool) {m S : Nat} (hm : m < 15) (hS : S < 16384) : pp p m S < 4611686018427387904 := by
  have h1 := pp_le p m S hS
  have h2 : card S ≤ 14 := card_le (by decide) hS
  have h3 : m ^ card S ≤ 14 ^ card S := Nat.pow_le_pow_left (by omega) _
  have h4 : 14 ^ card S ≤ 14 ^ 14 := Nat.pow_le_pow_right (by decide) h2
  have h5 : 14 ^ 14 < 4611686018427387904 := by decide
  omega
theorem cls_pp (p : Nat → Bool) : ∀ (S : Nat), S < 16384 → cls p S = tab fun m => pp p m S := by
  intro S
  induction S using Nat.strongRecOn with
  | _ S ih =>
  intro hS
  by_cases h0 : S = 0
  · subst h0
    rw [cls_zero]
    have : ∀ m, pp p m 0 = if m = 0 then 1 else 0 := by
      intro m
      cases m with
      | zero => rfl
      | succ m => rw [pp, if_pos rfl, if_neg (by omega)]
    rw [tab_congr (g := fun m => if m = 0 then 1 else 0) (fun m _ => this m)]
    decide
  · have hz : zero15 = tab fun _ => 0 := by decide
    rw [cls_eq h0 hS, hz, cls_fold h0 hS (fun T hT => ih T hT (by omega))]
    · exact tab_congr fun m _ => hh_sum h0 m
    · intro m hm
      rw [hh_sum h0 m]
      have := pp_lt p hm hS
      omega
end

theorem wrap_ex (a : Int) : ∃ q : Int, IntKind.i64.wrap a = a - 18446744073709551616 * q := ⟨(a + 9223372036854775808) / 18446744073709551616, by rw [IntKind.wrap_i64]; omega⟩
theorem wrap_per (a q : Int) : IntKind.i64.wrap (a - 18446744073709551616 * q) = IntKind.i64.wrap a := by rw [IntKind.wrap_i64, IntKind.wrap_i64]; omega
theorem wrap_mul (a b : Int) : IntKind.i64.wrap (IntKind.i64.wrap a * b) = IntKind.i64.wrap (a * b) := by
  obtain ⟨q, hq⟩ := wrap_ex a
  rw [hq, Int.sub_mul, Int.mul_assoc, wrap_per]
def fallP (k : Int) (many : Nat) (ways : Int) : Int := (List.range many).foldl (fun x i => IntKind.i64.wrap (x * max 0 (IntKind.i64.wrap (k - (i : Nat))))) ways
theorem fallP_succ (k : Int) (m : Nat) (x : Int) : fallP k (m + 1) x = IntKind.i64.wrap (fallP k m x * max 0 (IntKind.i64.wrap (k - (m : Nat)))) := by simp [fallP, List.range_succ]
def colP (c : List Int) (k : Int) (j : Nat) : Int := (List.range j).foldl (fun s m => IntKind.i64.wrap (s + fallP k m (c.getD m 0))) 0
theorem colP_succ (c : List Int) (k : Int) (j : Nat) : colP c k (j + 1) = IntKind.i64.wrap (colP c k j + fallP k j (c.getD j 0)) := by simp [colP, List.range_succ]
theorem fall_desc {k : Nat} (hk : k ≤ 8) {x : Nat} (hx : x < 4611686018427387904) : ∀ m, m ≤ 15 → fallP k m x = IntKind.i64.wrap ((x * desc k m : Nat) : Int) := by
  intro m
  induction m with
  | zero => intro _; simp only [desc, Nat.mul_one]; rw [wrap_i64_in (by omega) (by omega)]; rfl
  | succ m ih =>
    intro hm
    have e1 : max 0 (IntKind.i64.wrap ((k : Int) - (m : Nat))) = ((k - m : Nat) : Int) := by rw [IntKind.wrap_i64]; omega
    rw [fallP_succ, ih (by omega), e1, wrap_mul, desc, ← Nat.mul_assoc, Int.natCast_mul (x * desc k m)]
theorem sm_mono {f : Nat → Nat} {N : Nat} : ∀ M, N ≤ M → sm N f ≤ sm M f := by
  intro M
  induction M with
  | zero => intro h; rw [show N = 0 by omega]; exact Nat.le_refl _
  | succ M ih =>
    intro h
    rcases Nat.lt_or_ge M N with h1 | h1
    · rw [show N = M + 1 by omega]; exact Nat.le_refl _
    · rw [sm]; have := ih h1; omega
theorem colP_colD {p : Nat → Bool} (hp : p 0 = true) {S k : Nat} (hS : S < 16384) (hk : k ≤ 8) : colP (cls p S) k 15 = colD p k S := by
  have hb : colD p k S < 9223372036854775808 := by
    have h1 := colD_le p k S hS
    have h2 : card S ≤ 14 := card_le (by decide) hS
    have h3 : k ^ card S ≤ 8 ^ card S := Nat.pow_le_pow_left hk _
    have h4 : 8 ^ card S ≤ 8 ^ 14 := Nat.pow_le_pow_right (by decide) h2
    have h5 : 8 ^ 14 < 9223372036854775808 := by decide
    omega
  have hs := col_sum hp S hS k
  have key : ∀ j, j ≤ 15 → colP (cls p S) k j = (sm j (fun m => pp p m S * desc k m) : Nat) := by
    intro j
    induction j with
    | zero => intro _; rfl
    | succ j ih =>
      intro hj
      have h1 := sm_mono (f := fun m => pp p m S * desc k m) (N := j + 1) 15 hj
      rw [sm] at h1
      rw [colP_succ, ih (by omega), cls_pp p S hS, tab_getD _ (by omega), fall_desc hk (pp_lt p (by omega) hS) j (by omega)]
      generalize hq : pp p j S * desc k j = q at *
      rw [wrap_i64_in (n := (q : Int)) (by omega) (by omega), sm]
      simp only [hq]
      rw [wrap_i64_in (by omega) (by omega)]
      omega
  rw [key 15 (Nat.le_refl _), hs]
end Go.Tree
