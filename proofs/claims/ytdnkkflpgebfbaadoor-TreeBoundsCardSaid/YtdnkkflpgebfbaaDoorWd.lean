/- The widths by sets. -/
import Derived.Test.YtdnkkflpgebfbaaDoorLat
import Derived.Test.YtdnkkflpgebfbaaDoorEls
namespace Go.Tree
open Go.W

def full (n : Nat) : Nat := 2 ^ n - 1
def wdStep (g : List Nat) (S : Nat) (f : Nat → Int) (b : Int) (v : Nat) : Int := min b (max (pc (lat g S v) : Int) (f (S ||| 2 ^ v)))
def wdF (g : List Nat) : Nat → Nat → Int
  | 0, _ => -1
  | k + 1, S => if S = full g.length then -1 else (els (bd (full g.length) S)).foldl (wdStep g S (wdF g k)) g.length
def wd (g : List Nat) (S : Nat) : Int := wdF g 15 S

theorem foldl_cong {α β : Type} (f h : β → α → β) : ∀ (l : List α) (b : β), (∀ a ∈ l, ∀ b, f b a = h b a) → l.foldl f b = l.foldl h b := by
  intro l
  induction l with
  | nil => intro b _; rfl
  | cons a l ih =>
    intro b hl
    rw [List.foldl_cons, List.foldl_cons, hl a (by simp)]
    exact ih _ fun a' ha' => hl a' (by simp [ha'])

theorem full_testBit (n i : Nat) : (full n).testBit i = decide (i < n) := by simp [full]
theorem full_lt (n : Nat) : full n < 2 ^ n := by
  have := Nat.two_pow_pos n
  unfold full; omega
theorem mem_compl {n S v : Nat} (hn : n ≤ 14) : v ∈ els (bd (full n) S) ↔ v < n ∧ S.testBit v = false := by
  rw [mem_els, testBit_bd, full_testBit]
  simp
  omega
theorem or_pow_lt {n S v : Nat} (hS : S < 2 ^ n) (hv : v < n) : S ||| 2 ^ v < 2 ^ n := Nat.or_lt_two_pow hS (Nat.pow_lt_pow_right (by decide) hv)
theorem card_more {n S v : Nat} (hn : n ≤ 14) (hv : v < n) (hS : S.testBit v = false) : card (bd (full n) (S ||| 2 ^ v)) + 1 = card (bd (full n) S) := by
  have e : bd (full n) S = bd (full n) (S ||| 2 ^ v) ||| 2 ^ v := by
    apply Nat.eq_of_testBit_eq
    intro i
    rw [Nat.testBit_or, testBit_bd, testBit_bd, Nat.testBit_or, Nat.testBit_two_pow, full_testBit]
    by_cases h : v = i
    · subst h; simp [hv, hS]
    · simp [h]
  have d : bd (full n) (S ||| 2 ^ v) &&& 2 ^ v = 0 := by
    apply Nat.eq_of_testBit_eq
    intro i
    rw [Nat.testBit_and, testBit_bd, Nat.testBit_or, Nat.testBit_two_pow]
    by_cases h : v = i <;> simp [h]
  have h1 := card_or d
  rw [← e, card_pow (by omega)] at h1
  exact h1.symm
theorem wdF_fuel {g : List Nat} (hn : g.length ≤ 14) : ∀ (k k' S : Nat), card (bd (full g.length) S) < k → card (bd (full g.length) S) < k' → wdF g k S = wdF g k' S := by
  intro k
  induction k with
  | zero => intro k' S h; omega
  | succ k ih =>
    intro k' S h h'
    cases k' with
    | zero => omega
    | succ k' =>
      simp only [wdF]
      split
      · rfl
      · refine foldl_cong _ _ _ _ fun v hv b => ?_
        obtain ⟨h1, h2⟩ := (mem_compl hn).1 hv
        have := card_more hn h1 h2
        unfold wdStep
        rw [ih k' _ (by omega) (by omega)]
theorem card_compl_le {n S : Nat} (hn : n ≤ 14) : card (bd (full n) S) ≤ n := card_le (by omega) (Nat.lt_of_le_of_lt (bd_le _ _) (full_lt n))
theorem wd_full (g : List Nat) : wd g (full g.length) = -1 := by simp [wd, wdF]
theorem wd_eq {g : List Nat} (hn : g.length ≤ 14) {S : Nat} (hS : S ≠ full g.length) : wd g S = (els (bd (full g.length) S)).foldl (wdStep g S (wd g)) g.length := by
  have h1 : wd g S = wdF g 16 S := wdF_fuel hn _ _ _ (by have := card_compl_le (n := g.length) (S := S) hn; omega) (by have := card_compl_le (n := g.length) (S := S) hn; omega)
  rw [h1, wdF, if_neg hS]
  rfl

def zs (xs : List Int) : List Value := xs.map fun (x : Int) => Value.int .i64 x
theorem zs_len (xs : List Int) : (zs xs).length = xs.length := by simp [zs]
theorem zs_set (xs : List Int) (i : Nat) (x : Int) : (zs xs).toArray.setIfInBounds i (.int .i64 x) = (zs (xs.set i x)).toArray := by
  rw [← Array.toList_inj]; simp [zs, List.map_set]
/-- The array of widths where the sets from k on are done. -/
def wdRow (g : List Nat) (k : Nat) : List Int := (List.range (2 ^ g.length)).map fun S => if k ≤ S then wd g S else 0
theorem wdRow_len (g : List Nat) (k : Nat) : (wdRow g k).length = 2 ^ g.length := by simp [wdRow]
theorem wdRow_at {g : List Nat} {k S : Nat} (hS : S < 2 ^ g.length) (hk : k ≤ S) : (zs (wdRow g k))[S]? = some (.int .i64 (wd g S)) := by
  simp [zs, wdRow, hS, hk]
theorem wdRow_start (g : List Nat) : ((List.replicate (2 ^ g.length) 0).set (full g.length) (-1) : List Int) = wdRow g (full g.length) := by
  have hp := Nat.two_pow_pos g.length
  apply List.ext_getElem?
  intro i
  by_cases h : i < 2 ^ g.length
  · by_cases h1 : i = full g.length
    · subst h1
      rw [List.getElem?_set_self (by simpa using h)]
      simp [wdRow, h, wd_full]
    · rw [List.getElem?_set_ne (Ne.symm h1)]
      have : ¬ full g.length ≤ i := by unfold full at *; omega
      simp [wdRow, h, this]
  · rw [List.getElem?_eq_none (by simp; omega), List.getElem?_eq_none (by simp [wdRow]; omega)]
theorem wdRow_next {g : List Nat} {k : Nat} (hk : k < 2 ^ g.length) : (wdRow g (k + 1)).set k (wd g k) = wdRow g k := by
  apply List.ext_getElem?
  intro i
  by_cases h : i < 2 ^ g.length
  · by_cases h1 : i = k
    · subst h1
      rw [List.getElem?_set_self (by rw [wdRow_len]; exact h)]
      simp [wdRow, h]
    · rw [List.getElem?_set_ne (Ne.symm h1)]
      simp only [wdRow, List.getElem?_map, List.getElem?_range h, Option.map_some, Option.some.injEq]
      by_cases h2 : k + 1 ≤ i
      · rw [if_pos h2, if_pos (by omega)]
      · rw [if_neg h2, if_neg (by omega)]
  · rw [List.getElem?_eq_none (by simp [wdRow]; omega), List.getElem?_eq_none (by simp [wdRow]; omega)]
end Go.Tree
