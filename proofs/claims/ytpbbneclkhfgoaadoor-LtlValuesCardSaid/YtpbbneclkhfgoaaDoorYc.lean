/- Numbers as sets of bits; the search's guesses, in plain words. -/
import Derived.Test.YtpbbneclkhfgoaaDoorYb
import Derived.Laws.Bits64b
namespace Go.W

/-- The elements of a set that are not in another one. -/
def bd (a b : Nat) : Nat := a ^^^ (a &&& b)
theorem testBit_bd (a b i : Nat) : (bd a b).testBit i = (a.testBit i && !b.testBit i) := by
  simp only [bd, Nat.testBit_xor, Nat.testBit_and]
  cases a.testBit i <;> cases b.testBit i <;> rfl
theorem bd_le (a b : Nat) : bd a b ≤ a := by
  have h : bd a b = a &&& bd a b := by
    apply Nat.eq_of_testBit_eq
    intro i
    rw [Nat.testBit_and, testBit_bd]
    cases a.testBit i <;> cases b.testBit i <;> rfl
  rw [h]; exact Nat.and_le_left
theorem bd_lt {a b n : Nat} (h : a < n) : bd a b < n := Nat.lt_of_le_of_lt (bd_le a b) h

theorem wrap_i64_in {n : Int} (h0 : 0 ≤ n) (h : n < 9223372036854775808) : IntKind.i64.wrap n = n := by rw [IntKind.wrap_i64]; omega
theorem wrap_u64_in {n : Int} (h0 : 0 ≤ n) (h : n < 18446744073709551616) : IntKind.u64.wrap n = n := by rw [IntKind.wrap_u64]; omega
theorem i64_keep : ∀ n : Int, 0 ≤ n → n < 2 ^ 63 → IntKind.i64.wrap n = n := fun n h0 h => wrap_i64_in h0 (by omega)
theorem u64_keep : ∀ n : Int, 0 ≤ n → n < 2 ^ 64 → IntKind.u64.wrap n = n := fun n h0 h => wrap_u64_in h0 (by omega)
section
variable {a b : Nat} (ha : a < 9223372036854775808) (hb : b < 9223372036854775808)
include ha hb
theorem and_i64 : bits .and .i64 (a : Int) (b : Int) = ((a &&& b : Nat) : Int) := (bits_nat .i64 63 (by decide) i64_keep a b (by omega) (by omega)).1
theorem or_i64 : bits .or .i64 (a : Int) (b : Int) = ((a ||| b : Nat) : Int) := (bits_nat .i64 63 (by decide) i64_keep a b (by omega) (by omega)).2
theorem andNot_i64 : bits .andNot .i64 (a : Int) (b : Int) = ((bd a b : Nat) : Int) := by
  have ha' : a % 2 ^ 64 = a := Nat.mod_eq_of_lt (by omega)
  have hb' : b % 2 ^ 64 = b := Nat.mod_eq_of_lt (by omega)
  have e1 : (BitVec.ofNat 64 a &&& ~~~(BitVec.ofNat 64 b)).toNat = bd a b := by
    apply Nat.eq_of_testBit_eq
    intro i
    rw [testBit_bd]
    simp only [BitVec.toNat_and, Nat.testBit_and, BitVec.toNat_ofNat, ha', BitVec.toNat_not, hb']
    by_cases hi : i < 64
    · rw [Nat.sub_sub, Nat.add_comm 1 b, Nat.testBit_two_pow_sub_succ (by omega)]
      simp [hi]
    · have : a.testBit i = false := Nat.testBit_lt_two_pow (Nat.lt_of_lt_of_le (by omega : a < 2 ^ 64) (Nat.pow_le_pow_right (by decide) (by omega)))
      simp [this]
  simp only [bits, BitVec.ofInt_natCast]
  show IntKind.i64.wrap ((BitVec.ofNat 64 a &&& ~~~(BitVec.ofNat 64 b)).toNat : Int) = _
  rw [e1]
  exact wrap_i64_in (by omega) (by have := bd_lt (b := b) ha; omega)
end
theorem or_lt {a b n : Nat} (ha : a < 2 ^ n) (hb : b < 2 ^ n) : a ||| b < 2 ^ n := Nat.or_lt_two_pow ha hb
theorem and_lt {a b n : Nat} (ha : a < n) : a &&& b < n := Nat.lt_of_le_of_lt Nat.and_le_left ha

theorem shl_i64 {a v : Nat} (h : a * 2 ^ v < 9223372036854775808) (hv : v ≤ 64) : shl .i64 (a : Int) v = ((a * 2 ^ v : Nat) : Int) := by
  unfold shl
  rw [Nat.min_eq_left (by simpa [IntKind.bits] using hv)]
  have e : ((a : Int) * 2 ^ v) = ((a * 2 ^ v : Nat) : Int) := by simp
  rw [e]
  exact wrap_i64_in (by omega) (by omega)
theorem shl_one {v : Nat} (hv : v < 63) : shl .i64 1 v = ((2 ^ v : Nat) : Int) := by
  have h : 2 ^ v < 9223372036854775808 := by
    have : 2 ^ v < 2 ^ 63 := Nat.pow_lt_pow_right (by decide) hv
    omega
  have := shl_i64 (a := 1) (v := v) (by simpa using h) (by omega)
  simpa using this
end Go.W
namespace Go.Ltl
open Go.W
/-- How many operations look at the next position. -/
def looksN : Fm → Nat
  | .at_ _ => 0
  | .on_ w f => looksN f + if w = wNot then 0 else 1
  | .tw_ w f g => looksN f + looksN g + if w = wAnd ∨ w = wOr then 0 else 1
/-- The k-th one is met; what is wanted, and what is not put off. -/
abbrev Gs := Nat × Nat × Nat
def noteM (g : Gs) (bit : Nat) (looked fr : Bool) : Gs := (g.1, if looked then g.2.1 ||| bit else g.2.1, if fr then g.2.2 ||| bit else g.2.2)
def gval (mark : Int) (bs : Nat) : Fm → Gs → Bool × Gs
  | .at_ w, g => (holdsM w mark, g)
  | .on_ w f, g =>
    let r := gval mark bs f g
    if w = wNot then (!r.1, r.2)
    else
      let a := r.1
      let nx := bs.testBit r.2.1
      let bit := 2 ^ r.2.1
      let g := (r.2.1 + 1, r.2.2)
      if w = wNext then (nx, noteM g bit a true)
      else if w = wAlways then (a && nx, noteM g bit (a && nx) ((a && nx) || !a))
      else (a || nx, noteM g bit (a || nx) (!(a || nx) || a))
  | .tw_ w f h, g =>
    let r := gval mark bs f g
    let q := gval mark bs h r.2
    let a := r.1
    let b := q.1
    if w = wAnd then (a && b, q.2)
    else if w = wOr then (a || b, q.2)
    else
      let nx := bs.testBit q.2.1
      let bit := 2 ^ q.2.1
      let g := (q.2.1 + 1, q.2.2)
      if w = wUntil then (b || (a && nx), noteM g bit (b || (a && nx)) (!(b || (a && nx)) || b))
      else (b && (a || nx), noteM g bit (b && (a || nx)) ((b && (a || nx)) || !b))
/-- Within bounds. -/
def Gok (g : Gs) : Prop := g.2.1 < 2 ^ 30 ∧ g.2.2 < 2 ^ 30
theorem noteM_ok {g : Gs} {k : Nat} {p q : Bool} (h : Gok g) (hk : k < 30) : Gok (noteM g (2 ^ k) p q) := by
  have h2 : 2 ^ k < 2 ^ 30 := Nat.pow_lt_pow_right (by decide) hk
  obtain ⟨h3, h4⟩ := h
  refine ⟨?_, ?_⟩
  · show (if p then g.2.1 ||| 2 ^ k else g.2.1) < 2 ^ 30
    split
    · exact Nat.or_lt_two_pow h3 h2
    · exact h3
  · show (if q then g.2.2 ||| 2 ^ k else g.2.2) < 2 ^ 30
    split
    · exact Nat.or_lt_two_pow h4 h2
    · exact h4
theorem gval_ok (mark : Int) (bs : Nat) : ∀ (f : Fm) (g : Gs), g.1 + looksN f ≤ 30 → Gok g → (gval mark bs f g).2.1 = g.1 + looksN f ∧ Gok (gval mark bs f g).2 := by
  intro f
  induction f with
  | at_ w => intro g h hg; exact ⟨rfl, hg⟩
  | on_ w f ih =>
    intro g h hg
    unfold looksN at h
    unfold gval looksN
    by_cases h1 : w = wNot
    · rw [if_pos h1] at h
      obtain ⟨i1, i2⟩ := ih g h hg
      simp only [if_pos h1]
      exact ⟨i1, i2⟩
    · rw [if_neg h1] at h
      obtain ⟨i1, i2⟩ := ih g (by omega) hg
      simp only [if_neg h1]
      have hk : (gval mark bs f g).2.1 < 30 := by omega
      have i3 : Gok ((gval mark bs f g).2.1 + 1, (gval mark bs f g).2.2) := i2
      split
      · exact ⟨by show (gval mark bs f g).2.1 + 1 = _; omega, noteM_ok i3 hk⟩
      · split
        · exact ⟨by show (gval mark bs f g).2.1 + 1 = _; omega, noteM_ok i3 hk⟩
        · exact ⟨by show (gval mark bs f g).2.1 + 1 = _; omega, noteM_ok i3 hk⟩
  | tw_ w f h ihf ihh =>
    intro g hl hg
    unfold looksN at hl
    unfold gval looksN
    obtain ⟨i1, i2⟩ := ihf g (by omega) hg
    obtain ⟨j1, j2⟩ := ihh (gval mark bs f g).2 (by omega) i2
    by_cases h1 : w = wAnd
    · simp only [if_pos h1, if_pos (show w = wAnd ∨ w = wOr from .inl h1)]
      exact ⟨by show (gval mark bs h (gval mark bs f g).2).2.1 = _; omega, j2⟩
    · by_cases h2 : w = wOr
      · simp only [if_neg h1, if_pos h2, if_pos (show w = wAnd ∨ w = wOr from .inr h2)]
        exact ⟨by show (gval mark bs h (gval mark bs f g).2).2.1 = _; omega, j2⟩
      · have hn : ¬ (w = wAnd ∨ w = wOr) := fun h => h.elim h1 h2
        rw [if_neg hn] at hl
        simp only [if_neg h1, if_neg h2, if_neg hn]
        have hk : (gval mark bs h (gval mark bs f g).2).2.1 < 30 := by omega
        have j3 : Gok ((gval mark bs h (gval mark bs f g).2).2.1 + 1, (gval mark bs h (gval mark bs f g).2).2.2) := j2
        split
        · exact ⟨by show (gval mark bs h (gval mark bs f g).2).2.1 + 1 = _; omega, noteM_ok j3 hk⟩
        · exact ⟨by show (gval mark bs h (gval mark bs f g).2).2.1 + 1 = _; omega, noteM_ok j3 hk⟩
end Go.Ltl
