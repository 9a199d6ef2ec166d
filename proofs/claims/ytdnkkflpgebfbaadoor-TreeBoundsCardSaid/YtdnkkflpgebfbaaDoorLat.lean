/- 'later' of the tree layer, as a function on numbers: the neighbors of a vertex once a set of vertices is gone. -/
import Derived.Test.YtdnkkflpgebfbaaDoorSets
namespace Go.Tree
open Go.W

/-- A graph on at most 14 vertices: the neighbors of each, as a set. -/
structure Gr (g : List Nat) : Prop where
  len : g.length ≤ 14
  lt : ∀ u, g.getD u 0 < 2 ^ g.length

abbrev LS := Nat × Nat × Nat
def latStep (g : List Nat) (gone : Nat) (s : LS) : LS :=
  let u := tz s.2.2
  let l := s.2.2 &&& (s.2.2 - 1)
  let fresh := bd (g.getD u 0) s.1
  (s.1 ||| fresh, s.2.1 ||| bd fresh gone, l ||| (fresh &&& gone))
def latL (g : List Nat) (gone : Nat) : Nat → LS → LS
  | 0, s => s
  | k + 1, s => if s.2.2 = 0 then s else latL g gone k (latStep g gone s)
def lat (g : List Nat) (gone v : Nat) : Nat := (latL g gone 16 (2 ^ v, 0, 2 ^ v)).2.1

/-- What is left to be seen, and the list. -/
def latM (n : Nat) (s : LS) : Nat := card (bd (2 ^ n - 1) s.1) + card s.2.2
structure LInv (n : Nat) (s : LS) : Prop where
  seen : s.1 < 2 ^ n
  out : s.2.1 < 2 ^ n
  list : s.2.2 < 2 ^ n
section
variable {g : List Nat} {gone : Nat} {s : LS}
theorem lt_pow16 {x n : Nat} (hn : n ≤ 14) (h : x < 2 ^ n) : x < 16384 := Nat.lt_of_lt_of_le h (Nat.le_trans (Nat.pow_le_pow_right (by decide) hn) (by decide))
theorem tz_lt {n x : Nat} (hn : n ≤ 14) (h : x < 2 ^ n) (h0 : x ≠ 0) : tz x < n := lt_of_testBit h (tz_spec h0 (by have := lt_pow16 hn h; omega)).1
theorem latStep_inv (hg : Gr g) (h : LInv g.length s) (_h0 : s.2.2 ≠ 0) : LInv g.length (latStep g gone s) :=
  ⟨or_lt h.seen (bd_lt (hg.lt _)), or_lt h.out (bd_lt (bd_lt (hg.lt _))), or_lt (and_lt h.list) (and_lt (bd_lt (hg.lt _)))⟩
theorem latStep_lt (hg : Gr g) (h : LInv g.length s) (h0 : s.2.2 ≠ 0) : latM g.length (latStep g gone s) < latM g.length s := by
  obtain ⟨seen, out, list⟩ := s
  have hl := lt_pow16 hg.len h.list
  obtain ⟨t1, _, t3⟩ := tz_spec h0 (by simp only at hl ⊢; omega)
  simp only [latM, latStep] at *
  generalize hf : bd (g.getD (tz list) 0) seen = fresh
  have hfl : fresh < 2 ^ g.length := by rw [← hf]; exact bd_lt (hg.lt _)
  have e1 : bd (2 ^ g.length - 1) (seen ||| fresh) = bd (bd (2 ^ g.length - 1) seen) fresh := by
    apply Nat.eq_of_testBit_eq; intro i
    simp only [testBit_bd, Nat.testBit_or]
    cases (2 ^ g.length - 1).testBit i <;> cases seen.testBit i <;> cases fresh.testBit i <;> rfl
  have c1 : card (bd (bd (2 ^ g.length - 1) seen) fresh) + card fresh = card (bd (2 ^ g.length - 1) seen) := by
    apply card_bd
    intro i hi
    rw [testBit_bd, Nat.testBit_two_pow_sub_one]
    have h1 := lt_of_testBit hfl hi
    rw [← hf, testBit_bd] at hi
    simp only [Bool.and_eq_true, Bool.not_eq_true'] at hi
    simp [h1, hi.2]
  have htz : tz list < 16 := by have := lt_of_testBit h.list t1; have h14 := hg.len; omega
  have c2 : card (bd list (2 ^ tz list)) + card (2 ^ tz list) = card list := by
    apply card_bd
    intro i hi
    rw [Nat.testBit_two_pow] at hi
    have : tz list = i := by simpa using hi
    rw [← this]; exact t1
  rw [card_pow htz] at c2
  have c3 := card_le_or (list &&& (list - 1)) (fresh &&& gone)
  have c4 : card (fresh &&& gone) ≤ card fresh := card_mono (fun i hi => by rw [Nat.testBit_and] at hi; simp at hi; exact hi.1)
  rw [t3] at c3 ⊢
  rw [e1]
  omega
theorem latM_init {v : Nat} (hn : g.length ≤ 14) (hv : v < g.length) : latM g.length (2 ^ v, 0, 2 ^ v) ≤ 14 := by
  have h1 := card_bd (a := 2 ^ g.length - 1) (b := 2 ^ v) (fun i hi => by
    rw [Nat.testBit_two_pow] at hi
    have : v = i := by simpa using hi
    rw [Nat.testBit_two_pow_sub_one]; simp; omega)
  rw [card_full (by omega), card_pow (by omega)] at h1
  simp only [latM, card_pow (show v < 16 by omega)]
  omega
theorem linv_init {v : Nat} (hv : v < g.length) : LInv g.length (2 ^ v, 0, 2 ^ v) :=
  ⟨Nat.pow_lt_pow_right (by decide) hv, Nat.two_pow_pos _, Nat.pow_lt_pow_right (by decide) hv⟩
theorem latL_inv (hg : Gr g) : ∀ (k : Nat) (s : LS), LInv g.length s → LInv g.length (latL g gone k s) := by
  intro k
  induction k with
  | zero => intro s h; exact h
  | succ k ih =>
    intro s h
    unfold latL
    split
    · exact h
    · rename_i h0; exact ih _ (latStep_inv hg h h0)
theorem lat_lt (hg : Gr g) {v : Nat} (hv : v < g.length) : lat g gone v < 2 ^ g.length := (latL_inv hg 16 _ (linv_init hv)).out
end
end Go.Tree
