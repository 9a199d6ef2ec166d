/- The plain laws of the tree statements: sets as numbers, widths, orders, cliques. -/
import Derived.Test.YtagfpnnplgkkoaaMW
import Derived.Lib.TrailingZeros
import Derived.Laws.Bits64b
/- Numbers as sets of bits: what the machine's operations on int make of numbers that are not negative. -/
namespace Go.W

/-- The elements of a set that are not in another one. -/
def bd (a b : Nat) : Nat := a ^^^ (a &&& b)
theorem testBit_bd (a b i : Nat) : (bd a b).testBit i = (a.testBit i && !b.testBit i) := by
  simp only [bd, Nat.testBit_xor, Nat.testBit_and]
  cases a.testBit i <;> cases b.testBit i <;> rfl
theorem bd_le (a b : Nat) : bd a b ≤ a := by
  have h : bd a b = a &&& bd a b := by
    apply Nat.eq_of_testBit_eq
    intro i
    rw [Nat.testBit_and, testBit_bd]
    cases a.testBit i <;> cases b.testBit i <;> rfl
  rw [h]; exact Nat.and_le_left
theorem bd_lt {a b n : Nat} (h : a < n) : bd a b < n := Nat.lt_of_le_of_lt (bd_le a b) h

theorem wrap_i64_in {n : Int} (h0 : 0 ≤ n) (h : n < 9223372036854775808) : IntKind.i64.wrap n = n := by rw [IntKind.wrap_i64]; omega
theorem wrap_u64_in {n : Int} (h0 : 0 ≤ n) (h : n < 18446744073709551616) : IntKind.u64.wrap n = n := by rw [IntKind.wrap_u64]; omega
theorem i64_keep : ∀ n : Int, 0 ≤ n → n < 2 ^ 63 → IntKind.i64.wrap n = n := fun n h0 h => wrap_i64_in h0 (by omega)
theorem u64_keep : ∀ n : Int, 0 ≤ n → n < 2 ^ 64 → IntKind.u64.wrap n = n := fun n h0 h => wrap_u64_in h0 (by omega)
section
variable {a b : Nat} (ha : a < 9223372036854775808) (hb : b < 9223372036854775808)
include ha hb
theorem and_i64 : bits .and .i64 (a : Int) (b : Int) = ((a &&& b : Nat) : Int) := (bits_nat .i64 63 (by decide) i64_keep a b (by omega) (by omega)).1
theorem or_i64 : bits .or .i64 (a : Int) (b : Int) = ((a ||| b : Nat) : Int) := (bits_nat .i64 63 (by decide) i64_keep a b (by omega) (by omega)).2
theorem andNot_i64 : bits .andNot .i64 (a : Int) (b : Int) = ((bd a b : Nat) : Int) := by
  have ha' : a % 2 ^ 64 = a := Nat.mod_eq_of_lt (by omega)
  have hb' : b % 2 ^ 64 = b := Nat.mod_eq_of_lt (by omega)
  have e1 : (BitVec.ofNat 64 a &&& ~~~(BitVec.ofNat 64 b)).toNat = bd a b := by
    apply Nat.eq_of_testBit_eq
    intro i
    rw [testBit_bd]
    simp only [BitVec.toNat_and, Nat.testBit_and, BitVec.toNat_ofNat, ha', BitVec.toNat_not, hb']
    by_cases hi : i < 64
    · rw [Nat.sub_sub, Nat.add_comm 1 b, Nat.testBit_two_pow_sub_succ (by omega)]
      simp [hi]
    · have : a.testBit i = false := Nat.testBit_lt_two_pow (Nat.lt_of_lt_of_le (by omega : a < 2 ^ 64) (Nat.pow_le_pow_right (by decide) (by omega)))
      simp [this]
  simp only [bits, BitVec.ofInt_natCast]
  show IntKind.i64.wrap ((BitVec.ofNat 64 a &&& ~~~(BitVec.ofNat 64 b)).toNat : Int) = _
  rw [e1]
  exact wrap_i64_in (by omega) (by have := bd_lt (b := b) ha; omega)
end
theorem or_lt {a b n : Nat} (ha : a < 2 ^ n) (hb : b < 2 ^ n) : a ||| b < 2 ^ n := Nat.or_lt_two_pow ha hb
theorem and_lt {a b n : Nat} (ha : a < n) : a &&& b < n := Nat.lt_of_le_of_lt Nat.and_le_left ha

theorem shl_i64 {a v : Nat} (h : a * 2 ^ v < 9223372036854775808) (hv : v ≤ 64) : shl .i64 (a : Int) v = ((a * 2 ^ v : Nat) : Int) := by
  unfold shl
  rw [Nat.min_eq_left (by simpa [IntKind.bits] using hv)]
  have e : ((a : Int) * 2 ^ v) = ((a * 2 ^ v : Nat) : Int) := by simp
  rw [e]
  exact wrap_i64_in (by omega) (by omega)
theorem shl_one {v : Nat} (hv : v < 63) : shl .i64 1 v = ((2 ^ v : Nat) : Int) := by
  have h : 2 ^ v < 9223372036854775808 := by
    have : 2 ^ v < 2 ^ 63 := Nat.pow_lt_pow_right (by decide) hv
    omega
  have := shl_i64 (a := 1) (v := v) (by simpa using h) (by omega)
  simpa using this
theorem shr_i64 {a v : Nat} (ha : a < 9223372036854775808) : shr .i64 (a : Int) v = ((a / 2 ^ v : Nat) : Int) := by
  unfold shr
  have e : ∀ m : Nat, ((a : Int)).fdiv (2 ^ m) = ((a / 2 ^ m : Nat) : Int) := by
    intro m
    rw [Int.fdiv_eq_ediv_of_nonneg _ (Int.pow_nonneg (by decide))]
    simp
  rw [e]
  by_cases hv : v ≤ 64
  · rw [Nat.min_eq_left (by simpa [IntKind.bits] using hv)]
  · rw [Nat.min_eq_right (by simp [IntKind.bits]; omega)]
    have h1 : a / 2 ^ 64 = 0 := Nat.div_eq_of_lt (by omega)
    have h2 : a / 2 ^ v = 0 := Nat.div_eq_of_lt (Nat.lt_of_lt_of_le (by omega : a < 2 ^ 64) (Nat.pow_le_pow_right (by decide) (by omega)))
    simp only [IntKind.bits, h1, h2]
theorem testBit_div (a v : Nat) : a.testBit v = decide (a / 2 ^ v % 2 = 1) := by
  rw [Nat.testBit_eq_decide_div_mod_eq]
theorem has_eq {s v : Nat} (hs : s < 9223372036854775808) : (bits .and .i64 (shr .i64 (s : Int) v) 1 == 1) = s.testBit v := by
  rw [shr_i64 hs]
  have h1 : s / 2 ^ v < 9223372036854775808 := Nat.lt_of_le_of_lt (Nat.div_le_self _ _) hs
  have := and_i64 (a := s / 2 ^ v) (b := 1) h1 (by omega)
  simp only [Int.cast_ofNat_Int] at this
  rw [this, Nat.and_one_is_mod, testBit_div]
  by_cases h : s / 2 ^ v % 2 = 1
  · simp [h]
  · have : s / 2 ^ v % 2 = 0 := by omega
    simp [this]

/-! ### The lowest element -/
theorem pos_testBit {s : Nat} (h : s ≠ 0) : ∃ i, s.testBit i = true := Nat.exists_testBit_of_ne_zero h
def tz (s : Nat) : Nat := Lib.ctz 64 s
theorem tz_key (x a : Nat) (hx : x < 18446744073709551616) (hx0 : x ≠ 0) (hlow : x &&& (18446744073709551616 - x) = a) :
    shr .u64 (IntKind.u64.wrap (bits BinOp.and IntKind.u64 (x : Int) (IntKind.u64.wrap (0 - (x : Int))) * 285870213051353865)) 58 = ((a * 285870213051353865 % 18446744073709551616 / 288230376151711744 : Nat) : Int) := by
  have e1 : IntKind.u64.wrap (0 - (x : Int)) = ((18446744073709551616 - x : Nat) : Int) := by rw [IntKind.wrap_u64]; omega
  rw [e1, bits_and_u64_nat x _ hx (by omega), hlow, IntKind.wrap_u64]
  unfold shr
  have e2 : min 58 IntKind.u64.bits = 58 := rfl
  rw [e2, Int.fdiv_eq_ediv_of_nonneg _ (by decide)]
  omega
theorem u64_of_nat {s : Nat} (h : s < 18446744073709551616) : IntKind.u64.wrap (s : Int) = (s : Int) := wrap_u64_in (by omega) (by omega)
/-- How many elements: of sets of less than 16 numbers. -/
def pcN : Nat → Nat → Nat
  | 0, _ => 0
  | f + 1, s => s % 2 + pcN f (s / 2)
def pc (s : Nat) : Nat := pcN 16 s

/-- OnesCount64's text. -/
def swar1 (x : Int) : Int := IntKind.u64.wrap (bits .and .u64 (shr .u64 x 1) 6148914691236517205 + bits .and .u64 x 6148914691236517205)
def swar2 (x : Int) : Int := IntKind.u64.wrap (bits .and .u64 (shr .u64 x 2) 3689348814741910323 + bits .and .u64 x 3689348814741910323)
def swar3 (x : Int) : Int := bits .and .u64 (IntKind.u64.wrap (shr .u64 x 4 + x)) 1085102592571150095
def swar4 (x : Int) : Int := IntKind.u64.wrap (x + shr .u64 x 8)
def swar5 (x : Int) : Int := IntKind.u64.wrap (x + shr .u64 x 16)
def swar6 (x : Int) : Int := IntKind.u64.wrap (x + shr .u64 x 32)
def swar7 (x : Int) : Int := bits .and .i64 (IntKind.i64.wrap x) 127
def swar (x : Int) : Int := swar7 (swar6 (swar5 (swar4 (swar3 (swar2 (swar1 x))))))
theorem wrap_u64_nat (a : Nat) : IntKind.u64.wrap (a : Int) = ((a % 18446744073709551616 : Nat) : Int) := by rw [IntKind.wrap_u64]; omega
theorem shr_u64_nat (a v : Nat) (hv : v ≤ 64) : shr .u64 (a : Int) v = ((a / 2 ^ v : Nat) : Int) := by
  unfold shr
  rw [Nat.min_eq_left (by simpa [IntKind.bits] using hv), Int.fdiv_eq_ediv_of_nonneg _ (Int.pow_nonneg (by decide))]
  simp
def n1 (x : Nat) : Nat := ((x / 2 ^ 1) &&& 6148914691236517205) + (x &&& 6148914691236517205)
def n2 (x : Nat) : Nat := ((x / 2 ^ 2) &&& 3689348814741910323) + (x &&& 3689348814741910323)
def n3 (x : Nat) : Nat := (x / 2 ^ 4 + x) % 18446744073709551616 &&& 1085102592571150095
def n4 (x : Nat) : Nat := (x + x / 2 ^ 8) % 18446744073709551616
def n5 (x : Nat) : Nat := (x + x / 2 ^ 16) % 18446744073709551616
def n6 (x : Nat) : Nat := (x + x / 2 ^ 32) % 18446744073709551616
def swarN (x : Nat) : Nat := n6 (n5 (n4 (n3 (n2 (n1 x) % 18446744073709551616)))) &&& 127
theorem swar1_nat {x : Nat} (hx : x < 32768) : swar1 x = (n1 x : Int) := by
  unfold swar1
  have h1 := shr_u64_nat x 1 (by decide)
  rw [h1, show (6148914691236517205 : Int) = ((6148914691236517205 : Nat) : Int) from rfl, bits_and_u64_nat _ _ (by omega) (by decide), bits_and_u64_nat _ _ (by omega) (by decide), ← Int.natCast_add, wrap_u64_nat]
  have a1 : x / 2 ^ 1 &&& 6148914691236517205 ≤ x / 2 ^ 1 := Nat.and_le_left
  have a2 : x &&& 6148914691236517205 ≤ x := Nat.and_le_left
  rw [Nat.mod_eq_of_lt (by omega)]
  rfl
theorem n1_lt {x : Nat} (hx : x < 32768) : n1 x < 65536 := by
  unfold n1
  have a1 : x / 2 ^ 1 &&& 6148914691236517205 ≤ x / 2 ^ 1 := Nat.and_le_left
  have a2 : x &&& 6148914691236517205 ≤ x := Nat.and_le_left
  omega
theorem swar2_nat {x : Nat} (hx : x < 65536) : swar2 x = (n2 x % 18446744073709551616 : Nat) := by
  unfold swar2
  have h1 := shr_u64_nat x 2 (by decide)
  rw [h1, show (3689348814741910323 : Int) = ((3689348814741910323 : Nat) : Int) from rfl, bits_and_u64_nat _ _ (by omega) (by decide), bits_and_u64_nat _ _ (by omega) (by decide), ← Int.natCast_add, wrap_u64_nat]
  rfl
theorem swar3_nat (x : Nat) : swar3 x = (n3 x : Int) := by
  unfold swar3
  have h1 := shr_u64_nat x 4 (by decide)
  rw [h1, ← Int.natCast_add, wrap_u64_nat, show (1085102592571150095 : Int) = ((1085102592571150095 : Nat) : Int) from rfl, bits_and_u64_nat _ _ (Nat.mod_lt _ (by decide)) (by decide)]
  rfl
theorem swar4_nat (x : Nat) : swar4 x = (n4 x : Int) := by
  unfold swar4; rw [shr_u64_nat x 8 (by decide), ← Int.natCast_add, wrap_u64_nat]; rfl
theorem swar5_nat (x : Nat) : swar5 x = (n5 x : Int) := by
  unfold swar5; rw [shr_u64_nat x 16 (by decide), ← Int.natCast_add, wrap_u64_nat]; rfl
theorem swar6_nat (x : Nat) : swar6 x = (n6 x : Int) := by
  unfold swar6; rw [shr_u64_nat x 32 (by decide), ← Int.natCast_add, wrap_u64_nat]; rfl
theorem swar7_nat {x : Nat} (hx : x < 18446744073709551616) : swar7 x = (x &&& 127 : Nat) := by
  unfold swar7
  have hm : ∀ y : Nat, y < 18446744073709551616 → (BitVec.ofInt 64 (IntKind.i64.wrap (y : Int))).toNat = y := by
    intro y hy
    have : IntKind.i64.wrap (y : Int) = if y < 9223372036854775808 then (y : Int) else (y : Int) - 18446744073709551616 := by
      rw [IntKind.wrap_i64]; split <;> omega
    rw [this]
    split
    · rw [BitVec.ofInt_natCast, BitVec.toNat_ofNat]; exact Nat.mod_eq_of_lt (by omega)
    · rw [BitVec.toNat_ofInt]; omega
  have h1 := hm x hx
  have h2 : (BitVec.ofInt 64 (127 : Int)).toNat = 127 := by decide
  show IntKind.i64.wrap ((BitVec.ofInt 64 (IntKind.i64.wrap (x : Int)) &&& BitVec.ofInt 64 127).toNat : Int) = _
  rw [BitVec.toNat_and, h1, h2]
  have : x &&& 127 ≤ 127 := Nat.and_le_right
  exact wrap_i64_in (by omega) (by omega)
theorem n6_lt (x : Nat) : n6 x < 18446744073709551616 := Nat.mod_lt _ (by decide)
theorem swar_all : (List.range 16384).all (fun x => Nat.beq (swarN x) (pc x)) = true := by decide +kernel
theorem swar_eq {x : Nat} (hx : x < 16384) : swar (x : Int) = (pc x : Int) := by
  have := List.all_eq_true.1 swar_all x (List.mem_range.2 hx)
  have h := Nat.eq_of_beq_eq_true this
  unfold swar
  rw [swar1_nat (by omega), swar2_nat (n1_lt (by omega)), swar3_nat, swar4_nat, swar5_nat, swar6_nat, swar7_nat (n6_lt _), ← h]
  rfl
end Go.W

/- Sets of small numbers, as bits of a number: how many elements they have. -/
namespace Go.W

/-- How many of the numbers below 16 are in a set. -/
def card (s : Nat) : Nat := (List.range 16).countP fun i => s.testBit i

theorem pcN_count : ∀ (f s : Nat), pcN f s = (List.range f).countP fun i => s.testBit i := by
  intro f
  induction f with
  | zero => intro s; rfl
  | succ f ih =>
    intro s
    rw [pcN, ih, List.range_succ_eq_map, List.countP_cons, List.countP_map]
    have e : ((fun i => s.testBit i) ∘ Nat.succ) = fun i => (s / 2).testBit i := by
      funext i
      simp [Function.comp, Nat.testBit_succ]
    rw [e]
    have : (if s.testBit 0 = true then 1 else 0) = s % 2 := by
      rw [Nat.testBit_zero]
      by_cases h : s % 2 = 1
      · simp [h]
      · have : s % 2 = 0 := by omega
        simp [this]
    omega
theorem pc_card (s : Nat) : pc s = card s := pcN_count 16 s

theorem countP_or_disj {α : Type} (p q : α → Bool) (l : List α) (h : ∀ x ∈ l, ¬ (p x = true ∧ q x = true)) : l.countP (fun x => p x || q x) = l.countP p + l.countP q := by
  induction l with
  | nil => rfl
  | cons x l ih =>
    have ih' := ih (fun y hy => h y (List.mem_cons_of_mem _ hy))
    have hx := h x (by simp)
    simp only [List.countP_cons, ih']
    cases hp : p x <;> cases hq : q x <;> simp_all <;> omega

theorem card_or {a b : Nat} (h : a &&& b = 0) : card (a ||| b) = card a + card b := by
  unfold card
  rw [← countP_or_disj]
  · congr 1; funext i; rw [Nat.testBit_or]
  · rintro i _ ⟨h1, h2⟩
    have := congrArg (fun x => x.testBit i) h
    simp [Nat.testBit_and, h1, h2] at this

theorem countP_le {α : Type} (p q : α → Bool) (l : List α) (h : ∀ x ∈ l, p x = true → q x = true) : l.countP p ≤ l.countP q := by
  induction l with
  | nil => simp
  | cons x l ih =>
    have ih' := ih (fun y hy => h y (List.mem_cons_of_mem _ hy))
    have hx := h x (by simp)
    simp only [List.countP_cons]
    cases hp : p x <;> cases hq : q x <;> simp_all <;> omega

theorem card_mono {a b : Nat} (h : ∀ i, a.testBit i = true → b.testBit i = true) : card a ≤ card b := countP_le _ _ _ fun i _ hi => h i hi
theorem card_le_or (a b : Nat) : card (a ||| b) ≤ card a + card b := by
  have h : a ||| b = a ||| bd b a := by
    apply Nat.eq_of_testBit_eq; intro i
    simp only [Nat.testBit_or, testBit_bd]
    cases a.testBit i <;> cases b.testBit i <;> rfl
  rw [h, card_or]
  · have : card (bd b a) ≤ card b := card_mono (fun i hi => by rw [testBit_bd] at hi; simp at hi; exact hi.1)
    omega
  · apply Nat.eq_of_testBit_eq; intro i
    simp only [Nat.testBit_and, testBit_bd, Nat.zero_testBit]
    cases a.testBit i <;> cases b.testBit i <;> rfl
theorem card_bd {a b : Nat} (h : ∀ i, b.testBit i = true → a.testBit i = true) : card (bd a b) + card b = card a := by
  have e : a = bd a b ||| b := by
    apply Nat.eq_of_testBit_eq; intro i
    have := h i
    simp only [Nat.testBit_or, testBit_bd]
    cases ha : a.testBit i <;> cases hb : b.testBit i <;> simp_all
  have := card_or (a := bd a b) (b := b) (by
    apply Nat.eq_of_testBit_eq; intro i
    simp only [Nat.testBit_and, testBit_bd, Nat.zero_testBit]
    cases a.testBit i <;> cases b.testBit i <;> rfl)
  rw [← e] at this; omega
theorem card_zero : card 0 = 0 := by decide
theorem testBit_lt {s i n : Nat} (h : s < 2 ^ n) (hi : n ≤ i) : s.testBit i = false := Nat.testBit_lt_two_pow (Nat.lt_of_lt_of_le h (Nat.pow_le_pow_right (by decide) hi))
theorem lt_of_testBit {s i n : Nat} (h : s < 2 ^ n) (hi : s.testBit i = true) : i < n := by
  apply Nat.lt_of_not_le
  intro hn
  rw [testBit_lt h hn] at hi; cases hi
theorem card_pos {s i : Nat} (hi : i < 16) (h : s.testBit i = true) : 0 < card s := by
  unfold card
  exact List.countP_pos_iff.2 ⟨i, List.mem_range.2 hi, h⟩
theorem card_full {n : Nat} (h : n ≤ 16) : card (2 ^ n - 1) = n := by
  unfold card
  have : ((fun i => (2 ^ n - 1).testBit i) : Nat → Bool) = fun i => decide (i < n) := by funext i; rw [Nat.testBit_two_pow_sub_one]
  rw [this]
  have : ∀ m, m ≤ 16 → (List.range 16).countP (fun i => decide (i < m)) = m := by decide
  exact this n h
theorem card_le {s n : Nat} (hn : n ≤ 16) (h : s < 2 ^ n) : card s ≤ n := by
  have := card_mono (a := s) (b := 2 ^ n - 1) (fun i hi => by rw [Nat.testBit_two_pow_sub_one]; simpa using lt_of_testBit h hi)
  rwa [card_full hn] at this
theorem card_pow {v : Nat} (hv : v < 16) : card (2 ^ v) = 1 := by
  unfold card
  have : ((fun i => (2 ^ v).testBit i) : Nat → Bool) = fun i => decide (v = i) := by funext i; rw [Nat.testBit_two_pow]
  rw [this]
  have : ∀ m, m < 16 → (List.range 16).countP (fun i => decide (m = i)) = 1 := by decide
  exact this v hv

/-! ### The lowest element -/
theorem tz_spec {s : Nat} (h0 : s ≠ 0) (h : s < 18446744073709551616) : s.testBit (tz s) = true ∧ (∀ j, j < tz s → s.testBit j = false) ∧ s &&& (s - 1) = bd s (2 ^ tz s) := by
  have hpos : 0 < s := Nat.pos_of_ne_zero h0
  obtain ⟨m, hm, hlt⟩ := Lib.ctzFrom_spec 64 s hpos (by omega)
  have ht : tz s = Lib.ctzFrom 64 s := by unfold tz Lib.ctz; rw [if_neg h0]
  rw [← ht] at hm hlt
  generalize tz s = k at *
  have hbit : ∀ j, s.testBit j = (if j < k then false else (2 * m + 1).testBit (j - k)) := by
    intro j
    rw [hm, Nat.testBit_two_pow_mul]
    by_cases hj : j < k
    · simp [hj]; omega
    · simp [hj]; omega
  have h1 : s.testBit k = true := by rw [hbit]; simp [Nat.testBit_zero]
  have hs1 : s - 1 = 2 ^ (k + 1) * m + (2 ^ k - 1) := by
    have hp : 0 < 2 ^ k := Nat.two_pow_pos k
    rw [hm, Nat.pow_succ, Nat.mul_add, Nat.mul_assoc, Nat.mul_one]; omega
  refine ⟨h1, fun j hj => by rw [hbit]; simp [hj], ?_⟩
  apply Nat.eq_of_testBit_eq
  intro j
  rw [Nat.testBit_and, testBit_bd, Nat.testBit_two_pow, hbit, hs1]
  have hp : 2 ^ k - 1 < 2 ^ (k + 1) := by rw [Nat.pow_succ]; have := Nat.two_pow_pos k; omega
  rw [Nat.testBit_two_pow_mul_add _ hp]
  by_cases hj : j < k
  · simp [hj]
  · by_cases hjk : j = k
    · subst hjk
      simp [Nat.testBit_two_pow_sub_one]
    · have e1 : ¬ j < k + 1 := by omega
      obtain ⟨q, rfl⟩ : ∃ q, j = k + 1 + q := ⟨j - (k + 1), by omega⟩
      have e2 : k + 1 + q - k = q + 1 := by omega
      have e3 : k + 1 + q - (k + 1) = q := by omega
      have e4 : ¬ (k + 1 + q < k) := by omega
      have e5 : k ≠ k + 1 + q := by omega
      simp only [e1, if_false, e2, e3, e4]
      rw [Nat.testBit_succ]
      have : (2 * m + 1) / 2 = m := by omega
      rw [this]
      simp
      intro _; omega
end Go.W

/- 'later' of the tree layer, as a function on numbers: the neighbors of a vertex once a set of vertices is gone. -/
namespace Go.Tree
open Go.W

/-- A graph on at most 14 vertices: the neighbors of each, as a set. -/
structure Gr (g : List Nat) : Prop where
  len : g.length ≤ 14
  lt : ∀ u, g.getD u 0 < 2 ^ g.length

abbrev LS := Nat × Nat × Nat
def latStep (g : List Nat) (gone : Nat) (s : LS) : LS :=
  let u := tz s.2.2
  let l := s.2.2 &&& (s.2.2 - 1)
  let fresh := bd (g.getD u 0) s.1
  (s.1 ||| fresh, s.2.1 ||| bd fresh gone, l ||| (fresh &&& gone))
def latL (g : List Nat) (gone : Nat) : Nat → LS → LS
  | 0, s => s
  | k + 1, s => if s.2.2 = 0 then s else latL g gone k (latStep g gone s)
def lat (g : List Nat) (gone v : Nat) : Nat := (latL g gone 16 (2 ^ v, 0, 2 ^ v)).2.1

/-- What is left to be seen, and the list. -/
def latM (n : Nat) (s : LS) : Nat := card (bd (2 ^ n - 1) s.1) + card s.2.2
structure LInv (n : Nat) (s : LS) : Prop where
  seen : s.1 < 2 ^ n
  out : s.2.1 < 2 ^ n
  list : s.2.2 < 2 ^ n
section
variable {g : List Nat} {gone : Nat} {s : LS}
theorem lt_pow16 {x n : Nat} (hn : n ≤ 14) (h : x < 2 ^ n) : x < 16384 := Nat.lt_of_lt_of_le h (Nat.le_trans (Nat.pow_le_pow_right (by decide) hn) (by decide))
theorem tz_lt {n x : Nat} (hn : n ≤ 14) (h : x < 2 ^ n) (h0 : x ≠ 0) : tz x < n := lt_of_testBit h (tz_spec h0 (by have := lt_pow16 hn h; omega)).1
theorem latStep_inv (hg : Gr g) (h : LInv g.length s) (_h0 : s.2.2 ≠ 0) : LInv g.length (latStep g gone s) :=
  ⟨or_lt h.seen (bd_lt (hg.lt _)), or_lt h.out (bd_lt (bd_lt (hg.lt _))), or_lt (and_lt h.list) (and_lt (bd_lt (hg.lt _)))⟩
theorem latStep_lt (hg : Gr g) (h : LInv g.length s) (h0 : s.2.2 ≠ 0) : latM g.length (latStep g gone s) < latM g.length s := by
  obtain ⟨seen, out, list⟩ := s
  have hl := lt_pow16 hg.len h.list
  obtain ⟨t1, _, t3⟩ := tz_spec h0 (by simp only at hl ⊢; omega)
  simp only [latM, latStep] at *
  generalize hf : bd (g.getD (tz list) 0) seen = fresh
  have hfl : fresh < 2 ^ g.length := by rw [← hf]; exact bd_lt (hg.lt _)
  have e1 : bd (2 ^ g.length - 1) (seen ||| fresh) = bd (bd (2 ^ g.length - 1) seen) fresh := by
    apply Nat.eq_of_testBit_eq; intro i
    simp only [testBit_bd, Nat.testBit_or]
    cases (2 ^ g.length - 1).testBit i <;> cases seen.testBit i <;> cases fresh.testBit i <;> rfl
  have c1 : card (bd (bd (2 ^ g.length - 1) seen) fresh) + card fresh = card (bd (2 ^ g.length - 1) seen) := by
    apply card_bd
    intro i hi
    rw [testBit_bd, Nat.testBit_two_pow_sub_one]
    have h1 := lt_of_testBit hfl hi
    rw [← hf, testBit_bd] at hi
    simp only [Bool.and_eq_true, Bool.not_eq_true'] at hi
    simp [h1, hi.2]
  have htz : tz list < 16 := by have := lt_of_testBit h.list t1; have h14 := hg.len; omega
  have c2 : card (bd list (2 ^ tz list)) + card (2 ^ tz list) = card list := by
    apply card_bd
    intro i hi
    rw [Nat.testBit_two_pow] at hi
    have : tz list = i := by simpa using hi
    rw [← this]; exact t1
  rw [card_pow htz] at c2
  have c3 := card_le_or (list &&& (list - 1)) (fresh &&& gone)
  have c4 : card (fresh &&& gone) ≤ card fresh := card_mono (fun i hi => by rw [Nat.testBit_and] at hi; simp at hi; exact hi.1)
  rw [t3] at c3 ⊢
  rw [e1]
  omega
theorem latM_init {v : Nat} (hn : g.length ≤ 14) (hv : v < g.length) : latM g.length (2 ^ v, 0, 2 ^ v) ≤ 14 := by
  have h1 := card_bd (a := 2 ^ g.length - 1) (b := 2 ^ v) (fun i hi => by
    rw [Nat.testBit_two_pow] at hi
    have : v = i := by simpa using hi
    rw [Nat.testBit_two_pow_sub_one]; simp; omega)
  rw [card_full (by omega), card_pow (by omega)] at h1
  simp only [latM, card_pow (show v < 16 by omega)]
  omega
theorem linv_init {v : Nat} (hv : v < g.length) : LInv g.length (2 ^ v, 0, 2 ^ v) :=
  ⟨Nat.pow_lt_pow_right (by decide) hv, Nat.two_pow_pos _, Nat.pow_lt_pow_right (by decide) hv⟩
theorem latL_inv (hg : Gr g) : ∀ (k : Nat) (s : LS), LInv g.length s → LInv g.length (latL g gone k s) := by
  intro k
  induction k with
  | zero => intro s h; exact h
  | succ k ih =>
    intro s h
    unfold latL
    split
    · exact h
    · rename_i h0; exact ih _ (latStep_inv hg h h0)
theorem lat_lt (hg : Gr g) {v : Nat} (hv : v < g.length) : lat g gone v < 2 ^ g.length := (latL_inv hg 16 _ (linv_init hv)).out
end
end Go.Tree

/- The graph that a list of edges makes. -/
namespace Go.Tree
open Go.W

abbrev Ed := Int × Int
def Bad (n : Nat) (g : List Nat) (e : Ed) : Prop := e.1 < 0 ∨ (n : Int) ≤ e.1 ∨ e.2 < 0 ∨ (n : Int) ≤ e.2 ∨ e.1 = e.2 ∨ (g.getD e.1.toNat 0).testBit e.2.toNat = true
instance (n : Nat) (g : List Nat) (e : Ed) : Decidable (Bad n g e) := by unfold Bad; infer_instance
/-- One edge more. -/
def put1 (g : List Nat) (u v : Nat) : List Nat := g.set u (g.getD u 0 ||| 2 ^ v)
def addE (n : Nat) (g : List Nat) (e : Ed) : Option (List Nat) := if Bad n g e then none else some (put1 (put1 g e.1.toNat e.2.toNat) e.2.toNat e.1.toNat)
def addEs (n : Nat) : List Nat → List Ed → Option (List Nat)
  | g, [] => some g
  | g, e :: r => match addE n g e with
    | none => none
    | some g' => addEs n g' r
def mkG (n : Int) (es : List Ed) : Option (List Nat) := if n < 0 ∨ 14 < n ∨ 100 < es.length then none else addEs n.toNat (List.replicate n.toNat 0) es

theorem put1_len (g : List Nat) (u v : Nat) : (put1 g u v).length = g.length := by simp [put1]
theorem put1_getD (g : List Nat) (u v i : Nat) (hu : u < g.length) : (put1 g u v).getD i 0 = if i = u then g.getD u 0 ||| 2 ^ v else g.getD i 0 := by
  unfold put1
  by_cases h : i = u
  · subst h
    simp [hu]
  · simp [h, List.getElem?_set_ne (Ne.symm h)]
theorem put1_gr {g : List Nat} {u v : Nat} (hg : Gr g) (hu : u < g.length) (hv : v < g.length) : Gr (put1 g u v) := by
  refine ⟨by rw [put1_len]; exact hg.len, fun i => ?_⟩
  rw [put1_getD g u v i hu, put1_len]
  split
  · exact or_lt (hg.lt _) (Nat.pow_lt_pow_right (by decide) hv)
  · exact hg.lt _
theorem addE_gr {n : Nat} {g g' : List Nat} {e : Ed} (hg : Gr g) (hn : g.length = n) (h : addE n g e = some g') : Gr g' ∧ g'.length = n := by
  unfold addE at h
  split at h
  · cases h
  · rename_i hb
    unfold Bad at hb
    simp only [Option.some.injEq] at h
    subst h
    have h1 : e.1.toNat < g.length := by omega
    have h2 : e.2.toNat < g.length := by omega
    exact ⟨put1_gr (put1_gr hg h1 h2) (by rw [put1_len]; exact h2) (by rw [put1_len]; exact h1), by rw [put1_len, put1_len]; exact hn⟩
theorem addEs_gr {n : Nat} : ∀ (es : List Ed) (g g' : List Nat), Gr g → g.length = n → addEs n g es = some g' → Gr g' ∧ g'.length = n := by
  intro es
  induction es with
  | nil => intro g g' hg hn h; simp only [addEs, Option.some.injEq] at h; subst h; exact ⟨hg, hn⟩
  | cons e r ih =>
    intro g g' hg hn h
    simp only [addEs] at h
    cases ha : addE n g e with
    | none => rw [ha] at h; cases h
    | some g1 =>
      rw [ha] at h
      obtain ⟨h1, h2⟩ := addE_gr hg hn ha
      exact ih g1 g' h1 h2 h
theorem zero_gr {n : Nat} (hn : n ≤ 14) : Gr (List.replicate n 0) := by
  refine ⟨by simpa using hn, fun u => ?_⟩
  have : (List.replicate n 0).getD u 0 = 0 := by
    by_cases h : u < n
    · simp [h]
    · simp [h]
  rw [this]; exact Nat.two_pow_pos _
theorem mkG_gr {n : Int} {es : List Ed} {g : List Nat} (h : mkG n es = some g) : Gr g ∧ g.length = n.toNat ∧ 0 ≤ n ∧ n ≤ 14 ∧ es.length ≤ 100 := by
  unfold mkG at h
  split at h
  · cases h
  · rename_i hb
    obtain ⟨h1, h2⟩ := addEs_gr es _ g (zero_gr (by omega)) (by simp) h
    exact ⟨h1, h2, by omega, by omega, by omega⟩

/-- The cells of a list of edges. -/
def pr (e : Ed) : List Value := [.int .i64 e.1, .int .i64 e.2]
def prs (es : List Ed) : List Value := es.flatMap pr
theorem prs_len (es : List Ed) : (prs es).length = es.length * 2 := by
  induction es with
  | nil => rfl
  | cons e r ih => simp only [prs, List.flatMap_cons, List.length_append, List.length_cons] at *; rw [ih]; simp [pr]; omega
theorem prs_at : ∀ (es : List Ed) (j : Nat) (h : j < es.length) (q : Nat) (u : Value), (pr es[j])[q]? = some u → (prs es)[j * 2 + q]? = some u := by
  intro es
  induction es with
  | nil => intro j h; simp at h
  | cons e r ih =>
    intro j h q u hq
    simp only [prs, List.flatMap_cons]
    cases j with
    | zero =>
      have hq2 : q < 2 := by
        have := (List.getElem?_eq_some_iff.1 hq).1
        simpa [pr] using this
      rw [List.getElem?_append_left (by simp [pr]; omega)]
      simpa using hq
    | succ j =>
      rw [List.getElem?_append_right (by simp [pr]; omega)]
      have := ih j (by simpa using h) q u (by simpa using hq)
      simp only [prs] at this
      rw [← this]
      congr 1
      simp [pr]; omega
end Go.Tree

/- The elements of a set in their order. -/
namespace Go.Tree
open Go.W

def els (s : Nat) : List Nat := (List.range 16).filter fun i => s.testBit i
theorem mem_els {s i : Nat} : i ∈ els s ↔ i < 16 ∧ s.testBit i = true := by simp [els]
theorem els_zero : els 0 = [] := by decide
theorem els_sorted (s : Nat) : (els s).Pairwise (· < ·) := List.Pairwise.filter _ List.pairwise_lt_range
theorem els_len (s : Nat) : (els s).length = card s := by simp [els, card, List.countP_eq_length_filter]
theorem range_split {t n : Nat} (h : t < n) : List.range n = List.range t ++ t :: List.range' (t + 1) (n - t - 1) := by
  apply List.ext_getElem?
  intro i
  rcases Nat.lt_trichotomy i t with h1 | h1 | h1
  · rw [List.getElem?_append_left (by simpa using h1)]
    simp [h1, Nat.lt_trans h1 h]
  · subst h1
    rw [List.getElem?_append_right (by simp)]
    simp [h]
  · rw [List.getElem?_append_right (by simp; omega)]
    obtain ⟨k, rfl⟩ : ∃ k, i = t + 1 + k := ⟨i - t - 1, by omega⟩
    have : t + 1 + k - (List.range t).length = k + 1 := by simp; omega
    rw [this, List.getElem?_cons_succ]
    by_cases hk : t + 1 + k < n
    · rw [List.getElem?_range hk, List.getElem?_range' (by omega)]
      simp
    · rw [List.getElem?_eq_none (by simp; omega), List.getElem?_eq_none (by simp; omega)]
theorem els_step {s : Nat} (h0 : s ≠ 0) (h : s < 65536) : els s = tz s :: els (s &&& (s - 1)) := by
  obtain ⟨h1, h2, h3⟩ := tz_spec h0 (by omega)
  have ht : tz s < 16 := lt_of_testBit (n := 16) h h1
  have hb : ∀ i, (s &&& (s - 1)).testBit i = (s.testBit i && !(decide (tz s = i))) := by
    intro i
    rw [h3, testBit_bd, Nat.testBit_two_pow]
  unfold els
  rw [range_split ht, List.filter_append, List.filter_append, List.filter_cons, List.filter_cons, if_pos h1, if_neg (by rw [hb]; simp)]
  have e1 : ∀ p : Nat → Bool, (∀ i, i < tz s → p i = false) → (List.range (tz s)).filter p = [] := by
    intro p hp
    rw [List.filter_eq_nil_iff]
    intro i hi
    rw [hp i (by simpa using hi)]; simp
  rw [e1 _ h2, e1 _ (fun i hi => by rw [hb, h2 i hi]; rfl), List.nil_append, List.nil_append]
  congr 1
  apply List.filter_congr
  intro i hi
  rw [List.mem_range'_1] at hi
  rw [hb]
  have : tz s ≠ i := by omega
  simp [this]
theorem and_pred_lt {s n : Nat} (h : s < n) : s &&& (s - 1) < n := Nat.lt_of_le_of_lt Nat.and_le_left h
end Go.Tree

/- The widths by sets. -/
namespace Go.Tree
open Go.W

def full (n : Nat) : Nat := 2 ^ n - 1
def wdStep (g : List Nat) (S : Nat) (f : Nat → Int) (b : Int) (v : Nat) : Int := min b (max (pc (lat g S v) : Int) (f (S ||| 2 ^ v)))
def wdF (g : List Nat) : Nat → Nat → Int
  | 0, _ => -1
  | k + 1, S => if S = full g.length then -1 else (els (bd (full g.length) S)).foldl (wdStep g S (wdF g k)) g.length
def wd (g : List Nat) (S : Nat) : Int := wdF g 15 S

theorem foldl_cong {α β : Type} (f h : β → α → β) : ∀ (l : List α) (b : β), (∀ a ∈ l, ∀ b, f b a = h b a) → l.foldl f b = l.foldl h b := by
  intro l
  induction l with
  | nil => intro b _; rfl
  | cons a l ih =>
    intro b hl
    rw [List.foldl_cons, List.foldl_cons, hl a (by simp)]
    exact ih _ fun a' ha' => hl a' (by simp [ha'])

theorem full_testBit (n i : Nat) : (full n).testBit i = decide (i < n) := by simp [full]
theorem full_lt (n : Nat) : full n < 2 ^ n := by
  have := Nat.two_pow_pos n
  unfold full; omega
theorem mem_compl {n S v : Nat} (hn : n ≤ 14) : v ∈ els (bd (full n) S) ↔ v < n ∧ S.testBit v = false := by
  rw [mem_els, testBit_bd, full_testBit]
  simp
  omega
theorem or_pow_lt {n S v : Nat} (hS : S < 2 ^ n) (hv : v < n) : S ||| 2 ^ v < 2 ^ n := Nat.or_lt_two_pow hS (Nat.pow_lt_pow_right (by decide) hv)
theorem card_more {n S v : Nat} (hn : n ≤ 14) (hv : v < n) (hS : S.testBit v = false) : card (bd (full n) (S ||| 2 ^ v)) + 1 = card (bd (full n) S) := by
  have e : bd (full n) S = bd (full n) (S ||| 2 ^ v) ||| 2 ^ v := by
    apply Nat.eq_of_testBit_eq
    intro i
    rw [Nat.testBit_or, testBit_bd, testBit_bd, Nat.testBit_or, Nat.testBit_two_pow, full_testBit]
    by_cases h : v = i
    · subst h; simp [hv, hS]
    · simp [h]
  have d : bd (full n) (S ||| 2 ^ v) &&& 2 ^ v = 0 := by
    apply Nat.eq_of_testBit_eq
    intro i
    rw [Nat.testBit_and, testBit_bd, Nat.testBit_or, Nat.testBit_two_pow]
    by_cases h : v = i <;> simp [h]
  have h1 := card_or d
  rw [← e, card_pow (by omega)] at h1
  exact h1.symm
theorem wdF_fuel {g : List Nat} (hn : g.length ≤ 14) : ∀ (k k' S : Nat), card (bd (full g.length) S) < k → card (bd (full g.length) S) < k' → wdF g k S = wdF g k' S := by
  intro k
  induction k with
  | zero => intro k' S h; omega
  | succ k ih =>
    intro k' S h h'
    cases k' with
    | zero => omega
    | succ k' =>
      simp only [wdF]
      split
      · rfl
      · refine foldl_cong _ _ _ _ fun v hv b => ?_
        obtain ⟨h1, h2⟩ := (mem_compl hn).1 hv
        have := card_more hn h1 h2
        unfold wdStep
        rw [ih k' _ (by omega) (by omega)]
theorem card_compl_le {n S : Nat} (hn : n ≤ 14) : card (bd (full n) S) ≤ n := card_le (by omega) (Nat.lt_of_le_of_lt (bd_le _ _) (full_lt n))
theorem wd_full (g : List Nat) : wd g (full g.length) = -1 := by simp [wd, wdF]
theorem wd_eq {g : List Nat} (hn : g.length ≤ 14) {S : Nat} (hS : S ≠ full g.length) : wd g S = (els (bd (full g.length) S)).foldl (wdStep g S (wd g)) g.length := by
  have h1 : wd g S = wdF g 16 S := wdF_fuel hn _ _ _ (by have := card_compl_le (n := g.length) (S := S) hn; omega) (by have := card_compl_le (n := g.length) (S := S) hn; omega)
  rw [h1, wdF, if_neg hS]
  rfl

def zs (xs : List Int) : List Value := xs.map fun (x : Int) => Value.int .i64 x
theorem zs_len (xs : List Int) : (zs xs).length = xs.length := by simp [zs]
theorem zs_set (xs : List Int) (i : Nat) (x : Int) : (zs xs).toArray.setIfInBounds i (.int .i64 x) = (zs (xs.set i x)).toArray := by
  rw [← Array.toList_inj]; simp [zs, List.map_set]
/-- The array of widths where the sets from k on are done. -/
def wdRow (g : List Nat) (k : Nat) : List Int := (List.range (2 ^ g.length)).map fun S => if k ≤ S then wd g S else 0
theorem wdRow_len (g : List Nat) (k : Nat) : (wdRow g k).length = 2 ^ g.length := by simp [wdRow]
theorem wdRow_at {g : List Nat} {k S : Nat} (hS : S < 2 ^ g.length) (hk : k ≤ S) : (zs (wdRow g k))[S]? = some (.int .i64 (wd g S)) := by
  simp [zs, wdRow, hS, hk]
theorem wdRow_start (g : List Nat) : ((List.replicate (2 ^ g.length) 0).set (full g.length) (-1) : List Int) = wdRow g (full g.length) := by
  have hp := Nat.two_pow_pos g.length
  apply List.ext_getElem?
  intro i
  by_cases h : i < 2 ^ g.length
  · by_cases h1 : i = full g.length
    · subst h1
      rw [List.getElem?_set_self (by simpa using h)]
      simp [wdRow, h, wd_full]
    · rw [List.getElem?_set_ne (Ne.symm h1)]
      have : ¬ full g.length ≤ i := by unfold full at *; omega
      simp [wdRow, h, this]
  · rw [List.getElem?_eq_none (by simp; omega), List.getElem?_eq_none (by simp [wdRow]; omega)]
theorem wdRow_next {g : List Nat} {k : Nat} (hk : k < 2 ^ g.length) : (wdRow g (k + 1)).set k (wd g k) = wdRow g k := by
  apply List.ext_getElem?
  intro i
  by_cases h : i < 2 ^ g.length
  · by_cases h1 : i = k
    · subst h1
      rw [List.getElem?_set_self (by rw [wdRow_len]; exact h)]
      simp [wdRow, h]
    · rw [List.getElem?_set_ne (Ne.symm h1)]
      simp only [wdRow, List.getElem?_map, List.getElem?_range h, Option.map_some, Option.some.injEq]
      by_cases h2 : k + 1 ≤ i
      · rw [if_pos h2, if_pos (by omega)]
      · rw [if_neg h2, if_neg (by omega)]
  · rw [List.getElem?_eq_none (by simp [wdRow]; omega), List.getElem?_eq_none (by simp [wdRow]; omega)]
end Go.Tree

/- The least order of the least width. -/
namespace Go.Tree
open Go.W

def fine (g : List Nat) (S v : Nat) : Bool := !S.testBit v && (decide ((pc (lat g S v) : Int) ≤ wd g 0) && decide (wd g (S ||| 2 ^ v) ≤ wd g 0))
def bestF (g : List Nat) : Nat → Nat → List Nat
  | 0, _ => []
  | k + 1, S => match (List.range g.length).find? (fine g S) with
    | some v => v :: bestF g k (S ||| 2 ^ v)
    | none => []
def bestO (g : List Nat) : List Nat := bestF g g.length 0

theorem foldl_min (f : Nat → Int) : ∀ (l : List Nat) (b : Int), l.foldl (fun b v => min b (f v)) b ≤ b ∧ (∀ v ∈ l, l.foldl (fun b v => min b (f v)) b ≤ f v) ∧ (l.foldl (fun b v => min b (f v)) b = b ∨ ∃ v ∈ l, l.foldl (fun b v => min b (f v)) b = f v) := by
  intro l
  induction l with
  | nil => intro b; exact ⟨Int.le_refl _, fun v hv => (by cases hv), .inl rfl⟩
  | cons a l ih =>
    intro b
    obtain ⟨h1, h2, h3⟩ := ih (min b (f a))
    refine ⟨by rw [List.foldl_cons]; omega, ?_, ?_⟩
    · intro v hv
      rw [List.foldl_cons]
      rcases List.mem_cons.1 hv with rfl | hv
      · omega
      · exact h2 v hv
    · rw [List.foldl_cons]
      rcases h3 with h3 | ⟨v, hv, h3⟩
      · by_cases h : b ≤ f a
        · left; omega
        · right; exact ⟨a, by simp, by omega⟩
      · exact .inr ⟨v, by simp [hv], h3⟩

theorem wd_le {g : List Nat} (hn : g.length ≤ 14) (S : Nat) : wd g S ≤ g.length := by
  by_cases h : S = full g.length
  · rw [h, wd_full]; omega
  · rw [wd_eq hn h]
    exact (foldl_min (fun v => max (pc (lat g S v) : Int) (wd g (S ||| 2 ^ v))) _ _).1
theorem wd_step_le {g : List Nat} (hn : g.length ≤ 14) {S v : Nat} (hv : v < g.length) (hS : S.testBit v = false) : wd g S ≤ max (pc (lat g S v) : Int) (wd g (S ||| 2 ^ v)) := by
  have h : S ≠ full g.length := by
    intro e
    rw [e, full_testBit] at hS
    simp [hv] at hS
  rw [wd_eq hn h]
  exact (foldl_min (fun v => max (pc (lat g S v) : Int) (wd g (S ||| 2 ^ v))) _ _).2.1 v ((mem_compl hn).2 ⟨hv, hS⟩)
theorem exists_out {n S : Nat} (hS : S < 2 ^ n) (h : S ≠ full n) : ∃ v, v < n ∧ S.testBit v = false := by
  by_cases hc : ∃ v, v < n ∧ S.testBit v = false
  · exact hc
  · exfalso
    apply h
    apply Nat.eq_of_testBit_eq
    intro i
    rw [full_testBit]
    by_cases hi : i < n
    · simp only [hi, decide_true]
      cases hb : S.testBit i with
      | true => rfl
      | false => exact absurd ⟨i, hi, hb⟩ hc
    · simp only [hi, decide_false]
      exact testBit_lt hS (by omega)
theorem exists_best {g : List Nat} (hg : Gr g) {S : Nat} {W : Int} (hS : S < 2 ^ g.length) (h : S ≠ full g.length) (hW : wd g S ≤ W) : ∃ v, v < g.length ∧ S.testBit v = false ∧ (pc (lat g S v) : Int) ≤ W ∧ wd g (S ||| 2 ^ v) ≤ W := by
  have hn := hg.len
  have h3 := (foldl_min (fun v => max (pc (lat g S v) : Int) (wd g (S ||| 2 ^ v))) (els (bd (full g.length) S)) g.length).2.2
  have h4 : wd g S = (els (bd (full g.length) S)).foldl (fun b v => min b (max (pc (lat g S v) : Int) (wd g (S ||| 2 ^ v)))) g.length := wd_eq hn h
  rw [← h4] at h3
  rcases h3 with h3 | ⟨v, hv, h3⟩
  · obtain ⟨v, hv, hSv⟩ := exists_out hS h
    refine ⟨v, hv, hSv, ?_, ?_⟩
    · have := lat_lt hg hv (gone := S)
      have := card_le (by omega) this
      rw [pc_card]; omega
    · have := wd_le hn (S ||| 2 ^ v); omega
  · obtain ⟨h5, h6⟩ := (mem_compl hn).1 hv
    exact ⟨v, h5, h6, by omega, by omega⟩
theorem fine_iff {g : List Nat} {S v : Nat} : fine g S v = true ↔ S.testBit v = false ∧ (pc (lat g S v) : Int) ≤ wd g 0 ∧ wd g (S ||| 2 ^ v) ≤ wd g 0 := by
  simp [fine]
theorem find_at {n v : Nat} {p : Nat → Bool} (hv : v < n) (hp : p v = true) (hlt : ∀ u, u < v → p u = false) : (List.range n).find? p = some v := by
  rw [range_split hv, List.find?_append]
  have h1 : (List.range v).find? p = none := by
    rw [List.find?_eq_none]
    intro u hu
    rw [hlt u (by simpa using hu)]; simp
  rw [h1, List.find?_cons, hp]
  rfl
theorem card_add {n S v : Nat} (hn : n ≤ 14) (_hS : S < 2 ^ n) (hv : v < n) (h : S.testBit v = false) : card (S ||| 2 ^ v) = card S + 1 := by
  have d : S &&& 2 ^ v = 0 := by
    apply Nat.eq_of_testBit_eq
    intro i
    rw [Nat.testBit_and, Nat.testBit_two_pow]
    by_cases h2 : v = i
    · subst h2; simp [h]
    · simp [h2]
  rw [card_or d, card_pow (by omega)]
theorem card_lt_of_ne {n S : Nat} (hn : n ≤ 14) (hS : S < 2 ^ n) (h : S ≠ full n) : card S < n := by
  obtain ⟨v, hv, hSv⟩ := exists_out hS h
  have h1 := card_add hn hS hv hSv
  have h2 := card_le (by omega) (or_pow_lt hS hv)
  omega
theorem bestF_len {g : List Nat} (hg : Gr g) : ∀ (k S : Nat), S < 2 ^ g.length → k + card S = g.length → wd g S ≤ wd g 0 → (bestF g k S).length = k := by
  intro k
  induction k with
  | zero => intro S _ _ _; rfl
  | succ k ih =>
    intro S hS hk hw
    have hne : S ≠ full g.length := by
      intro e
      have := card_full (n := g.length) (by have := hg.len; omega)
      rw [e] at hk
      unfold full at hk
      omega
    obtain ⟨v, hv, h1, h2, h3⟩ := exists_best hg hS hne hw
    have hf : fine g S v = true := fine_iff.2 ⟨h1, h2, h3⟩
    cases hx : (List.range g.length).find? (fine g S) with
    | none => rw [List.find?_eq_none] at hx; exact absurd hf (hx v (by simpa using hv))
    | some u =>
      simp only [bestF, hx, List.length_cons]
      have hu := List.find?_some hx
      have hul : u < g.length := by have := List.mem_of_find?_eq_some hx; simpa using this
      obtain ⟨h4, h5, h6⟩ := fine_iff.1 hu
      rw [ih _ (or_pow_lt hS hul) (by rw [card_add hg.len hS hul h4]; omega) h6]
theorem bestO_len {g : List Nat} (hg : Gr g) : (bestO g).length = g.length := bestF_len hg _ 0 (Nat.two_pow_pos _) (by rw [card_zero, Nat.add_zero]) (Int.le_refl _)
end Go.Tree

/- Sets of whose pairs something is true. -/
namespace Go.Tree
open Go.W

def pw (p : Nat → Nat → Bool) : List Nat → Bool
  | [] => true
  | a :: l => pw p l && l.all (p a)
def fr (p : Nat → Nat → Bool) (S : Nat) : Bool := pw p (els S)
theorem fr_zero (p : Nat → Nat → Bool) : fr p 0 = true := by simp [fr, els_zero, pw]
theorem fr_step (p : Nat → Nat → Bool) {S : Nat} (h0 : S ≠ 0) (h : S < 65536) : fr p S = (fr p (S &&& (S - 1)) && (els (S &&& (S - 1))).all (p (tz S))) := by
  simp [fr, els_step h0 h, pw]
theorem and_pred_lt' {s : Nat} (h0 : s ≠ 0) : s &&& (s - 1) < s := by
  have : s &&& (s - 1) ≤ s - 1 := Nat.and_le_right
  omega
def bls (xs : List Bool) : List Value := xs.map Value.bool
theorem bls_len (xs : List Bool) : (bls xs).length = xs.length := by simp [bls]
theorem bls_set (xs : List Bool) (i : Nat) (x : Bool) : (bls xs).toArray.setIfInBounds i (.bool x) = (bls (xs.set i x)).toArray := by
  rw [← Array.toList_inj]; simp [bls, List.map_set]
/-- The array where the sets below k are done. -/
def frRow (p : Nat → Nat → Bool) (n k : Nat) : List Bool := (List.range (2 ^ n)).map fun S => if S < k then fr p S else false
theorem frRow_len (p : Nat → Nat → Bool) (n k : Nat) : (frRow p n k).length = 2 ^ n := by simp [frRow]
theorem frRow_zero (p : Nat → Nat → Bool) (n : Nat) : List.replicate (2 ^ n) false = frRow p n 0 := by
  apply List.ext_getElem?
  intro i
  by_cases h : i < 2 ^ n
  · simp [frRow, h]
  · rw [List.getElem?_eq_none (by simp; omega), List.getElem?_eq_none (by simp [frRow]; omega)]
theorem frRow_at {p : Nat → Nat → Bool} {n k S : Nat} (hS : S < 2 ^ n) (hk : S < k) : (bls (frRow p n k))[S]? = some (.bool (fr p S)) := by
  simp [bls, frRow, hS, hk]
theorem frRow_next {p : Nat → Nat → Bool} {n k : Nat} (hk : k < 2 ^ n) : (frRow p n k).set k (fr p k) = frRow p n (k + 1) := by
  apply List.ext_getElem?
  intro i
  by_cases h : i < 2 ^ n
  · by_cases h1 : i = k
    · subst h1
      rw [List.getElem?_set_self (by rw [frRow_len]; exact h)]
      simp [frRow, h]
    · rw [List.getElem?_set_ne (Ne.symm h1)]
      simp only [frRow, List.getElem?_map, List.getElem?_range h, Option.map_some, Option.some.injEq]
      by_cases h2 : i < k
      · rw [if_pos h2, if_pos (by omega)]
      · rw [if_neg h2, if_neg (by omega)]
  · rw [List.getElem?_eq_none (by simp [frRow]; omega), List.getElem?_eq_none (by simp [frRow]; omega)]
end Go.Tree

/- Independent sets and cliques, as the program counts and compares them. -/
namespace Go.Tree
open Go.W

def nb (g : List Nat) (u v : Nat) : Bool := (g.getD u 0).testBit v
def apStep (p : Nat → Nat → Bool) (s : Nat × Nat) (S : Nat) : Nat × Nat := if fr p S then (s.1 + 1, max s.2 (pc S)) else s
def apR (p : Nat → Nat → Bool) (k : Nat) : Nat × Nat := (List.range k).foldl (apStep p) (0, 0)
theorem apR_succ (p : Nat → Nat → Bool) (k : Nat) : apR p (k + 1) = apStep p (apR p k) k := by
  simp [apR, List.range_succ]
theorem apR_le (p : Nat → Nat → Bool) (k : Nat) : (apR p k).1 ≤ k := by
  induction k with
  | zero => simp [apR]
  | succ k ih =>
    rw [apR_succ, apStep]
    split
    · show (apR p k).1 + 1 ≤ k + 1; omega
    · omega
def cmpL : List Nat → List Nat → Int
  | [], [] => 0
  | [], _ :: _ => -1
  | _ :: _, [] => 1
  | a :: xs, b :: ys => if a < b then -1 else if b < a then 1 else cmpL xs ys
def clStep (p : Nat → Nat → Bool) (best : List Nat) (S : Nat) : List Nat :=
  if fr p S then (if best.length < (els S).length ∨ (els S).length = best.length ∧ cmpL (els S) best < 0 then els S else best) else best
def clR (p : Nat → Nat → Bool) (k : Nat) : List Nat := (List.range k).foldl (clStep p) []
theorem clR_succ (p : Nat → Nat → Bool) (k : Nat) : clR p (k + 1) = clStep p (clR p k) k := by
  simp [clR, List.range_succ]
end Go.Tree

/- The numbers of ways to part a set into independent classes, as the program adds them up. -/
namespace Go.Tree
open Go.W

theorem neg_and {S : Nat} (h0 : S ≠ 0) (h : S < 16384) : bits .and .i64 (S : Int) (IntKind.i64.wrap (0 - (S : Int))) = ((2 ^ tz S : Nat) : Int) := by
  obtain ⟨hlow, _⟩ := Lib.lowest_bit 64 S h0 (by omega)
  have hw : IntKind.i64.wrap (0 - (S : Int)) = -(S : Int) := by rw [IntKind.wrap_i64]; omega
  have e1 : (BitVec.ofInt 64 (-(S : Int))).toNat = 18446744073709551616 - S := by
    rw [BitVec.toNat_ofInt]
    have : (-(S : Int)) % ((2 ^ 64 : Nat) : Int) = ((18446744073709551616 - S : Nat) : Int) := by omega
    rw [this]; simp
  have e2 : (BitVec.ofNat 64 S).toNat = S := by rw [BitVec.toNat_ofNat]; exact Nat.mod_eq_of_lt (by omega)
  rw [hw]
  simp only [bits, BitVec.ofInt_natCast]
  show IntKind.i64.wrap ((BitVec.ofNat 64 S &&& BitVec.ofInt 64 (-(S : Int))).toNat : Int) = _
  rw [BitVec.toNat_and, e1, e2]
  have hl2 : S &&& (18446744073709551616 - S) = 2 ^ tz S := hlow
  rw [hl2]
  have : 2 ^ tz S ≤ S := by rw [← hl2]; exact Nat.and_le_left
  exact wrap_i64_in (by omega) (by omega)

def parts (R : Nat) : Nat → Nat → List Nat
  | 0, _ => []
  | m + 1, p => p :: (if p = 0 then [] else parts R m ((p - 1) &&& R))
theorem parts_fuel (R : Nat) : ∀ (m m' p : Nat), p < m → p < m' → parts R m p = parts R m' p := by
  intro m
  induction m with
  | zero => intro m' p h; omega
  | succ m ih =>
    intro m' p h h'
    cases m' with
    | zero => omega
    | succ m' =>
      simp only [parts]
      split
      · rfl
      · have : (p - 1) &&& R ≤ p - 1 := Nat.and_le_left
        rw [ih m' _ (by omega) (by omega)]
/-- The subsets of R, from p downwards. -/
def subsR (R p : Nat) : List Nat := parts R (p + 1) p
theorem subsR_zero (R : Nat) : subsR R 0 = [0] := rfl
theorem subsR_step {R p : Nat} (h : p ≠ 0) : subsR R p = p :: subsR R ((p - 1) &&& R) := by
  have : (p - 1) &&& R ≤ p - 1 := Nat.and_le_left
  rw [subsR, parts, if_neg h]
  congr 1
  exact parts_fuel R _ _ _ (by omega) (by omega)

def zero15 : List Int := List.replicate 15 0
def one15 : List Int := 1 :: List.replicate 14 0
def addAt (out : List Int) (k : Nat) (x : Int) : List Int := out.set k (IntKind.i64.wrap (out.getD k 0 + x))
def addStep (c o : List Int) (k : Nat) : List Int := if 0 < c.getD k 0 then addAt o (k + 1) (c.getD k 0) else o
def addP (out c : List Int) (k : Nat) : List Int := (List.range k).foldl (addStep c) out
theorem addP_succ (out c : List Int) (k : Nat) : addP out c (k + 1) = addStep c (addP out c k) k := by simp [addP, List.range_succ]
theorem addStep_len (c o : List Int) (k : Nat) : (addStep c o k).length = o.length := by
  unfold addStep addAt; split <;> simp
theorem addP_len (out c : List Int) (k : Nat) : (addP out c k).length = out.length := by
  induction k with
  | zero => rfl
  | succ k ih => rw [addP_succ, addStep_len, ih]
def addC (out c : List Int) : List Int := addP out c 15

def low (S : Nat) : Nat := 2 ^ tz S
def rst (S : Nat) : Nat := bd S (low S)
def clStepF (free : Nat → Bool) (S : Nat) (f : Nat → List Int) (o : List Int) (part : Nat) : List Int := if free (part ||| low S) then addC o (f (bd (rst S) part)) else o
def clsF (free : Nat → Bool) : Nat → Nat → List Int
  | 0, _ => one15
  | k + 1, S => if S = 0 then one15 else (subsR (rst S) (rst S)).foldl (clStepF free S (clsF free k)) zero15
def cls (free : Nat → Bool) (S : Nat) : List Int := clsF free 15 S

theorem card_rst {S : Nat} (h0 : S ≠ 0) (h : S < 16384) : card (rst S) + 1 = card S := by
  obtain ⟨h1, _, _⟩ := tz_spec h0 (by omega)
  have ht : tz S < 14 := lt_of_testBit (n := 14) h h1
  have h2 := card_bd (a := S) (b := low S) (fun i hi => by
    unfold low at hi
    rw [Nat.testBit_two_pow] at hi
    have : tz S = i := by simpa using hi
    rw [← this]; exact h1)
  have h3 : card (low S) = 1 := card_pow (by omega)
  unfold rst; omega
theorem card_sub (R p : Nat) : card (bd R p) ≤ card R := card_mono fun i hi => by
  rw [testBit_bd] at hi
  simp at hi
  exact hi.1
theorem rst_lt {S : Nat} (h0 : S ≠ 0) (h : S < 16384) : rst S < S := by
  obtain ⟨_, _, h3⟩ := tz_spec h0 (by omega)
  have : S &&& (S - 1) ≤ S - 1 := Nat.and_le_right
  unfold rst low
  rw [← h3]; omega
theorem clsF_fuel {free : Nat → Bool} : ∀ (k k' S : Nat), S < 16384 → card S < k → card S < k' → clsF free k S = clsF free k' S := by
  intro k
  induction k with
  | zero => intro k' S _ h; omega
  | succ k ih =>
    intro k' S hS h h'
    cases k' with
    | zero => omega
    | succ k' =>
      simp only [clsF]
      split
      · rfl
      · rename_i h0
        refine foldl_cong _ _ _ _ fun part _ o => ?_
        have h1 := card_rst h0 hS
        have h2 := card_sub (rst S) part
        have h3 := rst_lt h0 hS
        have h4 := bd_le (rst S) part
        unfold clStepF
        rw [ih k' _ (by omega) (by omega) (by omega)]
theorem cls_zero (free : Nat → Bool) : cls free 0 = one15 := by simp [cls, clsF]
theorem cls_eq {free : Nat → Bool} {S : Nat} (h0 : S ≠ 0) (h : S < 16384) : cls free S = (subsR (rst S) (rst S)).foldl (clStepF free S (cls free)) zero15 := by
  have h1 : card S ≤ 14 := card_le (by decide) h
  have h2 : cls free S = clsF free 16 S := clsF_fuel _ _ _ h (by omega) (by omega)
  rw [h2, clsF, if_neg h0]
  rfl
theorem foldl_inv {α β : Type} (f : β → α → β) (I : β → Prop) : ∀ (l : List α) (b : β), I b → (∀ a ∈ l, ∀ b, I b → I (f b a)) → I (l.foldl f b) := by
  intro l
  induction l with
  | nil => intro b h _; exact h
  | cons a l ih =>
    intro b h hl
    exact ih _ (hl a (by simp) b h) fun a' ha' => hl a' (by simp [ha'])
theorem cls_len (free : Nat → Bool) (S : Nat) : (cls free S).length = 15 := by
  have : ∀ k S, (clsF free k S).length = 15 := by
    intro k
    induction k with
    | zero => intro S; rfl
    | succ k ih =>
      intro S
      simp only [clsF]
      split
      · rfl
      · refine foldl_inv _ (fun o : List Int => o.length = 15) _ _ rfl fun part _ o ho => ?_
        unfold clStepF
        split
        · rw [addC, addP_len]; exact ho
        · exact ho
  exact this _ _
def Supp (m : Nat) (o : List Int) : Prop := ∀ j, m < j → o.getD j 0 = 0
theorem supp_addP {m : Nat} {o c : List Int} (ho : Supp (m + 1) o) (hc : Supp m c) (k : Nat) : Supp (m + 1) (addP o c k) := by
  induction k with
  | zero => exact ho
  | succ k ih =>
    rw [addP_succ]
    unfold addStep
    split
    · rename_i h
      intro j hj
      have hk : k ≤ m := by
        rcases Nat.lt_or_ge m k with h1 | h1
        · rw [hc k h1] at h; omega
        · exact h1
      unfold addAt
      rw [List.getD_eq_getElem?_getD, List.getElem?_set_ne (by omega), ← List.getD_eq_getElem?_getD]
      exact ih j hj
    · exact ih
theorem cls_supp (free : Nat → Bool) : ∀ (k S : Nat), S < 16384 → card S < k → Supp (card S) (clsF free k S) := by
  intro k
  induction k with
  | zero => intro S _ h; omega
  | succ k ih =>
    intro S hS hk
    simp only [clsF]
    split
    · rename_i h0
      subst h0
      intro j hj
      rw [card_zero] at hj
      obtain ⟨j, rfl⟩ : ∃ i, j = i + 1 := ⟨j - 1, by omega⟩
      show (List.replicate 14 (0 : Int)).getD j 0 = 0
      rw [List.getD_eq_getElem?_getD, List.getElem?_replicate]
      split <;> rfl
    · rename_i h0
      have h1 := card_rst h0 hS
      rw [← h1]
      refine foldl_inv _ (fun o : List Int => Supp (card (rst S) + 1) o) _ _ ?_ fun part _ o ho => ?_
      · intro j _
        unfold zero15
        rw [List.getD_eq_getElem?_getD, List.getElem?_replicate]
        split <;> rfl
      · unfold clStepF
        split
        · have h2 := card_sub (rst S) part
          have h3 := rst_lt h0 hS
          have h4 := bd_le (rst S) part
          refine supp_addP ho (fun j hj => ih _ (by omega) (by omega) j (by omega)) 15
        · exact ho
theorem cls_top {free : Nat → Bool} {S : Nat} (hS : S < 16384) {j : Nat} (h : 0 < (cls free S).getD j 0) : j ≤ card S := by
  rcases Nat.lt_or_ge (card S) j with h1 | h1
  · have h2 : card S ≤ 14 := card_le (by decide) hS
    have := cls_supp free 15 S hS (by omega) j h1
    unfold cls at h
    omega
  · exact h1
end Go.Tree

/- The bags and links that the program makes out of an order. -/
namespace Go.Tree
open Go.W

def posA (ord : List Nat) (n k : Nat) : List Nat := (List.range k).foldl (fun a i => a.set (ord.getD i 0) i) (List.replicate n 0)
theorem posA_succ (ord : List Nat) (n k : Nat) : posA ord n (k + 1) = (posA ord n k).set (ord.getD k 0) k := by simp [posA, List.range_succ]
theorem posA_len (ord : List Nat) (n k : Nat) : (posA ord n k).length = n := by
  induction k with
  | zero => simp [posA]
  | succ k ih => rw [posA_succ, List.length_set, ih]
def nxt (ps : List Nat) (n i near : Nat) : Nat := if near = 0 then i + 1 else (els near).foldl (fun m u => min m (ps.getD u 0)) n
def dcB (g : List Nat) : List Nat → Nat → List (List Nat)
  | [], _ => []
  | v :: r, S => els (lat g S v ||| 2 ^ v) :: dcB g r (S ||| 2 ^ v)
def dcL (g ps : List Nat) : List Nat → Nat → Nat → List Ed
  | [], _, _ => []
  | v :: r, i, S => (if nxt ps g.length i (lat g S v) < g.length then [((i : Int), ((nxt ps g.length i (lat g S v) : Nat) : Int))] else []) ++ dcL g ps r (i + 1) (S ||| 2 ^ v)
/-- The bags and the links of a graph's decomposition. -/
def bagsOf (g : List Nat) : List (List Nat) := if g.length = 0 then [[]] else dcB g (bestO g) 0
def linksOf (g : List Nat) : List Ed := if g.length = 0 then [] else dcL g (posA (bestO g) g.length g.length) (bestO g) 0 0
theorem bestF_mem {g : List Nat} : ∀ (k S : Nat), ∀ v ∈ bestF g k S, v < g.length := by
  intro k
  induction k with
  | zero => intro S v hv; cases hv
  | succ k ih =>
    intro S v hv
    simp only [bestF] at hv
    cases hx : (List.range g.length).find? (fine g S) with
    | none => rw [hx] at hv; cases hv
    | some u =>
      rw [hx] at hv
      rcases List.mem_cons.1 hv with rfl | hv
      · have := List.mem_of_find?_eq_some hx; simpa using this
      · exact ih _ v hv
theorem bestO_lt {g : List Nat} {i : Nat} (h : i < (bestO g).length) : (bestO g).getD i 0 < g.length := by
  refine bestF_mem _ _ _ (?_ : (bestO g).getD i 0 ∈ bestO g)
  rw [List.getD_eq_getElem?_getD, List.getElem?_eq_getElem h]
  exact List.getElem_mem h
theorem posA_le (ord : List Nat) (n k : Nat) : ∀ i, (posA ord n k).getD i 0 ≤ k := by
  induction k with
  | zero =>
    intro i
    simp only [posA, List.range_zero, List.foldl_nil]
    rw [List.getD_eq_getElem?_getD, List.getElem?_replicate]
    split <;> simp
  | succ k ih =>
    intro i
    rw [posA_succ, List.getD_eq_getElem?_getD, List.getElem?_set]
    have := ih i
    rw [List.getD_eq_getElem?_getD] at this
    split
    · split
      · simp
      · simp
    · omega
end Go.Tree

/- The width of an order, as the program computes it. -/
namespace Go.Tree
open Go.W
def ordL (g : List Nat) : List Int → Nat → Int → Option Int
  | [], _, w => some w
  | v :: r, S, w => if v < 0 ∨ (g.length : Int) ≤ v ∨ S.testBit v.toNat = true then none else ordL g r (S ||| 2 ^ v.toNat) (max w (pc (lat g S v.toNat) : Nat))
end Go.Tree

/- Graphs, as the reference checks them. -/
namespace Go.Tree
open Go.W

theorem addEs_append {n : Nat} : ∀ (xs ys : List Ed) (g : List Nat), addEs n g (xs ++ ys) = (addEs n g xs).bind fun g' => addEs n g' ys := by
  intro xs
  induction xs with
  | nil => intro ys g; simp [addEs]
  | cons e xs ih =>
    intro ys g
    simp only [List.cons_append, addEs]
    cases addE n g e with
    | none => rfl
    | some g' => exact ih ys g'
def hasE (es : List Ed) (u v : Int) : Prop := ∃ e ∈ es, e = (u, v) ∨ e = (v, u)
theorem addEs_bits {n : Nat} (hn : n ≤ 14) : ∀ (es : List Ed) (g : List Nat), addEs n (List.replicate n 0) es = some g → ∀ u v : Nat, u < n → v < n → ((g.getD u 0).testBit v = true ↔ hasE es u v) := by
  have key : ∀ (es : List Ed) (g0 g : List Nat) (D : Nat → Nat → Prop), Gr g0 → g0.length = n → (∀ u v : Nat, u < n → v < n → ((g0.getD u 0).testBit v = true ↔ D u v)) → addEs n g0 es = some g →
      ∀ u v : Nat, u < n → v < n → ((g.getD u 0).testBit v = true ↔ (D u v ∨ hasE es u v)) := by
    intro es
    induction es with
    | nil =>
      intro g0 g D _ _ hD h u v hu hv
      simp only [addEs, Option.some.injEq] at h
      rw [← h, hD u v hu hv]
      constructor
      · exact .inl
      · rintro (h | ⟨e, he, _⟩)
        · exact h
        · cases he
    | cons e es ih =>
      intro g0 g D hg hl hD h u v hu hv
      simp only [addEs] at h
      cases ha : addE n g0 e with
      | none => rw [ha] at h; cases h
      | some g1 =>
        rw [ha] at h
        obtain ⟨hg1, hl1⟩ := addE_gr hg hl ha
        simp only [addE] at ha
        split at ha
        · cases ha
        · rename_i hbad
          simp only [Option.some.injEq] at ha
          obtain ⟨a, b⟩ := e
          unfold Bad at hbad
          simp only [not_or] at hbad
          obtain ⟨h1, h2, h3, h4, h5, h6⟩ := hbad
          obtain ⟨a, rfl⟩ := Int.eq_ofNat_of_zero_le (show 0 ≤ a by simpa using h1)
          obtain ⟨b, rfl⟩ := Int.eq_ofNat_of_zero_le (show 0 ≤ b by simpa using h3)
          have ha' : a < n := by simp at h2; omega
          have hb' : b < n := by simp at h4; omega
          have hab : a ≠ b := fun h => h5 (by rw [h])
          simp only [Int.toNat_natCast] at ha
          have := ih g1 g (fun u v => D u v ∨ (u = a ∧ v = b) ∨ (u = b ∧ v = a)) hg1 hl1 (fun u v hu hv => by
            rw [← ha, put1_getD _ _ _ _ (by rw [put1_len]; omega), put1_getD _ _ _ _ (by omega)]
            by_cases hub : u = b
            · subst hub
              have hua : ¬ u = a := fun h => hab h.symm
              rw [if_pos rfl, if_neg hua, Nat.testBit_or, Nat.testBit_two_pow, Bool.or_eq_true, hD u v hu hv]
              simp only [decide_eq_true_eq, hua, false_and, true_and, false_or]
              exact ⟨fun h => h.imp id Eq.symm, fun h => h.imp id Eq.symm⟩
            · rw [if_neg hub]
              by_cases hua : u = a
              · subst hua
                rw [put1_getD _ _ _ _ (by omega), if_pos rfl, Nat.testBit_or, Nat.testBit_two_pow, Bool.or_eq_true, hD u v hu hv]
                simp only [decide_eq_true_eq, hub, false_and, true_and, or_false]
                exact ⟨fun h => h.imp id Eq.symm, fun h => h.imp id Eq.symm⟩
              · rw [put1_getD _ _ _ _ (by omega), if_neg hua, hD u v hu hv]
                simp [hub, hua]) h u v hu hv
          rw [this]
          constructor
          · rintro ((h | ⟨rfl, rfl⟩ | ⟨rfl, rfl⟩) | ⟨e, he, h⟩)
            · exact .inl h
            · exact .inr ⟨_, List.mem_cons_self, .inl rfl⟩
            · exact .inr ⟨_, List.mem_cons_self, .inr rfl⟩
            · exact .inr ⟨e, List.mem_cons_of_mem _ he, h⟩
          · rintro (h | ⟨e, he, h⟩)
            · exact .inl (.inl h)
            · rcases List.mem_cons.1 he with rfl | he
              · rcases h with h | h
                · simp only [Prod.mk.injEq] at h
                  exact .inl (.inr (.inl ⟨by omega, by omega⟩))
                · simp only [Prod.mk.injEq] at h
                  exact .inl (.inr (.inr ⟨by omega, by omega⟩))
              · exact .inr ⟨e, he, h⟩
  intro es g h u v hu hv
  have := key es (List.replicate n 0) g (fun _ _ => False) (zero_gr hn) (by simp) (fun u v hu hv => by simp [List.getD_eq_getElem?_getD, List.getElem?_replicate]; split <;> simp) h u v hu hv
  rw [this]; simp
theorem take_bad {m i : Nat} {es : List Ed} {z g : List Nat} (h : addEs m z (es.take i) = some g) (hi : i < es.length) (hb : Bad m g es[i]) : addEs m z es = none := by
  have e : es = es.take i ++ es[i] :: es.drop (i + 1) := by rw [← List.drop_eq_getElem_cons hi, List.take_append_drop]
  rw [e, addEs_append, h, Option.bind_some, addEs, addE, if_pos hb]
theorem take_good {m i : Nat} {es : List Ed} {z g : List Nat} (h : addEs m z (es.take i) = some g) (hi : i < es.length) (hb : ¬ Bad m g es[i]) :
    addEs m z (es.take (i + 1)) = some (put1 (put1 g (es[i]).1.toNat (es[i]).2.toNat) (es[i]).2.toNat (es[i]).1.toNat) := by
  rw [List.take_succ_eq_append_getElem hi, addEs_append, h, Option.bind_some, addEs, addE, if_neg hb]
  rfl
end Go.Tree

/- The later neighbors are those that are reached through the set. -/
namespace Go.Tree
open Go.W

inductive Rch (g : List Nat) (S v : Nat) : Nat → Prop
  | base : Rch g S v v
  | step {u x : Nat} : Rch g S v u → (u = v ∨ S.testBit u = true) → (g.getD u 0).testBit x = true → Rch g S v x

structure LJ (g : List Nat) (S v : Nat) (s : LS) : Prop where
  sound : ∀ x, s.1.testBit x = true → Rch g S v x
  start : s.1.testBit v = true
  out : ∀ x, s.2.1.testBit x = true ↔ (s.1.testBit x = true ∧ x ≠ v ∧ S.testBit x = false)
  list : ∀ x, s.2.2.testBit x = true → s.1.testBit x = true ∧ (x = v ∨ S.testBit x = true)
  close : ∀ u, s.1.testBit u = true → (u = v ∨ S.testBit u = true) → s.2.2.testBit u = true ∨ ∀ x, (g.getD u 0).testBit x = true → s.1.testBit x = true

theorem closed_all {g : List Nat} {S v seen : Nat} (hv : seen.testBit v = true) (hc : ∀ u, seen.testBit u = true → (u = v ∨ S.testBit u = true) → ∀ x, (g.getD u 0).testBit x = true → seen.testBit x = true) : ∀ x, Rch g S v x → seen.testBit x = true := by
  intro x hx
  induction hx with
  | base => exact hv
  | step _ h2 h3 ih => exact hc _ ih h2 _ h3

theorem LJ.next {g : List Nat} {S v : Nat} {s : LS} (h : LJ g S v s) (h0 : s.2.2 ≠ 0) (hb : s.2.2 < 16384) : LJ g S v (latStep g S s) := by
  obtain ⟨seen, out, list⟩ := s
  simp only at h0 hb
  obtain ⟨t1, _, t3⟩ := tz_spec h0 (by omega)
  have hlu := h.list _ t1
  generalize hu : tz list = u at *
  have hst : latStep g S (seen, out, list) = (seen ||| bd (g.getD u 0) seen, out ||| bd (bd (g.getD u 0) seen) S, (list &&& (list - 1)) ||| (bd (g.getD u 0) seen &&& S)) := by
    simp only [latStep, hu]
  rw [hst]
  have e1 := h.sound
  have e2 := h.out
  have e3 := h.list
  have e4 := h.close
  have e5 := h.start
  simp only at e1 e2 e3 e4 e5 hlu t1
  refine ⟨?_, ?_, ?_, ?_, ?_⟩
  · intro x hx
    simp only [Nat.testBit_or, testBit_bd, Bool.or_eq_true, Bool.and_eq_true] at hx
    rcases hx with hx | ⟨hx, _⟩
    · exact e1 x hx
    · exact .step (e1 u hlu.1) hlu.2 hx
  · simp only [Nat.testBit_or, e5, Bool.true_or]
  · intro x
    simp only [Nat.testBit_or, testBit_bd, Bool.or_eq_true, Bool.and_eq_true, Bool.not_eq_true', e2 x]
    constructor
    · rintro (⟨h1, h2, h3⟩ | ⟨⟨h1, h2⟩, h3⟩)
      · exact ⟨.inl h1, h2, h3⟩
      · exact ⟨.inr ⟨h1, h2⟩, (fun hx => by rw [hx, e5] at h2; cases h2), h3⟩
    · rintro ⟨h1 | h1, h2, h3⟩
      · exact .inl ⟨h1, h2, h3⟩
      · exact .inr ⟨h1, h3⟩
  · intro x hx
    simp only [Nat.testBit_or, testBit_bd, Bool.or_eq_true, Bool.and_eq_true, Nat.testBit_and, Bool.not_eq_true'] at hx ⊢
    rcases hx with hx | hx
    · obtain ⟨h1, h2⟩ := e3 x hx.1
      exact ⟨.inl h1, h2⟩
    · exact ⟨.inr hx.1, .inr hx.2⟩
  · intro y hy hyS
    simp only [Nat.testBit_or, testBit_bd, Bool.or_eq_true, Bool.and_eq_true, Nat.testBit_and, Bool.not_eq_true'] at hy ⊢
    have hl1 : ∀ z, z ≠ u → list.testBit z = true → (list &&& (list - 1)).testBit z = true := by
      intro z hz hzl
      rw [t3, testBit_bd, Nat.testBit_two_pow, hzl]
      have : ¬ u = z := fun h => hz h.symm
      simp [this]
    have full : (∀ x, (g.getD u 0).testBit x = true → seen.testBit x = true ∨ (g.getD u 0).testBit x = true ∧ seen.testBit x = false) := by
      intro x hx
      cases hs : seen.testBit x with
      | true => exact .inl rfl
      | false => exact .inr ⟨hx, rfl⟩
    by_cases hyu : y = u
    · subst hyu; exact .inr full
    · rcases hy with hy | hy
      · rcases e4 y hy hyS with h1 | h1
        · left; left
          have := hl1 y hyu h1
          rw [Nat.testBit_and, Bool.and_eq_true] at this
          exact this
        · exact .inr fun x hx => .inl (h1 x hx)
      · refine .inl (.inr ⟨hy, ?_⟩)
        rcases hyS with hyv | hyS
        · rw [hyv, e5] at hy; cases hy.2
        · exact hyS
theorem LJ.all {g : List Nat} (hg : Gr g) {S v : Nat} : ∀ (k : Nat) (s : LS), LInv g.length s → LJ g S v s → latM g.length s ≤ k → LJ g S v (latL g S k s) ∧ (latL g S k s).2.2 = 0 := by
  intro k
  induction k with
  | zero =>
    intro s hI hJ hk
    refine ⟨hJ, ?_⟩
    by_cases h0 : s.2.2 = 0
    · exact h0
    · have := latStep_lt (gone := S) hg hI h0
      omega
  | succ k ih =>
    intro s hI hJ hk
    rw [latL]
    split
    · rename_i h0; exact ⟨hJ, h0⟩
    · rename_i h0
      have hlt := latStep_lt (gone := S) hg hI h0
      exact ih _ (latStep_inv hg hI h0) (hJ.next h0 (lt_pow16 hg.len hI.list)) (by omega)
theorem LJ.init (g : List Nat) (S v : Nat) : LJ g S v (2 ^ v, 0, 2 ^ v) := by
  have hb : ∀ x, (2 ^ v).testBit x = true ↔ x = v := by intro x; rw [Nat.testBit_two_pow]; simp [eq_comm]
  refine ⟨fun x hx => ?_, (hb v).2 rfl, fun x => ?_, fun x hx => ⟨hx, .inl ((hb x).1 hx)⟩, fun u hu _ => .inl hu⟩
  · rw [(hb x).1 hx]; exact .base
  · simp only [Nat.zero_testBit, Bool.false_eq_true, false_iff]
    rintro ⟨h1, h2, _⟩
    exact h2 ((hb x).1 h1)
/-- The later neighbors of a vertex. -/
theorem lat_iff {g : List Nat} (hg : Gr g) {S v : Nat} (hv : v < g.length) (x : Nat) : (lat g S v).testBit x = true ↔ (Rch g S v x ∧ x ≠ v ∧ S.testBit x = false) := by
  obtain ⟨h1, h2⟩ := LJ.all hg (S := S) (v := v) 16 _ (linv_init hv) (LJ.init g S v) (by have := latM_init hg.len hv; omega)
  unfold lat
  rw [h1.out x]
  constructor
  · rintro ⟨h3, h4⟩; exact ⟨h1.sound x h3, h4⟩
  · rintro ⟨h3, h4⟩
    refine ⟨closed_all h1.start (fun u hu hus => ?_) x h3, h4⟩
    rcases h1.close u hu hus with h5 | h5
    · rw [h2] at h5; simp at h5
    · exact h5

/-- The state of the reference's search. -/
structure RJ (g : List Nat) (S v : Nat) (seen queue out : Nat) : Prop where
  sound : ∀ x, seen.testBit x = true ∨ queue.testBit x = true → Rch g S v x
  start : seen.testBit v = true
  out : out = card (bd (bd seen (2 ^ v)) S)
  close : ∀ u, seen.testBit u = true → (u = v ∨ S.testBit u = true) → ∀ x, (g.getD u 0).testBit x = true → seen.testBit x = true ∨ queue.testBit x = true
theorem RJ.final {g : List Nat} (hg : Gr g) {S v seen out : Nat} (hv : v < g.length) (h : RJ g S v seen 0 out) : out = pc (lat g S v) := by
  rw [pc_card, h.out]
  congr 1
  apply Nat.eq_of_testBit_eq
  intro x
  have h1 := lat_iff hg (S := S) hv x
  have h2 : seen.testBit x = true ↔ Rch g S v x := ⟨fun h3 => h.sound x (.inl h3), closed_all h.start (fun u hu hus y hy => (h.close u hu hus y hy).elim id (fun h => by simp at h)) x⟩
  rw [Bool.eq_iff_iff, h1, ← h2, testBit_bd, testBit_bd, Nat.testBit_two_pow]
  simp only [Bool.and_eq_true, Bool.not_eq_true', decide_eq_false_iff_not]
  constructor
  · rintro ⟨⟨h3, h4⟩, h5⟩; exact ⟨h3, fun h => h4 h.symm, h5⟩
  · rintro ⟨h3, h4, h5⟩; exact ⟨⟨h3, fun h => h4 h.symm⟩, h5⟩
theorem RJ.init (g : List Nat) (S v : Nat) : RJ g S v (2 ^ v) (g.getD v 0) 0 := by
  have hb : ∀ x, (2 ^ v).testBit x = true ↔ x = v := by intro x; rw [Nat.testBit_two_pow]; simp [eq_comm]
  refine ⟨fun x hx => ?_, (hb v).2 rfl, ?_, fun u hu _ x hx => ?_⟩
  · rcases hx with hx | hx
    · rw [(hb x).1 hx]; exact .base
    · exact .step .base (.inl rfl) hx
  · have : bd (2 ^ v) (2 ^ v) = 0 := by unfold bd; simp
    rw [this]; unfold bd; simp [card_zero]
  · rw [(hb u).1 hu] at hx; exact .inr hx
theorem RJ.skip {g : List Nat} {S v seen queue out u : Nat} (h : RJ g S v seen queue out) (hs : seen.testBit u = true) : RJ g S v seen (bd queue (2 ^ u)) out := by
  refine ⟨fun x hx => h.sound x ?_, h.start, h.out, fun y hy hyS x hx => ?_⟩
  · rcases hx with hx | hx
    · exact .inl hx
    · rw [testBit_bd] at hx; simp at hx; exact .inr hx.1
  · rcases h.close y hy hyS x hx with h1 | h1
    · exact .inl h1
    · by_cases hxu : x = u
      · subst hxu; exact .inl hs
      · refine .inr ?_
        rw [testBit_bd, h1, Nat.testBit_two_pow]
        have : ¬ u = x := fun h => hxu h.symm
        simp [this]
theorem RJ.take {g : List Nat} {S v seen queue out u : Nat} (h : RJ g S v seen queue out) (hq : queue.testBit u = true) (hs : seen.testBit u = false) (hu : u < 16) (hS : S.testBit u = false) :
    RJ g S v (seen ||| 2 ^ u) (bd queue (2 ^ u)) (out + 1) := by
  have hr := h.sound u (.inr hq)
  have huv : u ≠ v := fun e => by rw [e, h.start] at hs; cases hs
  have hb : ∀ x, (2 ^ u).testBit x = true ↔ x = u := by intro x; rw [Nat.testBit_two_pow]; simp [eq_comm]
  refine ⟨fun x hx => ?_, by rw [Nat.testBit_or, h.start, Bool.true_or], ?_, fun y hy hyS x hx => ?_⟩
  · rw [Nat.testBit_or, testBit_bd, Bool.or_eq_true, hb, Bool.and_eq_true] at hx
    rcases hx with (hx | hx) | hx
    · exact h.sound x (.inl hx)
    · rw [hx]; exact hr
    · exact h.sound x (.inr hx.1)
  · have e1 : bd (bd (seen ||| 2 ^ u) (2 ^ v)) S = bd (bd seen (2 ^ v)) S ||| 2 ^ u := by
      apply Nat.eq_of_testBit_eq
      intro x
      rw [testBit_bd, testBit_bd, Nat.testBit_or, Nat.testBit_or, testBit_bd, testBit_bd, Nat.testBit_two_pow, Nat.testBit_two_pow]
      by_cases hx : u = x
      · subst hx
        have : ¬ v = u := fun h => huv h.symm
        simp [this, hS]
      · simp [hx]
    have d : bd (bd seen (2 ^ v)) S &&& 2 ^ u = 0 := by
      apply Nat.eq_of_testBit_eq
      intro x
      rw [Nat.testBit_and, testBit_bd, testBit_bd, Nat.testBit_two_pow]
      by_cases hx : u = x
      · subst hx; simp [hs]
      · simp [hx]
    rw [e1, card_or d, card_pow hu, h.out]
  · rw [Nat.testBit_or, Bool.or_eq_true, hb] at hy
    rcases hy with hy | hy
    · rcases h.close y hy hyS x hx with h1 | h1
      · exact .inl (by rw [Nat.testBit_or, h1, Bool.true_or])
      · by_cases hxu : x = u
        · exact .inl (by rw [Nat.testBit_or, Bool.or_eq_true, hb]; exact .inr hxu)
        · refine .inr ?_
          rw [testBit_bd, h1, Nat.testBit_two_pow]
          have : ¬ u = x := fun h => hxu h.symm
          simp [this]
    · rw [hy] at hyS
      rcases hyS with h1 | h1
      · exact absurd h1 huv
      · rw [hS] at h1; cases h1
theorem RJ.grow {g : List Nat} {S v seen queue out u : Nat} (h : RJ g S v seen queue out) (hq : queue.testBit u = true) (_hs : seen.testBit u = false) (hS : S.testBit u = true) :
    RJ g S v (seen ||| 2 ^ u) (bd queue (2 ^ u) ||| bd (g.getD u 0) (seen ||| 2 ^ u)) out := by
  have hr := h.sound u (.inr hq)
  have hb : ∀ x, (2 ^ u).testBit x = true ↔ x = u := by intro x; rw [Nat.testBit_two_pow]; simp [eq_comm]
  refine ⟨fun x hx => ?_, by rw [Nat.testBit_or, h.start, Bool.true_or], ?_, fun y hy hyS x hx => ?_⟩
  · rw [Nat.testBit_or, Nat.testBit_or, testBit_bd, testBit_bd, Bool.or_eq_true, Bool.or_eq_true, hb, Bool.and_eq_true, Bool.and_eq_true] at hx
    rcases hx with (hx | hx) | hx | hx
    · exact h.sound x (.inl hx)
    · rw [hx]; exact hr
    · exact h.sound x (.inr hx.1)
    · exact .step hr (.inr hS) hx.1
  · rw [h.out]
    congr 1
    apply Nat.eq_of_testBit_eq
    intro x
    rw [testBit_bd, testBit_bd, testBit_bd, testBit_bd, Nat.testBit_or, Nat.testBit_two_pow, Nat.testBit_two_pow]
    by_cases hx : u = x
    · subst hx; simp [hS]
    · simp [hx]
  · rw [Nat.testBit_or, Bool.or_eq_true, hb] at hy
    have fin : seen.testBit x = true ∨ queue.testBit x = true ∨ (g.getD u 0).testBit x = true → (seen ||| 2 ^ u).testBit x = true ∨ (bd queue (2 ^ u) ||| bd (g.getD u 0) (seen ||| 2 ^ u)).testBit x = true := by
      intro hh
      cases hsx : (seen ||| 2 ^ u).testBit x with
      | true => exact .inl rfl
      | false =>
        refine .inr ?_
        have h1 := hsx
        rw [Nat.testBit_or, Bool.or_eq_false_iff] at h1
        rw [Nat.testBit_or, testBit_bd, testBit_bd, hsx, h1.2]
        rcases hh with hh | hh | hh
        · rw [h1.1] at hh; cases hh
        · rw [hh]; rfl
        · rw [hh]; simp
    rcases hy with hy | hy
    · rcases h.close y hy hyS x hx with h1 | h1
      · exact fin (.inl h1)
      · exact fin (.inr (.inl h1))
    · rw [hy] at hx; exact fin (.inr (.inr hx))
end Go.Tree

/- The reference's loops over all vertices; valid orders. -/
namespace Go.Tree
open Go.W

def elsTo (c v : Nat) : List Nat := (List.range v).filter fun i => c.testBit i
theorem elsTo_succ (c v : Nat) : elsTo c (v + 1) = elsTo c v ++ (if c.testBit v then [v] else []) := by
  simp only [elsTo, List.range_succ, List.filter_append, List.filter_cons, List.filter_nil]
theorem elsTo_all {c n : Nat} (hn : n ≤ 16) (hc : c < 2 ^ n) : elsTo c n = els c := by
  have e : List.range 16 = List.range n ++ List.range' n (16 - n) := by
    have h := List.range'_append_1 (s := 0) (m := n) (n := 16 - n)
    rw [Nat.zero_add, Nat.add_sub_cancel' hn] at h
    rw [List.range_eq_range', List.range_eq_range', h]
  unfold elsTo els
  rw [e, List.filter_append]
  have : (List.range' n (16 - n)).filter (fun i => c.testBit i) = [] := by
    rw [List.filter_eq_nil_iff]
    intro i hi
    rw [List.mem_range'_1] at hi
    rw [testBit_lt hc hi.1]; simp
  rw [this, List.append_nil]
def vl (n : Nat) : List Int → Nat → Bool
  | [], _ => true
  | v :: r, S => if v < 0 ∨ (n : Int) ≤ v ∨ S.testBit v.toNat = true then false else vl n r (S ||| 2 ^ v.toNat)
theorem ordL_some {g : List Nat} : ∀ (o : List Int) (S : Nat) (k : Int), (ordL g o S k).isSome = vl g.length o S := by
  intro o
  induction o with
  | nil => intro S k; rfl
  | cons v r ih =>
    intro S k
    simp only [ordL, vl]
    split
    · rfl
    · exact ih _ _
end Go.Tree

/- No order is narrower than the graph; the best order has its width; a clique's bound. -/
namespace Go.Tree
open Go.W

theorem ord_ge {g : List Nat} (hn : g.length ≤ 14) : ∀ (o : List Int) (S : Nat) (k K : Int), ordL g o S k = some K → S < 2 ^ g.length → card S + o.length = g.length → -1 ≤ k → k ≤ K ∧ wd g S ≤ K := by
  intro o
  induction o with
  | nil =>
    intro S k K h hS hc hk
    simp only [ordL, Option.some.injEq] at h
    have hf : S = full g.length := by
      by_cases hf : S = full g.length
      · exact hf
      · have := card_lt_of_ne hn hS hf
        simp at hc; omega
    rw [hf, wd_full]
    omega
  | cons v r ih =>
    intro S k K h hS hc hk
    rw [ordL] at h
    split at h
    · cases h
    rename_i hv
    simp only [not_or] at hv
    obtain ⟨h1, h2, h3⟩ := hv
    obtain ⟨v, rfl⟩ := Int.eq_ofNat_of_zero_le (show 0 ≤ v by omega)
    have hvn : v < g.length := by omega
    simp only [Int.toNat_natCast] at h h3
    have h3 : S.testBit v = false := by simpa using h3
    have hca := card_add hn hS hvn h3
    obtain ⟨i1, i2⟩ := ih _ _ _ h (or_pow_lt hS hvn) (by rw [hca]; simp at hc; omega) (by omega)
    have := wd_step_le hn hvn h3
    omega
theorem ord_le {g : List Nat} (hg : Gr g) : ∀ (o : List Int) (S : Nat) (k K : Int), ordL g o S k = some K → k ≤ (g.length : Int) - 1 → K ≤ (g.length : Int) - 1 := by
  intro o
  induction o with
  | nil =>
    intro S k K h hk
    simp only [ordL, Option.some.injEq] at h
    omega
  | cons v r ih =>
    intro S k K h hk
    rw [ordL] at h
    split at h
    · cases h
    rename_i hv
    simp only [not_or] at hv
    obtain ⟨h1, h2, h3⟩ := hv
    obtain ⟨v, rfl⟩ := Int.eq_ofNat_of_zero_le (show 0 ≤ v by omega)
    have hvn : v < g.length := by omega
    simp only [Int.toNat_natCast] at h
    refine ih _ _ _ h ?_
    have hl := lat_lt hg hvn (gone := S)
    have hb : (lat g S v).testBit v = false := by
      cases hb : (lat g S v).testBit v with
      | false => rfl
      | true => exact absurd rfl ((lat_iff hg hvn v).1 hb).2.1
    have h4 := card_add hg.len hl hvn hb
    have h5 := card_le (by have := hg.len; omega) (or_pow_lt hl hvn)
    rw [pc_card]
    omega
theorem ord_best {g : List Nat} (hg : Gr g) : ∀ (k S : Nat) (q : Int), S < 2 ^ g.length → k + card S = g.length → wd g S ≤ wd g 0 → ∃ K, ordL g ((bestF g k S).map fun (v : Nat) => (v : Int)) S q = some K ∧ K ≤ max q (wd g 0) := by
  intro k
  induction k with
  | zero => intro S q _ _ _; exact ⟨q, rfl, by omega⟩
  | succ k ih =>
    intro S q hS hk hw
    have hne : S ≠ full g.length := by
      intro e
      have := card_full (n := g.length) (by have := hg.len; omega)
      rw [e] at hk
      unfold full at hk
      omega
    obtain ⟨v, hv, h1, h2, h3⟩ := exists_best hg hS hne hw
    have hf : fine g S v = true := fine_iff.2 ⟨h1, h2, h3⟩
    cases hx : (List.range g.length).find? (fine g S) with
    | none => rw [List.find?_eq_none] at hx; exact absurd hf (hx v (by simpa using hv))
    | some u =>
      have hu := List.find?_some hx
      have hul : u < g.length := by have := List.mem_of_find?_eq_some hx; simpa using this
      obtain ⟨h4, h5, h6⟩ := fine_iff.1 hu
      obtain ⟨K, hK, hle⟩ := ih (S ||| 2 ^ u) (max q (pc (lat g S u) : Nat)) (or_pow_lt hS hul) (by rw [card_add hg.len hS hul h4]; omega) h6
      refine ⟨K, ?_, by omega⟩
      simp only [bestF, hx, List.map_cons, ordL, Int.toNat_natCast]
      rw [if_neg (by simp [h4]; omega)]
      exact hK
theorem wd_ge {g : List Nat} (hn : g.length ≤ 14) (S : Nat) : -1 ≤ wd g S := by
  by_cases h : S = full g.length
  · rw [h, wd_full]; omega
  · have h3 := (foldl_min (fun v => max (pc (lat g S v) : Int) (wd g (S ||| 2 ^ v))) (els (bd (full g.length) S)) g.length).2.2
    rw [wd_eq hn h]
    change _ ≤ (els (bd (full g.length) S)).foldl (fun b v => min b (max (pc (lat g S v) : Int) (wd g (S ||| 2 ^ v)))) g.length
    rcases h3 with h3 | ⟨v, _, h3⟩ <;> rw [h3] <;> omega
/-- The best order has the graph's width. -/
theorem ord_bestO {g : List Nat} (hg : Gr g) : ordL g ((bestO g).map fun (v : Nat) => (v : Int)) 0 (-1) = some (wd g 0) := by
  obtain ⟨K, hK, hle⟩ := ord_best hg g.length 0 (-1) (Nat.two_pow_pos _) (by rw [card_zero, Nat.add_zero]) (Int.le_refl _)
  have h1 := ord_ge hg.len _ 0 (-1) K hK (Nat.two_pow_pos _) (by rw [card_zero, List.length_map, Nat.zero_add]; exact bestO_len hg) (Int.le_refl _)
  have h2 := wd_ge hg.len 0
  have h3 : bestF g g.length 0 = bestO g := rfl
  rw [← h3, hK]
  congr 1
  omega

/-- A clique outside a set that is gone. -/
def Cq (g : List Nat) (C : Nat) : Prop := ∀ u v, C.testBit u = true → C.testBit v = true → u ≠ v → (g.getD u 0).testBit v = true
theorem wd_clique {g : List Nat} (hg : Gr g) {C : Nat} (hC : C < 2 ^ g.length) (h0 : C ≠ 0) (hq : Cq g C) : ∀ (k S : Nat), S < 2 ^ g.length → k + card S = g.length → S &&& C = 0 → (card C : Int) - 1 ≤ wd g S := by
  have hn := hg.len
  have hdis : ∀ S, S &&& C = 0 → ∀ i, C.testBit i = true → S.testBit i = false := by
    intro S h i hi
    have : (S &&& C).testBit i = false := by rw [h]; simp
    rw [Nat.testBit_and, hi, Bool.and_true] at this
    exact this
  intro k
  induction k with
  | zero =>
    intro S hS hk hd
    exfalso
    obtain ⟨i, hi⟩ := pos_testBit h0
    have hin := lt_of_testBit hC hi
    have h1 := hdis S hd i hi
    have h2 := card_add hn hS hin h1
    have h3 := card_le (by omega) (or_pow_lt hS hin)
    omega
  | succ k ih =>
    intro S hS hk hd
    have hne : S ≠ full g.length := by
      intro e
      have := card_full (n := g.length) (by omega)
      rw [e] at hk
      unfold full at hk
      omega
    have hcn := card_le (by omega) hC
    have h3 := (foldl_min (fun v => max (pc (lat g S v) : Int) (wd g (S ||| 2 ^ v))) (els (bd (full g.length) S)) g.length).2.2
    rw [wd_eq hn hne]
    change _ ≤ (els (bd (full g.length) S)).foldl (fun b v => min b (max (pc (lat g S v) : Int) (wd g (S ||| 2 ^ v)))) g.length
    rcases h3 with h3 | ⟨v, hv, h3⟩
    · rw [h3]; omega
    · rw [h3]
      obtain ⟨hvn, hvS⟩ := (mem_compl hn).1 hv
      cases hvC : C.testBit v with
      | true =>
        have hsub : ∀ i, (bd C (2 ^ v)).testBit i = true → (lat g S v).testBit i = true := by
          intro i hi
          rw [testBit_bd, Nat.testBit_two_pow] at hi
          simp at hi
          rw [lat_iff hg hvn]
          exact ⟨.step .base (.inl rfl) (hq v i hvC hi.1 hi.2), fun h => hi.2 h.symm, hdis S hd i hi.1⟩
        have h4 := card_mono hsub
        have h5 := card_bd (a := C) (b := 2 ^ v) (fun i hi => by
          rw [Nat.testBit_two_pow] at hi
          have : v = i := by simpa using hi
          rw [← this]; exact hvC)
        have h6 : card (2 ^ v) = 1 := card_pow (by omega)
        rw [pc_card]
        omega
      | false =>
        have h4 := ih (S ||| 2 ^ v) (or_pow_lt hS hvn) (by rw [card_add hn hS hvn hvS]; omega) (by
          apply Nat.eq_of_testBit_eq
          intro i
          rw [Nat.testBit_and, Nat.testBit_or, Nat.testBit_two_pow]
          cases hiC : C.testBit i with
          | false => simp
          | true =>
            rw [hdis S hd i hiC]
            by_cases hvi : v = i
            · rw [hvi, hiC] at hvC; cases hvC
            · simp [hvi])
        omega
theorem pw_all {p : Nat → Nat → Bool} : ∀ (l : List Nat), pw p l = true → l.Pairwise fun a b => p a b = true := by
  intro l
  induction l with
  | nil => intro _; exact List.Pairwise.nil
  | cons a l ih =>
    intro h
    simp only [pw, Bool.and_eq_true, List.all_eq_true] at h
    exact List.Pairwise.cons (fun b hb => h.2 b hb) (ih h.1)
theorem mkG_sym {n : Int} {es : List Ed} {g : List Nat} (h : mkG n es = some g) {u v : Nat} (hu : u < g.length) (hv : v < g.length) : (g.getD u 0).testBit v = (g.getD v 0).testBit u := by
  obtain ⟨hg, hl, hn0, hn, h100⟩ := mkG_gr h
  have hadd : addEs n.toNat (List.replicate n.toNat 0) es = some g := by
    rw [mkG, if_neg (by omega)] at h; exact h
  have h1 := addEs_bits (by omega) es g hadd u v (by omega) (by omega)
  have h2 := addEs_bits (by omega) es g hadd v u (by omega) (by omega)
  rw [Bool.eq_iff_iff, h1, h2]
  exact ⟨fun ⟨e, he, h⟩ => ⟨e, he, h.symm⟩, fun ⟨e, he, h⟩ => ⟨e, he, h.symm⟩⟩
theorem clR_set (p : Nat → Nat → Bool) : ∀ k, ∃ C, (C < k ∨ C = 0) ∧ clR p k = els C ∧ fr p C = true := by
  intro k
  induction k with
  | zero => exact ⟨0, .inr rfl, by simp [clR, els_zero], fr_zero p⟩
  | succ k ih =>
    obtain ⟨C, h1, h2, h3⟩ := ih
    rw [clR_succ, clStep]
    split
    · split
      · exact ⟨k, .inl (by omega), rfl, ‹_›⟩
      · exact ⟨C, h1.imp (by omega) id, h2, h3⟩
    · exact ⟨C, h1.imp (by omega) id, h2, h3⟩
/-- The width is at least a clique's size minus 1. -/
theorem wd_clR {n : Int} {es : List Ed} {g : List Nat} (h : mkG n es = some g) : ((clR (nb g) (2 ^ g.length)).length : Int) - 1 ≤ wd g 0 := by
  obtain ⟨hg, _, _, _, _⟩ := mkG_gr h
  have hpos := Nat.two_pow_pos g.length
  obtain ⟨C, hC, hcl, hf⟩ := clR_set (nb g) (2 ^ g.length)
  have hC : C < 2 ^ g.length := by omega
  rw [hcl, els_len]
  by_cases h0 : C = 0
  · subst h0; rw [card_zero]; exact wd_ge hg.len 0
  · refine wd_clique hg hC h0 ?_ g.length 0 hpos (by rw [card_zero, Nat.add_zero]) (by simp)
    have hpw := pw_all _ hf
    have hso := els_sorted C
    have key : ∀ u v, C.testBit u = true → C.testBit v = true → u < v → nb g u v = true := by
      intro u v hu hv huv
      have hn := hg.len
      have hu' := lt_of_testBit hC hu
      have hv' := lt_of_testBit hC hv
      have m1 : u ∈ els C := mem_els.2 ⟨by omega, hu⟩
      have m2 : v ∈ els C := mem_els.2 ⟨by omega, hv⟩
      obtain ⟨i, hi, rfl⟩ := List.mem_iff_getElem.1 m1
      obtain ⟨j, hj, rfl⟩ := List.mem_iff_getElem.1 m2
      rcases Nat.lt_trichotomy i j with h1 | h1 | h1
      · exact (List.pairwise_iff_getElem.1 hpw) i j hi hj h1
      · subst h1; omega
      · have := (List.pairwise_iff_getElem.1 hso) j i hj hi h1; omega
    intro u v hu hv huv
    have hu' := lt_of_testBit hC hu
    have hv' := lt_of_testBit hC hv
    rcases Nat.lt_or_gt_of_ne huv with h1 | h1
    · exact key u v hu hv h1
    · rw [mkG_sym h hu' hv']; exact key v u hv hu h1
end Go.Tree

/- Orders that are made by putting vertices in, one after the other. -/
namespace Go.Tree
open Go.W
theorem vl_ok {n : Nat} : ∀ (o : List Nat) (S : Nat), o.Nodup → (∀ v ∈ o, v < n ∧ S.testBit v = false) → vl n (o.map fun (v : Nat) => (v : Int)) S = true := by
  intro o
  induction o with
  | nil => intro S _ _; rfl
  | cons v r ih =>
    intro S hn h
    obtain ⟨h1, h2⟩ := h v (by simp)
    have hnd := List.nodup_cons.1 hn
    simp only [List.map_cons, vl, Int.toNat_natCast]
    rw [if_neg (by simp [h2]; omega)]
    refine ih _ hnd.2 fun u hu => ?_
    obtain ⟨h3, h4⟩ := h u (by simp [hu])
    refine ⟨h3, ?_⟩
    rw [Nat.testBit_or, h4, Nat.testBit_two_pow]
    have : ¬ v = u := fun e => hnd.1 (by rw [e]; exact hu)
    simp [this]
theorem put_perm {o : List Nat} {v at_ : Nat} (h : o.Perm (List.range v)) : (o.take at_ ++ [v] ++ o.drop at_).Perm (List.range (v + 1)) := by
  rw [List.range_succ]
  refine List.Perm.trans ?_ (List.Perm.append_right [v] h)
  have h1 : (o.take at_ ++ [v] ++ o.drop at_).Perm (o.take at_ ++ (o.drop at_ ++ [v])) := by
    rw [List.append_assoc]
    exact List.Perm.append_left _ List.perm_append_comm
  rw [← List.append_assoc, List.take_append_drop] at h1
  exact h1
theorem perm_ok {g : List Nat} {o : List Nat} (h : o.Perm (List.range g.length)) : ∃ K, ordL g (o.map fun (v : Nat) => (v : Int)) 0 (-1) = some K := by
  have h1 : vl g.length (o.map fun (v : Nat) => (v : Int)) 0 = true := by
    refine vl_ok o 0 (h.nodup_iff.2 List.nodup_range) fun v hv => ⟨?_, by simp⟩
    have := h.mem_iff.1 hv
    simpa using this
  have := ordL_some (g := g) (o.map fun (v : Nat) => (v : Int)) 0 (-1)
  rw [h1] at this
  exact Option.isSome_iff_exists.1 this
end Go.Tree

/- Independent sets, as the reference finds them. -/
namespace Go.Tree
open Go.W

theorem mkG_loop {n : Int} {es : List Ed} {g : List Nat} (h : mkG n es = some g) {v : Nat} (hv : v < g.length) : (g.getD v 0).testBit v = false := by
  obtain ⟨hg, hl, hn0, hn, h100⟩ := mkG_gr h
  have hadd : addEs n.toNat (List.replicate n.toNat 0) es = some g := by
    rw [mkG, if_neg (by omega)] at h; exact h
  have h1 := addEs_bits (by omega) es g hadd v v (by omega) (by omega)
  cases hb : (g.getD v 0).testBit v with
  | false => rfl
  | true =>
    exfalso
    obtain ⟨e, he, hee⟩ := h1.1 hb
    have hee : e = ((v : Int), (v : Int)) := hee.elim id id
    subst hee
    obtain ⟨i, hi, hie⟩ := List.mem_iff_getElem.1 he
    have key : ∀ j, j ≤ es.length → ∃ g', addEs n.toNat (List.replicate n.toNat 0) (es.take j) = some g' := by
      intro j hj
      cases hx : addEs n.toNat (List.replicate n.toNat 0) (es.take j) with
      | some g' => exact ⟨g', rfl⟩
      | none =>
        have : addEs n.toNat (List.replicate n.toNat 0) es = none := by
          conv => lhs; rw [← List.take_append_drop j es]
          rw [addEs_append, hx]; rfl
        rw [this] at hadd; cases hadd
    obtain ⟨g', hg'⟩ := key i (by omega)
    have := take_bad hg' hi (by rw [hie]; exact .inr (.inr (.inr (.inr (.inl rfl)))))
    rw [this] at hadd; cases hadd
def ind (g : List Nat) (S v : Nat) : Bool := (elsTo S v).all fun u => (S &&& g.getD u 0) == 0
theorem ind_succ (g : List Nat) (S v : Nat) : ind g S (v + 1) = (ind g S v && (!S.testBit v || (S &&& g.getD v 0) == 0)) := by
  rw [ind, elsTo_succ, List.all_append]
  cases h : S.testBit v <;> simp [ind]
theorem pw_iff {p : Nat → Nat → Bool} : ∀ (l : List Nat), pw p l = true ↔ l.Pairwise fun a b => p a b = true := by
  intro l
  induction l with
  | nil => simp [pw]
  | cons a l ih => simp [pw, ih, and_comm]
theorem ind_fr {n : Int} {es : List Ed} {g : List Nat} (h : mkG n es = some g) {S : Nat} (hS : S < 2 ^ g.length) : ind g S g.length = fr (fun u v => !nb g u v) S := by
  obtain ⟨hg, _, _, _, _⟩ := mkG_gr h
  have hn := hg.len
  rw [Bool.eq_iff_iff, ind, elsTo_all (by omega) hS, fr, pw_iff]
  simp only [List.all_eq_true, beq_iff_eq]
  constructor
  · intro h1
    refine List.Pairwise.imp_of_mem ?_ (els_sorted S)
    intro u v hu hv _
    have h2 := h1 u hu
    have h3 : (S &&& g.getD u 0).testBit v = false := by rw [h2]; simp
    rw [Nat.testBit_and, (mem_els.1 hv).2, Bool.true_and] at h3
    show (!(g.getD u 0).testBit v) = true
    rw [h3]; rfl
  · intro h1 u hu
    apply Nat.eq_of_testBit_eq
    intro v
    rw [Nat.testBit_and, Nat.zero_testBit]
    cases hv : S.testBit v with
    | false => rfl
    | true =>
      have hun := lt_of_testBit hS (mem_els.1 hu).2
      have hvn := lt_of_testBit hS hv
      have hvm : v ∈ els S := mem_els.2 ⟨by omega, hv⟩
      rw [Bool.true_and]
      by_cases huv : u = v
      · subst huv; exact mkG_loop h hun
      · obtain ⟨i, hi, rfl⟩ := List.mem_iff_getElem.1 hu
        obtain ⟨j, hj, rfl⟩ := List.mem_iff_getElem.1 hvm
        rcases Nat.lt_trichotomy i j with h2 | h2 | h2
        · have := (List.pairwise_iff_getElem.1 h1) i j hi hj h2
          simpa [nb] using this
        · subst h2; exact absurd rfl huv
        · have := (List.pairwise_iff_getElem.1 h1) j i hj hi h2
          rw [mkG_sym h hun hvn]
          simpa [nb] using this
end Go.Tree

/- Cliques, as the reference finds them. -/
namespace Go.Tree
open Go.W

def clq (g : List Nat) (S v : Nat) : Bool := (elsTo S v).all fun u => bd (bd S (2 ^ u)) (g.getD u 0) == 0
theorem clq_succ (g : List Nat) (S v : Nat) : clq g S (v + 1) = (clq g S v && (!S.testBit v || bd (bd S (2 ^ v)) (g.getD v 0) == 0)) := by
  rw [clq, elsTo_succ, List.all_append]
  cases h : S.testBit v <;> simp [clq]
theorem clq_fr {n : Int} {es : List Ed} {g : List Nat} (h : mkG n es = some g) {S : Nat} (hS : S < 2 ^ g.length) : clq g S g.length = fr (nb g) S := by
  obtain ⟨hg, _, _, _, _⟩ := mkG_gr h
  have hn := hg.len
  rw [Bool.eq_iff_iff, clq, elsTo_all (by omega) hS, fr, pw_iff]
  simp only [List.all_eq_true, beq_iff_eq]
  constructor
  · intro h1
    refine List.Pairwise.imp_of_mem ?_ (els_sorted S)
    intro u v hu hv huv
    have h2 := h1 u hu
    have h3 : (bd (bd S (2 ^ u)) (g.getD u 0)).testBit v = false := by rw [h2]; simp
    rw [testBit_bd, testBit_bd, (mem_els.1 hv).2, Nat.testBit_two_pow] at h3
    show (g.getD u 0).testBit v = true
    have : u ≠ v := by omega
    simpa [this] using h3
  · intro h1 u hu
    apply Nat.eq_of_testBit_eq
    intro v
    rw [testBit_bd, testBit_bd, Nat.zero_testBit, Nat.testBit_two_pow]
    cases hv : S.testBit v with
    | false => rfl
    | true =>
      have hun := lt_of_testBit hS (mem_els.1 hu).2
      have hvn := lt_of_testBit hS hv
      have hvm : v ∈ els S := mem_els.2 ⟨by omega, hv⟩
      by_cases huv : u = v
      · simp [huv]
      · obtain ⟨i, hi, rfl⟩ := List.mem_iff_getElem.1 hu
        obtain ⟨j, hj, rfl⟩ := List.mem_iff_getElem.1 hvm
        rcases Nat.lt_trichotomy i j with h2 | h2 | h2
        · have := (List.pairwise_iff_getElem.1 h1) i j hi hj h2
          simp only [nb] at this
          rw [this]; simp
        · subst h2; exact absurd rfl huv
        · have := (List.pairwise_iff_getElem.1 h1) j i hj hi h2
          rw [mkG_sym h hun hvn]
          simp only [nb] at this
          rw [this]; simp
end Go.Tree
