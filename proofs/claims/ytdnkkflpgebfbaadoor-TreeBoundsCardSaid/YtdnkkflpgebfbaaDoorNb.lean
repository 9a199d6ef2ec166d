/- Numbers as sets of bits: what the machine's operations on int make of numbers that are not negative. -/
import Derived.Test.YtdnkkflpgebfbaaDoorW4
import Derived.Lib.TrailingZeros
import Derived.Laws.Bits64b
namespace Go.W

/-- The elements of a set that are not in another one. -/
def bd (a b : Nat) : Nat := a ^^^ (a &&& b)
theorem testBit_bd (a b i : Nat) : (bd a b).testBit i = (a.testBit i && !b.testBit i) := by
  simp only [bd, Nat.testBit_xor, Nat.testBit_and]
  cases a.testBit i <;> cases b.testBit i <;> rfl
theorem bd_le (a b : Nat) : bd a b ≤ a := by
  have h : bd a b = a &&& bd a b := by
    apply Nat.eq_of_testBit_eq
    intro i
    rw [Nat.testBit_and, testBit_bd]
    cases a.testBit i <;> cases b.testBit i <;> rfl
  rw [h]; exact Nat.and_le_left
theorem bd_lt {a b n : Nat} (h : a < n) : bd a b < n := Nat.lt_of_le_of_lt (bd_le a b) h

theorem wrap_i64_in {n : Int} (h0 : 0 ≤ n) (h : n < 9223372036854775808) : IntKind.i64.wrap n = n := by rw [IntKind.wrap_i64]; omega
theorem wrap_u64_in {n : Int} (h0 : 0 ≤ n) (h : n < 18446744073709551616) : IntKind.u64.wrap n = n := by rw [IntKind.wrap_u64]; omega
theorem i64_keep : ∀ n : Int, 0 ≤ n → n < 2 ^ 63 → IntKind.i64.wrap n = n := fun n h0 h => wrap_i64_in h0 (by omega)
theorem u64_keep : ∀ n : Int, 0 ≤ n → n < 2 ^ 64 → IntKind.u64.wrap n = n := fun n h0 h => wrap_u64_in h0 (by omega)
section
variable {a b : Nat} (ha : a < 9223372036854775808) (hb : b < 9223372036854775808)
include ha hb
theorem and_i64 : bits .and .i64 (a : Int) (b : Int) = ((a &&& b : Nat) : Int) := (bits_nat .i64 63 (by decide) i64_keep a b (by omega) (by omega)).1
theorem or_i64 : bits .or .i64 (a : Int) (b : Int) = ((a ||| b : Nat) : Int) := (bits_nat .i64 63 (by decide) i64_keep a b (by omega) (by omega)).2
theorem andNot_i64 : bits .andNot .i64 (a : Int) (b : Int) = ((bd a b : Nat) : Int) := by
  have ha' : a % 2 ^ 64 = a := Nat.mod_eq_of_lt (by omega)
  have hb' : b % 2 ^ 64 = b := Nat.mod_eq_of_lt (by omega)
  have e1 : (BitVec.ofNat 64 a &&& ~~~(BitVec.ofNat 64 b)).toNat = bd a b := by
    apply Nat.eq_of_testBit_eq
    intro i
    rw [testBit_bd]
    simp only [BitVec.toNat_and, Nat.testBit_and, BitVec.toNat_ofNat, ha', BitVec.toNat_not, hb']
    by_cases hi : i < 64
    · rw [Nat.sub_sub, Nat.add_comm 1 b, Nat.testBit_two_pow_sub_succ (by omega)]
      simp [hi]
    · have : a.testBit i = false := Nat.testBit_lt_two_pow (Nat.lt_of_lt_of_le (by omega : a < 2 ^ 64) (Nat.pow_le_pow_right (by decide) (by omega)))
      simp [this]
  simp only [bits, BitVec.ofInt_natCast]
  show IntKind.i64.wrap ((BitVec.ofNat 64 a &&& ~~~(BitVec.ofNat 64 b)).toNat : Int) = _
  rw [e1]
  exact wrap_i64_in (by omega) (by have := bd_lt (b := b) ha; omega)
end
theorem or_lt {a b n : Nat} (ha : a < 2 ^ n) (hb : b < 2 ^ n) : a ||| b < 2 ^ n := Nat.or_lt_two_pow ha hb
theorem and_lt {a b n : Nat} (ha : a < n) : a &&& b < n := Nat.lt_of_le_of_lt Nat.and_le_left ha

theorem shl_i64 {a v : Nat} (h : a * 2 ^ v < 9223372036854775808) (hv : v ≤ 64) : shl .i64 (a : Int) v = ((a * 2 ^ v : Nat) : Int) := by
  unfold shl
  rw [Nat.min_eq_left (by simpa [IntKind.bits] using hv)]
  have e : ((a : Int) * 2 ^ v) = ((a * 2 ^ v : Nat) : Int) := by simp
  rw [e]
  exact wrap_i64_in (by omega) (by omega)
theorem shl_one {v : Nat} (hv : v < 63) : shl .i64 1 v = ((2 ^ v : Nat) : Int) := by
  have h : 2 ^ v < 9223372036854775808 := by
    have : 2 ^ v < 2 ^ 63 := Nat.pow_lt_pow_right (by decide) hv
    omega
  have := shl_i64 (a := 1) (v := v) (by simpa using h) (by omega)
  simpa using this
theorem shr_i64 {a v : Nat} (ha : a < 9223372036854775808) : shr .i64 (a : Int) v = ((a / 2 ^ v : Nat) : Int) := by
  unfold shr
  have e : ∀ m : Nat, ((a : Int)).fdiv (2 ^ m) = ((a / 2 ^ m : Nat) : Int) := by
    intro m
    rw [Int.fdiv_eq_ediv_of_nonneg _ (Int.pow_nonneg (by decide))]
    simp
  rw [e]
  by_cases hv : v ≤ 64
  · rw [Nat.min_eq_left (by simpa [IntKind.bits] using hv)]
  · rw [Nat.min_eq_right (by simp [IntKind.bits]; omega)]
    have h1 : a / 2 ^ 64 = 0 := Nat.div_eq_of_lt (by omega)
    have h2 : a / 2 ^ v = 0 := Nat.div_eq_of_lt (Nat.lt_of_lt_of_le (by omega : a < 2 ^ 64) (Nat.pow_le_pow_right (by decide) (by omega)))
    simp only [IntKind.bits, h1, h2]
theorem testBit_div (a v : Nat) : a.testBit v = decide (a / 2 ^ v % 2 = 1) := by
  rw [Nat.testBit_eq_decide_div_mod_eq]
theorem has_eq {s v : Nat} (hs : s < 9223372036854775808) : (bits .and .i64 (shr .i64 (s : Int) v) 1 == 1) = s.testBit v := by
  rw [shr_i64 hs]
  have h1 : s / 2 ^ v < 9223372036854775808 := Nat.lt_of_le_of_lt (Nat.div_le_self _ _) hs
  have := and_i64 (a := s / 2 ^ v) (b := 1) h1 (by omega)
  simp only [Int.cast_ofNat_Int] at this
  rw [this, Nat.and_one_is_mod, testBit_div]
  by_cases h : s / 2 ^ v % 2 = 1
  · simp [h]
  · have : s / 2 ^ v % 2 = 0 := by omega
    simp [this]

/-! ### The lowest element -/
theorem pos_testBit {s : Nat} (h : s ≠ 0) : ∃ i, s.testBit i = true := Nat.exists_testBit_of_ne_zero h
def tz (s : Nat) : Nat := Lib.ctz 64 s
theorem tz_key (x a : Nat) (hx : x < 18446744073709551616) (hx0 : x ≠ 0) (hlow : x &&& (18446744073709551616 - x) = a) :
    shr .u64 (IntKind.u64.wrap (bits BinOp.and IntKind.u64 (x : Int) (IntKind.u64.wrap (0 - (x : Int))) * 285870213051353865)) 58 = ((a * 285870213051353865 % 18446744073709551616 / 288230376151711744 : Nat) : Int) := by
  have e1 : IntKind.u64.wrap (0 - (x : Int)) = ((18446744073709551616 - x : Nat) : Int) := by rw [IntKind.wrap_u64]; omega
  rw [e1, bits_and_u64_nat x _ hx (by omega), hlow, IntKind.wrap_u64]
  unfold shr
  have e2 : min 58 IntKind.u64.bits = 58 := rfl
  rw [e2, Int.fdiv_eq_ediv_of_nonneg _ (by decide)]
  omega
theorem u64_of_nat {s : Nat} (h : s < 18446744073709551616) : IntKind.u64.wrap (s : Int) = (s : Int) := wrap_u64_in (by omega) (by omega)
/-- How many elements: of sets of less than 16 numbers. -/
def pcN : Nat → Nat → Nat
  | 0, _ => 0
  | f + 1, s => s % 2 + pcN f (s / 2)
def pc (s : Nat) : Nat := pcN 16 s

/-- OnesCount64's text. -/
def swar1 (x : Int) : Int := IntKind.u64.wrap (bits .and .u64 (shr .u64 x 1) 6148914691236517205 + bits .and .u64 x 6148914691236517205)
def swar2 (x : Int) : Int := IntKind.u64.wrap (bits .and .u64 (shr .u64 x 2) 3689348814741910323 + bits .and .u64 x 3689348814741910323)
def swar3 (x : Int) : Int := bits .and .u64 (IntKind.u64.wrap (shr .u64 x 4 + x)) 1085102592571150095
def swar4 (x : Int) : Int := IntKind.u64.wrap (x + shr .u64 x 8)
def swar5 (x : Int) : Int := IntKind.u64.wrap (x + shr .u64 x 16)
def swar6 (x : Int) : Int := IntKind.u64.wrap (x + shr .u64 x 32)
def swar7 (x : Int) : Int := bits .and .i64 (IntKind.i64.wrap x) 127
def swar (x : Int) : Int := swar7 (swar6 (swar5 (swar4 (swar3 (swar2 (swar1 x))))))
theorem wrap_u64_nat (a : Nat) : IntKind.u64.wrap (a : Int) = ((a % 18446744073709551616 : Nat) : Int) := by rw [IntKind.wrap_u64]; omega
theorem shr_u64_nat (a v : Nat) (hv : v ≤ 64) : shr .u64 (a : Int) v = ((a / 2 ^ v : Nat) : Int) := by
  unfold shr
  rw [Nat.min_eq_left (by simpa [IntKind.bits] using hv), Int.fdiv_eq_ediv_of_nonneg _ (Int.pow_nonneg (by decide))]
  simp
def n1 (x : Nat) : Nat := ((x / 2 ^ 1) &&& 6148914691236517205) + (x &&& 6148914691236517205)
def n2 (x : Nat) : Nat := ((x / 2 ^ 2) &&& 3689348814741910323) + (x &&& 3689348814741910323)
def n3 (x : Nat) : Nat := (x / 2 ^ 4 + x) % 18446744073709551616 &&& 1085102592571150095
def n4 (x : Nat) : Nat := (x + x / 2 ^ 8) % 18446744073709551616
def n5 (x : Nat) : Nat := (x + x / 2 ^ 16) % 18446744073709551616
def n6 (x : Nat) : Nat := (x + x / 2 ^ 32) % 18446744073709551616
def swarN (x : Nat) : Nat := n6 (n5 (n4 (n3 (n2 (n1 x) % 18446744073709551616)))) &&& 127
theorem swar1_nat {x : Nat} (hx : x < 32768) : swar1 x = (n1 x : Int) := by
  unfold swar1
  have h1 := shr_u64_nat x 1 (by decide)
  rw [h1, show (6148914691236517205 : Int) = ((6148914691236517205 : Nat) : Int) from rfl, bits_and_u64_nat _ _ (by omega) (by decide), bits_and_u64_nat _ _ (by omega) (by decide), ← Int.natCast_add, wrap_u64_nat]
  have a1 : x / 2 ^ 1 &&& 6148914691236517205 ≤ x / 2 ^ 1 := Nat.and_le_left
  have a2 : x &&& 6148914691236517205 ≤ x := Nat.and_le_left
  rw [Nat.mod_eq_of_lt (by omega)]
  rfl
theorem n1_lt {x : Nat} (hx : x < 32768) : n1 x < 65536 := by
  unfold n1
  have a1 : x / 2 ^ 1 &&& 6148914691236517205 ≤ x / 2 ^ 1 := Nat.and_le_left
  have a2 : x &&& 6148914691236517205 ≤ x := Nat.and_le_left
  omega
theorem swar2_nat {x : Nat} (hx : x < 65536) : swar2 x = (n2 x % 18446744073709551616 : Nat) := by
  unfold swar2
  have h1 := shr_u64_nat x 2 (by decide)
  rw [h1, show (3689348814741910323 : Int) = ((3689348814741910323 : Nat) : Int) from rfl, bits_and_u64_nat _ _ (by omega) (by decide), bits_and_u64_nat _ _ (by omega) (by decide), ← Int.natCast_add, wrap_u64_nat]
  rfl
theorem swar3_nat (x : Nat) : swar3 x = (n3 x : Int) := by
  unfold swar3
  have h1 := shr_u64_nat x 4 (by decide)
  rw [h1, ← Int.natCast_add, wrap_u64_nat, show (1085102592571150095 : Int) = ((1085102592571150095 : Nat) : Int) from rfl, bits_and_u64_nat _ _ (Nat.mod_lt _ (by decide)) (by decide)]
  rfl
theorem swar4_nat (x : Nat) : swar4 x = (n4 x : Int) := by
  unfold swar4; rw [shr_u64_nat x 8 (by decide), ← Int.natCast_add, wrap_u64_nat]; rfl
theorem swar5_nat (x : Nat) : swar5 x = (n5 x : Int) := by
  unfold swar5; rw [shr_u64_nat x 16 (by decide), ← Int.natCast_add, wrap_u64_nat]; rfl
theorem swar6_nat (x : Nat) : swar6 x = (n6 x : Int) := by
  unfold swar6; rw [shr_u64_nat x 32 (by decide), ← Int.natCast_add, wrap_u64_nat]; rfl
theorem swar7_nat {x : Nat} (hx : x < 18446744073709551616) : swar7 x = (x &&& 127 : Nat) := by
  unfold swar7
  have hm : ∀ y : Nat, y < 18446744073709551616 → (BitVec.ofInt 64 (IntKind.i64.wrap (y : Int))).toNat = y := by
    intro y hy
    have : IntKind.i64.wrap (y : Int) = if y < 9223372036854775808 then (y : Int) else (y : Int) - 18446744073709551616 := by
      rw [IntKind.wrap_i64]; split <;> omega
    rw [this]
    split
    · rw [BitVec.ofInt_natCast, BitVec.toNat_ofNat]; exact Nat.mod_eq_of_lt (by omega)
    · rw [BitVec.toNat_ofInt]; omega
  have h1 := hm x hx
  have h2 : (BitVec.ofInt 64 (127 : Int)).toNat = 127 := by decide
  show IntKind.i64.wrap ((BitVec.ofInt 64 (IntKind.i64.wrap (x : Int)) &&& BitVec.ofInt 64 127).toNat : Int) = _
  rw [BitVec.toNat_and, h1, h2]
  have : x &&& 127 ≤ 127 := Nat.and_le_right
  exact wrap_i64_in (by omega) (by omega)
theorem n6_lt (x : Nat) : n6 x < 18446744073709551616 := Nat.mod_lt _ (by decide)
theorem swar_all : (List.range 16384).all (fun x => Nat.beq (swarN x) (pc x)) = true := by decide +kernel
theorem swar_eq {x : Nat} (hx : x < 16384) : swar (x : Int) = (pc x : Int) := by
  have := List.all_eq_true.1 swar_all x (List.mem_range.2 hx)
  have h := Nat.eq_of_beq_eq_true this
  unfold swar
  rw [swar1_nat (by omega), swar2_nat (n1_lt (by omega)), swar3_nat, swar4_nat, swar5_nat, swar6_nat, swar7_nat (n6_lt _), ← h]
  rfl
end Go.W
