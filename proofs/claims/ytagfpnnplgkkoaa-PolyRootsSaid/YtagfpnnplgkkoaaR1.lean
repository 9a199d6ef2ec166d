/- The walks of the arithmetic of a prime's field: rests, Euclid's way, inverses. -/
import Derived.Test.YtagfpnnplgkkoaaTab
import Derived.Test.YtagfpnnplgkkoaaMP
import Derived.Test.YtagfpnnplgkkoaaQe
namespace Go.Poly
/-- One step of Euclid's way keeps what it is about. -/
structure Eu (m a0 a b : Nat) (x y : Int) : Prop where
  ga : ((m : Int) ∣ a - x * a0) ∧ (m : Int) ∣ b - y * a0
  gc : Nat.gcd a b = Nat.gcd a0 m
  sz : a * y.natAbs + b * x.natAbs = m
  sg : (0 ≤ x ∧ y ≤ 0) ∨ (x ≤ 0 ∧ 0 ≤ y)
  pos : 0 < a ∨ 0 < b
theorem Eu.start {m a0 : Nat} (hm : 0 < m) : Eu m a0 a0 m 1 0 := by
  refine ⟨⟨⟨0, by omega⟩, ⟨1, by omega⟩⟩, rfl, by simp, .inl ⟨by decide, by decide⟩, .inr hm⟩
theorem Eu.step {m a0 a b : Nat} {x y : Int} (h : Eu m a0 a b x y) (hb : 0 < b) : Eu m a0 b (a % b) y (x - ((a / b : Nat) : Int) * y) := by
  have hd := Nat.div_add_mod a b
  have hdz : (a : Int) = b * ((a / b : Nat) : Int) + ((a % b : Nat) : Int) := by rw [← Int.natCast_mul, ← Int.natCast_add, hd]
  refine ⟨⟨h.ga.2, ?_⟩, ?_, ?_, ?_, .inl hb⟩
  · obtain ⟨u, hu⟩ := h.ga.1
    obtain ⟨v, hv⟩ := h.ga.2
    refine ⟨u - ((a / b : Nat) : Int) * v, ?_⟩
    generalize ((a / b : Nat) : Int) = q at *
    generalize ((a % b : Nat) : Int) = r at *
    have e1 : r = a - b * q := by omega
    rw [e1, Int.mul_sub, ← hu, Int.mul_left_comm, ← hv, Int.sub_mul, Int.mul_sub, Int.mul_comm (b : Int) q, Int.mul_assoc q y]
    omega
  · rw [← h.gc, Nat.gcd_comm b, ← Nat.gcd_rec, Nat.gcd_comm]
  · have hs := h.sz
    generalize hq : a / b = q at *
    generalize hr : a % b = r at *
    have e2 : (x - (q : Int) * y).natAbs = x.natAbs + q * y.natAbs := by
      have e3 : ((q : Int) * y).natAbs = q * y.natAbs := by rw [Int.natAbs_mul]; rfl
      rw [← e3]
      rcases h.sg with ⟨h1, h2⟩ | ⟨h1, h2⟩
      · have h4 : (q : Int) * y ≤ 0 := Int.mul_nonpos_of_nonneg_of_nonpos (by omega) h2
        omega
      · have h4 : 0 ≤ (q : Int) * y := Int.mul_nonneg (by omega) h2
        omega
    rw [e2, Nat.mul_add, ← hs, ← hd, Nat.add_mul, ← Nat.mul_assoc]
    omega
  · rcases h.sg with ⟨h1, h2⟩ | ⟨h1, h2⟩
    · right
      have h4 : ((a / b : Nat) : Int) * y ≤ 0 := Int.mul_nonpos_of_nonneg_of_nonpos (Int.natCast_nonneg _) h2
      generalize ((a / b : Nat) : Int) * y = z at *
      exact ⟨h2, by omega⟩
    · left
      have h4 : 0 ≤ ((a / b : Nat) : Int) * y := Int.mul_nonneg (Int.natCast_nonneg _) h2
      generalize ((a / b : Nat) : Int) * y = z at *
      exact ⟨h2, by omega⟩
theorem Eu.small {m a0 a b : Nat} {x y : Int} (h : Eu m a0 a b x y) : (0 < b → x.natAbs ≤ m) ∧ (0 < a → y.natAbs ≤ m) := by
  have hs := h.sz
  constructor
  · intro hb
    have : 1 * x.natAbs ≤ b * x.natAbs := Nat.mul_le_mul_right _ hb
    omega
  · intro ha
    have : 1 * y.natAbs ≤ a * y.natAbs := Nat.mul_le_mul_right _ ha
    omega
end Go.Poly
namespace Go.Proofs.Ytagfpnnplgkkoaa
open Go.W Go.Poly
set_option maxRecDepth 100000
attribute [local irreducible] WC WL WQ WS WH

theorem wrap_mid {z : Int} (h0 : -9223372036854775808 ≤ z) (h1 : z < 9223372036854775808) : IntKind.i64.wrap z = z := by rw [IntKind.wrap_i64]; omega

theorem isNumber_any (n : Int) : Pur Try.prog 98 [.int .i64 n] (.bool (decide (1 ≤ n) && decide (n ≤ 2147483647))) := by
  intro w
  refine enter Try.func98 rfl rfl ⟨rfl, rfl⟩ rfl ?_
  repeat (first | refine WC.seq ?_ | refine WC.reg ?_ | refine WL.pure rfl rfl rfl ?_ | refine WL.nil ?_ | refine WC.skip ?_ | refine WC.block ?_ | refine WC.condT rfl ?_ | refine WC.condF rfl ?_ | refine WL.off rfl rfl rfl ?_ | refine WL.off0 rfl rfl ?_ | refine WC.exit ?_ | refine blk_hit ?_ | refine blk_miss rfl ?_ | refine WC.ret ?_)
  refine WL.split 5 rfl (fun h1 => ?_) (fun h1 => ?_)
  · have h1 : 1 ≤ n := of_decide_eq_true h1
    repeat (first | refine WC.seq ?_ | refine WC.reg ?_ | refine WL.pure rfl rfl rfl ?_ | refine WL.nil ?_ | refine WC.skip ?_ | refine WC.block ?_ | refine WC.condT rfl ?_ | refine WC.condF rfl ?_ | refine WL.off rfl rfl rfl ?_ | refine WL.off0 rfl rfl ?_ | refine WC.exit ?_ | refine blk_hit ?_ | refine blk_miss rfl ?_ | refine WC.ret ?_)
    exact Res.one rfl rfl rfl ⟨by rw [decide_eq_true h1]; rfl, rfl⟩
  · have h1 : ¬ 1 ≤ n := of_decide_eq_false h1
    repeat (first | refine WC.seq ?_ | refine WC.reg ?_ | refine WL.pure rfl rfl rfl ?_ | refine WL.nil ?_ | refine WC.skip ?_ | refine WC.block ?_ | refine WC.condT rfl ?_ | refine WC.condF rfl ?_ | refine WL.off rfl rfl rfl ?_ | refine WL.off0 rfl rfl ?_ | refine WC.exit ?_ | refine blk_hit ?_ | refine blk_miss rfl ?_ | refine WC.ret ?_)
    exact Res.one rfl rfl rfl ⟨by rw [decide_eq_false h1]; rfl, rfl⟩

theorem euclid_any (a m : Nat) (ha : a < 4294967296) (hm0 : 0 < m) (hm : m < 4294967296) (w : World) :
    Ret Try.prog 101 [.int .i64 (a : Nat), .int .i64 (m : Nat)] w fun u w' => w' = w ∧ ∃ x : Int, u = .tuple #[.int .i64 (Nat.gcd a m : Nat), .int .i64 x] ∧ (m : Int) ∣ (Nat.gcd a m : Nat) - x * a ∧ x.natAbs ≤ m := by
  refine enter Try.func101 rfl rfl ⟨rfl, rfl⟩ rfl ?_
  repeat (first | refine WC.seq ?_ | refine WC.reg ?_ | refine WL.pure rfl rfl rfl ?_ | refine WL.nil ?_ | refine WC.skip ?_ | refine WC.block ?_ | refine WC.condT rfl ?_ | refine WC.condF rfl ?_ | refine WL.off rfl rfl rfl ?_ | refine WL.off0 rfl rfl ?_ | refine WC.exit ?_ | refine blk_hit ?_ | refine blk_miss rfl ?_ | refine WC.ret ?_)
  refine WC.loop (Nat × Nat × Int × Int) (fun (c, b, x, y) => [(0, .int .i64 (c : Nat)), (1, .int .i64 (b : Nat)), (6, .int .i64 x), (7, .int .i64 y)])
    (fun (c, b, x, y) w' => w' = w ∧ Eu m a c b x y ∧ c < 4294967296 ∧ b < 4294967296 ∧ x.natAbs ≤ m ∧ y.natAbs ≤ m) (fun (c, b, x, y) => b) (a, m, 1, 0) ⟨rfl, rfl, rfl, rfl, rfl⟩ ⟨rfl, Eu.start hm0, ha, hm, by simp; omega, by simp⟩ ?_
  rintro ⟨c, b, x, y⟩ w1 ⟨rfl, hE, hc, hb, hx, hy⟩
  repeat (first | refine WC.seq ?_ | refine WC.reg ?_ | refine WL.pure rfl rfl rfl ?_ | refine WL.nil ?_ | refine WC.skip ?_ | refine WC.block ?_ | refine WC.condT rfl ?_ | refine WC.condF rfl ?_ | refine WL.off rfl rfl rfl ?_ | refine WL.off0 rfl rfl ?_ | refine WC.exit ?_ | refine blk_hit ?_ | refine blk_miss rfl ?_ | refine WC.ret ?_)
  refine WC.cond rfl (fun hq => ?_) (fun hq => ?_)
  · have hb0 : 0 < b := by
      have : (b : Int) ≠ 0 := by simpa using hq
      omega
    have hS := hE.step hb0
    have hy2 := hS.small.2 hb0
    have hd := Nat.div_add_mod c b
    have hql := Nat.div_le_self c b
    have hml := Nat.mod_lt c hb0
    have e1 : IntKind.i64.wrap ((c : Int).tdiv (b : Int)) = ((c / b : Nat) : Int) := by
      rw [← Int.ofNat_tdiv]
      generalize c / b = q at *
      exact wrap_mid (by omega) (by omega)
    generalize hqq : c / b = q at *
    generalize hrr : c % b = r at *
    have hqb : q * b ≤ c := by rw [Nat.mul_comm]; omega
    have e2 : IntKind.i64.wrap ((q : Int) * (b : Int)) = ((q * b : Nat) : Int) := by rw [← Int.natCast_mul]; exact wrap_mid (by omega) (by omega)
    have e3 : IntKind.i64.wrap ((c : Int) - ((q * b : Nat) : Int)) = ((r : Nat) : Int) := by
      rw [Nat.mul_comm] at hqb ⊢
      rw [wrap_mid (by omega) (by omega)]; omega
    have e4 : IntKind.i64.wrap ((q : Int) * y) = (q : Int) * y := by
      generalize (q : Int) * y = z at *
      exact wrap_mid (by omega) (by omega)
    have e5 : IntKind.i64.wrap (x - (q : Int) * y) = x - (q : Int) * y := by
      generalize x - (q : Int) * y = z at *
      exact wrap_mid (by omega) (by omega)
    repeat (first | refine WC.seq ?_ | refine WC.reg ?_ | refine WL.pure rfl rfl rfl ?_ | refine WL.nil ?_ | refine WC.skip ?_ | refine WC.block ?_ | refine WC.condT rfl ?_ | refine WC.condF rfl ?_ | refine WL.off rfl rfl rfl ?_ | refine WL.off0 rfl rfl ?_ | refine WC.exit ?_ | refine blk_hit ?_ | refine blk_miss rfl ?_ | refine WC.ret ?_)
    refine WL.quo rfl rfl rfl rfl (by omega) ?_
    refine WL.known (d := 13) (congrArg (fun z => some (Value.int .i64 z)) e1) ?_
    rw [← e2] at e3
    rw [← e4] at e5
    repeat (first | refine WC.seq ?_ | refine WC.reg ?_ | refine WL.pure rfl rfl rfl ?_ | refine WL.nil ?_ | refine WC.skip ?_ | refine WC.block ?_ | refine WC.condT rfl ?_ | refine WC.condF rfl ?_ | refine WL.off rfl rfl rfl ?_ | refine WL.off0 rfl rfl ?_ | refine WC.exit ?_ | refine blk_hit ?_ | refine blk_miss rfl ?_ | refine WC.ret ?_)
    exact ⟨(b, r, y, x - (q : Int) * y), hml, ⟨rfl, congrArg (fun z => some (Value.int .i64 z)) e3, rfl, congrArg (fun z => some (Value.int .i64 z)) (e5.trans (by rw [e4])), rfl⟩, rfl, hS, hb, by omega, hy, hy2⟩
  · have hb0 : b = 0 := by
      have : (b : Int) = 0 := by simpa using hq
      omega
    subst hb0
    have hg := hE.gc
    rw [Nat.gcd_zero_right] at hg
    subst hg
    repeat (first | refine WC.seq ?_ | refine WC.reg ?_ | refine WL.pure rfl rfl rfl ?_ | refine WL.nil ?_ | refine WC.skip ?_ | refine WC.block ?_ | refine WC.condT rfl ?_ | refine WC.condF rfl ?_ | refine WL.off rfl rfl rfl ?_ | refine WL.off0 rfl rfl ?_ | refine WC.exit ?_ | refine blk_hit ?_ | refine blk_miss rfl ?_ | refine WC.ret ?_)
    exact Res.two rfl rfl rfl rfl ⟨rfl, x, rfl, hE.ga.1, hx⟩
end Go.Proofs.Ytagfpnnplgkkoaa
