/- The walks of rests, inverses and trimmed lists. -/
import Derived.Test.YtagfpnnplgkkoaaR1
namespace Go.Proofs.Ytagfpnnplgkkoaa
open Go.W Go.Poly
set_option maxRecDepth 100000
attribute [local irreducible] WC WL WQ WS WH

theorem isRest_any (a m : Nat) (ha : a < m) (hm : m ≤ 2147483647) : Pur Try.prog 100 [.int .i64 (a : Nat), .int .i64 (m : Nat)] (.bool true) := by
  intro w
  refine enter Try.func100 rfl rfl ⟨rfl, rfl⟩ rfl ?_
  repeat (first | refine WC.seq ?_ | refine WC.reg ?_ | refine WL.pure rfl rfl rfl ?_ | refine WL.nil ?_ | refine WC.skip ?_ | refine WC.block ?_ | refine WC.condT rfl ?_ | refine WC.condF rfl ?_ | refine WL.off rfl rfl rfl ?_ | refine WL.off0 rfl rfl ?_ | refine WC.exit ?_ | refine blk_hit ?_ | refine blk_miss rfl ?_ | refine WC.ret ?_)
  refine WL.callP rfl rfl rfl rfl rfl ent98 (isNumber_any _ _) ?_
  rw [decide_eq_true (show (1 : Int) ≤ (m : Int) by omega), decide_eq_true (show (m : Int) ≤ 2147483647 by omega)]
  repeat (first | refine WC.seq ?_ | refine WC.reg ?_ | refine WL.pure rfl rfl rfl ?_ | refine WL.nil ?_ | refine WC.skip ?_ | refine WC.block ?_ | refine WC.condT rfl ?_ | refine WC.condF rfl ?_ | refine WL.off rfl rfl rfl ?_ | refine WL.off0 rfl rfl ?_ | refine WC.exit ?_ | refine blk_hit ?_ | refine blk_miss rfl ?_ | refine WC.ret ?_)
  exact Res.one rfl rfl rfl ⟨by rw [decide_eq_true (show (a : Int) < (m : Int) by omega)], rfl⟩

theorem pri_gcd {p n : Nat} (hp : Pri p) (h0 : 0 < n) (hn : n < p) : Nat.gcd n p = 1 := by
  rcases hp.2 (Nat.gcd n p) (Nat.gcd_dvd_right n p) with h | h
  · exact h
  · have := Nat.le_of_dvd h0 (Nat.gcd_dvd_left n p)
    omega
theorem tmod_pos {z : Int} {m : Nat} (hm : 0 < m) (hz : -(m : Int) < z) : (z + m).tmod m = z % m := by
  rw [Int.tmod_eq_emod_of_nonneg (by omega), Int.add_emod_right]
theorem tmod_size (z : Int) {m : Nat} (hm : 0 < m) : -(m : Int) < z.tmod m ∧ z.tmod m < m := by
  have h1 := Int.natAbs_tmod z (m : Int)
  have h2 : (z.tmod m).natAbs < m := by rw [h1]; exact Nat.mod_lt _ (by omega)
  omega
theorem tmod_emod (z : Int) {m : Nat} : z.tmod m % m = z % m := by
  rw [Int.tmod_def, Int.sub_mul_emod_self_left]
theorem Inverse_any (a m : Nat) (hp : Pri m) (h0 : 0 < a) (ha : a < m) (hm : m ≤ 2147483647) : Pur Try.prog 80 [.int .i64 (a : Nat), .int .i64 (m : Nat)] (.tuple #[.int .i64 (iv m a : Nat), .int .i64 0]) := by
  intro w
  have hm0 := hp.pos
  refine enter Try.func80 rfl rfl ⟨rfl, rfl⟩ rfl ?_
  repeat (first | refine WC.seq ?_ | refine WC.reg ?_ | refine WL.pure rfl rfl rfl ?_ | refine WL.nil ?_ | refine WC.skip ?_ | refine WC.block ?_ | refine WC.condT rfl ?_ | refine WC.condF rfl ?_ | refine WL.off rfl rfl rfl ?_ | refine WL.off0 rfl rfl ?_ | refine WC.exit ?_ | refine blk_hit ?_ | refine blk_miss rfl ?_ | refine WC.ret ?_)
  refine WL.callP rfl rfl rfl rfl rfl ent100 (isRest_any a m ha hm _) ?_
  repeat (first | refine WC.seq ?_ | refine WC.reg ?_ | refine WL.pure rfl rfl rfl ?_ | refine WL.nil ?_ | refine WC.skip ?_ | refine WC.block ?_ | refine WC.condT rfl ?_ | refine WC.condF rfl ?_ | refine WL.off rfl rfl rfl ?_ | refine WL.off0 rfl rfl ?_ | refine WC.exit ?_ | refine blk_hit ?_ | refine blk_miss rfl ?_ | refine WC.ret ?_)
  refine WL.call rfl rfl rfl rfl rfl ent101 (euclid_any a m (by omega) hm0 (by omega) _) ?_
  rintro _ w1 ⟨rfl, x, rfl, hdv, hxm⟩
  rw [pri_gcd hp h0 ha] at *
  have hs := tmod_size x hm0
  have hr := Int.emod_nonneg x (show (m : Int) ≠ 0 by omega)
  have hr2 := Int.emod_lt_of_pos x (show 0 < (m : Int) by omega)
  have e1 : IntKind.i64.wrap (x.tmod (m : Int) + (m : Int)) = x.tmod (m : Int) + (m : Int) := wrap_mid (by omega) (by omega)
  have e2 : (x.tmod (m : Int) + (m : Int)).tmod m = ((iv m a : Nat) : Int) := by
    rw [tmod_pos hm0 hs.1, tmod_emod]
    obtain ⟨v, hv⟩ := Int.eq_ofNat_of_zero_le hr
    have hv2 : v < m := by omega
    rw [hv, iv_of hp hv2]
    have h1 : ((a * v : Nat) : Int) % m = 1 % m := by
      obtain ⟨u, hu⟩ := hdv
      have hx := Int.mul_ediv_add_emod x (m : Int)
      rw [hv] at hx
      generalize x / (m : Int) = t at *
      have h3 : (a : Int) * v = a * x - a * (m * t) := by rw [← Int.mul_sub]; congr 1; omega
      have h4 : ((a * v : Nat) : Int) = 1 + m * (-(u + a * t)) := by
        rw [Int.natCast_mul, h3, Int.mul_neg, Int.mul_add, Int.mul_left_comm (a : Int) m t, ← hu, Int.mul_comm x]
        omega
      rw [h4, Int.add_mul_emod_self_left]
    have h2 : (1 : Int) % m = 1 := Int.emod_eq_of_lt (by omega) (by have := hp.1; omega)
    rw [h2] at h1
    omega
  repeat (first | refine WC.seq ?_ | refine WC.reg ?_ | refine WL.pure rfl rfl rfl ?_ | refine WL.nil ?_ | refine WC.skip ?_ | refine WC.block ?_ | refine WC.condT rfl ?_ | refine WC.condF rfl ?_ | refine WL.off rfl rfl rfl ?_ | refine WL.off0 rfl rfl ?_ | refine WC.exit ?_ | refine blk_hit ?_ | refine blk_miss rfl ?_ | refine WC.ret ?_)
  refine WL.rem rfl rfl rfl rfl (by omega) ?_
  repeat (first | refine WC.seq ?_ | refine WC.reg ?_ | refine WL.pure rfl rfl rfl ?_ | refine WL.nil ?_ | refine WC.skip ?_ | refine WC.block ?_ | refine WC.condT rfl ?_ | refine WC.condF rfl ?_ | refine WL.off rfl rfl rfl ?_ | refine WL.off0 rfl rfl ?_ | refine WC.exit ?_ | refine blk_hit ?_ | refine blk_miss rfl ?_ | refine WC.ret ?_)
  refine WL.known (d := 24) (congrArg (fun z => some (Value.int .i64 z)) e1) ?_
  repeat (first | refine WC.seq ?_ | refine WC.reg ?_ | refine WL.pure rfl rfl rfl ?_ | refine WL.nil ?_ | refine WC.skip ?_ | refine WC.block ?_ | refine WC.condT rfl ?_ | refine WC.condF rfl ?_ | refine WL.off rfl rfl rfl ?_ | refine WL.off0 rfl rfl ?_ | refine WC.exit ?_ | refine blk_hit ?_ | refine blk_miss rfl ?_ | refine WC.ret ?_)
  refine WL.rem rfl rfl rfl rfl (by omega) ?_
  repeat (first | refine WC.seq ?_ | refine WC.reg ?_ | refine WL.pure rfl rfl rfl ?_ | refine WL.nil ?_ | refine WC.skip ?_ | refine WC.block ?_ | refine WC.condT rfl ?_ | refine WC.condF rfl ?_ | refine WL.off rfl rfl rfl ?_ | refine WL.off0 rfl rfl ?_ | refine WC.exit ?_ | refine blk_hit ?_ | refine blk_miss rfl ?_ | refine WC.ret ?_)
  exact Res.two rfl rfl rfl rfl ⟨by rw [e2], rfl⟩
theorem inverse_any (p n : Nat) (hp : Pri p) (h0 : 0 < n) (hn : n < p) (hm : p ≤ 2147483647) : Pur Try.prog 55 [.int .i64 (p : Nat), .int .i64 (n : Nat)] (.int .i64 (iv p n : Nat)) := by
  intro w
  refine enter Try.func55 rfl rfl ⟨rfl, rfl⟩ rfl ?_
  repeat (first | refine WC.seq ?_ | refine WC.reg ?_ | refine WL.pure rfl rfl rfl ?_ | refine WL.nil ?_ | refine WC.skip ?_ | refine WC.block ?_ | refine WC.condT rfl ?_ | refine WC.condF rfl ?_ | refine WL.off rfl rfl rfl ?_ | refine WL.off0 rfl rfl ?_ | refine WC.exit ?_ | refine blk_hit ?_ | refine blk_miss rfl ?_ | refine WC.ret ?_)
  refine WL.callP rfl rfl rfl rfl rfl ent80 (Inverse_any n p hp h0 hn hm _) ?_
  repeat (first | refine WC.seq ?_ | refine WC.reg ?_ | refine WL.pure rfl rfl rfl ?_ | refine WL.nil ?_ | refine WC.skip ?_ | refine WC.block ?_ | refine WC.condT rfl ?_ | refine WC.condF rfl ?_ | refine WL.off rfl rfl rfl ?_ | refine WL.off0 rfl rfl ?_ | refine WC.exit ?_ | refine blk_hit ?_ | refine blk_miss rfl ?_ | refine WC.ret ?_)
  exact Res.one rfl rfl rfl ⟨rfl, rfl⟩
theorem mod_any (p : Nat) (n : Int) (hp : 0 < p) (hm : p ≤ 2147483647) : Pur Try.prog 54 [.int .i64 (p : Nat), .int .i64 n] (.int .i64 (n % p)) := by
  intro w
  have hs := tmod_size n hp
  have e1 : IntKind.i64.wrap (n.tmod (p : Int) + (p : Int)) = n.tmod (p : Int) + (p : Int) := wrap_mid (by omega) (by omega)
  refine enter Try.func54 rfl rfl ⟨rfl, rfl⟩ rfl ?_
  repeat (first | refine WC.seq ?_ | refine WC.reg ?_ | refine WL.pure rfl rfl rfl ?_ | refine WL.nil ?_ | refine WC.skip ?_ | refine WC.block ?_ | refine WC.condT rfl ?_ | refine WC.condF rfl ?_ | refine WL.off rfl rfl rfl ?_ | refine WL.off0 rfl rfl ?_ | refine WC.exit ?_ | refine blk_hit ?_ | refine blk_miss rfl ?_ | refine WC.ret ?_)
  refine WL.rem rfl rfl rfl rfl (by omega) ?_
  repeat (first | refine WC.seq ?_ | refine WC.reg ?_ | refine WL.pure rfl rfl rfl ?_ | refine WL.nil ?_ | refine WC.skip ?_ | refine WC.block ?_ | refine WC.condT rfl ?_ | refine WC.condF rfl ?_ | refine WL.off rfl rfl rfl ?_ | refine WL.off0 rfl rfl ?_ | refine WC.exit ?_ | refine blk_hit ?_ | refine blk_miss rfl ?_ | refine WC.ret ?_)
  refine WL.known (d := 9) (congrArg (fun z => some (Value.int .i64 z)) e1) ?_
  repeat (first | refine WC.seq ?_ | refine WC.reg ?_ | refine WL.pure rfl rfl rfl ?_ | refine WL.nil ?_ | refine WC.skip ?_ | refine WC.block ?_ | refine WC.condT rfl ?_ | refine WC.condF rfl ?_ | refine WL.off rfl rfl rfl ?_ | refine WL.off0 rfl rfl ?_ | refine WC.exit ?_ | refine blk_hit ?_ | refine blk_miss rfl ?_ | refine WC.ret ?_)
  refine WL.rem rfl rfl rfl rfl (by omega) ?_
  repeat (first | refine WC.seq ?_ | refine WC.reg ?_ | refine WL.pure rfl rfl rfl ?_ | refine WL.nil ?_ | refine WC.skip ?_ | refine WC.block ?_ | refine WC.condT rfl ?_ | refine WC.condF rfl ?_ | refine WL.off rfl rfl rfl ?_ | refine WL.off0 rfl rfl ?_ | refine WC.exit ?_ | refine blk_hit ?_ | refine blk_miss rfl ?_ | refine WC.ret ?_)
  exact Res.one rfl rfl rfl ⟨by rw [tmod_pos hp hs.1, tmod_emod], rfl⟩
end Go.Proofs.Ytagfpnnplgkkoaa
