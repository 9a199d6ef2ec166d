/- The walks of the reference's inverse. -/
import Derived.Test.YtagfpnnplgkkoaaR13
namespace Go.Proofs.Ytagfpnnplgkkoaa
open Go.W Go.Poly Go.Tree
set_option maxRecDepth 100000
attribute [local irreducible] WC WL WQ WS WH

theorem RGcd_any (a m : Nat) : Pur Try.prog 95 [.int .i64 (a : Nat), .int .i64 (m : Nat)] (.int .i64 (Nat.gcd a m : Nat)) := by
  intro w
  refine enter Try.func95 rfl rfl ⟨rfl, rfl⟩ rfl ?_
  repeat (first | refine WC.seq ?_ | refine WC.reg ?_ | refine WL.pure rfl rfl rfl ?_ | refine WL.nil ?_ | refine WC.skip ?_ | refine WC.block ?_ | refine WC.condT rfl ?_ | refine WC.condF rfl ?_ | refine WL.off rfl rfl rfl ?_ | refine WL.off0 rfl rfl ?_ | refine WC.exit ?_ | refine blk_hit ?_ | refine blk_miss rfl ?_ | refine WC.ret ?_)
  refine WC.loop (Nat × Nat) (fun (c, b) => [(0, .int .i64 (c : Nat)), (1, .int .i64 (b : Nat))]) (fun (c, b) w' => w' = w ∧ Nat.gcd c b = Nat.gcd a m) (fun (c, b) => b) (a, m) ⟨rfl, rfl, rfl⟩ ⟨rfl, rfl⟩ ?_
  rintro ⟨c, b⟩ w1 ⟨rfl, hg⟩
  repeat (first | refine WC.seq ?_ | refine WC.reg ?_ | refine WL.pure rfl rfl rfl ?_ | refine WL.nil ?_ | refine WC.skip ?_ | refine WC.block ?_ | refine WC.condT rfl ?_ | refine WC.condF rfl ?_ | refine WL.off rfl rfl rfl ?_ | refine WL.off0 rfl rfl ?_ | refine WC.exit ?_ | refine blk_hit ?_ | refine blk_miss rfl ?_ | refine WC.ret ?_)
  refine WC.cond rfl (fun hq => ?_) (fun hq => ?_)
  · have hb0 : 0 < b := by have := of_decide_eq_true hq; omega
    have em : ((c : Int).tmod (b : Int)) = ((c % b : Nat) : Int) := (Int.ofNat_tmod _ _).symm
    repeat (first | refine WC.seq ?_ | refine WC.reg ?_ | refine WL.pure rfl rfl rfl ?_ | refine WL.nil ?_ | refine WC.skip ?_ | refine WC.block ?_ | refine WC.condT rfl ?_ | refine WC.condF rfl ?_ | refine WL.off rfl rfl rfl ?_ | refine WL.off0 rfl rfl ?_ | refine WC.exit ?_ | refine blk_hit ?_ | refine blk_miss rfl ?_ | refine WC.ret ?_)
    refine WL.rem rfl rfl rfl rfl (by omega) ?_
    refine WL.known (d := 10) (congrArg (fun z => some (Value.int .i64 z)) em) ?_
    repeat (first | refine WC.seq ?_ | refine WC.reg ?_ | refine WL.pure rfl rfl rfl ?_ | refine WL.nil ?_ | refine WC.skip ?_ | refine WC.block ?_ | refine WC.condT rfl ?_ | refine WC.condF rfl ?_ | refine WL.off rfl rfl rfl ?_ | refine WL.off0 rfl rfl ?_ | refine WC.exit ?_ | refine blk_hit ?_ | refine blk_miss rfl ?_ | refine WC.ret ?_)
    exact ⟨(b, c % b), Nat.mod_lt _ hb0, ⟨rfl, rfl, rfl⟩, rfl, by rw [← hg, Nat.gcd_comm b, ← Nat.gcd_rec, Nat.gcd_comm]⟩
  · have hb0 : b = 0 := by have := of_decide_eq_false hq; omega
    subst hb0
    rw [Nat.gcd_zero_right] at hg
    subst hg
    repeat (first | refine WC.seq ?_ | refine WC.reg ?_ | refine WL.pure rfl rfl rfl ?_ | refine WL.nil ?_ | refine WC.skip ?_ | refine WC.block ?_ | refine WC.condT rfl ?_ | refine WC.condF rfl ?_ | refine WL.off rfl rfl rfl ?_ | refine WL.off0 rfl rfl ?_ | refine WC.exit ?_ | refine blk_hit ?_ | refine blk_miss rfl ?_ | refine WC.ret ?_)
    exact Res.one rfl rfl rfl ⟨rfl, rfl⟩

theorem RInverse_any (a m : Nat) (hp : Pri m) (h0 : 0 < a) (ha : a < m) (hm : m ≤ 2147483647) : Pur Try.prog 76 [.int .i64 (a : Nat), .int .i64 (m : Nat)] (.tuple #[.int .i64 (iv m a : Nat), .bool true]) := by
  intro w
  have hm0 := hp.pos
  have hE0 : Eu m a m a 0 1 := ⟨⟨⟨1, by omega⟩, ⟨0, by omega⟩⟩, Nat.gcd_comm _ _, by simp, .inr ⟨by decide, by decide⟩, .inr h0⟩
  refine enter Try.func76 rfl rfl ⟨rfl, rfl⟩ rfl ?_
  repeat (first | refine WC.seq ?_ | refine WC.reg ?_ | refine WL.pure rfl rfl rfl ?_ | refine WL.nil ?_ | refine WC.skip ?_ | refine WC.block ?_ | refine WC.condT rfl ?_ | refine WC.condF rfl ?_ | refine WL.off rfl rfl rfl ?_ | refine WL.off0 rfl rfl ?_ | refine WC.exit ?_ | refine blk_hit ?_ | refine blk_miss rfl ?_ | refine WC.ret ?_)
  refine WL.callP rfl rfl rfl rfl rfl ent95 (RGcd_any a m _) ?_
  rw [pri_gcd hp h0 ha]
  repeat (first | refine WC.seq ?_ | refine WC.reg ?_ | refine WL.pure rfl rfl rfl ?_ | refine WL.nil ?_ | refine WC.skip ?_ | refine WC.block ?_ | refine WC.condT rfl ?_ | refine WC.condF rfl ?_ | refine WL.off rfl rfl rfl ?_ | refine WL.off0 rfl rfl ?_ | refine WC.exit ?_ | refine blk_hit ?_ | refine blk_miss rfl ?_ | refine WC.ret ?_)
  refine WC.loop (Nat × Nat × Int × Int) (fun (c, b, x, y) => [(1, .int .i64 (m : Nat)), (6, .int .i64 (c : Nat)), (7, .int .i64 (b : Nat)), (8, .int .i64 x), (9, .int .i64 y)])
    (fun (c, b, x, y) w' => w' = w ∧ Eu m a c b x y ∧ c < 4294967296 ∧ b < 4294967296 ∧ x.natAbs ≤ m ∧ y.natAbs ≤ m) (fun (c, b, x, y) => b) (m, a, 0, 1) ⟨rfl, rfl, rfl, rfl, rfl, rfl⟩ ⟨rfl, hE0, by omega, by omega, by simp, by simp; omega⟩ ?_
  rintro ⟨c, b, x, y⟩ w1 ⟨rfl, hE, hc, hb, hx, hy⟩
  repeat (first | refine WC.seq ?_ | refine WC.reg ?_ | refine WL.pure rfl rfl rfl ?_ | refine WL.nil ?_ | refine WC.skip ?_ | refine WC.block ?_ | refine WC.condT rfl ?_ | refine WC.condF rfl ?_ | refine WL.off rfl rfl rfl ?_ | refine WL.off0 rfl rfl ?_ | refine WC.exit ?_ | refine blk_hit ?_ | refine blk_miss rfl ?_ | refine WC.ret ?_)
  refine WC.cond rfl (fun hq => ?_) (fun hq => ?_)
  · have hb0 : 0 < b := by have := of_decide_eq_true hq; omega
    have hS := hE.step hb0
    have hy2 := hS.small.2 hb0
    have hd := Nat.div_add_mod c b
    have hql := Nat.div_le_self c b
    have hml := Nat.mod_lt c hb0
    have e1 : IntKind.i64.wrap ((c : Int).tdiv (b : Int)) = ((c / b : Nat) : Int) := by
      rw [← Int.ofNat_tdiv]
      generalize c / b = q at *
      exact wrap_mid (by omega) (by omega)
    generalize hqq : c / b = q at *
    generalize hrr : c % b = r at *
    have hqb : q * b ≤ c := by rw [Nat.mul_comm]; omega
    have e2 : IntKind.i64.wrap ((q : Int) * (b : Int)) = ((q * b : Nat) : Int) := by rw [← Int.natCast_mul]; exact wrap_mid (by omega) (by omega)
    have e3 : IntKind.i64.wrap ((c : Int) - ((q * b : Nat) : Int)) = ((r : Nat) : Int) := by
      rw [Nat.mul_comm] at hqb ⊢
      rw [wrap_mid (by omega) (by omega)]; omega
    have e4 : IntKind.i64.wrap ((q : Int) * y) = (q : Int) * y := by
      generalize (q : Int) * y = z at *
      exact wrap_mid (by omega) (by omega)
    have e5 : IntKind.i64.wrap (x - (q : Int) * y) = x - (q : Int) * y := by
      generalize x - (q : Int) * y = z at *
      exact wrap_mid (by omega) (by omega)
    rw [← e2] at e3
    rw [← e4] at e5
    repeat (first | refine WC.seq ?_ | refine WC.reg ?_ | refine WL.pure rfl rfl rfl ?_ | refine WL.nil ?_ | refine WC.skip ?_ | refine WC.block ?_ | refine WC.condT rfl ?_ | refine WC.condF rfl ?_ | refine WL.off rfl rfl rfl ?_ | refine WL.off0 rfl rfl ?_ | refine WC.exit ?_ | refine blk_hit ?_ | refine blk_miss rfl ?_ | refine WC.ret ?_)
    refine WL.quo rfl rfl rfl rfl (by omega) ?_
    refine WL.known (d := 23) (congrArg (fun z => some (Value.int .i64 z)) e1) ?_
    repeat (first | refine WC.seq ?_ | refine WC.reg ?_ | refine WL.pure rfl rfl rfl ?_ | refine WL.nil ?_ | refine WC.skip ?_ | refine WC.block ?_ | refine WC.condT rfl ?_ | refine WC.condF rfl ?_ | refine WL.off rfl rfl rfl ?_ | refine WL.off0 rfl rfl ?_ | refine WC.exit ?_ | refine blk_hit ?_ | refine blk_miss rfl ?_ | refine WC.ret ?_)
    exact ⟨(b, r, y, x - (q : Int) * y), hml, ⟨rfl, rfl, congrArg (fun z => some (Value.int .i64 z)) e3, rfl, congrArg (fun z => some (Value.int .i64 z)) (e5.trans (by rw [e4])), rfl⟩, rfl, hS, hb, by omega, hy, hy2⟩
  · have hb0 : b = 0 := by have := of_decide_eq_false hq; omega
    subst hb0
    have hg := hE.gc
    rw [Nat.gcd_zero_right, pri_gcd hp h0 ha] at hg
    subst hg
    have hdv := hE.ga.1
    have hs := tmod_size x hm0
    have hr := Int.emod_nonneg x (show (m : Int) ≠ 0 by omega)
    have hr2 := Int.emod_lt_of_pos x (show 0 < (m : Int) by omega)
    have e1 : IntKind.i64.wrap (x.tmod (m : Int) + (m : Int)) = x.tmod (m : Int) + (m : Int) := wrap_mid (by omega) (by omega)
    have e2 : (x.tmod (m : Int) + (m : Int)).tmod m = ((iv m a : Nat) : Int) := by
      rw [tmod_pos hm0 hs.1, tmod_emod]
      obtain ⟨v, hv⟩ := Int.eq_ofNat_of_zero_le hr
      have hv2 : v < m := by omega
      rw [hv, iv_of hp hv2]
      have h1 : ((a * v : Nat) : Int) % m = 1 % m := by
        obtain ⟨u, hu⟩ := hdv
        have hx := Int.mul_ediv_add_emod x (m : Int)
        rw [hv] at hx
        generalize x / (m : Int) = t at *
        have h3 : (a : Int) * v = a * x - a * (m * t) := by rw [← Int.mul_sub]; congr 1; omega
        have h4 : ((a * v : Nat) : Int) = 1 + m * (-(u + a * t)) := by
          rw [Int.natCast_mul, h3, Int.mul_neg, Int.mul_add, Int.mul_left_comm (a : Int) m t, ← hu, Int.mul_comm x]
          omega
        rw [h4, Int.add_mul_emod_self_left]
      have h2 : (1 : Int) % m = 1 := Int.emod_eq_of_lt (by omega) (by have := hp.1; omega)
      rw [h2] at h1
      omega
    repeat (first | refine WC.seq ?_ | refine WC.reg ?_ | refine WL.pure rfl rfl rfl ?_ | refine WL.nil ?_ | refine WC.skip ?_ | refine WC.block ?_ | refine WC.condT rfl ?_ | refine WC.condF rfl ?_ | refine WL.off rfl rfl rfl ?_ | refine WL.off0 rfl rfl ?_ | refine WC.exit ?_ | refine blk_hit ?_ | refine blk_miss rfl ?_ | refine WC.ret ?_)
    refine WL.rem rfl rfl rfl rfl (by omega) ?_
    repeat (first | refine WC.seq ?_ | refine WC.reg ?_ | refine WL.pure rfl rfl rfl ?_ | refine WL.nil ?_ | refine WC.skip ?_ | refine WC.block ?_ | refine WC.condT rfl ?_ | refine WC.condF rfl ?_ | refine WL.off rfl rfl rfl ?_ | refine WL.off0 rfl rfl ?_ | refine WC.exit ?_ | refine blk_hit ?_ | refine blk_miss rfl ?_ | refine WC.ret ?_)
    refine WL.known (d := 42) (congrArg (fun z => some (Value.int .i64 z)) e1) ?_
    repeat (first | refine WC.seq ?_ | refine WC.reg ?_ | refine WL.pure rfl rfl rfl ?_ | refine WL.nil ?_ | refine WC.skip ?_ | refine WC.block ?_ | refine WC.condT rfl ?_ | refine WC.condF rfl ?_ | refine WL.off rfl rfl rfl ?_ | refine WL.off0 rfl rfl ?_ | refine WC.exit ?_ | refine blk_hit ?_ | refine blk_miss rfl ?_ | refine WC.ret ?_)
    refine WL.rem rfl rfl rfl rfl (by omega) ?_
    repeat (first | refine WC.seq ?_ | refine WC.reg ?_ | refine WL.pure rfl rfl rfl ?_ | refine WL.nil ?_ | refine WC.skip ?_ | refine WC.block ?_ | refine WC.condT rfl ?_ | refine WC.condF rfl ?_ | refine WL.off rfl rfl rfl ?_ | refine WL.off0 rfl rfl ?_ | refine WC.exit ?_ | refine blk_hit ?_ | refine blk_miss rfl ?_ | refine WC.ret ?_)
    exact Res.two rfl rfl rfl rfl ⟨by rw [e2], rfl⟩
theorem Rinverse_any (p n : Nat) (hp : Pri p) (h0 : 0 < n) (hn : n < p) (hm : p ≤ 2147483647) : Pur Try.prog 49 [.int .i64 (p : Nat), .int .i64 (n : Nat)] (.int .i64 (iv p n : Nat)) := by
  intro w
  refine enter Try.func49 rfl rfl ⟨rfl, rfl⟩ rfl ?_
  repeat (first | refine WC.seq ?_ | refine WC.reg ?_ | refine WL.pure rfl rfl rfl ?_ | refine WL.nil ?_ | refine WC.skip ?_ | refine WC.block ?_ | refine WC.condT rfl ?_ | refine WC.condF rfl ?_ | refine WL.off rfl rfl rfl ?_ | refine WL.off0 rfl rfl ?_ | refine WC.exit ?_ | refine blk_hit ?_ | refine blk_miss rfl ?_ | refine WC.ret ?_)
  refine WL.callP rfl rfl rfl rfl rfl ent76 (RInverse_any n p hp h0 hn hm _) ?_
  repeat (first | refine WC.seq ?_ | refine WC.reg ?_ | refine WL.pure rfl rfl rfl ?_ | refine WL.nil ?_ | refine WC.skip ?_ | refine WC.block ?_ | refine WC.condT rfl ?_ | refine WC.condF rfl ?_ | refine WL.off rfl rfl rfl ?_ | refine WL.off0 rfl rfl ?_ | refine WC.exit ?_ | refine blk_hit ?_ | refine blk_miss rfl ?_ | refine WC.ret ?_)
  exact Res.one rfl rfl rfl ⟨rfl, rfl⟩
end Go.Proofs.Ytagfpnnplgkkoaa
