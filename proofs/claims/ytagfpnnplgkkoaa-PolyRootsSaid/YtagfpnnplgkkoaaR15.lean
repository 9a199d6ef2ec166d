/- The walk of the reference's value of a polynomial. -/
import Derived.Test.YtagfpnnplgkkoaaR14
namespace Go.Proofs.Ytagfpnnplgkkoaa
open Go.W Go.Poly Go.Tree
set_option maxRecDepth 100000
attribute [local irreducible] WC WL WQ WS WH

theorem RValue_any (fa : Option Addr) (fc p x : Nat) (f : List Nat) (hp0 : 0 < p) (hp : p ≤ 1021) (hf : ∀ i, co f i < p) (hx : x < p) (hlf : f.length ≤ 1000) (w : World) (sf : Sl w fa (ints f)) :
    Ret Try.prog 29 [.int .i64 (p : Nat), .slice fa f.length fc, .int .i64 (x : Nat)] w fun u w' => u = .int .i64 (valL p f x : Nat) ∧ w' = w := by
  have e0 : IntKind.i64.wrap ((f.length : Int) - 1) = (f.length : Int) - 1 := wrap_mid (by omega) (by omega)
  refine enter Try.func29 rfl rfl ⟨rfl, rfl⟩ rfl ?_
  repeat (first | refine WC.seq ?_ | refine WC.reg ?_ | refine WL.pure rfl rfl rfl ?_ | refine WL.nil ?_ | refine WC.skip ?_ | refine WC.block ?_ | refine WC.condT rfl ?_ | refine WC.condF rfl ?_ | refine WL.off rfl rfl rfl ?_ | refine WL.off0 rfl rfl ?_ | refine WC.exit ?_ | refine blk_hit ?_ | refine blk_miss rfl ?_ | refine WC.ret ?_)
  refine WC.loop Nat (fun m => [(0, .int .i64 (p : Nat)), (1, .slice fa f.length fc), (2, .int .i64 (x : Nat)), (7, .int .i64 (valN p f x (f.length - m) : Nat)), (8, .int .i64 ((m : Int) - 1))])
    (fun m w' => w' = w ∧ m ≤ f.length) (fun m => m) f.length ⟨rfl, rfl, rfl, congrArg (fun z => some (Value.int .i64 z)) (show (0 : Int) = ((valN p f x (f.length - f.length) : Nat) : Int) by rw [Nat.sub_self]; rfl), congrArg (fun z => some (Value.int .i64 z)) e0, rfl⟩ ⟨rfl, Nat.le_refl _⟩ ?_
  rintro m w1 ⟨rfl, hm⟩
  repeat (first | refine WC.seq ?_ | refine WC.reg ?_ | refine WL.pure rfl rfl rfl ?_ | refine WL.nil ?_ | refine WC.skip ?_ | refine WC.block ?_ | refine WC.condT rfl ?_ | refine WC.condF rfl ?_ | refine WL.off rfl rfl rfl ?_ | refine WL.off0 rfl rfl ?_ | refine WC.exit ?_ | refine blk_hit ?_ | refine blk_miss rfl ?_ | refine WC.ret ?_)
  refine WC.cond rfl (fun hc => ?_) (fun hc => ?_)
  · have hm0 : 0 < m := by have := of_decide_eq_true hc; omega
    obtain ⟨k, rfl⟩ : ∃ k, m = k + 1 := ⟨m - 1, by omega⟩
    have ek : ((k + 1 : Nat) : Int) - 1 = ((k : Nat) : Int) := by omega
    have step : IntKind.i64.wrap ((((k + 1 : Nat) : Int) - 1) - 1) = ((k : Nat) : Int) - 1 := by rw [ek]; exact wrap_mid (by omega) (by omega)
    have hv := valN_lt hp0 f x (f.length - (k + 1))
    have hnext : valN p f x (f.length - k) = (valN p f x (f.length - (k + 1)) * x + co f k) % p := by
      rw [show f.length - k = f.length - (k + 1) + 1 by omega, valN, show f.length - (f.length - (k + 1) + 1) = k by omega]
    have hc1 := hf k
    generalize valN p f x (f.length - (k + 1)) = v at *
    have h1 : v * x ≤ 1021 * 1021 := Nat.mul_le_mul (by omega) (by omega)
    have ev : (IntKind.i64.wrap (IntKind.i64.wrap ((v : Int) * (x : Int)) + (co f k : Int))).tmod (p : Int) = (((v * x + co f k) % p : Nat) : Int) := by
      rw [← Int.natCast_mul]
      generalize v * x = z at *
      rw [wrap_mid (z := (z : Int)) (by omega) (by omega), wrap_mid (by omega) (by omega), ← Int.natCast_add, ← Int.ofNat_tmod]
    repeat (first | refine WC.seq ?_ | refine WC.reg ?_ | refine WL.pure rfl rfl rfl ?_ | refine WL.nil ?_ | refine WC.skip ?_ | refine WC.block ?_ | refine WC.condT rfl ?_ | refine WC.condF rfl ?_ | refine WL.off rfl rfl rfl ?_ | refine WL.off0 rfl rfl ?_ | refine WC.exit ?_ | refine blk_hit ?_ | refine blk_miss rfl ?_ | refine WC.ret ?_)
    refine WL.known (d := 20) (congrArg (fun z => some (Value.int .i64 z)) ek) ?_
    refine WL.ixload rfl (fun _ => rfl) rfl rfl rfl rfl rfl rfl rfl (show k < f.length by omega) rfl rfl sf (ints_at (show k < f.length by omega)) ?_
    intro pa
    repeat (first | refine WC.seq ?_ | refine WC.reg ?_ | refine WL.pure rfl rfl rfl ?_ | refine WL.nil ?_ | refine WC.skip ?_ | refine WC.block ?_ | refine WC.condT rfl ?_ | refine WC.condF rfl ?_ | refine WL.off rfl rfl rfl ?_ | refine WL.off0 rfl rfl ?_ | refine WC.exit ?_ | refine blk_hit ?_ | refine blk_miss rfl ?_ | refine WC.ret ?_)
    refine WL.rem rfl rfl rfl rfl (by omega) ?_
    repeat (first | refine WC.seq ?_ | refine WC.reg ?_ | refine WL.pure rfl rfl rfl ?_ | refine WL.nil ?_ | refine WC.skip ?_ | refine WC.block ?_ | refine WC.condT rfl ?_ | refine WC.condF rfl ?_ | refine WL.off rfl rfl rfl ?_ | refine WL.off0 rfl rfl ?_ | refine WC.exit ?_ | refine blk_hit ?_ | refine blk_miss rfl ?_ | refine WC.ret ?_)
    exact ⟨k, by show k < k + 1; omega, ⟨rfl, rfl, rfl, congrArg (fun z => some (Value.int .i64 z)) (ev.trans (congrArg (fun (z : Nat) => (z : Int)) hnext.symm)), congrArg (fun z => some (Value.int .i64 z)) step, rfl⟩, rfl, by omega⟩
  · have hm0 : m = 0 := by have := of_decide_eq_false hc; omega
    subst hm0
    repeat (first | refine WC.seq ?_ | refine WC.reg ?_ | refine WL.pure rfl rfl rfl ?_ | refine WL.nil ?_ | refine WC.skip ?_ | refine WC.block ?_ | refine WC.condT rfl ?_ | refine WC.condF rfl ?_ | refine WL.off rfl rfl rfl ?_ | refine WL.off0 rfl rfl ?_ | refine WC.exit ?_ | refine blk_hit ?_ | refine blk_miss rfl ?_ | refine WC.ret ?_)
    exact Res.one rfl rfl rfl ⟨by rw [Nat.sub_zero]; rfl, rfl⟩
end Go.Proofs.Ytagfpnnplgkkoaa
