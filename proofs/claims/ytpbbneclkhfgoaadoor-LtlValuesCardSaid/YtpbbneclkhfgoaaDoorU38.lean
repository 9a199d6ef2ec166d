/- ltl, thirty-eighth: the reference's Has. -/
import Derived.Test.YtpbbneclkhfgoaaDoorU9
namespace Go.Proofs.YtpbbneclkhfgoaaDoor
open Go.W Go.Ltl Go.RowKit
set_option maxRecDepth 100000
set_option linter.unusedSectionVars false
attribute [local irreducible] WC WL WQ WS WH

theorem Has_one (j : Nat) (hj : j < 4) (m : Int) (h0 : 0 ≤ m) (h1 : m ≤ 15) (w : World) :
    Ret Tryd.prog 52 [.int .i64 m, st [112, UInt8.ofNat (48 + j)]] w fun v w' => v = .bool (holdsM [112, UInt8.ofNat (48 + j)] m) ∧ w' = w := by
  have hm : m = 0 ∨ m = 1 ∨ m = 2 ∨ m = 3 ∨ m = 4 ∨ m = 5 ∨ m = 6 ∨ m = 7 ∨ m = 8 ∨ m = 9 ∨ m = 10 ∨ m = 11 ∨ m = 12 ∨ m = 13 ∨ m = 14 ∨ m = 15 := by omega
  refine enter Tryd.func52 rfl rfl ⟨rfl, rfl⟩ rfl ?_
  repeat (first | refine WC.seq ?_ | refine WC.reg ?_ | refine WL.pure rfl rfl rfl ?_ | refine WL.nil ?_ | refine WC.skip ?_ | refine WC.block ?_ | refine WC.condT rfl ?_ | refine WC.condF rfl ?_ | refine WL.off rfl rfl rfl ?_ | refine WL.off0 rfl rfl ?_ | refine WC.exit ?_ | refine blk_hit ?_ | refine blk_miss rfl ?_ | refine WC.ret ?_)
  refine WC.loop Nat (fun i => [(0, .int .i64 m), (1, st [112, UInt8.ofNat (48 + j)]), (5, .int .i64 (2 ^ i : Nat)), (6, .int .u8 (48 + i : Nat))]) (fun i w' => i ≤ j ∧ w' = w) (fun i => j - i) 0 ⟨rfl, rfl, rfl, rfl, rfl⟩ ⟨Nat.zero_le _, rfl⟩ ?_
  rintro i w ⟨hi, rfl⟩
  repeat (first | refine WC.seq ?_ | refine WC.reg ?_ | refine WL.pure rfl rfl rfl ?_ | refine WL.nil ?_ | refine WC.skip ?_ | refine WC.block ?_ | refine WC.condT rfl ?_ | refine WC.condF rfl ?_ | refine WL.off rfl rfl rfl ?_ | refine WL.off0 rfl rfl ?_ | refine WC.exit ?_ | refine blk_hit ?_ | refine blk_miss rfl ?_ | refine WC.ret ?_)
  refine WL.sAt (m := 1) rfl rfl rfl rfl rfl (by show 1 < 2; decide) ?_
  repeat (first | refine WC.seq ?_ | refine WC.reg ?_ | refine WL.pure rfl rfl rfl ?_ | refine WL.nil ?_ | refine WC.skip ?_ | refine WC.block ?_ | refine WC.condT rfl ?_ | refine WC.condF rfl ?_ | refine WL.off rfl rfl rfl ?_ | refine WL.off0 rfl rfl ?_ | refine WC.exit ?_ | refine blk_hit ?_ | refine blk_miss rfl ?_ | refine WC.ret ?_)
  have hu : ((([112, UInt8.ofNat (48 + j)] : Str)[1]).toNat : Int) = ((48 + j : Nat) : Int) := by
    have : j = 0 ∨ j = 1 ∨ j = 2 ∨ j = 3 := by omega
    rcases this with rfl | rfl | rfl | rfl <;> rfl
  refine WC.cond rfl (fun c1 => ?_) (fun c1 => ?_)
  · have hi : i < j := by
      have h : ((48 + i : Nat) : Int) < ((([112, UInt8.ofNat (48 + j)] : Str)[1]).toNat : Int) := of_decide_eq_true c1
      rw [hu] at h
      omega
    have e1 : IntKind.i64.wrap (2 * ((2 ^ i : Nat) : Int)) = ((2 ^ (i + 1) : Nat) : Int) := by
      have : i = 0 ∨ i = 1 ∨ i = 2 := by omega
      rcases this with rfl | rfl | rfl <;> rfl
    have e2 : IntKind.u8.wrap (((48 + i : Nat) : Int) + 1) = ((48 + (i + 1) : Nat) : Int) := by
      have : i = 0 ∨ i = 1 ∨ i = 2 := by omega
      rcases this with rfl | rfl | rfl <;> rfl
    repeat (first | refine WC.seq ?_ | refine WC.reg ?_ | refine WL.pure rfl rfl rfl ?_ | refine WL.nil ?_ | refine WC.skip ?_ | refine WC.block ?_ | refine WC.condT rfl ?_ | refine WC.condF rfl ?_ | refine WL.off rfl rfl rfl ?_ | refine WL.off0 rfl rfl ?_ | refine WC.exit ?_ | refine blk_hit ?_ | refine blk_miss rfl ?_ | refine WC.ret ?_)
    exact ⟨i + 1, (by omega), ⟨rfl, rfl, congrArg (fun z => some (Value.int .i64 z)) e1, congrArg (fun z => some (Value.int .u8 z)) e2, rfl⟩, hi, rfl⟩
  · have hi : i = j := by
      have h : ¬ ((48 + i : Nat) : Int) < ((([112, UInt8.ofNat (48 + j)] : Str)[1]).toNat : Int) := of_decide_eq_false c1
      rw [hu] at h
      omega
    subst hi
    have : i = 0 ∨ i = 1 ∨ i = 2 ∨ i = 3 := by omega
    rcases this with rfl | rfl | rfl | rfl
    all_goals
      repeat (first | refine WC.seq ?_ | refine WC.reg ?_ | refine WL.pure rfl rfl rfl ?_ | refine WL.nil ?_ | refine WC.skip ?_ | refine WC.block ?_ | refine WC.condT rfl ?_ | refine WC.condF rfl ?_ | refine WL.off rfl rfl rfl ?_ | refine WL.off0 rfl rfl ?_ | refine WC.exit ?_ | refine blk_hit ?_ | refine blk_miss rfl ?_ | refine WC.ret ?_)
      refine Res.one rfl rfl rfl ⟨?_, rfl⟩
      rcases hm with rfl | rfl | rfl | rfl | rfl | rfl | rfl | rfl | rfl | rfl | rfl | rfl | rfl | rfl | rfl | rfl <;> kernel_rfl
theorem Has_any (s : Str) (hs : s ∈ atomsL) (ht : s ≠ wTrue) (hf : s ≠ wFalse) (m : Int) (h0 : 0 ≤ m) (h1 : m ≤ 15) (w : World) :
    Ret Tryd.prog 52 [.int .i64 m, st s] w fun v w' => v = .bool (holdsM s m) ∧ w' = w := by
  have hs2 : s = wTrue ∨ s = wFalse ∨ s = [112, 48] ∨ s = [112, 49] ∨ s = [112, 50] ∨ s = [112, 51] := by simpa [atomsL] using hs
  rcases hs2 with h | h | rfl | rfl | rfl | rfl
  · exact absurd h ht
  · exact absurd h hf
  · exact Has_one 0 (by decide) m h0 h1 w
  · exact Has_one 1 (by decide) m h0 h1 w
  · exact Has_one 2 (by decide) m h0 h1 w
  · exact Has_one 3 (by decide) m h0 h1 w
end Go.Proofs.YtpbbneclkhfgoaaDoor
