/- The walks of a sort: random numbers, the whole. -/
import Derived.Test.YtoghnhbjdnjghaaGreatS4
import Derived.Laws.Bits64b
namespace Go.W
section
variable {P : Program} [T : TT P] {ro : Option Nat} {n : Nat} {l0 rest : List Oper} {N : Nor} {Z : Pan} {e : Env} {w : World} {ty : TypeId} {pos : String} {aft : Array Edge} {g : Option (Nat × Bool)}
/-- A byte of a table of 256 bytes of which something holds. -/
theorem WL.strTab {d : Nat} {t : TypeId} {z : Value} {s0 b0 m : Nat} {x ix : Operand} {s : ByteArray} {k : IntKind} (Q : Nat → Nat → Bool) (hg : grd l0 e g = some true) (hd : Nat.blt d n = true) (ht : T.ti t = some ⟨.string, z, s0, b0⟩)
    (hx : opv e x = some (.string s)) (hix : opv e ix = some (.int k (m : Nat))) (hm : m < 256) (hQ : ((List.range 256).all fun j => match s[j]? with | some b => Q j b.toNat | none => false) = true)
    (h : ∀ c : Nat, Q m c = true → WL P ro n l0 N Z rest ((d, .int .u8 (c : Nat)) :: e) w) : WL P ro n l0 N Z (⟨some d, .index t x ix, ty, pos, aft, g⟩ :: rest) e w := by
  have h1 := List.all_eq_true.1 hQ m (by simpa using hm)
  cases hb : s[m]? with
  | none => rw [hb] at h1; cases h1
  | some b =>
    rw [hb] at h1
    have hu : P.underlying t = some .string := (T.ok t _ ht).k
    refine WL.val hg rfl hd ?_ (h b.toNat h1)
    intro ρ hρ d' pos' aft' g'
    simp [execOp, hρ _ _ hx, hρ _ _ hix, Instr.index, asIntOf, run_underlying hu, hb]
end
end Go.W
namespace Go.Proofs.YtoghnhbjdnjghaaGreat
open Go.W Go.Words Go.RowKit Go.Sort
set_option maxRecDepth 100000
attribute [local irreducible] WC WL WQ WS WH

def tabQ (m c : Nat) : Bool := decide (m < 2 ^ c) && (decide (m = 0) || decide (2 ^ c ≤ 2 * m)) && decide (c ≤ 8)
theorem Len64_any (x : Nat) (hx : x ≤ 511) (w : World) : Ret Tryz.prog 113 [.int .u64 (x : Nat)] w fun u w' => (∃ m : Nat, u = .int .i64 (m : Nat) ∧ m ≤ 9 ∧ x < 2 ^ m ∧ (0 < x → 2 ^ m ≤ 2 * x)) ∧ w' = w := by
  have e8 : ∀ c : Nat, c ≤ 8 → IntKind.u8.wrap (c : Int) = ((c : Nat) : Int) := fun c hc => by simp [IntKind.wrap, IntKind.bits, IntKind.signed]; omega
  refine enter Tryz.func113 rfl rfl ⟨rfl, rfl⟩ rfl ?_
  repeat (first | refine WC.seq ?_ | refine WC.reg ?_ | refine WL.pure rfl rfl rfl ?_ | refine WL.nil ?_ | refine WC.skip ?_ | refine WC.block ?_ | refine WC.condT rfl ?_ | refine WC.condF rfl ?_ | refine WL.off rfl rfl rfl ?_ | refine WL.off0 rfl rfl ?_ | refine WC.exit ?_ | refine blk_hit ?_ | refine blk_miss rfl ?_ | refine WC.ret ?_)
  refine WC.cond rfl (fun h => absurd (of_decide_eq_true h) (by omega)) (fun _ => ?_)
  repeat (first | refine WC.seq ?_ | refine WC.reg ?_ | refine WL.pure rfl rfl rfl ?_ | refine WL.nil ?_ | refine WC.skip ?_ | refine WC.block ?_ | refine WC.condT rfl ?_ | refine WC.condF rfl ?_ | refine WL.off rfl rfl rfl ?_ | refine WL.off0 rfl rfl ?_ | refine WC.exit ?_ | refine blk_hit ?_ | refine blk_miss rfl ?_ | refine WC.ret ?_)
  refine WC.cond rfl (fun h => absurd (of_decide_eq_true h) (by omega)) (fun _ => ?_)
  repeat (first | refine WC.seq ?_ | refine WC.reg ?_ | refine WL.pure rfl rfl rfl ?_ | refine WL.nil ?_ | refine WC.skip ?_ | refine WC.block ?_ | refine WC.condT rfl ?_ | refine WC.condF rfl ?_ | refine WL.off rfl rfl rfl ?_ | refine WL.off0 rfl rfl ?_ | refine WC.exit ?_ | refine blk_hit ?_ | refine blk_miss rfl ?_ | refine WC.ret ?_)
  refine WC.cond rfl (fun h => ?_) (fun h => ?_)
  · have h : 256 ≤ x := by have := of_decide_eq_true h; omega
    have e1 : shr .u64 (x : Int) 8 = ((1 : Nat) : Int) := by
      show (x : Int).fdiv 256 = _
      rw [Int.fdiv_eq_ediv_of_nonneg _ (by omega)]
      omega
    repeat (first | refine WC.seq ?_ | refine WC.reg ?_ | refine WL.pure rfl rfl rfl ?_ | refine WL.nil ?_ | refine WC.skip ?_ | refine WC.block ?_ | refine WC.condT rfl ?_ | refine WC.condF rfl ?_ | refine WL.off rfl rfl rfl ?_ | refine WL.off0 rfl rfl ?_ | refine WC.exit ?_ | refine blk_hit ?_ | refine blk_miss rfl ?_ | refine WC.ret ?_)
    refine WL.known (d := 20) (congrArg (fun z => some (Value.int .u64 z)) e1) ?_
    refine WL.known (d := 21) (v := .int .u8 ((1 : Nat) : Int)) (by simp only [W.look]; rw [e1]; rfl) ?_
    refine WL.strTab tabQ rfl rfl rfl rfl rfl (show 1 < 256 by omega) (by kernel_rfl) ?_
    intro c hc
    have hc1 : c = 1 := by
      unfold tabQ at hc
      simp only [Bool.and_eq_true, Bool.or_eq_true, decide_eq_true_eq] at hc
      obtain ⟨⟨h1, h2⟩, h3⟩ := hc
      rcases (show c = 0 ∨ c = 1 ∨ 2 ≤ c by omega) with rfl | rfl | h4
      · omega
      · rfl
      · have := Nat.pow_le_pow_right (show 0 < 2 by omega) h4
        omega
    subst hc1
    repeat (first | refine WC.seq ?_ | refine WC.reg ?_ | refine WL.pure rfl rfl rfl ?_ | refine WL.nil ?_ | refine WC.skip ?_ | refine WC.block ?_ | refine WC.condT rfl ?_ | refine WC.condF rfl ?_ | refine WL.off rfl rfl rfl ?_ | refine WL.off0 rfl rfl ?_ | refine WC.exit ?_ | refine blk_hit ?_ | refine blk_miss rfl ?_ | refine WC.ret ?_)
    exact Res.one rfl rfl rfl ⟨⟨9, rfl, by omega, by omega, fun _ => by omega⟩, rfl⟩
  · have h : x < 256 := by have := of_decide_eq_false h; omega
    have e1 : IntKind.u8.wrap (x : Int) = ((x : Nat) : Int) := by simp [IntKind.wrap, IntKind.bits, IntKind.signed]; omega
    repeat (first | refine WC.seq ?_ | refine WC.reg ?_ | refine WL.pure rfl rfl rfl ?_ | refine WL.nil ?_ | refine WC.skip ?_ | refine WC.block ?_ | refine WC.condT rfl ?_ | refine WC.condF rfl ?_ | refine WL.off rfl rfl rfl ?_ | refine WL.off0 rfl rfl ?_ | refine WC.exit ?_ | refine blk_hit ?_ | refine blk_miss rfl ?_ | refine WC.ret ?_)
    refine WL.known (d := 21) (congrArg (fun z => some (Value.int .u8 z)) e1) ?_
    refine WL.strTab tabQ rfl rfl rfl rfl rfl h (by kernel_rfl) ?_
    intro c hc
    unfold tabQ at hc
    simp only [Bool.and_eq_true, Bool.or_eq_true, decide_eq_true_eq] at hc
    obtain ⟨⟨h1, h2⟩, h3⟩ := hc
    have ec : IntKind.i64.wrap ((0 : Int) + IntKind.i64.wrap (c : Int)) = ((c : Nat) : Int) := by
      rw [wrap_i64_in (n := ((c : Nat) : Int)) (by omega) (by omega), wrap_i64_in (by omega) (by omega)]; omega
    repeat (first | refine WC.seq ?_ | refine WC.reg ?_ | refine WL.pure rfl rfl rfl ?_ | refine WL.nil ?_ | refine WC.skip ?_ | refine WC.block ?_ | refine WC.condT rfl ?_ | refine WC.condF rfl ?_ | refine WL.off rfl rfl rfl ?_ | refine WL.off0 rfl rfl ?_ | refine WC.exit ?_ | refine blk_hit ?_ | refine blk_miss rfl ?_ | refine WC.ret ?_)
    exact Res.one rfl rfl rfl ⟨⟨c, by rw [ec], by omega, h1, fun h0 => by omega⟩, rfl⟩
theorem Len_any (x : Nat) (hx : x ≤ 511) (w : World) : Ret Tryz.prog 93 [.int .u64 (x : Nat)] w fun u w' => (∃ m : Nat, u = .int .i64 (m : Nat) ∧ m ≤ 9 ∧ x < 2 ^ m ∧ (0 < x → 2 ^ m ≤ 2 * x)) ∧ w' = w := by
  refine enter Tryz.func93 rfl rfl ⟨rfl, rfl⟩ rfl ?_
  repeat (first | refine WC.seq ?_ | refine WC.reg ?_ | refine WL.pure rfl rfl rfl ?_ | refine WL.nil ?_ | refine WC.skip ?_ | refine WC.block ?_ | refine WC.condT rfl ?_ | refine WC.condF rfl ?_ | refine WL.off rfl rfl rfl ?_ | refine WL.off0 rfl rfl ?_ | refine WC.exit ?_ | refine blk_hit ?_ | refine blk_miss rfl ?_ | refine WC.ret ?_)
  refine WL.call rfl rfl rfl rfl rfl ent113 (Len64_any x hx w) ?_
  rintro _ w1 ⟨⟨m, rfl, h⟩, rfl⟩
  repeat (first | refine WC.seq ?_ | refine WC.reg ?_ | refine WL.pure rfl rfl rfl ?_ | refine WL.nil ?_ | refine WC.skip ?_ | refine WC.block ?_ | refine WC.condT rfl ?_ | refine WC.condF rfl ?_ | refine WL.off rfl rfl rfl ?_ | refine WL.off0 rfl rfl ?_ | refine WC.exit ?_ | refine blk_hit ?_ | refine blk_miss rfl ?_ | refine WC.ret ?_)
  exact Res.one rfl rfl rfl ⟨⟨m, rfl, h⟩, rfl⟩
theorem shl_one : ∀ m : Nat, m ≤ 9 → shl .u64 1 m = ((2 ^ m : Nat) : Int) := by decide
theorem nextPow_any (x : Nat) (h0 : 0 < x) (hx : x ≤ 511) (w : World) : Ret Tryz.prog 120 [.int .i64 (x : Nat)] w fun u w' => (∃ M : Nat, u = .int .u64 (M : Nat) ∧ 0 < M ∧ M ≤ 2 * x) ∧ w' = w := by
  have e1 : IntKind.u64.wrap (x : Int) = ((x : Nat) : Int) := by rw [IntKind.wrap_u64]; omega
  refine enter Tryz.func120 rfl rfl ⟨rfl, rfl⟩ rfl ?_
  repeat (first | refine WC.seq ?_ | refine WC.reg ?_ | refine WL.pure rfl rfl rfl ?_ | refine WL.nil ?_ | refine WC.skip ?_ | refine WC.block ?_ | refine WC.condT rfl ?_ | refine WC.condF rfl ?_ | refine WL.off rfl rfl rfl ?_ | refine WL.off0 rfl rfl ?_ | refine WC.exit ?_ | refine blk_hit ?_ | refine blk_miss rfl ?_ | refine WC.ret ?_)
  refine WL.known (d := 4) (congrArg (fun z => some (Value.int .u64 z)) e1) ?_
  refine WL.call rfl rfl rfl rfl rfl ent93 (Len_any x hx w) ?_
  rintro _ w1 ⟨⟨m, rfl, h1, h2, h3⟩, rfl⟩
  repeat (first | refine WC.seq ?_ | refine WC.reg ?_ | refine WL.pure rfl rfl rfl ?_ | refine WL.nil ?_ | refine WC.skip ?_ | refine WC.block ?_ | refine WC.condT rfl ?_ | refine WC.condF rfl ?_ | refine WL.off rfl rfl rfl ?_ | refine WL.off0 rfl rfl ?_ | refine WC.exit ?_ | refine blk_hit ?_ | refine blk_miss rfl ?_ | refine WC.ret ?_)
  exact Res.one rfl rfl rfl ⟨⟨2 ^ m, by rw [← shl_one m h1], Nat.pow_pos (by omega), h3 h0⟩, rfl⟩

abbrev Xb (br X : Nat) : Ent := .blk br (.cells #[.int .u64 (X : Nat)] 138 (0, 0))
theorem shl_nat (X m : Nat) (c : Nat) (h : (2 : Int) ^ (min m IntKind.u64.bits) = (c : Int)) : shl .u64 (X : Int) m = ((X * c % 18446744073709551616 : Nat) : Int) := by
  show IntKind.u64.wrap ((X : Int) * 2 ^ (min m IntKind.u64.bits)) = _
  rw [h, IntKind.wrap_u64, ← Int.natCast_mul]
  omega
theorem shr_nat (X m : Nat) (c : Nat) (h : (2 : Int) ^ (min m IntKind.u64.bits) = (c : Int)) : shr .u64 (X : Int) m = ((X / c : Nat) : Int) := by
  show (X : Int).fdiv (2 ^ (min m IntKind.u64.bits)) = _
  rw [h, Int.fdiv_eq_ediv_of_nonneg _ (by omega)]
  exact (Int.natCast_ediv X c).symm
set_option maxHeartbeats 1000000 in
theorem Next_any (br X : Nat) (hX : X < 18446744073709551616) (w0 : World) (L : List Ent) (w : World) (hp : Hp w0 w (Xb br X :: L)) :
    Ret Tryz.prog 121 [.pointer (some ⟨br, 0, none⟩)] w fun u w' => ∃ Y : Nat, u = .int .u64 (Y : Nat) ∧ Y < 18446744073709551616 ∧ Hp w0 w' (Xb br Y :: L) := by
  have hX1 := hX
  refine enter Tryz.func121 rfl rfl ⟨rfl, rfl⟩ rfl ?_
  repeat (first | refine WC.seq ?_ | refine WC.reg ?_ | refine WL.pure rfl rfl rfl ?_ | refine WL.nil ?_ | refine WC.skip ?_ | refine WC.block ?_ | refine WC.condT rfl ?_ | refine WC.condF rfl ?_ | refine WL.off rfl rfl rfl ?_ | refine WL.off0 rfl rfl ?_ | refine WC.exit ?_ | refine blk_hit ?_ | refine blk_miss rfl ?_ | refine WC.ret ?_)
  refine WC.mid Unit (fun _ => [(0, .pointer (some ⟨br, 0, none⟩))]) (fun _ w' => Hp w0 w' (Xb br (X ^^^ (X * 8192 % 18446744073709551616)) :: L)) ?_ ?_
  · have es : shl .u64 ((X : Nat) : Int) 13 = ((X * 8192 % 18446744073709551616 : Nat) : Int) := shl_nat X 13 8192 (by decide)
    have ex := bits_xor_u64_nat X (X * 8192 % 18446744073709551616) hX1 (by omega)
    refine WC.regH (fun _ => True) mixed (by kernel_rfl) (fun w6 hw6 hh6 => ?_)
    have kh6 := (hp).keep hw6
    refine WH.pure 0 (by kernel_rfl) rfl (by kernel_rfl) rfl rfl rfl (trivial) ?_
    refine WH.nilC 1 (by kernel_rfl) rfl (by kernel_rfl) rfl rfl rfl trivial ?_
    refine WH.pure 3 (by kernel_rfl) rfl (by kernel_rfl) rfl rfl rfl (trivial) ?_
    refine WH.nilC 4 (by kernel_rfl) rfl (by kernel_rfl) rfl rfl rfl trivial ?_
    refine WH.two 2 5 rfl rfl (by kernel_rfl) ?_ ?_
    · refine WL.loadB rfl rfl rfl rfl rfl (kh6.obj 0 rfl) rfl (WL.nil ⟨trivial, ?_⟩)
      refine WH.one 5 rfl (by kernel_rfl) ?_
      refine WL.loadB rfl rfl rfl rfl rfl (kh6.obj 0 rfl) rfl (WL.nil ⟨trivial, ?_⟩)
      refine WH.pure 6 (by kernel_rfl) rfl (by kernel_rfl) rfl rfl rfl trivial ?_
      refine WH.known (d := 9) (congrArg (fun z => some (Value.int .u64 z)) es) ?_
      refine WH.pure 7 (by kernel_rfl) rfl (by kernel_rfl) rfl rfl rfl trivial ?_
      refine WH.known (d := 10) (congrArg (fun z => some (Value.int .u64 z)) ex) ?_
      refine WH.nilC 8 (by kernel_rfl) rfl (by kernel_rfl) rfl rfl rfl trivial ?_
      refine WH.one 9 rfl (by kernel_rfl) ?_
      refine WL.store rfl rfl rfl rfl rfl rfl (kh6.obj 0 rfl) (Nat.lt_succ_self 0) (fun w7 hw7 => WL.nil ⟨trivial, ?_⟩)
      refine WH.done (by kernel_rfl) ?_
      exact ⟨(), ⟨rfl, rfl⟩, kh6.set 0 rfl rfl hw7⟩
    · refine WL.loadB rfl rfl rfl rfl rfl (kh6.obj 0 rfl) rfl (WL.nil ⟨trivial, ?_⟩)
      refine WH.pure 6 (by kernel_rfl) rfl (by kernel_rfl) rfl rfl rfl trivial ?_
      refine WH.known (d := 9) (congrArg (fun z => some (Value.int .u64 z)) es) ?_
      refine WH.one 2 rfl (by kernel_rfl) ?_
      refine WL.loadB rfl rfl rfl rfl rfl (kh6.obj 0 rfl) rfl (WL.nil ⟨trivial, ?_⟩)
      refine WH.pure 7 (by kernel_rfl) rfl (by kernel_rfl) rfl rfl rfl trivial ?_
      refine WH.known (d := 10) (congrArg (fun z => some (Value.int .u64 z)) ex) ?_
      refine WH.nilC 8 (by kernel_rfl) rfl (by kernel_rfl) rfl rfl rfl trivial ?_
      refine WH.one 9 rfl (by kernel_rfl) ?_
      refine WL.store rfl rfl rfl rfl rfl rfl (kh6.obj 0 rfl) (Nat.lt_succ_self 0) (fun w7 hw7 => WL.nil ⟨trivial, ?_⟩)
      refine WH.done (by kernel_rfl) ?_
      exact ⟨(), ⟨rfl, rfl⟩, kh6.set 0 rfl rfl hw7⟩
  rintro ⟨⟩ e6 w1 hsub hp1
  refine WC.sub hsub ?_
  clear hsub e6 hp
  have hX2 : X ^^^ (X * 8192 % 18446744073709551616) < 18446744073709551616 := Nat.xor_lt_two_pow (n := 64) (by omega) (by omega)
  generalize X ^^^ (X * 8192 % 18446744073709551616) = X2 at *
  repeat (first | refine WC.seq ?_ | refine WC.reg ?_ | refine WL.pure rfl rfl rfl ?_ | refine WL.nil ?_ | refine WC.skip ?_ | refine WC.block ?_ | refine WC.condT rfl ?_ | refine WC.condF rfl ?_ | refine WL.off rfl rfl rfl ?_ | refine WL.off0 rfl rfl ?_ | refine WC.exit ?_ | refine blk_hit ?_ | refine blk_miss rfl ?_ | refine WC.ret ?_)
  refine WC.mid Unit (fun _ => [(0, .pointer (some ⟨br, 0, none⟩))]) (fun _ w' => Hp w0 w' (Xb br (X2 ^^^ (X2 / 128)) :: L)) ?_ ?_
  · have es : shr .u64 ((X2 : Nat) : Int) 7 = ((X2 / 128 : Nat) : Int) := shr_nat X2 7 128 (by decide)
    have ex := bits_xor_u64_nat X2 (X2 / 128) hX2 (by omega)
    refine WC.regH (fun _ => True) mixed (by kernel_rfl) (fun w6 hw6 hh6 => ?_)
    have kh6 := (hp1).keep hw6
    refine WH.pure 0 (by kernel_rfl) rfl (by kernel_rfl) rfl rfl rfl (trivial) ?_
    refine WH.nilC 1 (by kernel_rfl) rfl (by kernel_rfl) rfl rfl rfl trivial ?_
    refine WH.pure 3 (by kernel_rfl) rfl (by kernel_rfl) rfl rfl rfl (trivial) ?_
    refine WH.nilC 4 (by kernel_rfl) rfl (by kernel_rfl) rfl rfl rfl trivial ?_
    refine WH.two 2 5 rfl rfl (by kernel_rfl) ?_ ?_
    · refine WL.loadB rfl rfl rfl rfl rfl (kh6.obj 0 rfl) rfl (WL.nil ⟨trivial, ?_⟩)
      refine WH.one 5 rfl (by kernel_rfl) ?_
      refine WL.loadB rfl rfl rfl rfl rfl (kh6.obj 0 rfl) rfl (WL.nil ⟨trivial, ?_⟩)
      refine WH.pure 6 (by kernel_rfl) rfl (by kernel_rfl) rfl rfl rfl trivial ?_
      refine WH.known (d := 18) (congrArg (fun z => some (Value.int .u64 z)) es) ?_
      refine WH.pure 7 (by kernel_rfl) rfl (by kernel_rfl) rfl rfl rfl trivial ?_
      refine WH.known (d := 19) (congrArg (fun z => some (Value.int .u64 z)) ex) ?_
      refine WH.nilC 8 (by kernel_rfl) rfl (by kernel_rfl) rfl rfl rfl trivial ?_
      refine WH.one 9 rfl (by kernel_rfl) ?_
      refine WL.store rfl rfl rfl rfl rfl rfl (kh6.obj 0 rfl) (Nat.lt_succ_self 0) (fun w7 hw7 => WL.nil ⟨trivial, ?_⟩)
      refine WH.done (by kernel_rfl) ?_
      exact ⟨(), ⟨rfl, rfl⟩, kh6.set 0 rfl rfl hw7⟩
    · refine WL.loadB rfl rfl rfl rfl rfl (kh6.obj 0 rfl) rfl (WL.nil ⟨trivial, ?_⟩)
      refine WH.pure 6 (by kernel_rfl) rfl (by kernel_rfl) rfl rfl rfl trivial ?_
      refine WH.known (d := 18) (congrArg (fun z => some (Value.int .u64 z)) es) ?_
      refine WH.one 2 rfl (by kernel_rfl) ?_
      refine WL.loadB rfl rfl rfl rfl rfl (kh6.obj 0 rfl) rfl (WL.nil ⟨trivial, ?_⟩)
      refine WH.pure 7 (by kernel_rfl) rfl (by kernel_rfl) rfl rfl rfl trivial ?_
      refine WH.known (d := 19) (congrArg (fun z => some (Value.int .u64 z)) ex) ?_
      refine WH.nilC 8 (by kernel_rfl) rfl (by kernel_rfl) rfl rfl rfl trivial ?_
      refine WH.one 9 rfl (by kernel_rfl) ?_
      refine WL.store rfl rfl rfl rfl rfl rfl (kh6.obj 0 rfl) (Nat.lt_succ_self 0) (fun w7 hw7 => WL.nil ⟨trivial, ?_⟩)
      refine WH.done (by kernel_rfl) ?_
      exact ⟨(), ⟨rfl, rfl⟩, kh6.set 0 rfl rfl hw7⟩
  rintro ⟨⟩ e6 w2 hsub hp2
  refine WC.sub hsub ?_
  clear hsub e6 hp1
  have hX3 : X2 ^^^ (X2 / 128) < 18446744073709551616 := Nat.xor_lt_two_pow (n := 64) (by omega) (by omega)
  generalize X2 ^^^ (X2 / 128) = X3 at *
  repeat (first | refine WC.seq ?_ | refine WC.reg ?_ | refine WL.pure rfl rfl rfl ?_ | refine WL.nil ?_ | refine WC.skip ?_ | refine WC.block ?_ | refine WC.condT rfl ?_ | refine WC.condF rfl ?_ | refine WL.off rfl rfl rfl ?_ | refine WL.off0 rfl rfl ?_ | refine WC.exit ?_ | refine blk_hit ?_ | refine blk_miss rfl ?_ | refine WC.ret ?_)
  refine WC.mid Unit (fun _ => [(0, .pointer (some ⟨br, 0, none⟩))]) (fun _ w' => Hp w0 w' (Xb br (X3 ^^^ (X3 * 131072 % 18446744073709551616)) :: L)) ?_ ?_
  · have es : shl .u64 ((X3 : Nat) : Int) 17 = ((X3 * 131072 % 18446744073709551616 : Nat) : Int) := shl_nat X3 17 131072 (by decide)
    have ex := bits_xor_u64_nat X3 (X3 * 131072 % 18446744073709551616) hX3 (by omega)
    refine WC.regH (fun _ => True) mixed (by kernel_rfl) (fun w6 hw6 hh6 => ?_)
    have kh6 := (hp2).keep hw6
    refine WH.pure 0 (by kernel_rfl) rfl (by kernel_rfl) rfl rfl rfl (trivial) ?_
    refine WH.nilC 1 (by kernel_rfl) rfl (by kernel_rfl) rfl rfl rfl trivial ?_
    refine WH.pure 3 (by kernel_rfl) rfl (by kernel_rfl) rfl rfl rfl (trivial) ?_
    refine WH.nilC 4 (by kernel_rfl) rfl (by kernel_rfl) rfl rfl rfl trivial ?_
    refine WH.two 2 5 rfl rfl (by kernel_rfl) ?_ ?_
    · refine WL.loadB rfl rfl rfl rfl rfl (kh6.obj 0 rfl) rfl (WL.nil ⟨trivial, ?_⟩)
      refine WH.one 5 rfl (by kernel_rfl) ?_
      refine WL.loadB rfl rfl rfl rfl rfl (kh6.obj 0 rfl) rfl (WL.nil ⟨trivial, ?_⟩)
      refine WH.pure 6 (by kernel_rfl) rfl (by kernel_rfl) rfl rfl rfl trivial ?_
      refine WH.known (d := 27) (congrArg (fun z => some (Value.int .u64 z)) es) ?_
      refine WH.pure 7 (by kernel_rfl) rfl (by kernel_rfl) rfl rfl rfl trivial ?_
      refine WH.known (d := 28) (congrArg (fun z => some (Value.int .u64 z)) ex) ?_
      refine WH.nilC 8 (by kernel_rfl) rfl (by kernel_rfl) rfl rfl rfl trivial ?_
      refine WH.one 9 rfl (by kernel_rfl) ?_
      refine WL.store rfl rfl rfl rfl rfl rfl (kh6.obj 0 rfl) (Nat.lt_succ_self 0) (fun w7 hw7 => WL.nil ⟨trivial, ?_⟩)
      refine WH.done (by kernel_rfl) ?_
      exact ⟨(), ⟨rfl, rfl⟩, kh6.set 0 rfl rfl hw7⟩
    · refine WL.loadB rfl rfl rfl rfl rfl (kh6.obj 0 rfl) rfl (WL.nil ⟨trivial, ?_⟩)
      refine WH.pure 6 (by kernel_rfl) rfl (by kernel_rfl) rfl rfl rfl trivial ?_
      refine WH.known (d := 27) (congrArg (fun z => some (Value.int .u64 z)) es) ?_
      refine WH.one 2 rfl (by kernel_rfl) ?_
      refine WL.loadB rfl rfl rfl rfl rfl (kh6.obj 0 rfl) rfl (WL.nil ⟨trivial, ?_⟩)
      refine WH.pure 7 (by kernel_rfl) rfl (by kernel_rfl) rfl rfl rfl trivial ?_
      refine WH.known (d := 28) (congrArg (fun z => some (Value.int .u64 z)) ex) ?_
      refine WH.nilC 8 (by kernel_rfl) rfl (by kernel_rfl) rfl rfl rfl trivial ?_
      refine WH.one 9 rfl (by kernel_rfl) ?_
      refine WL.store rfl rfl rfl rfl rfl rfl (kh6.obj 0 rfl) (Nat.lt_succ_self 0) (fun w7 hw7 => WL.nil ⟨trivial, ?_⟩)
      refine WH.done (by kernel_rfl) ?_
      exact ⟨(), ⟨rfl, rfl⟩, kh6.set 0 rfl rfl hw7⟩
  rintro ⟨⟩ e6 w3 hsub hp3
  refine WC.sub hsub ?_
  clear hsub e6 hp2
  have hX4 : X3 ^^^ (X3 * 131072 % 18446744073709551616) < 18446744073709551616 := Nat.xor_lt_two_pow (n := 64) (by omega) (by omega)
  generalize X3 ^^^ (X3 * 131072 % 18446744073709551616) = X4 at *
  repeat (first | refine WC.seq ?_ | refine WC.reg ?_ | refine WL.pure rfl rfl rfl ?_ | refine WL.nil ?_ | refine WC.skip ?_ | refine WC.block ?_ | refine WC.condT rfl ?_ | refine WC.condF rfl ?_ | refine WL.off rfl rfl rfl ?_ | refine WL.off0 rfl rfl ?_ | refine WC.exit ?_ | refine blk_hit ?_ | refine blk_miss rfl ?_ | refine WC.ret ?_)
  refine WL.nilC rfl rfl rfl ?_
  refine WL.loadB rfl rfl rfl rfl rfl (hp3.obj 0 rfl) rfl ?_
  repeat (first | refine WC.seq ?_ | refine WC.reg ?_ | refine WL.pure rfl rfl rfl ?_ | refine WL.nil ?_ | refine WC.skip ?_ | refine WC.block ?_ | refine WC.condT rfl ?_ | refine WC.condF rfl ?_ | refine WL.off rfl rfl rfl ?_ | refine WL.off0 rfl rfl ?_ | refine WC.exit ?_ | refine blk_hit ?_ | refine blk_miss rfl ?_ | refine WC.ret ?_)
  exact Res.one rfl rfl rfl ⟨X4, rfl, hX4, hp3⟩
end Go.Proofs.YtoghnhbjdnjghaaGreat
