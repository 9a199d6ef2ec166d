/- ltl, eleventh: the values of a formula. -/
import Derived.Test.YtpbbneclkhfgoaaDoorU10
namespace Go.Proofs.YtpbbneclkhfgoaaDoor
open Go.W Go.Ltl Go.RowKit
set_option maxRecDepth 100000
attribute [local irreducible] WC WL WQ WS WH

/-- What values gives. -/
def VaQ (n : Nat) (out : List Bool) (w : World) (v : Value) (w' : World) : Prop := ∃ b, v = .slice (some ⟨b, 0, none⟩) n n ∧ Hp w w' [Lb b out]
section
variable (a : Option Addr) (c : Nat) (ms : List Int) (lp : Nat) (hn : ms.length ≤ 1000000) (hlp : lp < ms.length) (hm : ∀ m ∈ ms, 0 ≤ m ∧ m ≤ 15)
include hn hm in
theorem values_at (s : Str) (hs : s ∈ atomsL) (w : World) (hsl : Sl w a (zs ms)) : Ret Tryd.prog 49 [lsV a ms.length c lp, fmV (.at_ s)] w (VaQ ms.length ((List.range ms.length).map fun i => holdsM s (ms.getD i 0)) w) := by
  refine enter Tryd.func49 rfl rfl ⟨rfl, rfl⟩ rfl ?_
  repeat (first | refine WC.seq ?_ | refine WC.reg ?_ | refine WL.pure rfl rfl rfl ?_ | refine WL.nil ?_ | refine WC.skip ?_ | refine WC.block ?_ | refine WC.condT rfl ?_ | refine WC.condF rfl ?_ | refine WL.off rfl rfl rfl ?_ | refine WL.off0 rfl rfl ?_ | refine WC.exit ?_ | refine blk_hit ?_ | refine blk_miss rfl ?_ | refine WC.ret ?_)
  refine WL.box rfl rfl rfl (fun bx w1 h1 => ?_)
  have hp1 : Hp w w1 [Lx bx a ms.length c lp] := (Hp.start w).new h1
  repeat (first | refine WC.seq ?_ | refine WC.reg ?_ | refine WL.pure rfl rfl rfl ?_ | refine WL.nil ?_ | refine WC.skip ?_ | refine WC.block ?_ | refine WC.condT rfl ?_ | refine WC.condF rfl ?_ | refine WL.off rfl rfl rfl ?_ | refine WL.off0 rfl rfl ?_ | refine WC.exit ?_ | refine blk_hit ?_ | refine blk_miss rfl ?_ | refine WC.ret ?_)
  refine WL.loadB rfl rfl rfl rfl rfl (hp1.obj 0 rfl) (j := 0) rfl ?_
  repeat (first | refine WC.seq ?_ | refine WC.reg ?_ | refine WL.pure rfl rfl rfl ?_ | refine WL.nil ?_ | refine WC.skip ?_ | refine WC.block ?_ | refine WC.condT rfl ?_ | refine WC.condF rfl ?_ | refine WL.off rfl rfl rfl ?_ | refine WL.off0 rfl rfl ?_ | refine WC.exit ?_ | refine blk_hit ?_ | refine blk_miss rfl ?_ | refine WC.ret ?_)
  refine WL.make rfl rfl rfl rfl rfl rfl rfl rfl (by show 1 * ms.length ≤ _; omega) (by unfold maxLen; omega) ?_
  intro ob w2 hob
  have hp2 : Hp w w2 [Lb ob (List.replicate ms.length false), Lx bx a ms.length c lp] := by
    have := hp1.new hob
    unfold Lb bl
    rw [List.map_replicate]
    exact this
  repeat (first | refine WC.seq ?_ | refine WC.reg ?_ | refine WL.pure rfl rfl rfl ?_ | refine WL.nil ?_ | refine WC.skip ?_ | refine WC.block ?_ | refine WC.condT rfl ?_ | refine WC.condF rfl ?_ | refine WL.off rfl rfl rfl ?_ | refine WL.off0 rfl rfl ?_ | refine WC.exit ?_ | refine blk_hit ?_ | refine blk_miss rfl ?_ | refine WC.ret ?_)
  refine WL.val rfl rfl rfl (yAsT rfl rfl rfl) ?_
  repeat (first | refine WC.seq ?_ | refine WC.reg ?_ | refine WL.pure rfl rfl rfl ?_ | refine WL.nil ?_ | refine WC.skip ?_ | refine WC.block ?_ | refine WC.condT rfl ?_ | refine WC.condF rfl ?_ | refine WL.off rfl rfl rfl ?_ | refine WL.off0 rfl rfl ?_ | refine WC.exit ?_ | refine blk_hit ?_ | refine blk_miss rfl ?_ | refine WC.ret ?_)
  refine WL.alloc rfl rfl rfl (fun b2 w3 h3 => ?_)
  have hp3 := hp2.new h3
  refine WL.storeN rfl rfl rfl rfl rfl (by simp [Value.oneCell', st]) (hp3.obj 0 rfl) (Nat.le_refl _) rfl (fun w4 h4 => ?_)
  have hp4 : Hp w w4 [Lb ob (List.replicate ms.length false), .blk b2 (.cells #[st s] 129 (0, 0)), Lx bx a ms.length c lp] := (hp3.set 0 rfl rfl h4).pick [1, 0, 2] (by decide)
  repeat (first | refine WC.seq ?_ | refine WC.reg ?_ | refine WL.pure rfl rfl rfl ?_ | refine WL.nil ?_ | refine WC.skip ?_ | refine WC.block ?_ | refine WC.condT rfl ?_ | refine WC.condF rfl ?_ | refine WL.off rfl rfl rfl ?_ | refine WL.off0 rfl rfl ?_ | refine WC.exit ?_ | refine blk_hit ?_ | refine blk_miss rfl ?_ | refine WC.ret ?_)
  refine WL.loadB rfl rfl rfl rfl rfl (hp4.obj 2 rfl) (j := 0) rfl ?_
  repeat (first | refine WC.seq ?_ | refine WC.reg ?_ | refine WL.pure rfl rfl rfl ?_ | refine WL.nil ?_ | refine WC.skip ?_ | refine WC.block ?_ | refine WC.condT rfl ?_ | refine WC.condF rfl ?_ | refine WL.off rfl rfl rfl ?_ | refine WL.off0 rfl rfl ?_ | refine WC.exit ?_ | refine blk_hit ?_ | refine blk_miss rfl ?_ | refine WC.ret ?_)
  refine WC.loop Nat (fun i => [(5, .slice (some ⟨ob, 0, none⟩) ms.length ms.length), (6, ptr b2), (27, .slice a ms.length c), (28, .int .i64 (ms.length : Nat)), (29, .int .i64 (i : Nat))])
    (fun i w' => i ≤ ms.length ∧ Hp w w' [Lb ob ((List.range i).map (fun i => holdsM s (ms.getD i 0)) ++ List.replicate (ms.length - i) false), .blk b2 (.cells #[st s] 129 (0, 0)), Lx bx a ms.length c lp]) (fun i => ms.length - i) 0 ⟨rfl, rfl, rfl, rfl, rfl, rfl⟩ ⟨Nat.zero_le _, hp4⟩ ?_
  clear hp4
  rintro i w5 ⟨hi, hp5⟩
  repeat (first | refine WC.seq ?_ | refine WC.reg ?_ | refine WL.pure rfl rfl rfl ?_ | refine WL.nil ?_ | refine WC.skip ?_ | refine WC.block ?_ | refine WC.condT rfl ?_ | refine WC.condF rfl ?_ | refine WL.off rfl rfl rfl ?_ | refine WL.off0 rfl rfl ?_ | refine WC.exit ?_ | refine blk_hit ?_ | refine blk_miss rfl ?_ | refine WC.ret ?_)
  refine WC.cond rfl (fun h2 => ?_) (fun h2 => ?_)
  · have hi : i < ms.length := by have := of_decide_eq_true h2; omega
    have step := wrap_succ (i := i) (n := i + 1) (by omega) (by omega)
    have hg : ms.getD i 0 = ms[i] := by simp [hi]
    obtain ⟨hm0, hm1⟩ := hm ms[i] (List.getElem_mem hi)
    repeat (first | refine WC.seq ?_ | refine WC.reg ?_ | refine WL.pure rfl rfl rfl ?_ | refine WL.nil ?_ | refine WC.skip ?_ | refine WC.block ?_ | refine WC.condT rfl ?_ | refine WC.condF rfl ?_ | refine WL.off rfl rfl rfl ?_ | refine WL.off0 rfl rfl ?_ | refine WC.exit ?_ | refine blk_hit ?_ | refine blk_miss rfl ?_ | refine WC.ret ?_)
    refine WL.ixload rfl (fun _ => rfl) rfl rfl rfl rfl rfl rfl rfl hi rfl rfl (hsl.hp hp5) (zs_at hi) ?_
    intro q
    repeat (first | refine WC.seq ?_ | refine WC.reg ?_ | refine WL.pure rfl rfl rfl ?_ | refine WL.nil ?_ | refine WC.skip ?_ | refine WC.block ?_ | refine WC.condT rfl ?_ | refine WC.condF rfl ?_ | refine WL.off rfl rfl rfl ?_ | refine WL.off0 rfl rfl ?_ | refine WC.exit ?_ | refine blk_hit ?_ | refine blk_miss rfl ?_ | refine WC.ret ?_)
    refine WL.loadB rfl rfl rfl rfl rfl (hp5.obj 1 rfl) (j := 0) rfl ?_
    repeat (first | refine WC.seq ?_ | refine WC.reg ?_ | refine WL.pure rfl rfl rfl ?_ | refine WL.nil ?_ | refine WC.skip ?_ | refine WC.block ?_ | refine WC.condT rfl ?_ | refine WC.condF rfl ?_ | refine WL.off rfl rfl rfl ?_ | refine WL.off0 rfl rfl ?_ | refine WC.exit ?_ | refine blk_hit ?_ | refine blk_miss rfl ?_ | refine WC.ret ?_)
    refine WL.call rfl rfl rfl rfl rfl ent76 (holds_any s hs ms[i] hm0 hm1 w5) ?_
    rintro v w6 ⟨rfl, rfl⟩
    refine WL.ix1 rfl rfl rfl rfl rfl rfl rfl hi ?_
    refine WL.store rfl rfl rfl rfl rfl rfl (hp5.obj 0 rfl) (by rw [List.size_toArray, bl_len, fill_len _ _ _ _ (by omega)]; omega) (fun w7 h7 => ?_)
    rw [Nat.zero_add, bl_set, ← hg, fill_set (fun i => holdsM s (ms.getD i 0)) false ms.length i hi] at h7
    have hp7 := hp5.set 0 rfl rfl h7
    repeat (first | refine WC.seq ?_ | refine WC.reg ?_ | refine WL.pure rfl rfl rfl ?_ | refine WL.nil ?_ | refine WC.skip ?_ | refine WC.block ?_ | refine WC.condT rfl ?_ | refine WC.condF rfl ?_ | refine WL.off rfl rfl rfl ?_ | refine WL.off0 rfl rfl ?_ | refine WC.exit ?_ | refine blk_hit ?_ | refine blk_miss rfl ?_ | refine WC.ret ?_)
    exact ⟨i + 1, (by omega), ⟨rfl, rfl, rfl, rfl, congrArg (fun z => some (Value.int .i64 z)) step, rfl⟩, hi, hp7⟩
  · have hi : i = ms.length := by have := of_decide_eq_false h2; omega
    subst hi
    repeat (first | refine WC.seq ?_ | refine WC.reg ?_ | refine WL.pure rfl rfl rfl ?_ | refine WL.nil ?_ | refine WC.skip ?_ | refine WC.block ?_ | refine WC.condT rfl ?_ | refine WC.condF rfl ?_ | refine WL.off rfl rfl rfl ?_ | refine WL.off0 rfl rfl ?_ | refine WC.exit ?_ | refine blk_hit ?_ | refine blk_miss rfl ?_ | refine WC.ret ?_)
    refine Res.one rfl rfl rfl ⟨ob, rfl, ?_⟩
    rw [Nat.sub_self, List.replicate_zero, List.append_nil] at hp5
    exact hp5.pick [0] (by decide)
include hn hlp in
theorem values_on (s : Str) (f : Fm) (hs : s ∈ onesL) (w : World) (hsl : Sl w a (zs ms)) (A : List Bool) (hAl : A.length = ms.length) (ih : ∀ w, Sl w a (zs ms) → Ret Tryd.prog 49 [lsV a ms.length c lp, fmV f] w (VaQ ms.length A w)) :
    Ret Tryd.prog 49 [lsV a ms.length c lp, fmV (.on_ s f)] w (VaQ ms.length (onM s A ms.length lp) w) := by
  refine enter Tryd.func49 rfl rfl ⟨rfl, rfl⟩ rfl ?_
  repeat (first | refine WC.seq ?_ | refine WC.reg ?_ | refine WL.pure rfl rfl rfl ?_ | refine WL.nil ?_ | refine WC.skip ?_ | refine WC.block ?_ | refine WC.condT rfl ?_ | refine WC.condF rfl ?_ | refine WL.off rfl rfl rfl ?_ | refine WL.off0 rfl rfl ?_ | refine WC.exit ?_ | refine blk_hit ?_ | refine blk_miss rfl ?_ | refine WC.ret ?_)
  refine WL.box rfl rfl rfl (fun bx w1 h1 => ?_)
  have hp1 : Hp w w1 [Lx bx a ms.length c lp] := (Hp.start w).new h1
  repeat (first | refine WC.seq ?_ | refine WC.reg ?_ | refine WL.pure rfl rfl rfl ?_ | refine WL.nil ?_ | refine WC.skip ?_ | refine WC.block ?_ | refine WC.condT rfl ?_ | refine WC.condF rfl ?_ | refine WL.off rfl rfl rfl ?_ | refine WL.off0 rfl rfl ?_ | refine WC.exit ?_ | refine blk_hit ?_ | refine blk_miss rfl ?_ | refine WC.ret ?_)
  refine WL.loadB rfl rfl rfl rfl rfl (hp1.obj 0 rfl) (j := 0) rfl ?_
  repeat (first | refine WC.seq ?_ | refine WC.reg ?_ | refine WL.pure rfl rfl rfl ?_ | refine WL.nil ?_ | refine WC.skip ?_ | refine WC.block ?_ | refine WC.condT rfl ?_ | refine WC.condF rfl ?_ | refine WL.off rfl rfl rfl ?_ | refine WL.off0 rfl rfl ?_ | refine WC.exit ?_ | refine blk_hit ?_ | refine blk_miss rfl ?_ | refine WC.ret ?_)
  refine WL.make rfl rfl rfl rfl rfl rfl rfl rfl (by show 1 * ms.length ≤ _; omega) (by unfold maxLen; omega) ?_
  intro ob w2 hob
  have hp2 : Hp w w2 [Lb ob (List.replicate ms.length false), Lx bx a ms.length c lp] := by
    have := hp1.new hob
    unfold Lb bl
    rw [List.map_replicate]
    exact this
  repeat (first | refine WC.seq ?_ | refine WC.reg ?_ | refine WL.pure rfl rfl rfl ?_ | refine WL.nil ?_ | refine WC.skip ?_ | refine WC.block ?_ | refine WC.condT rfl ?_ | refine WC.condF rfl ?_ | refine WL.off rfl rfl rfl ?_ | refine WL.off0 rfl rfl ?_ | refine WC.exit ?_ | refine blk_hit ?_ | refine blk_miss rfl ?_ | refine WC.ret ?_)
  refine WL.val rfl rfl rfl (yAsT rfl rfl rfl) ?_
  repeat (first | refine WC.seq ?_ | refine WC.reg ?_ | refine WL.pure rfl rfl rfl ?_ | refine WL.nil ?_ | refine WC.skip ?_ | refine WC.block ?_ | refine WC.condT rfl ?_ | refine WC.condF rfl ?_ | refine WL.off rfl rfl rfl ?_ | refine WL.off0 rfl rfl ?_ | refine WC.exit ?_ | refine blk_hit ?_ | refine blk_miss rfl ?_ | refine WC.ret ?_)
  refine WL.val rfl rfl rfl (yAsT rfl rfl rfl) ?_
  repeat (first | refine WC.seq ?_ | refine WC.reg ?_ | refine WL.pure rfl rfl rfl ?_ | refine WL.nil ?_ | refine WC.skip ?_ | refine WC.block ?_ | refine WC.condT rfl ?_ | refine WC.condF rfl ?_ | refine WL.off rfl rfl rfl ?_ | refine WL.off0 rfl rfl ?_ | refine WC.exit ?_ | refine blk_hit ?_ | refine blk_miss rfl ?_ | refine WC.ret ?_)
  refine WL.alloc rfl rfl rfl (fun b2 w3 h3 => ?_)
  have hp3 := hp2.new h3
  refine WL.storeN rfl rfl rfl rfl rfl (by simp [Value.oneCell', st]; exact fm_one f) (hp3.obj 0 rfl) (Nat.le_refl _) rfl (fun w4 h4 => ?_)
  have hp4 : Hp w w4 [Lb ob (List.replicate ms.length false), Q1b b2 s f, Lx bx a ms.length c lp] := (hp3.set 0 rfl rfl h4).pick [1, 0, 2] (by decide)
  repeat (first | refine WC.seq ?_ | refine WC.reg ?_ | refine WL.pure rfl rfl rfl ?_ | refine WL.nil ?_ | refine WC.skip ?_ | refine WC.block ?_ | refine WC.condT rfl ?_ | refine WC.condF rfl ?_ | refine WL.off rfl rfl rfl ?_ | refine WL.off0 rfl rfl ?_ | refine WC.exit ?_ | refine blk_hit ?_ | refine blk_miss rfl ?_ | refine WC.ret ?_)
  refine WL.loadN rfl rfl rfl rfl rfl (cs := [.slice a ms.length c, .int .i64 (lp : Nat)]) rfl (fun q v hq => cell_of_obj (hp4.obj 2 rfl) (by rw [Nat.zero_add]; simpa using hq)) ?_
  repeat (first | refine WC.seq ?_ | refine WC.reg ?_ | refine WL.pure rfl rfl rfl ?_ | refine WL.nil ?_ | refine WC.skip ?_ | refine WC.block ?_ | refine WC.condT rfl ?_ | refine WC.condF rfl ?_ | refine WL.off rfl rfl rfl ?_ | refine WL.off0 rfl rfl ?_ | refine WC.exit ?_ | refine blk_hit ?_ | refine blk_miss rfl ?_ | refine WC.ret ?_)
  refine WL.loadB rfl rfl rfl rfl rfl (hp4.obj 1 rfl) (j := 1) rfl ?_
  refine WL.call rfl rfl rfl rfl rfl ent49 (ih w4 (hsl.hp hp4)) ?_
  rintro v w5 ⟨ab, rfl, hp5⟩
  have hp6 := hp4.comb hp5
  refine WL.alloc rfl rfl rfl (fun va w7 h7 => ?_)
  have hp7 := hp6.new h7
  refine WL.store rfl rfl rfl rfl rfl rfl (hp7.obj 0 rfl) (Nat.lt_succ_self 0) (fun w8 h8 => ?_)
  have hp8 : Hp w w8 [Lb ob (List.replicate ms.length false), Va va (.slice (some ⟨ab, 0, none⟩) ms.length ms.length), Lb ab A, Q1b b2 s f, Lx bx a ms.length c lp] := (hp7.set 0 rfl rfl h8).pick [2, 0, 1, 3, 4] (by decide)
  repeat (first | refine WC.seq ?_ | refine WC.reg ?_ | refine WL.pure rfl rfl rfl ?_ | refine WL.nil ?_ | refine WC.skip ?_ | refine WC.block ?_ | refine WC.condT rfl ?_ | refine WC.condF rfl ?_ | refine WL.off rfl rfl rfl ?_ | refine WL.off0 rfl rfl ?_ | refine WC.exit ?_ | refine blk_hit ?_ | refine blk_miss rfl ?_ | refine WC.ret ?_)
  refine WL.loadB rfl rfl rfl rfl rfl (hp8.obj 3 rfl) (j := 0) rfl ?_
  repeat (first | refine WC.seq ?_ | refine WC.reg ?_ | refine WL.pure rfl rfl rfl ?_ | refine WL.nil ?_ | refine WC.skip ?_ | refine WC.block ?_ | refine WC.condT rfl ?_ | refine WC.condF rfl ?_ | refine WL.off rfl rfl rfl ?_ | refine WL.off0 rfl rfl ?_ | refine WC.exit ?_ | refine blk_hit ?_ | refine blk_miss rfl ?_ | refine WC.ret ?_)
  have hs2 : s = wNot ∨ s = wNext ∨ s = wAlways ∨ s = wFinally := by simpa [onesL] using hs
  rcases hs2 with rfl | rfl | rfl | rfl
  · refine WL.sCmp (a := wNot) (b := wNot) rfl rfl rfl rfl rfl ?_
    repeat (first | refine WC.seq ?_ | refine WC.reg ?_ | refine WL.pure rfl rfl rfl ?_ | refine WL.nil ?_ | refine WC.skip ?_ | refine WC.block ?_ | refine WC.condT rfl ?_ | refine WC.condF rfl ?_ | refine WL.off rfl rfl rfl ?_ | refine WL.off0 rfl rfl ?_ | refine WC.exit ?_ | refine blk_hit ?_ | refine blk_miss rfl ?_ | refine WC.ret ?_)
    refine WC.loop Nat (fun i => [(2, ptr bx), (5, .slice (some ⟨ob, 0, none⟩) ms.length ms.length), (10, ptr va), (54, .int .i64 (ms.length : Nat)), (55, .int .i64 (i : Nat))])
      (fun i w' => i ≤ ms.length ∧ Hp w w' [Lb ob ((List.range i).map (fun i => !A.getD i false) ++ List.replicate (ms.length - i) false), Va va (.slice (some ⟨ab, 0, none⟩) ms.length ms.length), Lb ab A, Q1b b2 wNot f, Lx bx a ms.length c lp]) (fun i => ms.length - i) 0 ⟨rfl, rfl, rfl, rfl, rfl, rfl⟩ ⟨Nat.zero_le _, hp8⟩ ?_
    clear hp8
    rintro i w9 ⟨hi, hp9⟩
    repeat (first | refine WC.seq ?_ | refine WC.reg ?_ | refine WL.pure rfl rfl rfl ?_ | refine WL.nil ?_ | refine WC.skip ?_ | refine WC.block ?_ | refine WC.condT rfl ?_ | refine WC.condF rfl ?_ | refine WL.off rfl rfl rfl ?_ | refine WL.off0 rfl rfl ?_ | refine WC.exit ?_ | refine blk_hit ?_ | refine blk_miss rfl ?_ | refine WC.ret ?_)
    refine WC.cond rfl (fun h2 => ?_) (fun h2 => ?_)
    · have hi : i < ms.length := by have := of_decide_eq_true h2; omega
      have step := wrap_succ (i := i) (n := i + 1) (by omega) (by omega)
      repeat (first | refine WC.seq ?_ | refine WC.reg ?_ | refine WL.pure rfl rfl rfl ?_ | refine WL.nil ?_ | refine WC.skip ?_ | refine WC.block ?_ | refine WC.condT rfl ?_ | refine WC.condF rfl ?_ | refine WL.off rfl rfl rfl ?_ | refine WL.off0 rfl rfl ?_ | refine WC.exit ?_ | refine blk_hit ?_ | refine blk_miss rfl ?_ | refine WC.ret ?_)
      refine WL.loadB rfl rfl rfl rfl rfl (hp9.obj 1 rfl) (j := 0) rfl ?_
      repeat (first | refine WC.seq ?_ | refine WC.reg ?_ | refine WL.pure rfl rfl rfl ?_ | refine WL.nil ?_ | refine WC.skip ?_ | refine WC.block ?_ | refine WC.condT rfl ?_ | refine WC.condF rfl ?_ | refine WL.off rfl rfl rfl ?_ | refine WL.off0 rfl rfl ?_ | refine WC.exit ?_ | refine blk_hit ?_ | refine blk_miss rfl ?_ | refine WC.ret ?_)
      refine WL.ix1 rfl rfl rfl rfl rfl rfl rfl hi ?_
      refine WL.load rfl rfl rfl rfl rfl (lb_obj (hp9.pick [2] (by decide)) (by omega)) ?_
      repeat (first | refine WC.seq ?_ | refine WC.reg ?_ | refine WL.pure rfl rfl rfl ?_ | refine WL.nil ?_ | refine WC.skip ?_ | refine WC.block ?_ | refine WC.condT rfl ?_ | refine WC.condF rfl ?_ | refine WL.off rfl rfl rfl ?_ | refine WL.off0 rfl rfl ?_ | refine WC.exit ?_ | refine blk_hit ?_ | refine blk_miss rfl ?_ | refine WC.ret ?_)
      refine WL.ix1 rfl rfl rfl rfl rfl rfl rfl hi ?_
      refine WL.store rfl rfl rfl rfl rfl rfl (hp9.obj 0 rfl) (by rw [List.size_toArray, bl_len, fill_len _ _ _ _ (by omega)]; omega) (fun w10 h10 => ?_)
      rw [Nat.zero_add, bl_set, fill_set (fun i => !A.getD i false) false ms.length i hi] at h10
      have hp10 := hp9.set 0 rfl rfl h10
      repeat (first | refine WC.seq ?_ | refine WC.reg ?_ | refine WL.pure rfl rfl rfl ?_ | refine WL.nil ?_ | refine WC.skip ?_ | refine WC.block ?_ | refine WC.condT rfl ?_ | refine WC.condF rfl ?_ | refine WL.off rfl rfl rfl ?_ | refine WL.off0 rfl rfl ?_ | refine WC.exit ?_ | refine blk_hit ?_ | refine blk_miss rfl ?_ | refine WC.ret ?_)
      exact ⟨i + 1, (by omega), ⟨rfl, rfl, rfl, rfl, congrArg (fun z => some (Value.int .i64 z)) step, rfl⟩, hi, hp10⟩
    · have hi : i = ms.length := by have := of_decide_eq_false h2; omega
      subst hi
      repeat (first | refine WC.seq ?_ | refine WC.reg ?_ | refine WL.pure rfl rfl rfl ?_ | refine WL.nil ?_ | refine WC.skip ?_ | refine WC.block ?_ | refine WC.condT rfl ?_ | refine WC.condF rfl ?_ | refine WL.off rfl rfl rfl ?_ | refine WL.off0 rfl rfl ?_ | refine WC.exit ?_ | refine blk_hit ?_ | refine blk_miss rfl ?_ | refine WC.ret ?_)
      refine Res.one rfl rfl rfl ⟨ob, rfl, ?_⟩
      rw [Nat.sub_self, List.replicate_zero, List.append_nil] at hp9
      exact hp9.pick [0] (by decide)
  · refine WL.sCmp (a := wNext) (b := wNot) rfl rfl rfl rfl rfl ?_
    repeat (first | refine WC.seq ?_ | refine WC.reg ?_ | refine WL.pure rfl rfl rfl ?_ | refine WL.nil ?_ | refine WC.skip ?_ | refine WC.block ?_ | refine WC.condT rfl ?_ | refine WC.condF rfl ?_ | refine WL.off rfl rfl rfl ?_ | refine WL.off0 rfl rfl ?_ | refine WC.exit ?_ | refine blk_hit ?_ | refine blk_miss rfl ?_ | refine WC.ret ?_)
    refine WL.sCmp (a := wNext) (b := wNext) rfl rfl rfl rfl rfl ?_
    repeat (first | refine WC.seq ?_ | refine WC.reg ?_ | refine WL.pure rfl rfl rfl ?_ | refine WL.nil ?_ | refine WC.skip ?_ | refine WC.block ?_ | refine WC.condT rfl ?_ | refine WC.condF rfl ?_ | refine WL.off rfl rfl rfl ?_ | refine WL.off0 rfl rfl ?_ | refine WC.exit ?_ | refine blk_hit ?_ | refine blk_miss rfl ?_ | refine WC.ret ?_)
    refine WC.loop Nat (fun i => [(2, ptr bx), (5, .slice (some ⟨ob, 0, none⟩) ms.length ms.length), (10, ptr va), (70, .int .i64 (ms.length : Nat)), (71, .int .i64 (i : Nat))])
      (fun i w' => i ≤ ms.length ∧ Hp w w' [Lb ob ((List.range i).map (fun i => A.getD (aft ms.length lp i) false) ++ List.replicate (ms.length - i) false), Va va (.slice (some ⟨ab, 0, none⟩) ms.length ms.length), Lb ab A, Q1b b2 wNext f, Lx bx a ms.length c lp]) (fun i => ms.length - i) 0 ⟨rfl, rfl, rfl, rfl, rfl, rfl⟩ ⟨Nat.zero_le _, hp8⟩ ?_
    clear hp8
    rintro i w9 ⟨hi, hp9⟩
    repeat (first | refine WC.seq ?_ | refine WC.reg ?_ | refine WL.pure rfl rfl rfl ?_ | refine WL.nil ?_ | refine WC.skip ?_ | refine WC.block ?_ | refine WC.condT rfl ?_ | refine WC.condF rfl ?_ | refine WL.off rfl rfl rfl ?_ | refine WL.off0 rfl rfl ?_ | refine WC.exit ?_ | refine blk_hit ?_ | refine blk_miss rfl ?_ | refine WC.ret ?_)
    refine WC.cond rfl (fun h2 => ?_) (fun h2 => ?_)
    · have hi : i < ms.length := by have := of_decide_eq_true h2; omega
      have step := wrap_succ (i := i) (n := i + 1) (by omega) (by omega)
      have ha := aft_lt (i := i) hlp
      repeat (first | refine WC.seq ?_ | refine WC.reg ?_ | refine WL.pure rfl rfl rfl ?_ | refine WL.nil ?_ | refine WC.skip ?_ | refine WC.block ?_ | refine WC.condT rfl ?_ | refine WC.condF rfl ?_ | refine WL.off rfl rfl rfl ?_ | refine WL.off0 rfl rfl ?_ | refine WC.exit ?_ | refine blk_hit ?_ | refine blk_miss rfl ?_ | refine WC.ret ?_)
      refine WC.regH (fun w' => Hp w w' [Va va (.slice (some ⟨ab, 0, none⟩) ms.length ms.length), Lb ab A, Lx bx a ms.length c lp]) mixed (by kernel_rfl) (fun w10 hw10 hh10 => ?_)
      have hp10 := hp9.keep hw10
      have hS : Hp w w10 [Va va (.slice (some ⟨ab, 0, none⟩) ms.length ms.length), Lb ab A, Lx bx a ms.length c lp] := hp10.pick [1, 2, 4] (by decide)
      refine WH.pure 0 (by kernel_rfl) rfl (by kernel_rfl) rfl rfl rfl (hS) ?_
      refine WH.pure 1 (by kernel_rfl) rfl (by kernel_rfl) rfl rfl rfl (hS) ?_
      refine WH.load 2 (by kernel_rfl) rfl (by kernel_rfl) rfl rfl rfl rfl rfl (fun w' h => cell_of_obj (h.obj 0 rfl) rfl) hS ?_
      refine WH.take 3 (by kernel_rfl) rfl (by kernel_rfl) rfl rfl (fun w' h => run_loadN rfl rfl (cs := [.slice a ms.length c, .int .i64 (lp : Nat)]) rfl rfl (fun q v hq => by rw [Addr.add_lit]; exact cell_of_obj (h.obj 2 rfl) (by rw [Nat.zero_add]; simpa using hq))) hS ?_
      refine WH.pure 4 (by kernel_rfl) rfl (by kernel_rfl) rfl rfl rfl (hS) ?_
      refine WH.one 5 rfl (by kernel_rfl) ?_
      refine WL.call rfl rfl rfl rfl rfl ent77 (after_any a ms.length c lp i hn hi w10) ?_
      rintro v w11 ⟨rfl, hp11⟩
      have hp12 := hp10.comb hp11
      have hS2 : Hp w w11 [Va va (.slice (some ⟨ab, 0, none⟩) ms.length ms.length), Lb ab A, Lx bx a ms.length c lp] := hp12.pick [1, 2, 4] (by decide)
      refine WL.nil ⟨hS2, ?_⟩
      refine WH.ix1 6 (by kernel_rfl) rfl (by kernel_rfl) rfl rfl rfl rfl rfl rfl rfl ha hS2 ?_
      refine WH.load 7 (by kernel_rfl) rfl (by kernel_rfl) rfl rfl rfl rfl rfl (fun w' h => lb_obj (h.pick [1] (by decide)) (by omega)) hS2 ?_
      refine WH.ix1 8 (by kernel_rfl) rfl (by kernel_rfl) rfl rfl rfl rfl rfl rfl rfl hi hS2 ?_
      refine WH.one 9 rfl (by kernel_rfl) ?_
      refine WL.store rfl rfl rfl rfl rfl rfl (hp12.obj 0 rfl) (by rw [List.size_toArray, bl_len, fill_len _ _ _ _ (by omega)]; omega) (fun w13 h13 => ?_)
      rw [Nat.zero_add, bl_set, fill_set (fun i => A.getD (aft ms.length lp i) false) false ms.length i hi] at h13
      have hp13 := hp12.set 0 rfl rfl h13
      refine WL.nil ⟨hp13.pick [1, 2, 4] (by decide), ?_⟩
      refine WH.done (by kernel_rfl) ?_
      repeat (first | refine WC.seq ?_ | refine WC.reg ?_ | refine WL.pure rfl rfl rfl ?_ | refine WL.nil ?_ | refine WC.skip ?_ | refine WC.block ?_ | refine WC.condT rfl ?_ | refine WC.condF rfl ?_ | refine WL.off rfl rfl rfl ?_ | refine WL.off0 rfl rfl ?_ | refine WC.exit ?_ | refine blk_hit ?_ | refine blk_miss rfl ?_ | refine WC.ret ?_)
      exact ⟨i + 1, (by omega), ⟨rfl, rfl, rfl, rfl, congrArg (fun z => some (Value.int .i64 z)) step, rfl⟩, hi, hp13⟩
    · have hi : i = ms.length := by have := of_decide_eq_false h2; omega
      subst hi
      repeat (first | refine WC.seq ?_ | refine WC.reg ?_ | refine WL.pure rfl rfl rfl ?_ | refine WL.nil ?_ | refine WC.skip ?_ | refine WC.block ?_ | refine WC.condT rfl ?_ | refine WC.condF rfl ?_ | refine WL.off rfl rfl rfl ?_ | refine WL.off0 rfl rfl ?_ | refine WC.exit ?_ | refine blk_hit ?_ | refine blk_miss rfl ?_ | refine WC.ret ?_)
      refine Res.one rfl rfl rfl ⟨ob, rfl, ?_⟩
      rw [Nat.sub_self, List.replicate_zero, List.append_nil] at hp9
      exact hp9.pick [0] (by decide)
  · refine WL.sCmp (a := wAlways) (b := wNot) rfl rfl rfl rfl rfl ?_
    repeat (first | refine WC.seq ?_ | refine WC.reg ?_ | refine WL.pure rfl rfl rfl ?_ | refine WL.nil ?_ | refine WC.skip ?_ | refine WC.block ?_ | refine WC.condT rfl ?_ | refine WC.condF rfl ?_ | refine WL.off rfl rfl rfl ?_ | refine WL.off0 rfl rfl ?_ | refine WC.exit ?_ | refine blk_hit ?_ | refine blk_miss rfl ?_ | refine WC.ret ?_)
    refine WL.sCmp (a := wAlways) (b := wNext) rfl rfl rfl rfl rfl ?_
    repeat (first | refine WC.seq ?_ | refine WC.reg ?_ | refine WL.pure rfl rfl rfl ?_ | refine WL.nil ?_ | refine WC.skip ?_ | refine WC.block ?_ | refine WC.condT rfl ?_ | refine WC.condF rfl ?_ | refine WL.off rfl rfl rfl ?_ | refine WL.off0 rfl rfl ?_ | refine WC.exit ?_ | refine blk_hit ?_ | refine blk_miss rfl ?_ | refine WC.ret ?_)
    refine WL.sCmp (a := wAlways) (b := wAlways) rfl rfl rfl rfl rfl ?_
    repeat (first | refine WC.seq ?_ | refine WC.reg ?_ | refine WL.pure rfl rfl rfl ?_ | refine WL.nil ?_ | refine WC.skip ?_ | refine WC.block ?_ | refine WC.condT rfl ?_ | refine WC.condF rfl ?_ | refine WL.off rfl rfl rfl ?_ | refine WL.off0 rfl rfl ?_ | refine WC.exit ?_ | refine blk_hit ?_ | refine blk_miss rfl ?_ | refine WC.ret ?_)
    have hp9 := hp8
    have hBo : Bo w8 va ab ms.length A := ⟨cell_of_obj (hp8.obj 1 rfl) rfl, fun i hi => lb_obj (hp8.pick [2] (by decide)) (by omega)⟩
    refine WL.loadN rfl rfl rfl rfl rfl (cs := [.slice a ms.length c, .int .i64 (lp : Nat)]) rfl (fun q v hq => cell_of_obj (hp8.obj 4 rfl) (by rw [Nat.zero_add]; simpa using hq)) ?_
    repeat (first | refine WC.seq ?_ | refine WC.reg ?_ | refine WL.pure rfl rfl rfl ?_ | refine WL.nil ?_ | refine WC.skip ?_ | refine WC.block ?_ | refine WC.condT rfl ?_ | refine WC.condF rfl ?_ | refine WL.off rfl rfl rfl ?_ | refine WL.off0 rfl rfl ?_ | refine WC.exit ?_ | refine blk_hit ?_ | refine blk_miss rfl ?_ | refine WC.ret ?_)
    refine WL.call rfl rfl rfl rfl rfl ent78 (repeat_any a ms.length c lp hn hlp true (fi := []) (ca := [ptr va]) ent79 (fun i x => A.getD i false && x) w8 (fun i x w' hi h' => c1_any (hBo.below h'.below) i hi x)) ?_
    rintro v w9 ⟨rb, rfl, hp9⟩
    repeat (first | refine WC.seq ?_ | refine WC.reg ?_ | refine WL.pure rfl rfl rfl ?_ | refine WL.nil ?_ | refine WC.skip ?_ | refine WC.block ?_ | refine WC.condT rfl ?_ | refine WC.condF rfl ?_ | refine WL.off rfl rfl rfl ?_ | refine WL.off0 rfl rfl ?_ | refine WC.exit ?_ | refine blk_hit ?_ | refine blk_miss rfl ?_ | refine WC.ret ?_)
    exact Res.one rfl rfl rfl ⟨rb, rfl, (hp8.comb hp9).pick [0] (by decide)⟩
  · refine WL.sCmp (a := wFinally) (b := wNot) rfl rfl rfl rfl rfl ?_
    repeat (first | refine WC.seq ?_ | refine WC.reg ?_ | refine WL.pure rfl rfl rfl ?_ | refine WL.nil ?_ | refine WC.skip ?_ | refine WC.block ?_ | refine WC.condT rfl ?_ | refine WC.condF rfl ?_ | refine WL.off rfl rfl rfl ?_ | refine WL.off0 rfl rfl ?_ | refine WC.exit ?_ | refine blk_hit ?_ | refine blk_miss rfl ?_ | refine WC.ret ?_)
    refine WL.sCmp (a := wFinally) (b := wNext) rfl rfl rfl rfl rfl ?_
    repeat (first | refine WC.seq ?_ | refine WC.reg ?_ | refine WL.pure rfl rfl rfl ?_ | refine WL.nil ?_ | refine WC.skip ?_ | refine WC.block ?_ | refine WC.condT rfl ?_ | refine WC.condF rfl ?_ | refine WL.off rfl rfl rfl ?_ | refine WL.off0 rfl rfl ?_ | refine WC.exit ?_ | refine blk_hit ?_ | refine blk_miss rfl ?_ | refine WC.ret ?_)
    refine WL.sCmp (a := wFinally) (b := wAlways) rfl rfl rfl rfl rfl ?_
    repeat (first | refine WC.seq ?_ | refine WC.reg ?_ | refine WL.pure rfl rfl rfl ?_ | refine WL.nil ?_ | refine WC.skip ?_ | refine WC.block ?_ | refine WC.condT rfl ?_ | refine WC.condF rfl ?_ | refine WL.off rfl rfl rfl ?_ | refine WL.off0 rfl rfl ?_ | refine WC.exit ?_ | refine blk_hit ?_ | refine blk_miss rfl ?_ | refine WC.ret ?_)
    refine WL.sCmp (a := wFinally) (b := wFinally) rfl rfl rfl rfl rfl ?_
    repeat (first | refine WC.seq ?_ | refine WC.reg ?_ | refine WL.pure rfl rfl rfl ?_ | refine WL.nil ?_ | refine WC.skip ?_ | refine WC.block ?_ | refine WC.condT rfl ?_ | refine WC.condF rfl ?_ | refine WL.off rfl rfl rfl ?_ | refine WL.off0 rfl rfl ?_ | refine WC.exit ?_ | refine blk_hit ?_ | refine blk_miss rfl ?_ | refine WC.ret ?_)
    have hp9 := hp8
    have hBo : Bo w8 va ab ms.length A := ⟨cell_of_obj (hp8.obj 1 rfl) rfl, fun i hi => lb_obj (hp8.pick [2] (by decide)) (by omega)⟩
    refine WL.loadN rfl rfl rfl rfl rfl (cs := [.slice a ms.length c, .int .i64 (lp : Nat)]) rfl (fun q v hq => cell_of_obj (hp8.obj 4 rfl) (by rw [Nat.zero_add]; simpa using hq)) ?_
    repeat (first | refine WC.seq ?_ | refine WC.reg ?_ | refine WL.pure rfl rfl rfl ?_ | refine WL.nil ?_ | refine WC.skip ?_ | refine WC.block ?_ | refine WC.condT rfl ?_ | refine WC.condF rfl ?_ | refine WL.off rfl rfl rfl ?_ | refine WL.off0 rfl rfl ?_ | refine WC.exit ?_ | refine blk_hit ?_ | refine blk_miss rfl ?_ | refine WC.ret ?_)
    refine WL.call rfl rfl rfl rfl rfl ent78 (repeat_any a ms.length c lp hn hlp false (fi := []) (ca := [ptr va]) ent80 (fun i x => A.getD i false || x) w8 (fun i x w' hi h' => c2_any (hBo.below h'.below) i hi x)) ?_
    rintro v w9 ⟨rb, rfl, hp9⟩
    repeat (first | refine WC.seq ?_ | refine WC.reg ?_ | refine WL.pure rfl rfl rfl ?_ | refine WL.nil ?_ | refine WC.skip ?_ | refine WC.block ?_ | refine WC.condT rfl ?_ | refine WC.condF rfl ?_ | refine WL.off rfl rfl rfl ?_ | refine WL.off0 rfl rfl ?_ | refine WC.exit ?_ | refine blk_hit ?_ | refine blk_miss rfl ?_ | refine WC.ret ?_)
    exact Res.one rfl rfl rfl ⟨rb, rfl, (hp8.comb hp9).pick [0] (by decide)⟩
end
end Go.Proofs.YtpbbneclkhfgoaaDoor
