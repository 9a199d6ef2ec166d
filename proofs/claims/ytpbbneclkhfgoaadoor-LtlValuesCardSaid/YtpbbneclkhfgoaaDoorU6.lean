/- ltl, sixth: push, text, Push. -/
import Derived.Test.YtpbbneclkhfgoaaDoorU5
namespace Go.W
open Go.RowKit Go.Ltl
/-- The type, the function of the text and the parts of a formula as a value. -/
def fmT : Fm → TypeId
  | .at_ _ => 129
  | .on_ _ _ => 132
  | .tw_ _ _ _ => 108
def fmP : Fm → Value
  | .at_ w => .agg #[st w]
  | .on_ w f => .agg #[st w, fmV f]
  | .tw_ w f g => .agg #[st w, fmV f, fmV g]
def fmN : Fm → FuncId
  | .at_ _ => 122
  | .on_ _ _ => 123
  | .tw_ _ _ _ => 121
theorem fmV_eq (f : Fm) : fmV f = .iface (fmT f) (fmP f) := by cases f <;> rfl
end Go.W
namespace Go.Proofs.YtpbbneclkhfgoaaDoor
open Go.W Go.Ltl Go.RowKit
set_option maxRecDepth 100000
attribute [local irreducible] WC WL WQ WS WH

theorem meth_any (f : Fm) : Meth Tryd.prog (fmT f) "olivette/ltl.text" (fmN f) := by
  intro v args w
  cases f <;> kernel_rfl
theorem push1_any {w0 w : World} {L : List Ent} (b : Nat) (s : Str) (c : Bool) (hG : Gl w0) (hp : Hp w0 w (.blk b (.cells #[.bool c] 4 (0, 0)) :: L)) :
    Ret Tryd.prog 83 [st s, ptr b] w fun v w' => v = st (nameM c s) ∧ w' = w := by
  obtain ⟨mb, es, cc, P, h4, hl, h5, h6, h7⟩ := (hG.hp hp).dual
  refine enter Tryd.func83 rfl rfl ⟨rfl, rfl⟩ rfl ?_
  repeat (first | refine WC.seq ?_ | refine WC.reg ?_ | refine WL.pure rfl rfl rfl ?_ | refine WL.nil ?_ | refine WC.skip ?_ | refine WC.block ?_ | refine WC.condT rfl ?_ | refine WC.condF rfl ?_ | refine WL.off rfl rfl rfl ?_ | refine WL.off0 rfl rfl ?_ | refine WC.exit ?_ | refine blk_hit ?_ | refine blk_miss rfl ?_ | refine WC.ret ?_)
  refine WL.loadB rfl rfl rfl rfl rfl (hp.obj 0 rfl) (j := 0) rfl ?_
  repeat (first | refine WC.seq ?_ | refine WC.reg ?_ | refine WL.pure rfl rfl rfl ?_ | refine WL.nil ?_ | refine WC.skip ?_ | refine WC.block ?_ | refine WC.condT rfl ?_ | refine WC.condF rfl ?_ | refine WL.off rfl rfl rfl ?_ | refine WL.off0 rfl rfl ?_ | refine WC.exit ?_ | refine blk_hit ?_ | refine blk_miss rfl ?_ | refine WC.ret ?_)
  cases c with
  | true =>
    repeat (first | refine WC.seq ?_ | refine WC.reg ?_ | refine WL.pure rfl rfl rfl ?_ | refine WL.nil ?_ | refine WC.skip ?_ | refine WC.block ?_ | refine WC.condT rfl ?_ | refine WC.condF rfl ?_ | refine WL.off rfl rfl rfl ?_ | refine WL.off0 rfl rfl ?_ | refine WC.exit ?_ | refine blk_hit ?_ | refine blk_miss rfl ?_ | refine WC.ret ?_)
    refine WL.load rfl rfl rfl rfl rfl h4 ?_
    repeat (first | refine WC.seq ?_ | refine WC.reg ?_ | refine WL.pure rfl rfl rfl ?_ | refine WL.nil ?_ | refine WC.skip ?_ | refine WC.block ?_ | refine WC.condT rfl ?_ | refine WC.condF rfl ?_ | refine WL.off rfl rfl rfl ?_ | refine WL.off0 rfl rfl ?_ | refine WC.exit ?_ | refine blk_hit ?_ | refine blk_miss rfl ?_ | refine WC.ret ?_)
    refine WL.val rfl rfl rfl (yLkS (r := dualM s) rfl rfl rfl rfl rfl rfl h5 h6 (h7 s)) ?_
    repeat (first | refine WC.seq ?_ | refine WC.reg ?_ | refine WL.pure rfl rfl rfl ?_ | refine WL.nil ?_ | refine WC.skip ?_ | refine WC.block ?_ | refine WC.condT rfl ?_ | refine WC.condF rfl ?_ | refine WL.off rfl rfl rfl ?_ | refine WL.off0 rfl rfl ?_ | refine WC.exit ?_ | refine blk_hit ?_ | refine blk_miss rfl ?_ | refine WC.ret ?_)
    exact Res.one rfl rfl rfl ⟨rfl, rfl⟩
  | false =>
    repeat (first | refine WC.seq ?_ | refine WC.reg ?_ | refine WL.pure rfl rfl rfl ?_ | refine WL.nil ?_ | refine WC.skip ?_ | refine WC.block ?_ | refine WC.condT rfl ?_ | refine WC.condF rfl ?_ | refine WL.off rfl rfl rfl ?_ | refine WL.off0 rfl rfl ?_ | refine WC.exit ?_ | refine blk_hit ?_ | refine blk_miss rfl ?_ | refine WC.ret ?_)
    exact Res.one rfl rfl rfl ⟨rfl, rfl⟩
/-- What push keeps: whether the contrary is wanted, and the part at hand. -/
abbrev Bb (b : Nat) (c : Bool) : Ent := .blk b (.cells #[.bool c] 4 (0, 0))
abbrev Q1b (b : Nat) (s : Str) (f : Fm) : Ent := .blk b (.cells #[st s, fmV f] 132 (0, 0))
abbrev Q2b (b : Nat) (s : Str) (f g : Fm) : Ent := .blk b (.cells #[st s, fmV f, fmV g] 108 (0, 0))
theorem fm_one (f : Fm) : (fmV f).oneCell' = true := by cases f <;> rfl
theorem push_any : ∀ (f : Fm) (c : Bool) (w : World), Gl w → Ret Tryd.prog 53 [fmV f, .bool c] w fun v w' => v = fmV (pushM f c) ∧ Hp w w' [] := by
  intro f
  induction f with
  | at_ s =>
    intro c w hG
    refine enter Tryd.func53 rfl rfl ⟨rfl, rfl⟩ rfl ?_
    repeat (first | refine WC.seq ?_ | refine WC.reg ?_ | refine WL.pure rfl rfl rfl ?_ | refine WL.nil ?_ | refine WC.skip ?_ | refine WC.block ?_ | refine WC.condT rfl ?_ | refine WC.condF rfl ?_ | refine WL.off rfl rfl rfl ?_ | refine WL.off0 rfl rfl ?_ | refine WC.exit ?_ | refine blk_hit ?_ | refine blk_miss rfl ?_ | refine WC.ret ?_)
    refine WL.box rfl rfl rfl (fun b w1 h1 => ?_)
    have hp1 := (Hp.start w).new h1
    repeat (first | refine WC.seq ?_ | refine WC.reg ?_ | refine WL.pure rfl rfl rfl ?_ | refine WL.nil ?_ | refine WC.skip ?_ | refine WC.block ?_ | refine WC.condT rfl ?_ | refine WC.condF rfl ?_ | refine WL.off rfl rfl rfl ?_ | refine WL.off0 rfl rfl ?_ | refine WC.exit ?_ | refine blk_hit ?_ | refine blk_miss rfl ?_ | refine WC.ret ?_)
    refine WL.val rfl rfl rfl (yAsT rfl rfl rfl) ?_
    repeat (first | refine WC.seq ?_ | refine WC.reg ?_ | refine WL.pure rfl rfl rfl ?_ | refine WL.nil ?_ | refine WC.skip ?_ | refine WC.block ?_ | refine WC.condT rfl ?_ | refine WC.condF rfl ?_ | refine WL.off rfl rfl rfl ?_ | refine WL.off0 rfl rfl ?_ | refine WC.exit ?_ | refine blk_hit ?_ | refine blk_miss rfl ?_ | refine WC.ret ?_)
    refine WL.val rfl rfl rfl (yAsT rfl rfl rfl) ?_
    repeat (first | refine WC.seq ?_ | refine WC.reg ?_ | refine WL.pure rfl rfl rfl ?_ | refine WL.nil ?_ | refine WC.skip ?_ | refine WC.block ?_ | refine WC.condT rfl ?_ | refine WC.condF rfl ?_ | refine WL.off rfl rfl rfl ?_ | refine WL.off0 rfl rfl ?_ | refine WC.exit ?_ | refine blk_hit ?_ | refine blk_miss rfl ?_ | refine WC.ret ?_)
    refine WL.val rfl rfl rfl (yAsT rfl rfl rfl) ?_
    repeat (first | refine WC.seq ?_ | refine WC.reg ?_ | refine WL.pure rfl rfl rfl ?_ | refine WL.nil ?_ | refine WC.skip ?_ | refine WC.block ?_ | refine WC.condT rfl ?_ | refine WC.condF rfl ?_ | refine WL.off rfl rfl rfl ?_ | refine WL.off0 rfl rfl ?_ | refine WC.exit ?_ | refine blk_hit ?_ | refine blk_miss rfl ?_ | refine WC.ret ?_)
    refine WL.alloc rfl rfl rfl (fun b2 w2 h2 => ?_)
    have hp2 := hp1.new h2
    refine WL.storeN rfl rfl rfl rfl rfl (by simp [Value.oneCell', st]) (hp2.obj 0 rfl) (Nat.le_refl _) rfl (fun w3 h3 => ?_)
    have hp3 : Hp w w3 [.blk b2 (.cells #[st s] 129 (0, 0)), Bb b c] := hp2.set 0 rfl rfl h3
    obtain ⟨mb, es, cc, P, h4, hl, h5, h6, h7⟩ := (hG.hp hp3).dual
    repeat (first | refine WC.seq ?_ | refine WC.reg ?_ | refine WL.pure rfl rfl rfl ?_ | refine WL.nil ?_ | refine WC.skip ?_ | refine WC.block ?_ | refine WC.condT rfl ?_ | refine WC.condF rfl ?_ | refine WL.off rfl rfl rfl ?_ | refine WL.off0 rfl rfl ?_ | refine WC.exit ?_ | refine blk_hit ?_ | refine blk_miss rfl ?_ | refine WC.ret ?_)
    refine WL.load rfl rfl rfl rfl rfl h4 ?_
    repeat (first | refine WC.seq ?_ | refine WC.reg ?_ | refine WL.pure rfl rfl rfl ?_ | refine WL.nil ?_ | refine WC.skip ?_ | refine WC.block ?_ | refine WC.condT rfl ?_ | refine WC.condF rfl ?_ | refine WL.off rfl rfl rfl ?_ | refine WL.off0 rfl rfl ?_ | refine WC.exit ?_ | refine blk_hit ?_ | refine blk_miss rfl ?_ | refine WC.ret ?_)
    refine WL.loadB rfl rfl rfl rfl rfl (hp3.obj 0 rfl) (j := 0) rfl ?_
    refine WL.val rfl rfl rfl (yLkS (r := dualM s) rfl rfl rfl rfl rfl rfl h5 h6 (h7 s)) ?_
    cases hd : dualM s with
    | some r =>
      have e1 : pushM (.at_ s) c = .at_ (nameM c s) := by simp [pushM, hd]
      rw [e1]
      repeat (first | refine WC.seq ?_ | refine WC.reg ?_ | refine WL.pure rfl rfl rfl ?_ | refine WL.nil ?_ | refine WC.skip ?_ | refine WC.block ?_ | refine WC.condT rfl ?_ | refine WC.condF rfl ?_ | refine WL.off rfl rfl rfl ?_ | refine WL.off0 rfl rfl ?_ | refine WC.exit ?_ | refine blk_hit ?_ | refine blk_miss rfl ?_ | refine WC.ret ?_)
      refine WL.loadB rfl rfl rfl rfl rfl (hp3.obj 0 rfl) (j := 0) rfl ?_
      refine WL.call rfl rfl rfl rfl rfl ent83 (push1_any b s c hG (hp3.pick [1] (by decide))) ?_
      rintro v w4 ⟨rfl, rfl⟩
      refine WL.buildT (cs := [st (nameM c s)]) rfl rfl rfl rfl rfl rfl ?_
      refine WL.val rfl rfl rfl (yMkI rfl rfl rfl) ?_
      repeat (first | refine WC.seq ?_ | refine WC.reg ?_ | refine WL.pure rfl rfl rfl ?_ | refine WL.nil ?_ | refine WC.skip ?_ | refine WC.block ?_ | refine WC.condT rfl ?_ | refine WC.condF rfl ?_ | refine WL.off rfl rfl rfl ?_ | refine WL.off0 rfl rfl ?_ | refine WC.exit ?_ | refine blk_hit ?_ | refine blk_miss rfl ?_ | refine WC.ret ?_)
      exact Res.one rfl rfl rfl ⟨rfl, hp3.nil'⟩
    | none =>
      repeat (first | refine WC.seq ?_ | refine WC.reg ?_ | refine WL.pure rfl rfl rfl ?_ | refine WL.nil ?_ | refine WC.skip ?_ | refine WC.block ?_ | refine WC.condT rfl ?_ | refine WC.condF rfl ?_ | refine WL.off rfl rfl rfl ?_ | refine WL.off0 rfl rfl ?_ | refine WC.exit ?_ | refine blk_hit ?_ | refine blk_miss rfl ?_ | refine WC.ret ?_)
      refine WL.loadB rfl rfl rfl rfl rfl (hp3.obj 1 rfl) (j := 0) rfl ?_
      repeat (first | refine WC.seq ?_ | refine WC.reg ?_ | refine WL.pure rfl rfl rfl ?_ | refine WL.nil ?_ | refine WC.skip ?_ | refine WC.block ?_ | refine WC.condT rfl ?_ | refine WC.condF rfl ?_ | refine WL.off rfl rfl rfl ?_ | refine WL.off0 rfl rfl ?_ | refine WC.exit ?_ | refine blk_hit ?_ | refine blk_miss rfl ?_ | refine WC.ret ?_)
      cases c with
      | true =>
        have e1 : pushM (.at_ s) true = .on_ wNot (.at_ s) := by simp [pushM, hd]
        rw [e1]
        repeat (first | refine WC.seq ?_ | refine WC.reg ?_ | refine WL.pure rfl rfl rfl ?_ | refine WL.nil ?_ | refine WC.skip ?_ | refine WC.block ?_ | refine WC.condT rfl ?_ | refine WC.condF rfl ?_ | refine WL.off rfl rfl rfl ?_ | refine WL.off0 rfl rfl ?_ | refine WC.exit ?_ | refine blk_hit ?_ | refine blk_miss rfl ?_ | refine WC.ret ?_)
        refine WL.loadN rfl rfl rfl rfl rfl (cs := [st s]) rfl (fun j v hj => cell_of_obj (hp3.obj 0 rfl) (by rw [Nat.zero_add]; simpa using hj)) ?_
        refine WL.val rfl rfl rfl (yMkI rfl rfl rfl) ?_
        refine WL.buildT (cs := [st wNot, fmV (.at_ s)]) rfl rfl rfl rfl rfl rfl ?_
        refine WL.val rfl rfl rfl (yMkI rfl rfl rfl) ?_
        repeat (first | refine WC.seq ?_ | refine WC.reg ?_ | refine WL.pure rfl rfl rfl ?_ | refine WL.nil ?_ | refine WC.skip ?_ | refine WC.block ?_ | refine WC.condT rfl ?_ | refine WC.condF rfl ?_ | refine WL.off rfl rfl rfl ?_ | refine WL.off0 rfl rfl ?_ | refine WC.exit ?_ | refine blk_hit ?_ | refine blk_miss rfl ?_ | refine WC.ret ?_)
        exact Res.one rfl rfl rfl ⟨rfl, hp3.nil'⟩
      | false =>
        have e1 : pushM (.at_ s) false = .at_ s := by simp [pushM, hd]
        rw [e1]
        repeat (first | refine WC.seq ?_ | refine WC.reg ?_ | refine WL.pure rfl rfl rfl ?_ | refine WL.nil ?_ | refine WC.skip ?_ | refine WC.block ?_ | refine WC.condT rfl ?_ | refine WC.condF rfl ?_ | refine WL.off rfl rfl rfl ?_ | refine WL.off0 rfl rfl ?_ | refine WC.exit ?_ | refine blk_hit ?_ | refine blk_miss rfl ?_ | refine WC.ret ?_)
        exact Res.one rfl rfl rfl ⟨rfl, hp3.nil'⟩
  | on_ s f ih =>
    intro c w hG
    refine enter Tryd.func53 rfl rfl ⟨rfl, rfl⟩ rfl ?_
    repeat (first | refine WC.seq ?_ | refine WC.reg ?_ | refine WL.pure rfl rfl rfl ?_ | refine WL.nil ?_ | refine WC.skip ?_ | refine WC.block ?_ | refine WC.condT rfl ?_ | refine WC.condF rfl ?_ | refine WL.off rfl rfl rfl ?_ | refine WL.off0 rfl rfl ?_ | refine WC.exit ?_ | refine blk_hit ?_ | refine blk_miss rfl ?_ | refine WC.ret ?_)
    refine WL.box rfl rfl rfl (fun b w1 h1 => ?_)
    have hp1 := (Hp.start w).new h1
    repeat (first | refine WC.seq ?_ | refine WC.reg ?_ | refine WL.pure rfl rfl rfl ?_ | refine WL.nil ?_ | refine WC.skip ?_ | refine WC.block ?_ | refine WC.condT rfl ?_ | refine WC.condF rfl ?_ | refine WL.off rfl rfl rfl ?_ | refine WL.off0 rfl rfl ?_ | refine WC.exit ?_ | refine blk_hit ?_ | refine blk_miss rfl ?_ | refine WC.ret ?_)
    refine WL.val rfl rfl rfl (yAsT rfl rfl rfl) ?_
    repeat (first | refine WC.seq ?_ | refine WC.reg ?_ | refine WL.pure rfl rfl rfl ?_ | refine WL.nil ?_ | refine WC.skip ?_ | refine WC.block ?_ | refine WC.condT rfl ?_ | refine WC.condF rfl ?_ | refine WL.off rfl rfl rfl ?_ | refine WL.off0 rfl rfl ?_ | refine WC.exit ?_ | refine blk_hit ?_ | refine blk_miss rfl ?_ | refine WC.ret ?_)
    refine WL.alloc rfl rfl rfl (fun b2 w2 h2 => ?_)
    have hp2 := hp1.new h2
    refine WL.storeN rfl rfl rfl rfl rfl (by simp [Value.oneCell', st]; exact fm_one f) (hp2.obj 0 rfl) (Nat.le_refl _) rfl (fun w3 h3 => ?_)
    have hp3 : Hp w w3 [Q1b b2 s f, Bb b c] := hp2.set 0 rfl rfl h3
    repeat (first | refine WC.seq ?_ | refine WC.reg ?_ | refine WL.pure rfl rfl rfl ?_ | refine WL.nil ?_ | refine WC.skip ?_ | refine WC.block ?_ | refine WC.condT rfl ?_ | refine WC.condF rfl ?_ | refine WL.off rfl rfl rfl ?_ | refine WL.off0 rfl rfl ?_ | refine WC.exit ?_ | refine blk_hit ?_ | refine blk_miss rfl ?_ | refine WC.ret ?_)
    refine WL.loadB rfl rfl rfl rfl rfl (hp3.obj 0 rfl) (j := 0) rfl ?_
    refine WL.sCmp rfl rfl rfl rfl rfl ?_
    repeat (first | refine WC.seq ?_ | refine WC.reg ?_ | refine WL.pure rfl rfl rfl ?_ | refine WL.nil ?_ | refine WC.skip ?_ | refine WC.block ?_ | refine WC.condT rfl ?_ | refine WC.condF rfl ?_ | refine WL.off rfl rfl rfl ?_ | refine WL.off0 rfl rfl ?_ | refine WC.exit ?_ | refine blk_hit ?_ | refine blk_miss rfl ?_ | refine WC.ret ?_)
    refine WC.cond rfl (fun h1 => ?_) (fun h1 => ?_)
    · have h1 : s = wNot := of_decide_eq_true h1
      have e1 : pushM (.on_ s f) c = pushM f (!c) := by simp [pushM, h1]
      rw [e1]
      repeat (first | refine WC.seq ?_ | refine WC.reg ?_ | refine WL.pure rfl rfl rfl ?_ | refine WL.nil ?_ | refine WC.skip ?_ | refine WC.block ?_ | refine WC.condT rfl ?_ | refine WC.condF rfl ?_ | refine WL.off rfl rfl rfl ?_ | refine WL.off0 rfl rfl ?_ | refine WC.exit ?_ | refine blk_hit ?_ | refine blk_miss rfl ?_ | refine WC.ret ?_)
      refine WL.loadB rfl rfl rfl rfl rfl (hp3.obj 0 rfl) (j := 1) rfl ?_
      refine WL.loadB rfl rfl rfl rfl rfl (hp3.obj 1 rfl) (j := 0) rfl ?_
      repeat (first | refine WC.seq ?_ | refine WC.reg ?_ | refine WL.pure rfl rfl rfl ?_ | refine WL.nil ?_ | refine WC.skip ?_ | refine WC.block ?_ | refine WC.condT rfl ?_ | refine WC.condF rfl ?_ | refine WL.off rfl rfl rfl ?_ | refine WL.off0 rfl rfl ?_ | refine WC.exit ?_ | refine blk_hit ?_ | refine blk_miss rfl ?_ | refine WC.ret ?_)
      refine WL.call rfl rfl rfl rfl rfl ent53 (ih (!c) w3 (hG.hp hp3)) ?_
      rintro v w4 ⟨rfl, hp4⟩
      repeat (first | refine WC.seq ?_ | refine WC.reg ?_ | refine WL.pure rfl rfl rfl ?_ | refine WL.nil ?_ | refine WC.skip ?_ | refine WC.block ?_ | refine WC.condT rfl ?_ | refine WC.condF rfl ?_ | refine WL.off rfl rfl rfl ?_ | refine WL.off0 rfl rfl ?_ | refine WC.exit ?_ | refine blk_hit ?_ | refine blk_miss rfl ?_ | refine WC.ret ?_)
      exact Res.one rfl rfl rfl ⟨rfl, (hp3.comb hp4).nil'⟩
    · have h1 : s ≠ wNot := of_decide_eq_false h1
      have e1 : pushM (.on_ s f) c = .on_ (nameM c s) (pushM f c) := by simp [pushM, h1]
      rw [e1]
      repeat (first | refine WC.seq ?_ | refine WC.reg ?_ | refine WL.pure rfl rfl rfl ?_ | refine WL.nil ?_ | refine WC.skip ?_ | refine WC.block ?_ | refine WC.condT rfl ?_ | refine WC.condF rfl ?_ | refine WL.off rfl rfl rfl ?_ | refine WL.off0 rfl rfl ?_ | refine WC.exit ?_ | refine blk_hit ?_ | refine blk_miss rfl ?_ | refine WC.ret ?_)
      refine WC.regQ (fun w' => Hp w w' [Q1b b2 s f, Bb b c]) mixed (by kernel_rfl) (fun w' hw' => hp3.keep hw') ?_
      repeat (first | refine WQ.pure rfl rfl rfl ?_ | refine WQ.off rfl rfl rfl ?_ | refine WQ.nil ?_)
      refine WQ.load rfl rfl rfl rfl rfl (fun w' h => cell_of_obj (h.obj 0 rfl) (j := 0) rfl) ?_
      refine WQ.call rfl rfl rfl rfl rfl ent83 (fun w' h => (push1_any b s c hG (h.pick [1] (by decide))).mono fun v w'' hh => ⟨hh.1, by rw [hh.2]; exact h⟩) ?_
      repeat (first | refine WQ.pure rfl rfl rfl ?_ | refine WQ.off rfl rfl rfl ?_ | refine WQ.nil ?_)
      refine WQ.load rfl rfl rfl rfl rfl (fun w' h => cell_of_obj (h.obj 0 rfl) (j := 1) rfl) ?_
      refine WQ.load rfl rfl rfl rfl rfl (fun w' h => cell_of_obj (h.obj 1 rfl) (j := 0) rfl) ?_
      refine WQ.call rfl rfl rfl rfl rfl ent53 (fun w' h => (ih c w' (hG.hp h)).mono fun v w'' hh => ⟨hh.1, h.comb hh.2⟩) ?_
      refine WQ.val rfl rfl (fun _ _ => yBuildT (cs := [st (nameM c s), fmV (pushM f c)]) rfl rfl rfl (by cases pushM f c <;> rfl)) ?_
      refine WQ.val rfl rfl (fun _ _ => yMkI rfl rfl rfl) ?_
      repeat (first | refine WQ.pure rfl rfl rfl ?_ | refine WQ.off rfl rfl rfl ?_ | refine WQ.nil ?_)
      intro w4 hp4
      repeat (first | refine WC.seq ?_ | refine WC.reg ?_ | refine WL.pure rfl rfl rfl ?_ | refine WL.nil ?_ | refine WC.skip ?_ | refine WC.block ?_ | refine WC.condT rfl ?_ | refine WC.condF rfl ?_ | refine WL.off rfl rfl rfl ?_ | refine WL.off0 rfl rfl ?_ | refine WC.exit ?_ | refine blk_hit ?_ | refine blk_miss rfl ?_ | refine WC.ret ?_)
      exact Res.one rfl rfl rfl ⟨rfl, hp4.nil'⟩
  | tw_ s f g ihf ihg =>
    intro c w hG
    refine enter Tryd.func53 rfl rfl ⟨rfl, rfl⟩ rfl ?_
    repeat (first | refine WC.seq ?_ | refine WC.reg ?_ | refine WL.pure rfl rfl rfl ?_ | refine WL.nil ?_ | refine WC.skip ?_ | refine WC.block ?_ | refine WC.condT rfl ?_ | refine WC.condF rfl ?_ | refine WL.off rfl rfl rfl ?_ | refine WL.off0 rfl rfl ?_ | refine WC.exit ?_ | refine blk_hit ?_ | refine blk_miss rfl ?_ | refine WC.ret ?_)
    refine WL.box rfl rfl rfl (fun b w1 h1 => ?_)
    have hp1 := (Hp.start w).new h1
    repeat (first | refine WC.seq ?_ | refine WC.reg ?_ | refine WL.pure rfl rfl rfl ?_ | refine WL.nil ?_ | refine WC.skip ?_ | refine WC.block ?_ | refine WC.condT rfl ?_ | refine WC.condF rfl ?_ | refine WL.off rfl rfl rfl ?_ | refine WL.off0 rfl rfl ?_ | refine WC.exit ?_ | refine blk_hit ?_ | refine blk_miss rfl ?_ | refine WC.ret ?_)
    refine WL.val rfl rfl rfl (yAsT rfl rfl rfl) ?_
    repeat (first | refine WC.seq ?_ | refine WC.reg ?_ | refine WL.pure rfl rfl rfl ?_ | refine WL.nil ?_ | refine WC.skip ?_ | refine WC.block ?_ | refine WC.condT rfl ?_ | refine WC.condF rfl ?_ | refine WL.off rfl rfl rfl ?_ | refine WL.off0 rfl rfl ?_ | refine WC.exit ?_ | refine blk_hit ?_ | refine blk_miss rfl ?_ | refine WC.ret ?_)
    refine WL.val rfl rfl rfl (yAsT rfl rfl rfl) ?_
    repeat (first | refine WC.seq ?_ | refine WC.reg ?_ | refine WL.pure rfl rfl rfl ?_ | refine WL.nil ?_ | refine WC.skip ?_ | refine WC.block ?_ | refine WC.condT rfl ?_ | refine WC.condF rfl ?_ | refine WL.off rfl rfl rfl ?_ | refine WL.off0 rfl rfl ?_ | refine WC.exit ?_ | refine blk_hit ?_ | refine blk_miss rfl ?_ | refine WC.ret ?_)
    refine WL.alloc rfl rfl rfl (fun b2 w2 h2 => ?_)
    have hp2 := hp1.new h2
    refine WL.storeN rfl rfl rfl rfl rfl (by simp [Value.oneCell', st]; exact ⟨fm_one f, fm_one g⟩) (hp2.obj 0 rfl) (Nat.le_refl _) rfl (fun w3 h3 => ?_)
    have hp3 : Hp w w3 [Q2b b2 s f g, Bb b c] := hp2.set 0 rfl rfl h3
    have e1 : pushM (.tw_ s f g) c = .tw_ (nameM c s) (pushM f c) (pushM g c) := by simp [pushM]
    rw [e1]
    repeat (first | refine WC.seq ?_ | refine WC.reg ?_ | refine WL.pure rfl rfl rfl ?_ | refine WL.nil ?_ | refine WC.skip ?_ | refine WC.block ?_ | refine WC.condT rfl ?_ | refine WC.condF rfl ?_ | refine WL.off rfl rfl rfl ?_ | refine WL.off0 rfl rfl ?_ | refine WC.exit ?_ | refine blk_hit ?_ | refine blk_miss rfl ?_ | refine WC.ret ?_)
    refine WC.regQ (fun w' => Hp w w' [Q2b b2 s f g, Bb b c]) mixed (by kernel_rfl) (fun w' hw' => hp3.keep hw') ?_
    repeat (first | refine WQ.pure rfl rfl rfl ?_ | refine WQ.off rfl rfl rfl ?_ | refine WQ.nil ?_)
    refine WQ.load rfl rfl rfl rfl rfl (fun w' h => cell_of_obj (h.obj 0 rfl) (j := 0) rfl) ?_
    refine WQ.call rfl rfl rfl rfl rfl ent83 (fun w' h => (push1_any b s c hG (h.pick [1] (by decide))).mono fun v w'' hh => ⟨hh.1, by rw [hh.2]; exact h⟩) ?_
    repeat (first | refine WQ.pure rfl rfl rfl ?_ | refine WQ.off rfl rfl rfl ?_ | refine WQ.nil ?_)
    refine WQ.load rfl rfl rfl rfl rfl (fun w' h => cell_of_obj (h.obj 0 rfl) (j := 1) rfl) ?_
    refine WQ.load rfl rfl rfl rfl rfl (fun w' h => cell_of_obj (h.obj 1 rfl) (j := 0) rfl) ?_
    refine WQ.call rfl rfl rfl rfl rfl ent53 (fun w' h => (ihf c w' (hG.hp h)).mono fun v w'' hh => ⟨hh.1, h.comb hh.2⟩) ?_
    repeat (first | refine WQ.pure rfl rfl rfl ?_ | refine WQ.off rfl rfl rfl ?_ | refine WQ.nil ?_)
    refine WQ.load rfl rfl rfl rfl rfl (fun w' h => cell_of_obj (h.obj 0 rfl) (j := 2) rfl) ?_
    refine WQ.load rfl rfl rfl rfl rfl (fun w' h => cell_of_obj (h.obj 1 rfl) (j := 0) rfl) ?_
    refine WQ.call rfl rfl rfl rfl rfl ent53 (fun w' h => (ihg c w' (hG.hp h)).mono fun v w'' hh => ⟨hh.1, h.comb hh.2⟩) ?_
    refine WQ.val rfl rfl (fun _ _ => yBuildT (cs := [st (nameM c s), fmV (pushM f c), fmV (pushM g c)]) rfl rfl rfl (by cases pushM f c <;> cases pushM g c <;> rfl)) ?_
    refine WQ.val rfl rfl (fun _ _ => yMkI rfl rfl rfl) ?_
    repeat (first | refine WQ.pure rfl rfl rfl ?_ | refine WQ.off rfl rfl rfl ?_ | refine WQ.nil ?_)
    intro w4 hp4
    repeat (first | refine WC.seq ?_ | refine WC.reg ?_ | refine WL.pure rfl rfl rfl ?_ | refine WL.nil ?_ | refine WC.skip ?_ | refine WC.block ?_ | refine WC.condT rfl ?_ | refine WC.condF rfl ?_ | refine WL.off rfl rfl rfl ?_ | refine WL.off0 rfl rfl ?_ | refine WC.exit ?_ | refine blk_hit ?_ | refine blk_miss rfl ?_ | refine WC.ret ?_)
    exact Res.one rfl rfl rfl ⟨rfl, hp4.nil'⟩
end Go.Proofs.YtpbbneclkhfgoaaDoor
