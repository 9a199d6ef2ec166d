/- ltl, first: panics and guard. -/
import Derived.Test.YtpbbneclkhfgoaaDoorMZ
import Derived.Test.YtpbbneclkhfgoaaDoorYa
import Derived.Test.YtpbbneclkhfgoaaDoorTab
import Derived.Tactics2
import Derived.Laws.Pointers
namespace Go.W
open Go.RowKit
theorem wrap_mid {z : Int} (h0 : -9223372036854775808 ≤ z) (h1 : z < 9223372036854775808) : IntKind.i64.wrap z = z := by rw [IntKind.wrap_i64]; omega
theorem wrap_succ {i n : Nat} (h : i < n) (hn : n ≤ 9223372036854775807) : IntKind.i64.wrap ((i : Int) + 1) = ((i + 1 : Nat) : Int) := by rw [wrap_mid (by omega) (by omega)]; omega
/-- What fail reports. -/
abbrev tr (k : Int) : List PanicEntry := [{ v := .iface 152 (.agg #[.int .i64 k]), recovered := false }]
/-- Where an error is kept. -/
abbrev erB (b : Nat) (k : Int) : Ent := .blk b (.cells #[.int .i64 k] 27 (0, 0))
end Go.W
namespace Go.Proofs.YtpbbneclkhfgoaaDoor
open Go.W Go.Ltl
set_option maxRecDepth 100000
attribute [local irreducible] WC WL WQ WS WH
theorem fail_z (k : Int) (w : World) {Z : Pan} (hz : Z (tr k) w) : RetZ Tryd.prog 75 [.int .i64 k] w (fun _ _ => False) Z := by
  refine enterZ Tryd.func75 rfl rfl ⟨rfl, rfl⟩ rfl ?_
  repeat (first | refine WC.seq ?_ | refine WC.reg ?_ | refine WL.pure rfl rfl rfl ?_ | refine WL.nil ?_ | refine WC.skip ?_ | refine WC.block ?_ | refine WC.condT rfl ?_ | refine WC.condF rfl ?_ | refine WL.off rfl rfl rfl ?_ | refine WL.off0 rfl rfl ?_ | refine WC.exit ?_ | refine blk_hit ?_ | refine blk_miss rfl ?_ | refine WC.ret ?_)
  refine WL.buildT rfl rfl rfl rfl rfl rfl ?_
  refine WL.val rfl rfl rfl (yMkI rfl rfl rfl) ?_
  exact WL.panicI rfl rfl rfl hz
theorem recov_p (b : Nat) (k k0 : Int) {w0 w : World} {L : List Ent} (hp : Hp w0 w (erB b k0 :: L)) :
    CallsD Tryd.prog 96 #[.pointer (some ⟨b, 0, none⟩)] (.panicking (tr k)) w fun e u w' => u = .panicking [{ v := .iface 152 (.agg #[.int .i64 k]), recovered := true }] ∧ ∃ r, e = .returned r ∧ Hp w0 w' (erB b k :: L) := by
  refine rec_enter (args := [.pointer (some ⟨b, 0, none⟩)]) Tryd.func96 rfl rfl ⟨rfl, rfl⟩ rfl (.inl ⟨[], rfl, rfl⟩) ?_
  repeat (first | refine WC.seq ?_ | refine WC.reg ?_ | refine WL.pure rfl rfl rfl ?_ | refine WL.nil ?_ | refine WC.skip ?_ | refine WC.block ?_ | refine WC.condT rfl ?_ | refine WC.condF rfl ?_ | refine WL.off rfl rfl rfl ?_ | refine WL.off0 rfl rfl ?_ | refine WC.exit ?_ | refine blk_hit ?_ | refine blk_miss rfl ?_ | refine WC.ret ?_)
  refine WL.val rfl rfl rfl (yEqI rfl rfl) ?_
  repeat (first | refine WC.seq ?_ | refine WC.reg ?_ | refine WL.pure rfl rfl rfl ?_ | refine WL.nil ?_ | refine WC.skip ?_ | refine WC.block ?_ | refine WC.condT rfl ?_ | refine WC.condF rfl ?_ | refine WL.off rfl rfl rfl ?_ | refine WL.off0 rfl rfl ?_ | refine WC.exit ?_ | refine blk_hit ?_ | refine blk_miss rfl ?_ | refine WC.ret ?_)
  refine WL.val rfl rfl rfl (yAsT rfl rfl rfl) ?_
  repeat (first | refine WC.seq ?_ | refine WC.reg ?_ | refine WL.pure rfl rfl rfl ?_ | refine WL.nil ?_ | refine WC.skip ?_ | refine WC.block ?_ | refine WC.condT rfl ?_ | refine WC.condF rfl ?_ | refine WL.off rfl rfl rfl ?_ | refine WL.off0 rfl rfl ?_ | refine WC.exit ?_ | refine blk_hit ?_ | refine blk_miss rfl ?_ | refine WC.ret ?_)
  refine WL.alloc rfl rfl rfl (fun b2 w2 h2 => ?_)
  have hp2 := hp.new h2
  refine WL.storeN rfl rfl rfl rfl rfl (by simp [Value.oneCell']) (hp2.obj 0 rfl) (Nat.le_refl _) rfl (fun w3 h3 => ?_)
  have hp3 := hp2.set 0 rfl rfl h3
  repeat (first | refine WC.seq ?_ | refine WC.reg ?_ | refine WL.pure rfl rfl rfl ?_ | refine WL.nil ?_ | refine WC.skip ?_ | refine WC.block ?_ | refine WC.condT rfl ?_ | refine WC.condF rfl ?_ | refine WL.off rfl rfl rfl ?_ | refine WL.off0 rfl rfl ?_ | refine WC.exit ?_ | refine blk_hit ?_ | refine blk_miss rfl ?_ | refine WC.ret ?_)
  refine WL.loadB rfl rfl rfl rfl rfl (hp3.obj 0 rfl) rfl ?_
  refine WL.store rfl rfl rfl rfl rfl rfl (hp3.obj 1 rfl) (Nat.lt_succ_self 0) (fun w4 h4 => ?_)
  have hp4 := hp3.set 1 rfl rfl h4
  repeat (first | refine WC.seq ?_ | refine WC.reg ?_ | refine WL.pure rfl rfl rfl ?_ | refine WL.nil ?_ | refine WC.skip ?_ | refine WC.block ?_ | refine WC.condT rfl ?_ | refine WC.condF rfl ?_ | refine WL.off rfl rfl rfl ?_ | refine WL.off0 rfl rfl ?_ | refine WC.exit ?_ | refine blk_hit ?_ | refine blk_miss rfl ?_ | refine WC.ret ?_)
  exact Res.zero rfl rfl hp4.tail
theorem recov_n (b : Nat) (k0 : Int) {w0 w : World} {L : List Ent} (hp : Hp w0 w (erB b k0 :: L)) :
    CallsD Tryd.prog 96 #[.pointer (some ⟨b, 0, none⟩)] .returning w fun e u w' => u = .returning ∧ ∃ r, e = .returned r ∧ Hp w0 w' (erB b k0 :: L) := by
  refine rec_enter (args := [.pointer (some ⟨b, 0, none⟩)]) Tryd.func96 rfl rfl ⟨rfl, rfl⟩ rfl (.inr ⟨rfl, rfl, rfl⟩) ?_
  repeat (first | refine WC.seq ?_ | refine WC.reg ?_ | refine WL.pure rfl rfl rfl ?_ | refine WL.nil ?_ | refine WC.skip ?_ | refine WC.block ?_ | refine WC.condT rfl ?_ | refine WC.condF rfl ?_ | refine WL.off rfl rfl rfl ?_ | refine WL.off0 rfl rfl ?_ | refine WC.exit ?_ | refine blk_hit ?_ | refine blk_miss rfl ?_ | refine WC.ret ?_)
  refine WL.val rfl rfl rfl (yEqN rfl rfl) ?_
  repeat (first | refine WC.seq ?_ | refine WC.reg ?_ | refine WL.pure rfl rfl rfl ?_ | refine WL.nil ?_ | refine WC.skip ?_ | refine WC.block ?_ | refine WC.condT rfl ?_ | refine WC.condF rfl ?_ | refine WL.off rfl rfl rfl ?_ | refine WL.off0 rfl rfl ?_ | refine WC.exit ?_ | refine blk_hit ?_ | refine blk_miss rfl ?_ | refine WC.ret ?_)
  exact Res.zero rfl rfl hp
theorem guard_any {σ τ : Type} {fi ca : List Value} {f : FuncId} (hE : Ents Tryd.prog f) {w0 w : World} {L : List Ent} {A : σ → List Ent} {φ : σ → Prop} {B : τ → List Ent} {k : τ → Int} {ψ : τ → Prop} (hp : Hp w0 w L)
    (h : ∀ b w1, Hp w0 w1 (erB b 0 :: L) → RetZ Tryd.prog f (fi ++ ca) w1 (fun _ w' => ∃ s, Hp w0 w' (erB b 0 :: A s) ∧ φ s) (fun ch w' => ∃ s, ch = tr (k s) ∧ Hp w0 w' (erB b 0 :: B s) ∧ ψ s)) :
    Ret Tryd.prog 71 [.func (.func f) fi.toArray ca.toArray] w (fun v w' => (∃ s, v = .int .i64 0 ∧ Hp w0 w' (A s) ∧ φ s) ∨ ∃ s, v = .int .i64 (k s) ∧ Hp w0 w' (B s) ∧ ψ s) := by
  go_enter_defers Tryd.func71, Tryd.ntmps71
  go_wp2
  have hb := hp.new (newB w (.cells #[.int .i64 0] 27 (0, 0)))
  have e1 : (callFunc f (fi ++ ca).toArray).run Tryd.prog (w.alloc (Obj.cells #[Value.int IntKind.i64 0] 27)) = .ok (.enter f (fi ++ ca).toArray) (w.alloc (Obj.cells #[Value.int IntKind.i64 0] 27)) := hE _ _
  rw [e1]
  show Calls _ _ _ _ _
  refine Calls.mono (h _ _ hb) ?_
  rintro en w' (⟨v, rfl, s, hp', hs⟩ | ⟨ch, rfl, s, rfl, hp', hs⟩)
  · rename_i K1 a1 K2 a2
    refine a2 _ _ ?_
    refine wpList_nil ?_
    refine a1 _ _ ?_
    have hcell : w'.cell? ⟨w.heap.size, 0, none⟩ = some (.int .i64 0) := cell_of_obj (hp'.obj 0 rfl) rfl
    have hfr : w'.frozen? ⟨w.heap.size, 0, none⟩ = false := frozen_of_row w' _ 0 _ _ (hp'.obj 0 rfl)
    have hset := setB_cell (j := 0) (hp'.obj 0 rfl) (.int .i64 0)
    have hp2 := hp'.set 0 rfl rfl hset
    go_wp2
    refine leaves_cons (f := 96) (args := #[.pointer (some ⟨w.heap.size, 0, none⟩)]) (by simp) (by rw [show invoke _ _ = callFunc _ _ from rfl]; exact @ent96 _ _) ?_
    refine (recov_n _ _ hp2).mono ?_
    rintro e u' w'' ⟨rfl, r, rfl, hp3⟩
    have hc3 : w''.cell? ⟨w.heap.size, 0, none⟩ = some (.int .i64 0) := cell_of_obj (hp3.obj 0 rfl) rfl
    show Leaves _ _ _ _ [] .returning _
    refine ⟨.int .i64 0, ?_, .int .i64 0, rfl, .inl ⟨s, rfl, hp3.tail, hs⟩⟩
    simp [results, Tryd.results71, go_sem, hc3]
  · refine leaves_cons (f := 96) (args := #[.pointer (some ⟨w.heap.size, 0, none⟩)]) (by simp) (by rw [show invoke _ _ = callFunc _ _ from rfl]; exact @ent96 _ _) ?_
    refine (recov_p _ _ _ hp').mono ?_
    rintro e u' w'' ⟨rfl, r, rfl, hp3⟩
    have hc3 : w''.cell? ⟨w.heap.size, 0, none⟩ = some (.int .i64 (k s)) := cell_of_obj (hp3.obj 0 rfl) rfl
    show Leaves _ _ _ _ [] .returning _
    refine ⟨.int .i64 (k s), ?_, .int .i64 (k s), rfl, .inr ⟨s, rfl, hp3.tail, hs⟩⟩
    simp [results, Tryd.results71, go_sem, hc3]
end Go.Proofs.YtpbbneclkhfgoaaDoor
