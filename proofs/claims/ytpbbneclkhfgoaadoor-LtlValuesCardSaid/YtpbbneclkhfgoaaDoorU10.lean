/- ltl, tenth: the small functions of values. -/
import Derived.Test.YtpbbneclkhfgoaaDoorU9
set_option linter.unusedSectionVars false
namespace Go.W
section
variable {P : Program} [T : TT P] {n : Nat} {l0 : List Oper} {S : World → Prop} {N : Nor} {Z : Pan} {e : Env} {w : World} {fuel : Nat} {listed : Array Bool}
theorem WH.many (is : List Nat) (hr : Region.ready .any l0.toArray listed = is) (hne : is ≠ [])
    (h : ∀ i ∈ is, ∃ o, nth l0 i = some o ∧ WL P none n l0 (fun e' w' => S w' ∧ WH P n l0 S N Z fuel (listed.setIfInBounds i true) e' w') Z [o] e w) : WH P n l0 S N Z (fuel + 1) listed e w := by
  intro a ka
  refine ⟨fun h0 => absurd (hr.symm.trans h0) hne, fun j hj => ?_⟩
  rw [hr] at hj
  obtain ⟨o, ho, hw⟩ := h j hj
  exact WH.at_ j ho hw a ka
theorem WH.ixS {d : Nat} {t ty E : TypeId} {pos : String} {aft : Array Edge} {g : Option (Nat × Bool)} {ti : TI} {x ix : Operand} {b o len cap j : Nat} {k : IntKind} {z : Value} {s b2 : Nat} (i : Nat) (hs : Region.noSelect l0.toArray = true) (hi : nth l0 i = some ⟨some d, .indexAddr t x ix, ty, pos, aft, g⟩)
    (hB : takeB l0.toArray listed i = true) (hg : grd l0 e g = some true) (hd : Nat.blt d n = true) (ht : T.ti t = some ⟨.slice E, z, s, b2⟩) (hE : T.ti E = some ti)
    (hx : opv e x = some (.slice (some ⟨b, o, none⟩) len cap)) (hix : opv e ix = some (.int k (j : Nat))) (hj : j < len) (hS : S w)
    (h : WH P n l0 S N Z fuel (listed.setIfInBounds i true) ((d, .pointer (some ⟨b, o + j * ti.size, none⟩)) :: e) w) : WH P n l0 S N Z (fuel + 1) listed e w := by
  refine WH.take i hs hi hB hg hd (fun w _ => ?_) hS h
  have hu : P.underlying t = some (.slice E) := (T.ok t _ ht).k
  intro ρ hρ d' pos' aft' g'
  have hsz := (T.ok E ti hE).sizeOf w
  have c1 : (0 : Int) ≤ (j : Int) ∧ (j : Int) < (len : Int) := ⟨by omega, by omega⟩
  simp only [execOp, hρ _ _ hx, hρ _ _ hix, Instr.indexAt, asIntOf, Sem.run_bind, Sem.run_pure, Result.andThen_ok, run_underlying hu]
  rw [if_pos c1]
  simp [hsz, Addr.add_lit]
theorem WH.ix1 {d : Nat} {t ty E : TypeId} {pos : String} {aft : Array Edge} {g : Option (Nat × Bool)} {ti : TI} {x ix : Operand} {b o len cap j : Nat} {k : IntKind} {z : Value} {s b2 : Nat} (i : Nat) (hs : Region.noSelect l0.toArray = true) (hi : nth l0 i = some ⟨some d, .indexAddr t x ix, ty, pos, aft, g⟩)
    (hB : takeB l0.toArray listed i = true) (hg : grd l0 e g = some true) (hd : Nat.blt d n = true) (ht : T.ti t = some ⟨.slice E, z, s, b2⟩) (hE : T.ti E = some ti) (h1 : ti.size = 1)
    (hx : opv e x = some (.slice (some ⟨b, o, none⟩) len cap)) (hix : opv e ix = some (.int k (j : Nat))) (hj : j < len) (hS : S w)
    (h : WH P n l0 S N Z fuel (listed.setIfInBounds i true) ((d, .pointer (some ⟨b, o + j, none⟩)) :: e) w) : WH P n l0 S N Z (fuel + 1) listed e w :=
  WH.ixS i hs hi hB hg hd ht hE hx hix hj hS (by rw [h1, Nat.mul_one]; exact h)
theorem WH.sub {e' : Env} (hs : Sub e' e) (h : WH P n l0 S N Z fuel listed e' w) : WH P n l0 S N Z fuel listed e w := fun a ha => h a (ha.sub hs)
end
end Go.W
namespace Go.Proofs.YtpbbneclkhfgoaaDoor
open Go.W Go.Ltl Go.RowKit
set_option maxRecDepth 100000
attribute [local irreducible] WC WL WQ WS WH

/-- Where a list of bools is kept. -/
abbrev Va (b : Nat) (v : Value) : Ent := .blk b (.cells #[v] 90 (0, 0))
/-- A list of bools that is read. -/
structure Bo (w : World) (va ab n : Nat) (a : List Bool) : Prop where
  var : w.cell? ⟨va, 0, none⟩ = some (.slice (some ⟨ab, 0, none⟩) n n)
  at_ : ∀ i, i < n → w.cell? ⟨ab, 0 + i, none⟩ = some (.bool (a.getD i false))
theorem Bo.below {w w' : World} {va ab n : Nat} {a : List Bool} (h : Bo w va ab n a) (hb : Below w.heap.size w w') : Bo w' va ab n a :=
  ⟨cell_below hb h.var, fun i hi => cell_below hb (h.at_ i hi)⟩
theorem c1_any {w : World} {va ab n : Nat} {a : List Bool} (h : Bo w va ab n a) (i : Nat) (hi : i < n) (x : Bool) :
    Ret Tryd.prog 79 [.int .i64 (i : Nat), .bool x, ptr va] w fun v w' => v = .bool (a.getD i false && x) ∧ w' = w := by
  refine enter Tryd.func79 rfl rfl ⟨rfl, rfl⟩ rfl ?_
  repeat (first | refine WC.seq ?_ | refine WC.reg ?_ | refine WL.pure rfl rfl rfl ?_ | refine WL.nil ?_ | refine WC.skip ?_ | refine WC.block ?_ | refine WC.condT rfl ?_ | refine WC.condF rfl ?_ | refine WL.off rfl rfl rfl ?_ | refine WL.off0 rfl rfl ?_ | refine WC.exit ?_ | refine blk_hit ?_ | refine blk_miss rfl ?_ | refine WC.ret ?_)
  refine WL.load rfl rfl rfl rfl rfl h.var ?_
  repeat (first | refine WC.seq ?_ | refine WC.reg ?_ | refine WL.pure rfl rfl rfl ?_ | refine WL.nil ?_ | refine WC.skip ?_ | refine WC.block ?_ | refine WC.condT rfl ?_ | refine WC.condF rfl ?_ | refine WL.off rfl rfl rfl ?_ | refine WL.off0 rfl rfl ?_ | refine WC.exit ?_ | refine blk_hit ?_ | refine blk_miss rfl ?_ | refine WC.ret ?_)
  refine WL.ix1 rfl rfl rfl rfl rfl rfl rfl hi ?_
  refine WL.load rfl rfl rfl rfl rfl (h.at_ i hi) ?_
  cases hb : a.getD i false with
  | true => repeat (first | refine WC.seq ?_ | refine WC.reg ?_ | refine WL.pure rfl rfl rfl ?_ | refine WL.nil ?_ | refine WC.skip ?_ | refine WC.block ?_ | refine WC.condT rfl ?_ | refine WC.condF rfl ?_ | refine WL.off rfl rfl rfl ?_ | refine WL.off0 rfl rfl ?_ | refine WC.exit ?_ | refine blk_hit ?_ | refine blk_miss rfl ?_ | refine WC.ret ?_)
            exact Res.one rfl rfl rfl ⟨rfl, rfl⟩
  | false => repeat (first | refine WC.seq ?_ | refine WC.reg ?_ | refine WL.pure rfl rfl rfl ?_ | refine WL.nil ?_ | refine WC.skip ?_ | refine WC.block ?_ | refine WC.condT rfl ?_ | refine WC.condF rfl ?_ | refine WL.off rfl rfl rfl ?_ | refine WL.off0 rfl rfl ?_ | refine WC.exit ?_ | refine blk_hit ?_ | refine blk_miss rfl ?_ | refine WC.ret ?_)
             exact Res.one rfl rfl rfl ⟨rfl, rfl⟩
theorem c2_any {w : World} {va ab n : Nat} {a : List Bool} (h : Bo w va ab n a) (i : Nat) (hi : i < n) (x : Bool) :
    Ret Tryd.prog 80 [.int .i64 (i : Nat), .bool x, ptr va] w fun v w' => v = .bool (a.getD i false || x) ∧ w' = w := by
  refine enter Tryd.func80 rfl rfl ⟨rfl, rfl⟩ rfl ?_
  repeat (first | refine WC.seq ?_ | refine WC.reg ?_ | refine WL.pure rfl rfl rfl ?_ | refine WL.nil ?_ | refine WC.skip ?_ | refine WC.block ?_ | refine WC.condT rfl ?_ | refine WC.condF rfl ?_ | refine WL.off rfl rfl rfl ?_ | refine WL.off0 rfl rfl ?_ | refine WC.exit ?_ | refine blk_hit ?_ | refine blk_miss rfl ?_ | refine WC.ret ?_)
  refine WL.load rfl rfl rfl rfl rfl h.var ?_
  repeat (first | refine WC.seq ?_ | refine WC.reg ?_ | refine WL.pure rfl rfl rfl ?_ | refine WL.nil ?_ | refine WC.skip ?_ | refine WC.block ?_ | refine WC.condT rfl ?_ | refine WC.condF rfl ?_ | refine WL.off rfl rfl rfl ?_ | refine WL.off0 rfl rfl ?_ | refine WC.exit ?_ | refine blk_hit ?_ | refine blk_miss rfl ?_ | refine WC.ret ?_)
  refine WL.ix1 rfl rfl rfl rfl rfl rfl rfl hi ?_
  refine WL.load rfl rfl rfl rfl rfl (h.at_ i hi) ?_
  cases hb : a.getD i false with
  | true => repeat (first | refine WC.seq ?_ | refine WC.reg ?_ | refine WL.pure rfl rfl rfl ?_ | refine WL.nil ?_ | refine WC.skip ?_ | refine WC.block ?_ | refine WC.condT rfl ?_ | refine WC.condF rfl ?_ | refine WL.off rfl rfl rfl ?_ | refine WL.off0 rfl rfl ?_ | refine WC.exit ?_ | refine blk_hit ?_ | refine blk_miss rfl ?_ | refine WC.ret ?_)
            exact Res.one rfl rfl rfl ⟨rfl, rfl⟩
  | false => repeat (first | refine WC.seq ?_ | refine WC.reg ?_ | refine WL.pure rfl rfl rfl ?_ | refine WL.nil ?_ | refine WC.skip ?_ | refine WC.block ?_ | refine WC.condT rfl ?_ | refine WC.condF rfl ?_ | refine WL.off rfl rfl rfl ?_ | refine WL.off0 rfl rfl ?_ | refine WC.exit ?_ | refine blk_hit ?_ | refine blk_miss rfl ?_ | refine WC.ret ?_)
             exact Res.one rfl rfl rfl ⟨rfl, rfl⟩
theorem c3_any {w : World} {va ab vb bb n : Nat} {a b : List Bool} (h : Bo w va ab n a) (hB : Bo w vb bb n b) (i : Nat) (hi : i < n) (x : Bool) :
    Ret Tryd.prog 81 [.int .i64 (i : Nat), .bool x, ptr vb, ptr va] w fun v w' => v = .bool (b.getD i false || (a.getD i false && x)) ∧ w' = w := by
  refine enter Tryd.func81 rfl rfl ⟨rfl, rfl⟩ rfl ?_
  repeat (first | refine WC.seq ?_ | refine WC.reg ?_ | refine WL.pure rfl rfl rfl ?_ | refine WL.nil ?_ | refine WC.skip ?_ | refine WC.block ?_ | refine WC.condT rfl ?_ | refine WC.condF rfl ?_ | refine WL.off rfl rfl rfl ?_ | refine WL.off0 rfl rfl ?_ | refine WC.exit ?_ | refine blk_hit ?_ | refine blk_miss rfl ?_ | refine WC.ret ?_)
  refine WL.load rfl rfl rfl rfl rfl hB.var ?_
  repeat (first | refine WC.seq ?_ | refine WC.reg ?_ | refine WL.pure rfl rfl rfl ?_ | refine WL.nil ?_ | refine WC.skip ?_ | refine WC.block ?_ | refine WC.condT rfl ?_ | refine WC.condF rfl ?_ | refine WL.off rfl rfl rfl ?_ | refine WL.off0 rfl rfl ?_ | refine WC.exit ?_ | refine blk_hit ?_ | refine blk_miss rfl ?_ | refine WC.ret ?_)
  refine WL.ix1 rfl rfl rfl rfl rfl rfl rfl hi ?_
  refine WL.load rfl rfl rfl rfl rfl (hB.at_ i hi) ?_
  cases hb : b.getD i false with
  | true => repeat (first | refine WC.seq ?_ | refine WC.reg ?_ | refine WL.pure rfl rfl rfl ?_ | refine WL.nil ?_ | refine WC.skip ?_ | refine WC.block ?_ | refine WC.condT rfl ?_ | refine WC.condF rfl ?_ | refine WL.off rfl rfl rfl ?_ | refine WL.off0 rfl rfl ?_ | refine WC.exit ?_ | refine blk_hit ?_ | refine blk_miss rfl ?_ | refine WC.ret ?_)
            exact Res.one rfl rfl rfl ⟨rfl, rfl⟩
  | false =>
    repeat (first | refine WC.seq ?_ | refine WC.reg ?_ | refine WL.pure rfl rfl rfl ?_ | refine WL.nil ?_ | refine WC.skip ?_ | refine WC.block ?_ | refine WC.condT rfl ?_ | refine WC.condF rfl ?_ | refine WL.off rfl rfl rfl ?_ | refine WL.off0 rfl rfl ?_ | refine WC.exit ?_ | refine blk_hit ?_ | refine blk_miss rfl ?_ | refine WC.ret ?_)
    refine WL.load rfl rfl rfl rfl rfl h.var ?_
    repeat (first | refine WC.seq ?_ | refine WC.reg ?_ | refine WL.pure rfl rfl rfl ?_ | refine WL.nil ?_ | refine WC.skip ?_ | refine WC.block ?_ | refine WC.condT rfl ?_ | refine WC.condF rfl ?_ | refine WL.off rfl rfl rfl ?_ | refine WL.off0 rfl rfl ?_ | refine WC.exit ?_ | refine blk_hit ?_ | refine blk_miss rfl ?_ | refine WC.ret ?_)
    refine WL.ix1 rfl rfl rfl rfl rfl rfl rfl hi ?_
    refine WL.load rfl rfl rfl rfl rfl (h.at_ i hi) ?_
    cases ha : a.getD i false with
    | true => repeat (first | refine WC.seq ?_ | refine WC.reg ?_ | refine WL.pure rfl rfl rfl ?_ | refine WL.nil ?_ | refine WC.skip ?_ | refine WC.block ?_ | refine WC.condT rfl ?_ | refine WC.condF rfl ?_ | refine WL.off rfl rfl rfl ?_ | refine WL.off0 rfl rfl ?_ | refine WC.exit ?_ | refine blk_hit ?_ | refine blk_miss rfl ?_ | refine WC.ret ?_)
              exact Res.one rfl rfl rfl ⟨rfl, rfl⟩
    | false => repeat (first | refine WC.seq ?_ | refine WC.reg ?_ | refine WL.pure rfl rfl rfl ?_ | refine WL.nil ?_ | refine WC.skip ?_ | refine WC.block ?_ | refine WC.condT rfl ?_ | refine WC.condF rfl ?_ | refine WL.off rfl rfl rfl ?_ | refine WL.off0 rfl rfl ?_ | refine WC.exit ?_ | refine blk_hit ?_ | refine blk_miss rfl ?_ | refine WC.ret ?_)
               exact Res.one rfl rfl rfl ⟨rfl, rfl⟩
theorem c4_any {w : World} {va ab vb bb n : Nat} {a b : List Bool} (h : Bo w va ab n a) (hB : Bo w vb bb n b) (i : Nat) (hi : i < n) (x : Bool) :
    Ret Tryd.prog 82 [.int .i64 (i : Nat), .bool x, ptr vb, ptr va] w fun v w' => v = .bool (b.getD i false && (a.getD i false || x)) ∧ w' = w := by
  refine enter Tryd.func82 rfl rfl ⟨rfl, rfl⟩ rfl ?_
  repeat (first | refine WC.seq ?_ | refine WC.reg ?_ | refine WL.pure rfl rfl rfl ?_ | refine WL.nil ?_ | refine WC.skip ?_ | refine WC.block ?_ | refine WC.condT rfl ?_ | refine WC.condF rfl ?_ | refine WL.off rfl rfl rfl ?_ | refine WL.off0 rfl rfl ?_ | refine WC.exit ?_ | refine blk_hit ?_ | refine blk_miss rfl ?_ | refine WC.ret ?_)
  refine WL.load rfl rfl rfl rfl rfl hB.var ?_
  repeat (first | refine WC.seq ?_ | refine WC.reg ?_ | refine WL.pure rfl rfl rfl ?_ | refine WL.nil ?_ | refine WC.skip ?_ | refine WC.block ?_ | refine WC.condT rfl ?_ | refine WC.condF rfl ?_ | refine WL.off rfl rfl rfl ?_ | refine WL.off0 rfl rfl ?_ | refine WC.exit ?_ | refine blk_hit ?_ | refine blk_miss rfl ?_ | refine WC.ret ?_)
  refine WL.ix1 rfl rfl rfl rfl rfl rfl rfl hi ?_
  refine WL.load rfl rfl rfl rfl rfl (hB.at_ i hi) ?_
  cases hb : b.getD i false with
  | false => repeat (first | refine WC.seq ?_ | refine WC.reg ?_ | refine WL.pure rfl rfl rfl ?_ | refine WL.nil ?_ | refine WC.skip ?_ | refine WC.block ?_ | refine WC.condT rfl ?_ | refine WC.condF rfl ?_ | refine WL.off rfl rfl rfl ?_ | refine WL.off0 rfl rfl ?_ | refine WC.exit ?_ | refine blk_hit ?_ | refine blk_miss rfl ?_ | refine WC.ret ?_)
             exact Res.one rfl rfl rfl ⟨rfl, rfl⟩
  | true =>
    repeat (first | refine WC.seq ?_ | refine WC.reg ?_ | refine WL.pure rfl rfl rfl ?_ | refine WL.nil ?_ | refine WC.skip ?_ | refine WC.block ?_ | refine WC.condT rfl ?_ | refine WC.condF rfl ?_ | refine WL.off rfl rfl rfl ?_ | refine WL.off0 rfl rfl ?_ | refine WC.exit ?_ | refine blk_hit ?_ | refine blk_miss rfl ?_ | refine WC.ret ?_)
    refine WL.load rfl rfl rfl rfl rfl h.var ?_
    repeat (first | refine WC.seq ?_ | refine WC.reg ?_ | refine WL.pure rfl rfl rfl ?_ | refine WL.nil ?_ | refine WC.skip ?_ | refine WC.block ?_ | refine WC.condT rfl ?_ | refine WC.condF rfl ?_ | refine WL.off rfl rfl rfl ?_ | refine WL.off0 rfl rfl ?_ | refine WC.exit ?_ | refine blk_hit ?_ | refine blk_miss rfl ?_ | refine WC.ret ?_)
    refine WL.ix1 rfl rfl rfl rfl rfl rfl rfl hi ?_
    refine WL.load rfl rfl rfl rfl rfl (h.at_ i hi) ?_
    cases ha : a.getD i false with
    | true => repeat (first | refine WC.seq ?_ | refine WC.reg ?_ | refine WL.pure rfl rfl rfl ?_ | refine WL.nil ?_ | refine WC.skip ?_ | refine WC.block ?_ | refine WC.condT rfl ?_ | refine WC.condF rfl ?_ | refine WL.off rfl rfl rfl ?_ | refine WL.off0 rfl rfl ?_ | refine WC.exit ?_ | refine blk_hit ?_ | refine blk_miss rfl ?_ | refine WC.ret ?_)
              exact Res.one rfl rfl rfl ⟨rfl, rfl⟩
    | false => repeat (first | refine WC.seq ?_ | refine WC.reg ?_ | refine WL.pure rfl rfl rfl ?_ | refine WL.nil ?_ | refine WC.skip ?_ | refine WC.block ?_ | refine WC.condT rfl ?_ | refine WC.condF rfl ?_ | refine WL.off rfl rfl rfl ?_ | refine WL.off0 rfl rfl ?_ | refine WC.exit ?_ | refine blk_hit ?_ | refine blk_miss rfl ?_ | refine WC.ret ?_)
               exact Res.one rfl rfl rfl ⟨rfl, rfl⟩
end Go.Proofs.YtpbbneclkhfgoaaDoor
