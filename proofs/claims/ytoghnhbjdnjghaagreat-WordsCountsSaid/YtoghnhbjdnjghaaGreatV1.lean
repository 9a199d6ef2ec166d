/- The walks of comparisons, letters, sides, equations. -/
import Derived.Test.YtoghnhbjdnjghaaGreatTab
import Derived.Test.YtoghnhbjdnjghaaGreatWa
import Derived.Laws.Externs
set_option linter.unusedSectionVars false
namespace Go.W
open Go.RowKit
theorem wrap_i64_in {n : Int} (h0 : 0 ≤ n) (h : n < 9223372036854775808) : IntKind.i64.wrap n = n := by rw [IntKind.wrap_i64]; omega
theorem wrap_mid {z : Int} (h0 : -9223372036854775808 ≤ z) (h1 : z < 9223372036854775808) : IntKind.i64.wrap z = z := by rw [IntKind.wrap_i64]; omega
theorem wrap_succ {i n : Nat} (h : i < n) (hn : n ≤ 9223372036854775807) : IntKind.i64.wrap ((i : Int) + 1) = ((i + 1 : Nat) : Int) := by rw [wrap_i64_in (by omega) (by omega)]; omega
/-- Rows of pairs of strings. -/
abbrev Rp := Str × Str
def rc (r : Rp) : List Value := [st r.1, st r.2]
def rcs (l : List Rp) : List Value := l.flatMap rc
theorem rcs_nil : rcs [] = [] := rfl
theorem rcs_cons (r : Rp) (l : List Rp) : rcs (r :: l) = st r.1 :: st r.2 :: rcs l := rfl
theorem rcs_app (a b : List Rp) : rcs (a ++ b) = rcs a ++ rcs b := by unfold rcs; rw [List.flatMap_append]
theorem rcs_len (l : List Rp) : (rcs l).length = l.length * 2 := by
  induction l with
  | nil => rfl
  | cons e l ih => rw [rcs_cons, List.length_cons, List.length_cons, ih, List.length_cons]; omega
theorem rcs_at : ∀ (l : List Rp) (j : Nat) (h : j < l.length) (q : Nat) (u : Value), (rc l[j])[q]? = some u → (rcs l)[j * 2 + q]? = some u := by
  intro l
  induction l with
  | nil => intro j h; simp at h
  | cons e l ih =>
    intro j h q u hq
    rw [rcs_cons]
    cases j with
    | zero =>
      have hq2 : q < 2 := (List.getElem?_eq_some_iff.1 hq).1
      rw [Nat.zero_mul, Nat.zero_add]
      have hq' : (rc e)[q]? = some u := hq
      rcases (show q = 0 ∨ q = 1 by omega) with rfl | rfl
      · exact hq'
      · exact hq'
    | succ j =>
      have e1 : (j + 1) * 2 + q = (j * 2 + q) + 1 + 1 := by omega
      rw [e1, List.getElem?_cons_succ, List.getElem?_cons_succ]
      exact ih j (by simpa using h) q u (by simpa using hq)
theorem rcs_cells (l : List Rp) : Cells (rcs l) := by
  induction l with
  | nil => exact Cells.nil
  | cons e l ih => exact Cells.cons rfl (Cells.cons rfl ih)
theorem rcs_take (l : List Rp) (m : Nat) : (rcs l).take (m * 2) = rcs (l.take m) := by
  induction l generalizing m with
  | nil => simp [rcs]
  | cons e l ih => cases m with
    | zero => rfl
    | succ m => rw [rcs_cons, List.take_succ_cons, rcs_cons, ← ih m, show (m + 1) * 2 = m * 2 + 1 + 1 by omega, List.take_succ_cons, List.take_succ_cons]
theorem rcs_drop (l : List Rp) (m : Nat) : (rcs l).drop (m * 2) = rcs (l.drop m) := by
  induction l generalizing m with
  | nil => simp [rcs]
  | cons e l ih => cases m with
    | zero => rfl
    | succ m => rw [rcs_cons, List.drop_succ_cons, ← ih m, show (m + 1) * 2 = m * 2 + 1 + 1 by omega, List.drop_succ_cons, List.drop_succ_cons]
section
variable {P : Program} [T : TT P] {ro : Option Nat} {n : Nat} {l0 rest : List Oper} {N : Nor} {Z : Pan} {e : Env} {w w' : World} {ty : TypeId} {pos : String} {aft : Array Edge} {g : Option (Nat × Bool)}
/-- A call of a function without a body. -/
theorem WL.callX {d : Nat} {fo : Operand} {f : FuncId} {fi ca : Array Value} {args : Array Operand} {tys : Array TypeId} {vs all : List Value} {v : Value}
    (hg : grd l0 e g = some true) (hf : opv e fo = some (.func (.func f) fi ca)) (ha : opvs e args.toList = some vs) (hall : fi.toList ++ vs ++ ca.toList = all) (hd : Nat.blt d n = true)
    (hc : (callFunc f all.toArray).run P w = .ok (.value v) w') (h : WL P ro n l0 N Z rest ((d, v) :: e) w') :
    WL P ro n l0 N Z (⟨some d, .call ⟨.value fo, args, tys⟩, ty, pos, aft, g⟩ :: rest) e w := by
  refine WL.val hg rfl hd ?_ h
  intro ρ hρ d' pos aft g
  have e1 : args.map ρ = vs.toArray := opvs_arr hρ ha
  have e2 : fi ++ vs.toArray ++ ca = all.toArray := by rw [← hall, ← Array.toList_inj]; simp
  simp only [execOp, resolve, hρ _ _ hf, Deferred.ofValue, Sem.run_bind, Sem.run_pure, Result.andThen_ok, invoke, e1, e2]
  exact hc
/-- A pair of strings read out of a row. -/
theorem WL.ixload2 {d1 d2 : Nat} {t t2 E : TypeId} {i : TI} {x ix : Operand} {a : Option Addr} {len cap j : Nat} {k : IntKind} {l : List Rp} {z : Value} {s b2 : Nat} {ty2 : TypeId} {pos2 : String} {aft2 : Array Edge} {g2 : Option (Nat × Bool)}
    (hg : grd l0 e g = some true) (hg2 : ∀ p, grd l0 ((d1, p) :: e) g2 = some true)
    (ht : T.ti t = some ⟨.slice E, z, s, b2⟩) (hi : T.ti E = some i) (htwo : i.size = 2) (ht2 : T.ti t2 = some i) (h1 : isOne i.k = false)
    (hx : opv e x = some (.slice a len cap)) (hix : opv e ix = some (.int k (j : Nat))) (hj : j < len) (hd1 : Nat.blt d1 n = true) (hd2 : Nat.blt d2 n = true)
    (hs : Sl w a (rcs l)) (hjl : j < l.length)
    (h : ∀ p, WL P ro n l0 N Z rest ((d2, .agg #[st l[j].1, st l[j].2]) :: (d1, p) :: e) w) :
    WL P ro n l0 N Z (⟨some d1, .indexAddr t x ix, ty, pos, aft, g⟩ :: ⟨some d2, .load t2 (.tmp d1), ty2, pos2, aft2, g2⟩ :: rest) e w := by
  have h0 := rcs_at l j hjl 0 (st l[j].1) rfl
  obtain ⟨b, o, rfl, -⟩ := hs _ _ h0
  refine WL.le fun hle => WL.ix hg ht hi hx hix hj hd1 ?_
  refine WL.loadN (cs := [st l[j].1, st l[j].2]) (hg2 _) ht2 h1 (opv_head hd1 hle) hd2 (by rw [htwo]; rfl) ?_ (h _)
  intro q v hq
  obtain ⟨b', o', e', hc⟩ := hs _ _ (rcs_at l j hjl q v hq)
  simp only [Option.some.injEq, Addr.mk.injEq] at e'
  obtain ⟨rfl, rfl, -⟩ := e'
  rw [htwo, Nat.add_assoc]
  exact hc
end
end Go.W
namespace Go.Proofs.YtoghnhbjdnjghaaGreat
open Go.W Go.Words
set_option maxRecDepth 100000
attribute [local irreducible] WC WL WQ WS WH

theorem cmpstring_run (a b : Str) (w : World) : (callFunc 118 ([st a, st b] : List Value).toArray).run Tryz.prog w = .ok (.value (.int .i64 (cmpB a b))) w := by
  have h := Lib.run_compareString (P := Tryz.prog) (sb a) (sb b) w
  rw [run_callFunc_extern Tryz.func118 (by kernel_rfl) (by kernel_rfl) (by kernel_rfl) (e := Extern.BytealgCompare.compare) (by kernel_rfl)]
  show ((Extern.BytealgCompare.compare #[.string (sb a), .string (sb b)]).run Tryz.prog w).andThen _ = _
  rw [h]
  rfl
theorem CompareString_any (a b : Str) : Pur Tryz.prog 100 [st a, st b] (.int .i64 (cmpB a b)) := by
  intro w
  refine enter Tryz.func100 rfl rfl ⟨rfl, rfl⟩ rfl ?_
  repeat (first | refine WC.seq ?_ | refine WC.reg ?_ | refine WL.pure rfl rfl rfl ?_ | refine WL.nil ?_ | refine WC.skip ?_ | refine WC.block ?_ | refine WC.condT rfl ?_ | refine WC.condF rfl ?_ | refine WL.off rfl rfl rfl ?_ | refine WL.off0 rfl rfl ?_ | refine WC.exit ?_ | refine blk_hit ?_ | refine blk_miss rfl ?_ | refine WC.ret ?_)
  refine WL.callX rfl rfl rfl rfl rfl (cmpstring_run a b w) ?_
  repeat (first | refine WC.seq ?_ | refine WC.reg ?_ | refine WL.pure rfl rfl rfl ?_ | refine WL.nil ?_ | refine WC.skip ?_ | refine WC.block ?_ | refine WC.condT rfl ?_ | refine WC.condF rfl ?_ | refine WL.off rfl rfl rfl ?_ | refine WL.off0 rfl rfl ?_ | refine WC.exit ?_ | refine blk_hit ?_ | refine blk_miss rfl ?_ | refine WC.ret ?_)
  exact Res.one rfl rfl rfl ⟨rfl, rfl⟩
theorem Compare_any (a b : Str) : Pur Tryz.prog 88 [st a, st b] (.int .i64 (cmpB a b)) := by
  intro w
  refine enter Tryz.func88 rfl rfl ⟨rfl, rfl⟩ rfl ?_
  repeat (first | refine WC.seq ?_ | refine WC.reg ?_ | refine WL.pure rfl rfl rfl ?_ | refine WL.nil ?_ | refine WC.skip ?_ | refine WC.block ?_ | refine WC.condT rfl ?_ | refine WC.condF rfl ?_ | refine WL.off rfl rfl rfl ?_ | refine WL.off0 rfl rfl ?_ | refine WC.exit ?_ | refine blk_hit ?_ | refine blk_miss rfl ?_ | refine WC.ret ?_)
  refine WL.callP rfl rfl rfl rfl rfl ent100 (CompareString_any a b w) ?_
  repeat (first | refine WC.seq ?_ | refine WC.reg ?_ | refine WL.pure rfl rfl rfl ?_ | refine WL.nil ?_ | refine WC.skip ?_ | refine WC.block ?_ | refine WC.condT rfl ?_ | refine WC.condF rfl ?_ | refine WL.off rfl rfl rfl ?_ | refine WL.off0 rfl rfl ?_ | refine WC.exit ?_ | refine blk_hit ?_ | refine blk_miss rfl ?_ | refine WC.ret ?_)
  exact Res.one rfl rfl rfl ⟨rfl, rfl⟩
theorem isNaN_any (n : Int) : Pur Tryz.prog 99 [.int .i64 n] (.bool false) := by
  intro w
  refine enter Tryz.func99 rfl rfl ⟨rfl, rfl⟩ rfl ?_
  repeat (first | refine WC.seq ?_ | refine WC.reg ?_ | refine WL.pure rfl rfl rfl ?_ | refine WL.nil ?_ | refine WC.skip ?_ | refine WC.block ?_ | refine WC.condT rfl ?_ | refine WC.condF rfl ?_ | refine WL.off rfl rfl rfl ?_ | refine WL.off0 rfl rfl ?_ | refine WC.exit ?_ | refine blk_hit ?_ | refine blk_miss rfl ?_ | refine WC.ret ?_)
  exact Res.one rfl rfl rfl ⟨by simp, rfl⟩
theorem CompareInt_any (a b : Int) : Pur Tryz.prog 87 [.int .i64 a, .int .i64 b] (.int .i64 (if a < b then -1 else if b < a then 1 else 0)) := by
  intro w
  refine enter Tryz.func87 rfl rfl ⟨rfl, rfl⟩ rfl ?_
  repeat (first | refine WC.seq ?_ | refine WC.reg ?_ | refine WL.pure rfl rfl rfl ?_ | refine WL.nil ?_ | refine WC.skip ?_ | refine WC.block ?_ | refine WC.condT rfl ?_ | refine WC.condF rfl ?_ | refine WL.off rfl rfl rfl ?_ | refine WL.off0 rfl rfl ?_ | refine WC.exit ?_ | refine blk_hit ?_ | refine blk_miss rfl ?_ | refine WC.ret ?_)
  refine WL.callP rfl rfl rfl rfl rfl ent99 (isNaN_any a w) ?_
  repeat (first | refine WC.seq ?_ | refine WC.reg ?_ | refine WL.pure rfl rfl rfl ?_ | refine WL.nil ?_ | refine WC.skip ?_ | refine WC.block ?_ | refine WC.condT rfl ?_ | refine WC.condF rfl ?_ | refine WL.off rfl rfl rfl ?_ | refine WL.off0 rfl rfl ?_ | refine WC.exit ?_ | refine blk_hit ?_ | refine blk_miss rfl ?_ | refine WC.ret ?_)
  refine WL.callP rfl rfl rfl rfl rfl ent99 (isNaN_any b w) ?_
  repeat (first | refine WC.seq ?_ | refine WC.reg ?_ | refine WL.pure rfl rfl rfl ?_ | refine WL.nil ?_ | refine WC.skip ?_ | refine WC.block ?_ | refine WC.condT rfl ?_ | refine WC.condF rfl ?_ | refine WL.off rfl rfl rfl ?_ | refine WL.off0 rfl rfl ?_ | refine WC.exit ?_ | refine blk_hit ?_ | refine blk_miss rfl ?_ | refine WC.ret ?_)
  refine WC.cond rfl (fun h => ?_) (fun h => ?_)
  · repeat (first | refine WC.seq ?_ | refine WC.reg ?_ | refine WL.pure rfl rfl rfl ?_ | refine WL.nil ?_ | refine WC.skip ?_ | refine WC.block ?_ | refine WC.condT rfl ?_ | refine WC.condF rfl ?_ | refine WL.off rfl rfl rfl ?_ | refine WL.off0 rfl rfl ?_ | refine WC.exit ?_ | refine blk_hit ?_ | refine blk_miss rfl ?_ | refine WC.ret ?_)
    exact Res.one rfl rfl rfl ⟨by rw [if_pos (of_decide_eq_true h)], rfl⟩
  · repeat (first | refine WC.seq ?_ | refine WC.reg ?_ | refine WL.pure rfl rfl rfl ?_ | refine WL.nil ?_ | refine WC.skip ?_ | refine WC.block ?_ | refine WC.condT rfl ?_ | refine WC.condF rfl ?_ | refine WL.off rfl rfl rfl ?_ | refine WL.off0 rfl rfl ?_ | refine WC.exit ?_ | refine blk_hit ?_ | refine blk_miss rfl ?_ | refine WC.ret ?_)
    refine WC.cond rfl (fun h2 => ?_) (fun h2 => ?_)
    · repeat (first | refine WC.seq ?_ | refine WC.reg ?_ | refine WL.pure rfl rfl rfl ?_ | refine WL.nil ?_ | refine WC.skip ?_ | refine WC.block ?_ | refine WC.condT rfl ?_ | refine WC.condF rfl ?_ | refine WL.off rfl rfl rfl ?_ | refine WL.off0 rfl rfl ?_ | refine WC.exit ?_ | refine blk_hit ?_ | refine blk_miss rfl ?_ | refine WC.ret ?_)
      exact Res.one rfl rfl rfl ⟨by rw [if_neg (of_decide_eq_false h), if_pos (of_decide_eq_true h2)], rfl⟩
    · repeat (first | refine WC.seq ?_ | refine WC.reg ?_ | refine WL.pure rfl rfl rfl ?_ | refine WL.nil ?_ | refine WC.skip ?_ | refine WC.block ?_ | refine WC.condT rfl ?_ | refine WC.condF rfl ?_ | refine WL.off rfl rfl rfl ?_ | refine WL.off0 rfl rfl ?_ | refine WC.exit ?_ | refine blk_hit ?_ | refine blk_miss rfl ?_ | refine WC.ret ?_)
      exact Res.one rfl rfl rfl ⟨by rw [if_neg (of_decide_eq_false h), if_neg (of_decide_eq_false h2)], rfl⟩
/-- The first number that is not 0. -/
theorem Or_any (a : Option Addr) (c : Nat) (x y : Int) (w : World) (hs : Sl w a [.int .i64 x, .int .i64 y]) :
    Ret Tryz.prog 86 [.slice a 2 c] w fun u w' => u = .int .i64 (if x = 0 then y else x) ∧ w' = w := by
  refine enter Tryz.func86 rfl rfl ⟨rfl, rfl⟩ rfl ?_
  repeat (first | refine WC.seq ?_ | refine WC.reg ?_ | refine WL.pure rfl rfl rfl ?_ | refine WL.nil ?_ | refine WC.skip ?_ | refine WC.block ?_ | refine WC.condT rfl ?_ | refine WC.condF rfl ?_ | refine WL.off rfl rfl rfl ?_ | refine WL.off0 rfl rfl ?_ | refine WC.exit ?_ | refine blk_hit ?_ | refine blk_miss rfl ?_ | refine WC.ret ?_)
  refine WC.loop Nat (fun i => [(3, .int .i64 0), (6, .slice a 2 c), (7, .int .i64 2), (8, .int .i64 (i : Nat))]) (fun i w' => w' = w ∧ i ≤ 2 ∧ (0 < i → x = 0) ∧ (1 < i → y = 0)) (fun i => 2 - i) 0 ⟨rfl, rfl, rfl, rfl, rfl⟩ ⟨rfl, by omega, by omega, by omega⟩ ?_
  rintro i w1 ⟨rfl, hi, h0, h1⟩
  rcases (show i = 0 ∨ i = 1 ∨ i = 2 by omega) with rfl | rfl | rfl
  · repeat (first | refine WC.seq ?_ | refine WC.reg ?_ | refine WL.pure rfl rfl rfl ?_ | refine WL.nil ?_ | refine WC.skip ?_ | refine WC.block ?_ | refine WC.condT rfl ?_ | refine WC.condF rfl ?_ | refine WL.off rfl rfl rfl ?_ | refine WL.off0 rfl rfl ?_ | refine WC.exit ?_ | refine blk_hit ?_ | refine blk_miss rfl ?_ | refine WC.ret ?_)
    refine WL.ixload rfl (fun _ => rfl) rfl rfl rfl rfl rfl rfl rfl (show 0 < 2 by decide) rfl rfl hs rfl ?_
    intro pa
    repeat (first | refine WC.seq ?_ | refine WC.reg ?_ | refine WL.pure rfl rfl rfl ?_ | refine WL.nil ?_ | refine WC.skip ?_ | refine WC.block ?_ | refine WC.condT rfl ?_ | refine WC.condF rfl ?_ | refine WL.off rfl rfl rfl ?_ | refine WL.off0 rfl rfl ?_ | refine WC.exit ?_ | refine blk_hit ?_ | refine blk_miss rfl ?_ | refine WC.ret ?_)
    refine WC.cond rfl (fun h => ?_) (fun h => ?_)
    · have h : x ≠ 0 := by simpa using h
      repeat (first | refine WC.seq ?_ | refine WC.reg ?_ | refine WL.pure rfl rfl rfl ?_ | refine WL.nil ?_ | refine WC.skip ?_ | refine WC.block ?_ | refine WC.condT rfl ?_ | refine WC.condF rfl ?_ | refine WL.off rfl rfl rfl ?_ | refine WL.off0 rfl rfl ?_ | refine WC.exit ?_ | refine blk_hit ?_ | refine blk_miss rfl ?_ | refine WC.ret ?_)
      exact Res.one rfl rfl rfl ⟨by rw [if_neg h], rfl⟩
    · have h : x = 0 := by simpa using h
      repeat (first | refine WC.seq ?_ | refine WC.reg ?_ | refine WL.pure rfl rfl rfl ?_ | refine WL.nil ?_ | refine WC.skip ?_ | refine WC.block ?_ | refine WC.condT rfl ?_ | refine WC.condF rfl ?_ | refine WL.off rfl rfl rfl ?_ | refine WL.off0 rfl rfl ?_ | refine WC.exit ?_ | refine blk_hit ?_ | refine blk_miss rfl ?_ | refine WC.ret ?_)
      exact ⟨1, by decide, ⟨rfl, rfl, rfl, rfl, rfl⟩, rfl, by omega, fun _ => h, by omega⟩
  · repeat (first | refine WC.seq ?_ | refine WC.reg ?_ | refine WL.pure rfl rfl rfl ?_ | refine WL.nil ?_ | refine WC.skip ?_ | refine WC.block ?_ | refine WC.condT rfl ?_ | refine WC.condF rfl ?_ | refine WL.off rfl rfl rfl ?_ | refine WL.off0 rfl rfl ?_ | refine WC.exit ?_ | refine blk_hit ?_ | refine blk_miss rfl ?_ | refine WC.ret ?_)
    refine WL.ixload rfl (fun _ => rfl) rfl rfl rfl rfl rfl rfl rfl (show 1 < 2 by decide) rfl rfl hs rfl ?_
    intro pa
    have h0 := h0 (by omega)
    repeat (first | refine WC.seq ?_ | refine WC.reg ?_ | refine WL.pure rfl rfl rfl ?_ | refine WL.nil ?_ | refine WC.skip ?_ | refine WC.block ?_ | refine WC.condT rfl ?_ | refine WC.condF rfl ?_ | refine WL.off rfl rfl rfl ?_ | refine WL.off0 rfl rfl ?_ | refine WC.exit ?_ | refine blk_hit ?_ | refine blk_miss rfl ?_ | refine WC.ret ?_)
    refine WC.cond rfl (fun h => ?_) (fun h => ?_)
    · repeat (first | refine WC.seq ?_ | refine WC.reg ?_ | refine WL.pure rfl rfl rfl ?_ | refine WL.nil ?_ | refine WC.skip ?_ | refine WC.block ?_ | refine WC.condT rfl ?_ | refine WC.condF rfl ?_ | refine WL.off rfl rfl rfl ?_ | refine WL.off0 rfl rfl ?_ | refine WC.exit ?_ | refine blk_hit ?_ | refine blk_miss rfl ?_ | refine WC.ret ?_)
      exact Res.one rfl rfl rfl ⟨by rw [if_pos h0], rfl⟩
    · have h : y = 0 := by simpa using h
      repeat (first | refine WC.seq ?_ | refine WC.reg ?_ | refine WL.pure rfl rfl rfl ?_ | refine WL.nil ?_ | refine WC.skip ?_ | refine WC.block ?_ | refine WC.condT rfl ?_ | refine WC.condF rfl ?_ | refine WL.off rfl rfl rfl ?_ | refine WL.off0 rfl rfl ?_ | refine WC.exit ?_ | refine blk_hit ?_ | refine blk_miss rfl ?_ | refine WC.ret ?_)
      exact ⟨2, by decide, ⟨rfl, rfl, rfl, rfl, rfl⟩, rfl, by omega, fun _ => h0, fun _ => h⟩
  · repeat (first | refine WC.seq ?_ | refine WC.reg ?_ | refine WL.pure rfl rfl rfl ?_ | refine WL.nil ?_ | refine WC.skip ?_ | refine WC.block ?_ | refine WC.condT rfl ?_ | refine WC.condF rfl ?_ | refine WL.off rfl rfl rfl ?_ | refine WL.off0 rfl rfl ?_ | refine WC.exit ?_ | refine blk_hit ?_ | refine blk_miss rfl ?_ | refine WC.ret ?_)
    exact Res.one rfl rfl rfl ⟨by rw [if_pos (h0 (by omega)), h1 (by omega)], rfl⟩
theorem order_any (a b : Str) (w : World) : Ret Tryz.prog 62 [st a, st b] w fun u w' => u = .int .i64 (ordS a b) ∧ Hp w w' [] := by
  refine enter Tryz.func62 rfl rfl ⟨rfl, rfl⟩ rfl ?_
  repeat (first | refine WC.seq ?_ | refine WC.reg ?_ | refine WL.pure rfl rfl rfl ?_ | refine WL.nil ?_ | refine WC.skip ?_ | refine WC.block ?_ | refine WC.condT rfl ?_ | refine WC.condF rfl ?_ | refine WL.off rfl rfl rfl ?_ | refine WL.off0 rfl rfl ?_ | refine WC.exit ?_ | refine blk_hit ?_ | refine blk_miss rfl ?_ | refine WC.ret ?_)
  refine WL.callP rfl rfl rfl rfl rfl ent87 (CompareInt_any (a.length : Nat) (b.length : Nat) w) ?_
  repeat (first | refine WC.seq ?_ | refine WC.reg ?_ | refine WL.pure rfl rfl rfl ?_ | refine WL.nil ?_ | refine WC.skip ?_ | refine WC.block ?_ | refine WC.condT rfl ?_ | refine WC.condF rfl ?_ | refine WL.off rfl rfl rfl ?_ | refine WL.off0 rfl rfl ?_ | refine WC.exit ?_ | refine blk_hit ?_ | refine blk_miss rfl ?_ | refine WC.ret ?_)
  refine WL.callP rfl rfl rfl rfl rfl ent88 (Compare_any a b w) ?_
  refine WL.buildS (cs := [.int .i64 (if ((a.length : Nat) : Int) < ((b.length : Nat) : Int) then -1 else if ((b.length : Nat) : Int) < ((a.length : Nat) : Int) then 1 else 0), .int .i64 (cmpB a b)]) rfl rfl rfl rfl rfl rfl rfl rfl rfl ?_
  intro b1 w1 hb1
  have hp1 := (Hp.start w).new hb1
  refine WL.callP rfl rfl rfl rfl rfl ent86 (Or_any _ 2 _ _ w1 (Sl.of_obj (hp1.obj 0 rfl) (fun q u hq => by simpa using hq))) ?_
  repeat (first | refine WC.seq ?_ | refine WC.reg ?_ | refine WL.pure rfl rfl rfl ?_ | refine WL.nil ?_ | refine WC.skip ?_ | refine WC.block ?_ | refine WC.condT rfl ?_ | refine WC.condF rfl ?_ | refine WL.off rfl rfl rfl ?_ | refine WL.off0 rfl rfl ?_ | refine WC.exit ?_ | refine blk_hit ?_ | refine blk_miss rfl ?_ | refine WC.ret ?_)
  refine Res.one rfl rfl rfl ⟨?_, hp1.nil'⟩
  unfold ordS
  rcases Nat.lt_trichotomy a.length b.length with h | h | h
  · simp [h]
  · simp [show ¬ a.length < b.length by omega, show ¬ b.length < a.length by omega]
  · simp [show ¬ a.length < b.length by omega, h]
theorem letB_i (c : UInt8) : (decide ((c.toNat : Int) < 97) || decide ((104 : Int) < (c.toNat : Int))) = !letB c := by
  unfold letB
  rcases Nat.lt_or_ge c.toNat 97 with h | h
  · rw [decide_eq_true (show (c.toNat : Int) < 97 by omega), decide_eq_false (show ¬ 97 ≤ c.toNat by omega)]; rfl
  · rw [decide_eq_false (show ¬ (c.toNat : Int) < 97 by omega), decide_eq_true h]
    rcases Nat.lt_or_ge 104 c.toNat with k | k
    · rw [decide_eq_true (show (104 : Int) < (c.toNat : Int) by omega), decide_eq_false (show ¬ c.toNat ≤ 104 by omega)]; rfl
    · rw [decide_eq_false (show ¬ (104 : Int) < (c.toNat : Int) by omega), decide_eq_true (show c.toNat ≤ 104 by omega)]; rfl
theorem letters_any (s : Str) (hl : s.length ≤ 9223372036854775807) : Pur Tryz.prog 63 [st s] (.bool (lettersB s)) := by
  intro w
  refine enter Tryz.func63 rfl rfl ⟨rfl, rfl⟩ rfl ?_
  repeat (first | refine WC.seq ?_ | refine WC.reg ?_ | refine WL.pure rfl rfl rfl ?_ | refine WL.nil ?_ | refine WC.skip ?_ | refine WC.block ?_ | refine WC.condT rfl ?_ | refine WC.condF rfl ?_ | refine WL.off rfl rfl rfl ?_ | refine WL.off0 rfl rfl ?_ | refine WC.exit ?_ | refine blk_hit ?_ | refine blk_miss rfl ?_ | refine WC.ret ?_)
  refine WC.loop Nat (fun i => [(0, st s), (5, .int .i64 (s.length : Nat)), (6, .int .i64 (i : Nat))]) (fun i w' => w' = w ∧ i ≤ s.length ∧ lettersB (s.take i) = true) (fun i => s.length - i) 0 ⟨rfl, rfl, rfl, rfl⟩ ⟨rfl, by omega, rfl⟩ ?_
  rintro i w1 ⟨rfl, hi, h0⟩
  repeat (first | refine WC.seq ?_ | refine WC.reg ?_ | refine WL.pure rfl rfl rfl ?_ | refine WL.nil ?_ | refine WC.skip ?_ | refine WC.block ?_ | refine WC.condT rfl ?_ | refine WC.condF rfl ?_ | refine WL.off rfl rfl rfl ?_ | refine WL.off0 rfl rfl ?_ | refine WC.exit ?_ | refine blk_hit ?_ | refine blk_miss rfl ?_ | refine WC.ret ?_)
  refine WC.cond rfl (fun h => ?_) (fun h => ?_)
  · have hi : i < s.length := by have := of_decide_eq_true h; omega
    have step := wrap_succ hi hl
    have hb := letB_i s[i]
    have hs : lettersB s = (letB s[i] && lettersB (s.drop (i + 1))) := by
      have e1 : s = s.take i ++ (s[i] :: s.drop (i + 1)) := by rw [List.getElem_cons_drop, List.take_append_drop]
      unfold lettersB at *
      conv => lhs; rw [e1]
      rw [List.all_append, h0, List.all_cons]; rfl
    repeat (first | refine WC.seq ?_ | refine WC.reg ?_ | refine WL.pure rfl rfl rfl ?_ | refine WL.nil ?_ | refine WC.skip ?_ | refine WC.block ?_ | refine WC.condT rfl ?_ | refine WC.condF rfl ?_ | refine WL.off rfl rfl rfl ?_ | refine WL.off0 rfl rfl ?_ | refine WC.exit ?_ | refine blk_hit ?_ | refine blk_miss rfl ?_ | refine WC.ret ?_)
    refine WL.sAt rfl rfl rfl rfl rfl hi ?_
    repeat (first | refine WC.seq ?_ | refine WC.reg ?_ | refine WL.pure rfl rfl rfl ?_ | refine WL.nil ?_ | refine WC.skip ?_ | refine WC.block ?_ | refine WC.condT rfl ?_ | refine WC.condF rfl ?_ | refine WL.off rfl rfl rfl ?_ | refine WL.off0 rfl rfl ?_ | refine WC.exit ?_ | refine blk_hit ?_ | refine blk_miss rfl ?_ | refine WC.ret ?_)
    refine WL.split 13 rfl (fun h1 => ?_) (fun h1 => ?_)
    · rw [h1] at hb
      have hb : letB s[i] = false := by simpa using hb
      repeat (first | refine WC.seq ?_ | refine WC.reg ?_ | refine WL.pure rfl rfl rfl ?_ | refine WL.nil ?_ | refine WC.skip ?_ | refine WC.block ?_ | refine WC.condT rfl ?_ | refine WC.condF rfl ?_ | refine WL.off rfl rfl rfl ?_ | refine WL.off0 rfl rfl ?_ | refine WC.exit ?_ | refine blk_hit ?_ | refine blk_miss rfl ?_ | refine WC.ret ?_)
      exact Res.one rfl rfl rfl ⟨by rw [hs, hb]; rfl, rfl⟩
    · rw [h1] at hb
      repeat (first | refine WC.seq ?_ | refine WC.reg ?_ | refine WL.pure rfl rfl rfl ?_ | refine WL.nil ?_ | refine WC.skip ?_ | refine WC.block ?_ | refine WC.condT rfl ?_ | refine WC.condF rfl ?_ | refine WL.off rfl rfl rfl ?_ | refine WL.off0 rfl rfl ?_ | refine WC.exit ?_ | refine blk_hit ?_ | refine blk_miss rfl ?_ | refine WC.ret ?_)
      refine WL.sAt rfl rfl rfl rfl rfl hi ?_
      repeat (first | refine WC.seq ?_ | refine WC.reg ?_ | refine WL.pure rfl rfl rfl ?_ | refine WL.nil ?_ | refine WC.skip ?_ | refine WC.block ?_ | refine WC.condT rfl ?_ | refine WC.condF rfl ?_ | refine WL.off rfl rfl rfl ?_ | refine WL.off0 rfl rfl ?_ | refine WC.exit ?_ | refine blk_hit ?_ | refine blk_miss rfl ?_ | refine WC.ret ?_)
      refine WC.cond rfl (fun h2 => ?_) (fun h2 => ?_)
      · rw [h2] at hb
        have hb : letB s[i] = false := by simpa using hb
        repeat (first | refine WC.seq ?_ | refine WC.reg ?_ | refine WL.pure rfl rfl rfl ?_ | refine WL.nil ?_ | refine WC.skip ?_ | refine WC.block ?_ | refine WC.condT rfl ?_ | refine WC.condF rfl ?_ | refine WL.off rfl rfl rfl ?_ | refine WL.off0 rfl rfl ?_ | refine WC.exit ?_ | refine blk_hit ?_ | refine blk_miss rfl ?_ | refine WC.ret ?_)
        exact Res.one rfl rfl rfl ⟨by rw [hs, hb]; rfl, rfl⟩
      · rw [h2] at hb
        have hb : letB s[i] = true := by simpa using hb
        repeat (first | refine WC.seq ?_ | refine WC.reg ?_ | refine WL.pure rfl rfl rfl ?_ | refine WL.nil ?_ | refine WC.skip ?_ | refine WC.block ?_ | refine WC.condT rfl ?_ | refine WC.condF rfl ?_ | refine WL.off rfl rfl rfl ?_ | refine WL.off0 rfl rfl ?_ | refine WC.exit ?_ | refine blk_hit ?_ | refine blk_miss rfl ?_ | refine WC.ret ?_)
        refine ⟨i + 1, by show s.length - (i + 1) < s.length - i; omega, ⟨rfl, rfl, congrArg (fun z => some (Value.int .i64 z)) step, rfl⟩, rfl, hi, ?_⟩
        unfold lettersB at *
        rw [List.take_succ_eq_append_getElem hi, List.all_append, h0]
        simp [hb]
  · have hi : i = s.length := by have := of_decide_eq_false h; omega
    subst hi
    rw [List.take_length] at h0
    repeat (first | refine WC.seq ?_ | refine WC.reg ?_ | refine WL.pure rfl rfl rfl ?_ | refine WL.nil ?_ | refine WC.skip ?_ | refine WC.block ?_ | refine WC.condT rfl ?_ | refine WC.condF rfl ?_ | refine WL.off rfl rfl rfl ?_ | refine WL.off0 rfl rfl ?_ | refine WC.exit ?_ | refine blk_hit ?_ | refine blk_miss rfl ?_ | refine WC.ret ?_)
    exact Res.one rfl rfl rfl ⟨by rw [h0], rfl⟩
theorem isSide_any (s : Str) (hl : s.length ≤ 9223372036854775807) : Pur Tryz.prog 85 [st s] (.bool (sideB s)) := by
  intro w
  refine enter Tryz.func85 rfl rfl ⟨rfl, rfl⟩ rfl ?_
  repeat (first | refine WC.seq ?_ | refine WC.reg ?_ | refine WL.pure rfl rfl rfl ?_ | refine WL.nil ?_ | refine WC.skip ?_ | refine WC.block ?_ | refine WC.condT rfl ?_ | refine WC.condF rfl ?_ | refine WL.off rfl rfl rfl ?_ | refine WL.off0 rfl rfl ?_ | refine WC.exit ?_ | refine blk_hit ?_ | refine blk_miss rfl ?_ | refine WC.ret ?_)
  refine WL.split 6 rfl (fun h1 => ?_) (fun h1 => ?_)
  · have h1 : ((s.length : Nat) : Int) ≤ 24 := of_decide_eq_true h1
    repeat (first | refine WC.seq ?_ | refine WC.reg ?_ | refine WL.pure rfl rfl rfl ?_ | refine WL.nil ?_ | refine WC.skip ?_ | refine WC.block ?_ | refine WC.condT rfl ?_ | refine WC.condF rfl ?_ | refine WL.off rfl rfl rfl ?_ | refine WL.off0 rfl rfl ?_ | refine WC.exit ?_ | refine blk_hit ?_ | refine blk_miss rfl ?_ | refine WC.ret ?_)
    refine WL.callP rfl rfl rfl rfl rfl ent63 (letters_any s hl w) ?_
    repeat (first | refine WC.seq ?_ | refine WC.reg ?_ | refine WL.pure rfl rfl rfl ?_ | refine WL.nil ?_ | refine WC.skip ?_ | refine WC.block ?_ | refine WC.condT rfl ?_ | refine WC.condF rfl ?_ | refine WL.off rfl rfl rfl ?_ | refine WL.off0 rfl rfl ?_ | refine WC.exit ?_ | refine blk_hit ?_ | refine blk_miss rfl ?_ | refine WC.ret ?_)
    exact Res.one rfl rfl rfl ⟨by unfold sideB; rw [decide_eq_true (show s.length ≤ 24 by omega)]; rfl, rfl⟩
  · have h1 : ¬ ((s.length : Nat) : Int) ≤ 24 := of_decide_eq_false h1
    repeat (first | refine WC.seq ?_ | refine WC.reg ?_ | refine WL.pure rfl rfl rfl ?_ | refine WL.nil ?_ | refine WC.skip ?_ | refine WC.block ?_ | refine WC.condT rfl ?_ | refine WC.condF rfl ?_ | refine WL.off rfl rfl rfl ?_ | refine WL.off0 rfl rfl ?_ | refine WC.exit ?_ | refine blk_hit ?_ | refine blk_miss rfl ?_ | refine WC.ret ?_)
    exact Res.one rfl rfl rfl ⟨by unfold sideB; rw [decide_eq_false (show ¬ s.length ≤ 24 by omega)]; rfl, rfl⟩
theorem isString_any (s : Str) (hl : s.length ≤ 9223372036854775807) : Pur Tryz.prog 34 [st s] (.bool (strB s)) := by
  intro w
  refine enter Tryz.func34 rfl rfl ⟨rfl, rfl⟩ rfl ?_
  repeat (first | refine WC.seq ?_ | refine WC.reg ?_ | refine WL.pure rfl rfl rfl ?_ | refine WL.nil ?_ | refine WC.skip ?_ | refine WC.block ?_ | refine WC.condT rfl ?_ | refine WC.condF rfl ?_ | refine WL.off rfl rfl rfl ?_ | refine WL.off0 rfl rfl ?_ | refine WC.exit ?_ | refine blk_hit ?_ | refine blk_miss rfl ?_ | refine WC.ret ?_)
  refine WL.split 6 rfl (fun h1 => ?_) (fun h1 => ?_)
  · have h1 : ((s.length : Nat) : Int) ≤ 200 := of_decide_eq_true h1
    repeat (first | refine WC.seq ?_ | refine WC.reg ?_ | refine WL.pure rfl rfl rfl ?_ | refine WL.nil ?_ | refine WC.skip ?_ | refine WC.block ?_ | refine WC.condT rfl ?_ | refine WC.condF rfl ?_ | refine WL.off rfl rfl rfl ?_ | refine WL.off0 rfl rfl ?_ | refine WC.exit ?_ | refine blk_hit ?_ | refine blk_miss rfl ?_ | refine WC.ret ?_)
    refine WL.callP rfl rfl rfl rfl rfl ent63 (letters_any s hl w) ?_
    repeat (first | refine WC.seq ?_ | refine WC.reg ?_ | refine WL.pure rfl rfl rfl ?_ | refine WL.nil ?_ | refine WC.skip ?_ | refine WC.block ?_ | refine WC.condT rfl ?_ | refine WC.condF rfl ?_ | refine WL.off rfl rfl rfl ?_ | refine WL.off0 rfl rfl ?_ | refine WC.exit ?_ | refine blk_hit ?_ | refine blk_miss rfl ?_ | refine WC.ret ?_)
    exact Res.one rfl rfl rfl ⟨by unfold strB; rw [decide_eq_true (show s.length ≤ 200 by omega)]; rfl, rfl⟩
  · have h1 : ¬ ((s.length : Nat) : Int) ≤ 200 := of_decide_eq_false h1
    repeat (first | refine WC.seq ?_ | refine WC.reg ?_ | refine WL.pure rfl rfl rfl ?_ | refine WL.nil ?_ | refine WC.skip ?_ | refine WC.block ?_ | refine WC.condT rfl ?_ | refine WC.condF rfl ?_ | refine WL.off rfl rfl rfl ?_ | refine WL.off0 rfl rfl ?_ | refine WC.exit ?_ | refine blk_hit ?_ | refine blk_miss rfl ?_ | refine WC.ret ?_)
    exact Res.one rfl rfl rfl ⟨by unfold strB; rw [decide_eq_false (show ¬ s.length ≤ 200 by omega)]; rfl, rfl⟩
theorem isEquation_any (r : Rl) (hl : r.1.length ≤ 9223372036854775807) (hr : r.2.length ≤ 9223372036854775807) (w : World) : Ret Tryz.prog 61 [.agg #[st r.1, st r.2]] w fun u w' => u = .bool (eqnB r) ∧ Hp w w' [] := by
  refine enter Tryz.func61 rfl rfl ⟨rfl, rfl⟩ rfl ?_
  repeat (first | refine WC.seq ?_ | refine WC.reg ?_ | refine WL.pure rfl rfl rfl ?_ | refine WL.nil ?_ | refine WC.skip ?_ | refine WC.block ?_ | refine WC.condT rfl ?_ | refine WC.condF rfl ?_ | refine WL.off rfl rfl rfl ?_ | refine WL.off0 rfl rfl ?_ | refine WC.exit ?_ | refine blk_hit ?_ | refine blk_miss rfl ?_ | refine WC.ret ?_)
  refine WL.box rfl rfl rfl ?_
  intro b1 w1 hb1
  have hp1 := (Hp.start w).new hb1
  repeat (first | refine WC.seq ?_ | refine WC.reg ?_ | refine WL.pure rfl rfl rfl ?_ | refine WL.nil ?_ | refine WC.skip ?_ | refine WC.block ?_ | refine WC.condT rfl ?_ | refine WC.condF rfl ?_ | refine WL.off rfl rfl rfl ?_ | refine WL.off0 rfl rfl ?_ | refine WC.exit ?_ | refine blk_hit ?_ | refine blk_miss rfl ?_ | refine WC.ret ?_)
  refine WL.loadB rfl rfl rfl rfl rfl (hp1.obj 0 rfl) rfl ?_
  refine WL.callP rfl rfl rfl rfl rfl ent85 (isSide_any r.1 hl w1) ?_
  repeat (first | refine WC.seq ?_ | refine WC.reg ?_ | refine WL.pure rfl rfl rfl ?_ | refine WL.nil ?_ | refine WC.skip ?_ | refine WC.block ?_ | refine WC.condT rfl ?_ | refine WC.condF rfl ?_ | refine WL.off rfl rfl rfl ?_ | refine WL.off0 rfl rfl ?_ | refine WC.exit ?_ | refine blk_hit ?_ | refine blk_miss rfl ?_ | refine WC.ret ?_)
  refine WL.split 6 rfl (fun h1 => ?_) (fun h1 => ?_)
  · repeat (first | refine WC.seq ?_ | refine WC.reg ?_ | refine WL.pure rfl rfl rfl ?_ | refine WL.nil ?_ | refine WC.skip ?_ | refine WC.block ?_ | refine WC.condT rfl ?_ | refine WC.condF rfl ?_ | refine WL.off rfl rfl rfl ?_ | refine WL.off0 rfl rfl ?_ | refine WC.exit ?_ | refine blk_hit ?_ | refine blk_miss rfl ?_ | refine WC.ret ?_)
    refine WL.loadB rfl rfl rfl rfl rfl (hp1.obj 0 rfl) rfl ?_
    refine WL.callP rfl rfl rfl rfl rfl ent85 (isSide_any r.2 hr w1) ?_
    repeat (first | refine WC.seq ?_ | refine WC.reg ?_ | refine WL.pure rfl rfl rfl ?_ | refine WL.nil ?_ | refine WC.skip ?_ | refine WC.block ?_ | refine WC.condT rfl ?_ | refine WC.condF rfl ?_ | refine WL.off rfl rfl rfl ?_ | refine WL.off0 rfl rfl ?_ | refine WC.exit ?_ | refine blk_hit ?_ | refine blk_miss rfl ?_ | refine WC.ret ?_)
    exact Res.one rfl rfl rfl ⟨by unfold eqnB; rw [h1]; rfl, hp1.nil'⟩
  · repeat (first | refine WC.seq ?_ | refine WC.reg ?_ | refine WL.pure rfl rfl rfl ?_ | refine WL.nil ?_ | refine WC.skip ?_ | refine WC.block ?_ | refine WC.condT rfl ?_ | refine WC.condF rfl ?_ | refine WL.off rfl rfl rfl ?_ | refine WL.off0 rfl rfl ?_ | refine WC.exit ?_ | refine blk_hit ?_ | refine blk_miss rfl ?_ | refine WC.ret ?_)
    exact Res.one rfl rfl rfl ⟨by unfold eqnB; rw [h1]; rfl, hp1.nil'⟩
end Go.Proofs.YtoghnhbjdnjghaaGreat
