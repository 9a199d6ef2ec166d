/- The walk of an interpolation. -/
import Derived.Test.YtagfpnnplgkkoaaR36
import Derived.Test.YtagfpnnplgkkoaaQi
namespace Go.Poly
open Go.W Go.Tree
def Xz (l : List Ed) (j : Nat) : Int := (l.getD j (0, 0)).1
def Yz (l : List Ed) (j : Nat) : Int := (l.getD j (0, 0)).2
/-- The first i points are right. -/
def Gd (p : Int) (l : List Ed) (i : Nat) : Prop := (∀ j, j < i → 0 ≤ Xz l j ∧ Xz l j < p ∧ 0 ≤ Yz l j ∧ Yz l j < p) ∧ ∀ j k, j < k → k < i → Xz l j ≠ Xz l k
def Xn (l : List Ed) (j : Nat) : Nat := (Xz l j).toNat
def Yn (l : List Ed) (j : Nat) : Nat := (Yz l j).toNat
theorem Gd.pts {p : Nat} {l : List Ed} {i : Nat} (h : Gd (p : Int) l i) : Pts p i (Xn l) (Yn l) := by
  refine ⟨fun j hj => ?_, fun j k hjk hk e => ?_⟩
  · obtain ⟨h1, h2, h3, h4⟩ := h.1 j hj
    unfold Xn Yn
    omega
  · have h1 := h.1 j (by omega)
    have h2 := h.1 k hk
    refine h.2 j k hjk hk ?_
    unfold Xn at e
    omega
theorem Gd.less {p : Int} {l : List Ed} {i k : Nat} (h : Gd p l i) (hk : k ≤ i) : Gd p l k := ⟨fun j hj => h.1 j (by omega), fun a b h1 h2 => h.2 a b h1 (by omega)⟩
theorem pt_cells {l : List Ed} {j : Nat} (h : j < l.length) : ∀ (q : Nat) (u : Value), ([Value.int .i64 (Xz l j), Value.int .i64 (Yz l j)] : List Value)[q]? = some u → (prs l)[j * 2 + q]? = some u := by
  have e : ([Value.int .i64 (Xz l j), Value.int .i64 (Yz l j)] : List Value) = pr l[j] := by
    unfold Xz Yz pr
    rw [List.getD_eq_getElem?_getD, List.getElem?_eq_getElem h]
    rfl
  intro q u hq
  rw [e] at hq
  exact prs_at l j h q u hq
theorem scale_le (p : Nat) (f : List Nat) (c : Nat) : (scaleL p f c).length ≤ f.length := by
  unfold scaleL
  have hc : (trimL [c % p]).length ≤ 1 := trim_le' _
  by_cases h3 : trimL [c % p] = []
  · rw [h3, mul_nil]; simp
  · by_cases hf : f = []
    · subst hf; simp [mulL]
    · rw [mul_len (List.length_pos_iff.2 hf) (List.length_pos_iff.2 h3)]; omega
end Go.Poly
namespace Go.W
open Go.RowKit
section
variable {P : Program} [T : TT P] {ro : Option Nat} {n : Nat} {l0 rest : List Oper} {N : Nor} {Z : Pan} {e : Env} {w : World} {ty : TypeId} {pos : String} {aft : Array Edge} {g : Option (Nat × Bool)}
theorem WL.lookupF {d b : Nat} {t kt vt : TypeId} {i iv : TI} {z : Value} {s0 b0 S clock : Nat} {x ix : Operand} {V : Nat → Value} {es : Array MapEntry}
    (hg : grd l0 e g = some true) (hd : Nat.blt d n = true) (ht : T.ti t = some ⟨.map kt vt, z, s0, b0⟩) (hk : T.ti kt = some i) (hi : i.k = .int .i64) (hv : T.ti vt = some iv)
    (hx : opv e x = some (.map (some b))) (hix : opv e ix = some (.int .i64 S)) (hb : w.heap[b]? = some (.map es clock)) (hes : MapOK V es)
    (h1 : Has es S → WL P ro n l0 N Z rest ((d, V S) :: e) w) (h2 : ¬ Has es S → WL P ro n l0 N Z rest ((d, iv.zero) :: e) w) :
    WL P ro n l0 N Z (⟨some d, .lookup t x ix false, ty, pos, aft, g⟩ :: rest) e w := by
  have hu : P.underlying t = some (.map kt vt) := (T.ok t _ ht).k
  have hz := (T.ok vt iv hv).zeroValue w
  have hc := checkKey_int (w := w) hk hi es.isEmpty 9999 S
  have hobj : (getObj b).run P w = .ok (.map es clock) w := by simp [getObj, Sem.run, hb]
  rcases findKey_run (w := w) hk hi S es hes with ⟨hf, hno⟩ | ⟨j, y, hj, hy, hf⟩
  · refine WL.val hg rfl hd ?_ (h2 hno)
    intro ρ hρ d' pos' aft' g'
    simp [execOp, hρ _ _ hx, hρ _ _ hix, Instr.lookup, run_underlying hu, hobj, hc, hf, hz]
  · refine WL.val hg rfl hd ?_ (h1 ⟨y, by simpa using Array.mem_of_getElem? hj, hy⟩)
    intro ρ hρ d' pos' aft' g'
    simp [execOp, hρ _ _ hx, hρ _ _ hix, Instr.lookup, run_underlying hu, hobj, hc, hf]
/-- A key that is new. -/
theorem WL.mapNew {b : Nat} {t kt vt : TypeId} {i : TI} {z v : Value} {s0 b0 S clock : Nat} {m k x : Operand} {V : Nat → Value} {es : Array MapEntry}
    (hg : grd l0 e g = some true) (ht : T.ti t = some ⟨.map kt vt, z, s0, b0⟩) (hk : T.ti kt = some i) (hi : i.k = .int .i64)
    (hm : opv e m = some (.map (some b))) (hkk : opv e k = some (.int .i64 S)) (hx : opv e x = some v) (hv : v = V S) (hb : w.heap[b]? = some (.map es clock)) (hes : MapOK V es) (hno : ¬ Has es S)
    (h : ∀ es' clock' w', MapOK V es' → (∀ S', Has es' S' ↔ Has es S' ∨ S' = S) → SetB w b (.map es' clock') w' → WL P ro n l0 N Z rest e w') :
    WL P ro n l0 N Z (⟨none, .mapUpdate t m k x, ty, pos, aft, g⟩ :: rest) e w := by
  subst hv
  have hu : P.underlying t = some (.map kt vt) := (T.ok t _ ht).k
  have hc := checkKey_int (w := w) hk hi false 9999 S
  have hobj : (getObj b).run P w = .ok (.map es clock) w := by simp [getObj, Sem.run, hb]
  have hset : ∀ o, (setObj b o).run P w = .ok () (w.putObj b o) := fun o => by simp [setObj, Sem.run, hb, World.putObj]
  rcases findKey_run (w := w) hk hi S es hes with ⟨hf, _⟩ | ⟨j, y, hj, hy, hf⟩
  · have hr : (Instr.mapUpdate t (.map (some b)) (.int .i64 S) (V S)).run P w = .ok () (w.putObj b (.map (es.push { key := .int .i64 S, val := V S, born := clock }) (clock + 1))) := by
      simp [Instr.mapUpdate, run_underlying hu, hobj, hc, hf, hset]
    refine WL.skip (w' := w.putObj b (.map (es.push { key := .int .i64 S, val := V S, born := clock }) (clock + 1))) hg rfl ?_ (h (es.push { key := .int .i64 S, val := V S, born := clock }) (clock + 1) _ ?_ ?_ (setB_put hb))
    · intro ρ hρ d' pos' aft' g'
      simp [execOp, hρ _ _ hm, hρ _ _ hkk, hρ _ _ hx, hr]
    · intro x hx
      simp only [Array.toList_push, List.mem_append, List.mem_singleton] at hx
      rcases hx with hx | hx
      · exact hes x hx
      · exact ⟨S, by rw [hx], by rw [hx]⟩
    · intro S'
      constructor
      · rintro ⟨x, hx, hxk⟩
        simp only [Array.toList_push, List.mem_append, List.mem_singleton] at hx
        rcases hx with hx | hx
        · exact .inl ⟨x, hx, hxk⟩
        · right
          rw [hx] at hxk
          simp only [Value.int.injEq, true_and] at hxk
          omega
      · rintro (⟨x, hx, hxk⟩ | rfl)
        · exact ⟨x, by simp [hx], hxk⟩
        · exact ⟨{ key := .int .i64 S', val := V S', born := clock }, by simp, rfl⟩
  · exact absurd ⟨y, by simpa using Array.mem_of_getElem? hj, hy⟩ hno
end
end Go.W
namespace Go.Proofs.Ytagfpnnplgkkoaa
open Go.W Go.Poly Go.Tree Go.RowKit
set_option maxRecDepth 100000
attribute [local irreducible] WC WL WQ WS WH

set_option maxHeartbeats 1000000 in
theorem Through_any (p : Int) (la : Option Addr) (lc : Nat) (l : List Ed) (hl : l.length ≤ 1000000) (w : World) (sl : Sl w la (prs l)) :
    Ret Try.prog 32 [.int .i64 p, .slice la l.length lc] w fun u w' =>
      ((fieldB p = false ∨ 33 < l.length ∨ ¬ Gd p l l.length) → u = .tuple #[.slice none 0 0, .int .i64 2] ∧ Hp w w' []) ∧
      (∀ q : Nat, fieldB p = true → p = q → l.length ≤ 33 → Gd p l l.length → ∃ v, u = .tuple #[v, .int .i64 0] ∧ Hp w w' [Rw v (thL q (Xn l) (Yn l) l.length).1]) := by
  refine enter Try.func32 rfl rfl ⟨rfl, rfl⟩ rfl ?_
  repeat (first | refine WC.seq ?_ | refine WC.reg ?_ | refine WL.pure rfl rfl rfl ?_ | refine WL.nil ?_ | refine WC.skip ?_ | refine WC.block ?_ | refine WC.condT rfl ?_ | refine WC.condF rfl ?_ | refine WL.off rfl rfl rfl ?_ | refine WL.off0 rfl rfl ?_ | refine WC.exit ?_ | refine blk_hit ?_ | refine blk_miss rfl ?_ | refine WC.ret ?_)
  refine WL.call rfl rfl rfl rfl rfl ent53 (isField_any p w) ?_
  rintro _ w1 ⟨rfl, hp1⟩
  cases hf : fieldB p with
  | false =>
    repeat (first | refine WC.seq ?_ | refine WC.reg ?_ | refine WL.pure rfl rfl rfl ?_ | refine WL.nil ?_ | refine WC.skip ?_ | refine WC.block ?_ | refine WC.condT rfl ?_ | refine WC.condF rfl ?_ | refine WL.off rfl rfl rfl ?_ | refine WL.off0 rfl rfl ?_ | refine WC.exit ?_ | refine blk_hit ?_ | refine blk_miss rfl ?_ | refine WC.ret ?_)
    exact Res.two rfl rfl rfl rfl ⟨fun _ => ⟨rfl, hp1⟩, fun q h => by cases h⟩
  | true =>
  obtain ⟨q, rfl, hq, hq2⟩ := fieldB_pri hf
  have hp0 := hq.pos
  repeat (first | refine WC.seq ?_ | refine WC.reg ?_ | refine WL.pure rfl rfl rfl ?_ | refine WL.nil ?_ | refine WC.skip ?_ | refine WC.block ?_ | refine WC.condT rfl ?_ | refine WC.condF rfl ?_ | refine WL.off rfl rfl rfl ?_ | refine WL.off0 rfl rfl ?_ | refine WC.exit ?_ | refine blk_hit ?_ | refine blk_miss rfl ?_ | refine WC.ret ?_)
  refine WC.cond rfl (fun hc => ?_) (fun hc => ?_)
  · have hc : 33 < l.length := by have := of_decide_eq_true hc; omega
    repeat (first | refine WC.seq ?_ | refine WC.reg ?_ | refine WL.pure rfl rfl rfl ?_ | refine WL.nil ?_ | refine WC.skip ?_ | refine WC.block ?_ | refine WC.condT rfl ?_ | refine WC.condF rfl ?_ | refine WL.off rfl rfl rfl ?_ | refine WL.off0 rfl rfl ?_ | refine WC.exit ?_ | refine blk_hit ?_ | refine blk_miss rfl ?_ | refine WC.ret ?_)
    exact Res.two rfl rfl rfl rfl ⟨fun _ => ⟨rfl, hp1⟩, fun q _ _ h => by omega⟩
  have hc : l.length ≤ 33 := by have := of_decide_eq_false hc; omega
  repeat (first | refine WC.seq ?_ | refine WC.reg ?_ | refine WL.pure rfl rfl rfl ?_ | refine WL.nil ?_ | refine WC.skip ?_ | refine WC.block ?_ | refine WC.condT rfl ?_ | refine WC.condF rfl ?_ | refine WL.off rfl rfl rfl ?_ | refine WL.off0 rfl rfl ?_ | refine WC.exit ?_ | refine blk_hit ?_ | refine blk_miss rfl ?_ | refine WC.ret ?_)
  refine WL.makeMap rfl rfl ?_
  intro bm w2 hbm
  have hp2 := hp1.new hbm
  repeat (first | refine WC.seq ?_ | refine WC.reg ?_ | refine WL.pure rfl rfl rfl ?_ | refine WL.nil ?_ | refine WC.skip ?_ | refine WC.block ?_ | refine WC.condT rfl ?_ | refine WC.condF rfl ?_ | refine WL.off rfl rfl rfl ?_ | refine WL.off0 rfl rfl ?_ | refine WC.exit ?_ | refine blk_hit ?_ | refine blk_miss rfl ?_ | refine WC.ret ?_)
  refine WC.loop (Nat × Array MapEntry × Nat) (fun (i, _, _) => [(0, .int .i64 (q : Nat)), (1, .slice la l.length lc), (6, .map (some bm)), (24, .slice la l.length lc), (25, .int .i64 (l.length : Nat)), (26, .int .i64 (i : Nat))])
    (fun (i, es, ck) w' => i ≤ l.length ∧ Gd (q : Int) l i ∧ MapOK (fun _ => .bool true) es ∧ (∀ S : Nat, Has es S ↔ ∃ j, j < i ∧ Xz l j = S) ∧ Hp w w' [.blk bm (.map es ck)]) (fun (i, _, _) => l.length - i) (0, #[], 0) ⟨rfl, rfl, rfl, rfl, rfl, rfl, rfl⟩
    ⟨Nat.zero_le _, ⟨fun j hj => by omega, fun j k h1 h2 => by omega⟩, (fun x hx => by simp at hx), (fun S => ⟨fun ⟨x, hx, _⟩ => by simp at hx, fun ⟨j, hj, _⟩ => by omega⟩), hp2⟩ ?_
  clear hp2 hbm w2
  rintro ⟨i, es, ck⟩ w2 ⟨hi, hG, hes, hhas, hp2⟩
  repeat (first | refine WC.seq ?_ | refine WC.reg ?_ | refine WL.pure rfl rfl rfl ?_ | refine WL.nil ?_ | refine WC.skip ?_ | refine WC.block ?_ | refine WC.condT rfl ?_ | refine WC.condF rfl ?_ | refine WL.off rfl rfl rfl ?_ | refine WL.off0 rfl rfl ?_ | refine WC.exit ?_ | refine blk_hit ?_ | refine blk_miss rfl ?_ | refine WC.ret ?_)
  refine WC.cond rfl (fun hc2 => ?_) (fun hc2 => ?_)
  · have hi : i < l.length := by have := of_decide_eq_true hc2; omega
    have step : IntKind.i64.wrap ((i : Int) + 1) = ((i + 1 : Nat) : Int) := by rw [wrap_i64_in (by omega) (by omega)]; omega
    have bad : (¬ (0 ≤ Xz l i ∧ Xz l i < q ∧ 0 ≤ Yz l i ∧ Yz l i < q) ∨ ∃ j, j < i ∧ Xz l j = Xz l i) → ¬ Gd (q : Int) l l.length := by
      rintro (h | ⟨j, hj, h⟩) hg
      · exact h (hg.1 i hi)
      · exact hg.2 j i hj hi h
    repeat (first | refine WC.seq ?_ | refine WC.reg ?_ | refine WL.pure rfl rfl rfl ?_ | refine WL.nil ?_ | refine WC.skip ?_ | refine WC.block ?_ | refine WC.condT rfl ?_ | refine WC.condF rfl ?_ | refine WL.off rfl rfl rfl ?_ | refine WL.off0 rfl rfl ?_ | refine WC.exit ?_ | refine blk_hit ?_ | refine blk_miss rfl ?_ | refine WC.ret ?_)
    refine WL.ixloadN (sz := 2) (cs' := [.int .i64 (Xz l i), .int .i64 (Yz l i)]) rfl (fun _ => rfl) rfl rfl rfl rfl rfl rfl rfl rfl hi rfl rfl (sl.hp hp2) rfl (pt_cells hi) ?_
    intro pa
    refine WL.var rfl rfl rfl (fun _ => rfl) rfl rfl (by intro y hy; simp [Value.cells] at hy; rcases hy with rfl | rfl <;> rfl) ?_
    intro bx w3 hbx
    have hp3 := hp2.new hbx
    have fail : ∀ w', Hp w w' [] → (¬ (0 ≤ Xz l i ∧ Xz l i < q ∧ 0 ≤ Yz l i ∧ Yz l i < q) ∨ ∃ j, j < i ∧ Xz l j = Xz l i) →
        ((true = false ∨ 33 < l.length ∨ ¬ Gd (q : Int) l l.length) → (Value.tuple #[.slice none 0 0, .int .i64 2]) = .tuple #[.slice none 0 0, .int .i64 2] ∧ Hp w w' []) ∧
        (∀ q' : Nat, true = true → (q : Int) = q' → l.length ≤ 33 → Gd (q : Int) l l.length → ∃ v, (Value.tuple #[.slice none 0 0, .int .i64 2]) = .tuple #[v, .int .i64 0] ∧ Hp w w' [Rw v (thL q' (Xn l) (Yn l) l.length).1]) :=
      fun w' h1 h2 => ⟨fun _ => ⟨rfl, h1⟩, fun _ _ _ _ h => absurd h (bad h2)⟩
    repeat (first | refine WC.seq ?_ | refine WC.reg ?_ | refine WL.pure rfl rfl rfl ?_ | refine WL.nil ?_ | refine WC.skip ?_ | refine WC.block ?_ | refine WC.condT rfl ?_ | refine WC.condF rfl ?_ | refine WL.off rfl rfl rfl ?_ | refine WL.off0 rfl rfl ?_ | refine WC.exit ?_ | refine blk_hit ?_ | refine blk_miss rfl ?_ | refine WC.ret ?_)
    refine WL.loadB rfl rfl rfl rfl rfl (hp3.obj 0 rfl) rfl ?_
    repeat (first | refine WC.seq ?_ | refine WC.reg ?_ | refine WL.pure rfl rfl rfl ?_ | refine WL.nil ?_ | refine WC.skip ?_ | refine WC.block ?_ | refine WC.condT rfl ?_ | refine WC.condF rfl ?_ | refine WL.off rfl rfl rfl ?_ | refine WL.off0 rfl rfl ?_ | refine WC.exit ?_ | refine blk_hit ?_ | refine blk_miss rfl ?_ | refine WC.ret ?_)
    refine WL.split 33 rfl (fun h1 => ?_) (fun h1 => ?_)
    · have h1 : Xz l i < 0 := of_decide_eq_true h1
      repeat (first | refine WC.seq ?_ | refine WC.reg ?_ | refine WL.pure rfl rfl rfl ?_ | refine WL.nil ?_ | refine WC.skip ?_ | refine WC.block ?_ | refine WC.condT rfl ?_ | refine WC.condF rfl ?_ | refine WL.off rfl rfl rfl ?_ | refine WL.off0 rfl rfl ?_ | refine WC.exit ?_ | refine blk_hit ?_ | refine blk_miss rfl ?_ | refine WC.ret ?_)
      exact Res.two rfl rfl rfl rfl (fail _ hp3.nil' (.inl (by omega)))
    have h1 : ¬ Xz l i < 0 := of_decide_eq_false h1
    repeat (first | refine WC.seq ?_ | refine WC.reg ?_ | refine WL.pure rfl rfl rfl ?_ | refine WL.nil ?_ | refine WC.skip ?_ | refine WC.block ?_ | refine WC.condT rfl ?_ | refine WC.condF rfl ?_ | refine WL.off rfl rfl rfl ?_ | refine WL.off0 rfl rfl ?_ | refine WC.exit ?_ | refine blk_hit ?_ | refine blk_miss rfl ?_ | refine WC.ret ?_)
    refine WL.loadB rfl rfl rfl rfl rfl (hp3.obj 0 rfl) rfl ?_
    repeat (first | refine WC.seq ?_ | refine WC.reg ?_ | refine WL.pure rfl rfl rfl ?_ | refine WL.nil ?_ | refine WC.skip ?_ | refine WC.block ?_ | refine WC.condT rfl ?_ | refine WC.condF rfl ?_ | refine WL.off rfl rfl rfl ?_ | refine WL.off0 rfl rfl ?_ | refine WC.exit ?_ | refine blk_hit ?_ | refine blk_miss rfl ?_ | refine WC.ret ?_)
    refine WL.split 39 rfl (fun h2 => ?_) (fun h2 => ?_)
    · have h2 : (q : Int) ≤ Xz l i := of_decide_eq_true h2
      repeat (first | refine WC.seq ?_ | refine WC.reg ?_ | refine WL.pure rfl rfl rfl ?_ | refine WL.nil ?_ | refine WC.skip ?_ | refine WC.block ?_ | refine WC.condT rfl ?_ | refine WC.condF rfl ?_ | refine WL.off rfl rfl rfl ?_ | refine WL.off0 rfl rfl ?_ | refine WC.exit ?_ | refine blk_hit ?_ | refine blk_miss rfl ?_ | refine WC.ret ?_)
      exact Res.two rfl rfl rfl rfl (fail _ hp3.nil' (.inl (by omega)))
    have h2 : ¬ (q : Int) ≤ Xz l i := of_decide_eq_false h2
    repeat (first | refine WC.seq ?_ | refine WC.reg ?_ | refine WL.pure rfl rfl rfl ?_ | refine WL.nil ?_ | refine WC.skip ?_ | refine WC.block ?_ | refine WC.condT rfl ?_ | refine WC.condF rfl ?_ | refine WL.off rfl rfl rfl ?_ | refine WL.off0 rfl rfl ?_ | refine WC.exit ?_ | refine blk_hit ?_ | refine blk_miss rfl ?_ | refine WC.ret ?_)
    refine WL.loadB rfl rfl rfl rfl rfl (hp3.obj 0 rfl) rfl ?_
    repeat (first | refine WC.seq ?_ | refine WC.reg ?_ | refine WL.pure rfl rfl rfl ?_ | refine WL.nil ?_ | refine WC.skip ?_ | refine WC.block ?_ | refine WC.condT rfl ?_ | refine WC.condF rfl ?_ | refine WL.off rfl rfl rfl ?_ | refine WL.off0 rfl rfl ?_ | refine WC.exit ?_ | refine blk_hit ?_ | refine blk_miss rfl ?_ | refine WC.ret ?_)
    refine WL.split 44 rfl (fun h3 => ?_) (fun h3 => ?_)
    · have h3 : Yz l i < 0 := of_decide_eq_true h3
      repeat (first | refine WC.seq ?_ | refine WC.reg ?_ | refine WL.pure rfl rfl rfl ?_ | refine WL.nil ?_ | refine WC.skip ?_ | refine WC.block ?_ | refine WC.condT rfl ?_ | refine WC.condF rfl ?_ | refine WL.off rfl rfl rfl ?_ | refine WL.off0 rfl rfl ?_ | refine WC.exit ?_ | refine blk_hit ?_ | refine blk_miss rfl ?_ | refine WC.ret ?_)
      exact Res.two rfl rfl rfl rfl (fail _ hp3.nil' (.inl (by omega)))
    have h3 : ¬ Yz l i < 0 := of_decide_eq_false h3
    repeat (first | refine WC.seq ?_ | refine WC.reg ?_ | refine WL.pure rfl rfl rfl ?_ | refine WL.nil ?_ | refine WC.skip ?_ | refine WC.block ?_ | refine WC.condT rfl ?_ | refine WC.condF rfl ?_ | refine WL.off rfl rfl rfl ?_ | refine WL.off0 rfl rfl ?_ | refine WC.exit ?_ | refine blk_hit ?_ | refine blk_miss rfl ?_ | refine WC.ret ?_)
    refine WL.loadB rfl rfl rfl rfl rfl (hp3.obj 0 rfl) rfl ?_
    repeat (first | refine WC.seq ?_ | refine WC.reg ?_ | refine WL.pure rfl rfl rfl ?_ | refine WL.nil ?_ | refine WC.skip ?_ | refine WC.block ?_ | refine WC.condT rfl ?_ | refine WC.condF rfl ?_ | refine WL.off rfl rfl rfl ?_ | refine WL.off0 rfl rfl ?_ | refine WC.exit ?_ | refine blk_hit ?_ | refine blk_miss rfl ?_ | refine WC.ret ?_)
    refine WL.split 50 rfl (fun h4 => ?_) (fun h4 => ?_)
    · have h4 : (q : Int) ≤ Yz l i := of_decide_eq_true h4
      repeat (first | refine WC.seq ?_ | refine WC.reg ?_ | refine WL.pure rfl rfl rfl ?_ | refine WL.nil ?_ | refine WC.skip ?_ | refine WC.block ?_ | refine WC.condT rfl ?_ | refine WC.condF rfl ?_ | refine WL.off rfl rfl rfl ?_ | refine WL.off0 rfl rfl ?_ | refine WC.exit ?_ | refine blk_hit ?_ | refine blk_miss rfl ?_ | refine WC.ret ?_)
      exact Res.two rfl rfl rfl rfl (fail _ hp3.nil' (.inl (by omega)))
    have h4 : ¬ (q : Int) ≤ Yz l i := of_decide_eq_false h4
    obtain ⟨S, hS⟩ : ∃ S : Nat, Xz l i = (S : Int) := ⟨(Xz l i).toNat, by omega⟩
    repeat (first | refine WC.seq ?_ | refine WC.reg ?_ | refine WL.pure rfl rfl rfl ?_ | refine WL.nil ?_ | refine WC.skip ?_ | refine WC.block ?_ | refine WC.condT rfl ?_ | refine WC.condF rfl ?_ | refine WL.off rfl rfl rfl ?_ | refine WL.off0 rfl rfl ?_ | refine WC.exit ?_ | refine blk_hit ?_ | refine blk_miss rfl ?_ | refine WC.ret ?_)
    refine WL.loadB rfl rfl rfl rfl rfl (hp3.obj 0 rfl) rfl ?_
    refine WL.known (d := 53) (congrArg (fun z => some (Value.int .i64 z)) hS) ?_
    refine WL.lookupF rfl rfl rfl rfl rfl rfl rfl rfl (hp3.obj 1 rfl) hes (fun h5 => ?_) (fun h5 => ?_)
    · obtain ⟨j, hj, hjS⟩ := (hhas S).1 h5
      repeat (first | refine WC.seq ?_ | refine WC.reg ?_ | refine WL.pure rfl rfl rfl ?_ | refine WL.nil ?_ | refine WC.skip ?_ | refine WC.block ?_ | refine WC.condT rfl ?_ | refine WC.condF rfl ?_ | refine WL.off rfl rfl rfl ?_ | refine WL.off0 rfl rfl ?_ | refine WC.exit ?_ | refine blk_hit ?_ | refine blk_miss rfl ?_ | refine WC.ret ?_)
      exact Res.two rfl rfl rfl rfl (fail _ hp3.nil' (.inr ⟨j, hj, by rw [hjS, hS]⟩))
    · repeat (first | refine WC.seq ?_ | refine WC.reg ?_ | refine WL.pure rfl rfl rfl ?_ | refine WL.nil ?_ | refine WC.skip ?_ | refine WC.block ?_ | refine WC.condT rfl ?_ | refine WC.condF rfl ?_ | refine WL.off rfl rfl rfl ?_ | refine WL.off0 rfl rfl ?_ | refine WC.exit ?_ | refine blk_hit ?_ | refine blk_miss rfl ?_ | refine WC.ret ?_)
      refine WL.loadB rfl rfl rfl rfl rfl (hp3.obj 0 rfl) rfl ?_
      refine WL.known (d := 58) (congrArg (fun z => some (Value.int .i64 z)) hS) ?_
      refine WL.mapNew rfl rfl rfl rfl rfl rfl rfl rfl (hp3.obj 1 rfl) hes h5 (fun es' ck' w4 hes' hhas' hw4 => ?_)
      have hp4 := (hp3.set 1 rfl rfl hw4).tail
      repeat (first | refine WC.seq ?_ | refine WC.reg ?_ | refine WL.pure rfl rfl rfl ?_ | refine WL.nil ?_ | refine WC.skip ?_ | refine WC.block ?_ | refine WC.condT rfl ?_ | refine WC.condF rfl ?_ | refine WL.off rfl rfl rfl ?_ | refine WL.off0 rfl rfl ?_ | refine WC.exit ?_ | refine blk_hit ?_ | refine blk_miss rfl ?_ | refine WC.ret ?_)
      refine ⟨(i + 1, es', ck'), by show l.length - (i + 1) < l.length - i; omega, ⟨rfl, rfl, rfl, rfl, rfl, congrArg (fun z => some (Value.int .i64 z)) step, rfl⟩, hi, ⟨fun j hj => ?_, fun j k hjk hk => ?_⟩, hes', fun S' => ?_, hp4⟩
      · by_cases h : j = i
        · subst h; omega
        · exact hG.1 j (by omega)
      · by_cases h : k = i
        · subst h
          intro he
          exact h5 ((hhas S).2 ⟨j, hjk, by rw [he, hS]⟩)
        · exact hG.2 j k hjk (by omega)
      · rw [hhas' S', hhas S']
        constructor
        · rintro (⟨j, hj, h⟩ | rfl)
          · exact ⟨j, by omega, h⟩
          · exact ⟨i, by omega, hS⟩
        · rintro ⟨j, hj, h⟩
          by_cases hji : j = i
          · subst hji; right; omega
          · exact .inl ⟨j, by omega, h⟩
  · have hi : i = l.length := by have := of_decide_eq_false hc2; omega
    subst hi
    have hpts := hG.pts
    have sl2 := sl.hp hp2
    have hp2 := hp2.nil'
    clear hes hhas hc2 sl hp1
    repeat (first | refine WC.seq ?_ | refine WC.reg ?_ | refine WL.pure rfl rfl rfl ?_ | refine WL.nil ?_ | refine WC.skip ?_ | refine WC.block ?_ | refine WC.condT rfl ?_ | refine WC.condF rfl ?_ | refine WL.off rfl rfl rfl ?_ | refine WL.off0 rfl rfl ?_ | refine WC.exit ?_ | refine blk_hit ?_ | refine blk_miss rfl ?_ | refine WC.ret ?_)
    refine WL.buildS (cs := ints [1]) rfl rfl rfl rfl rfl rfl rfl rfl rfl ?_
    intro b1 w3 hb1
    have hr3 : Hp w2 w3 [Rw (.slice (some ⟨b1, 0, none⟩) 1 1) [1]] := ((Hp.start w2).new hb1).toRow (m := 1) (s := 1) rfl (by decide)
    repeat (first | refine WC.seq ?_ | refine WC.reg ?_ | refine WL.pure rfl rfl rfl ?_ | refine WL.nil ?_ | refine WC.skip ?_ | refine WC.block ?_ | refine WC.condT rfl ?_ | refine WC.condF rfl ?_ | refine WL.off rfl rfl rfl ?_ | refine WL.off0 rfl rfl ?_ | refine WC.exit ?_ | refine blk_hit ?_ | refine blk_miss rfl ?_ | refine WC.ret ?_)
    refine WC.loop (Nat × Value × Value) (fun (i, vf, vz) => [(0, .int .i64 (q : Nat)), (9, vf), (10, vz), (11, .int .i64 (q : Nat)), (62, .slice la l.length lc), (63, .int .i64 (l.length : Nat)), (64, .int .i64 (i : Nat))])
      (fun (i, vf, vz) w' => i ≤ l.length ∧ Hp w2 w' [Rw vf (thL q (Xn l) (Yn l) i).1] ∧ Pd w' vz (thL q (Xn l) (Yn l) i).2) (fun (i, _, _) => l.length - i) (0, .slice none 0 0, _) ⟨rfl, rfl, rfl, rfl, rfl, rfl, rfl, rfl⟩ ⟨Nat.zero_le _, hr3.nil'.nilRw, Pd.row hr3 0 rfl⟩ ?_
    clear hr3 hb1 w3
    rintro ⟨i, vf, vz⟩ w3 ⟨hi, hp3, dz⟩
    repeat (first | refine WC.seq ?_ | refine WC.reg ?_ | refine WL.pure rfl rfl rfl ?_ | refine WL.nil ?_ | refine WC.skip ?_ | refine WC.block ?_ | refine WC.condT rfl ?_ | refine WC.condF rfl ?_ | refine WL.off rfl rfl rfl ?_ | refine WL.off0 rfl rfl ?_ | refine WC.exit ?_ | refine blk_hit ?_ | refine blk_miss rfl ?_ | refine WC.ret ?_)
    refine WC.cond rfl (fun hc2 => ?_) (fun hc2 => ?_)
    · have hi : i < l.length := by have := of_decide_eq_true hc2; omega
      have step : IntKind.i64.wrap ((i : Int) + 1) = ((i + 1 : Nat) : Int) := by rw [wrap_i64_in (by omega) (by omega)]; omega
      have hgi := hG.1 i hi
      have hX := hpts.1 i hi
      have eX : Xz l i = ((Xn l i : Nat) : Int) := by unfold Xn; omega
      have eY : Yz l i = ((Yn l i : Nat) : Int) := by unfold Yn; omega
      have inv := th_inv hq i (hG.less (by omega) : Gd (q : Int) l i).pts
      have hnext : thL q (Xn l) (Yn l) (i + 1) = thStep q (thL q (Xn l) (Yn l) i) (Xn l i) (Yn l i) := rfl
      have invn := th_inv hq (i + 1) (hG.less (by omega) : Gd (q : Int) l (i + 1)).pts
      have hcell := pt_cells hi
      rw [eX, eY] at hcell
      have hznz := inv.vn _ hX.1 (fun j hj => hpts.2 j i hj hi)
      rw [hnext] at invn
      have close : ∀ w' u v, Hp w3 w' [Rw u (thStep q (thL q (Xn l) (Yn l) i) (Xn l i) (Yn l i)).1] → Pd w' v (thStep q (thL q (Xn l) (Yn l) i) (Xn l i) (Yn l i)).2 → (i + 1 ≤ l.length ∧ Hp w2 w' [Rw u (thL q (Xn l) (Yn l) (i + 1)).1] ∧ Pd w' v (thL q (Xn l) (Yn l) (i + 1)).2) :=
        fun w' u v h1 h2 => ⟨hi, hp3.nil'.over h1, h2⟩
      generalize thL q (Xn l) (Yn l) i = s at *
      obtain ⟨F, Zp⟩ := s
      have iF := inv.f
      have iZ := inv.z
      have lF := inv.lf
      have lZ := inv.lz
      have jF := invn.f
      have jZ := invn.z
      simp only at iF iZ lF lZ hznz dz hp3
      unfold thStep at *
      simp only at *
      generalize Xn l i = X at *
      generalize Yn l i = Y at *
      have hvF := valL_lt' hp0 F X
      have hvZ := valL_lt' hp0 Zp X
      have dF := Pd.row hp3 0 rfl
      have hp3 := hp3.nil'
      repeat (first | refine WC.seq ?_ | refine WC.reg ?_ | refine WL.pure rfl rfl rfl ?_ | refine WL.nil ?_ | refine WC.skip ?_ | refine WC.block ?_ | refine WC.condT rfl ?_ | refine WC.condF rfl ?_ | refine WL.off rfl rfl rfl ?_ | refine WL.off0 rfl rfl ?_ | refine WC.exit ?_ | refine blk_hit ?_ | refine blk_miss rfl ?_ | refine WC.ret ?_)
      refine WL.ixloadN (sz := 2) (cs' := [.int .i64 (X : Nat), .int .i64 (Y : Nat)]) rfl (fun _ => rfl) rfl rfl rfl rfl rfl rfl rfl rfl hi rfl rfl (sl2.hp hp3) rfl hcell ?_
      intro pa
      refine WL.var rfl rfl rfl (fun _ => rfl) rfl rfl (by intro y hy; simp [Value.cells] at hy; rcases hy with rfl | rfl <;> rfl) ?_
      intro bx w4 hbx
      have hp4 := (Hp.start w3).new hbx
      have hp1021 : q ≤ 1021 := hq2
      have lF4 : F.length ≤ 40 := by omega
      have lZ4 : Zp.length ≤ 40 := by omega
      have hv0 : valL q Zp X ≠ 0 := hznz
      have hiq := iv_lt hp0 (valL q Zp X)
      repeat (first | refine WC.seq ?_ | refine WC.reg ?_ | refine WL.pure rfl rfl rfl ?_ | refine WL.nil ?_ | refine WC.skip ?_ | refine WC.block ?_ | refine WC.condT rfl ?_ | refine WC.condF rfl ?_ | refine WL.off rfl rfl rfl ?_ | refine WL.off0 rfl rfl ?_ | refine WC.exit ?_ | refine blk_hit ?_ | refine blk_miss rfl ?_ | refine WC.ret ?_)
      refine WC.mid Unit (fun _ => [(0, .int .i64 (q : Nat)), (9, vf), (10, vz), (11, .int .i64 (q : Nat)), (13, .pointer (some ⟨bx, 0, none⟩)), (14, .int .i64 (((Y + (q - valL q F X)) % q * iv q (valL q Zp X) : Nat) : Int)), (62, .slice la l.length lc), (63, .int .i64 (l.length : Nat)), (64, .int .i64 (i : Nat))])
        (fun _ w' => Hp w3 w' [.blk bx (.cells #[.int .i64 (X : Nat), .int .i64 (Y : Nat)] 50 (0, 0))]) ?_ ?_
      · refine WC.regH (fun w' => Hp w3 w' [.blk bx (.cells #[.int .i64 (X : Nat), .int .i64 (Y : Nat)] 50 (0, 0))]) mixed (by kernel_rfl) (fun w5 hw5 hh5 => ?_)
        have hp5 := hp4.keep hw5
        have dF := dF.hp hp5
        have dz := dz.hp hp5
        refine WH.pure 0 (by kernel_rfl) rfl (by kernel_rfl) rfl rfl rfl hp5 ?_
        refine WH.pure 1 (by kernel_rfl) rfl (by kernel_rfl) rfl rfl rfl hp5 ?_
        refine WH.load 2 (by kernel_rfl) rfl (by kernel_rfl) rfl rfl rfl rfl rfl (fun w' h => cell_of_obj (h.obj 0 rfl) rfl) hp5 ?_
        refine WH.pure 3 (by kernel_rfl) rfl (by kernel_rfl) rfl rfl rfl hp5 ?_
        refine WH.pure 4 (by kernel_rfl) rfl (by kernel_rfl) rfl rfl rfl hp5 ?_
        refine WH.pure 5 (by kernel_rfl) rfl (by kernel_rfl) rfl rfl rfl hp5 ?_
        refine WH.load 6 (by kernel_rfl) rfl (by kernel_rfl) rfl rfl rfl rfl rfl (fun w' h => cell_of_obj (h.obj 0 rfl) rfl) hp5 ?_
        refine WH.pure 10 (by kernel_rfl) rfl (by kernel_rfl) rfl rfl rfl hp5 ?_
        refine WH.pure 11 (by kernel_rfl) rfl (by kernel_rfl) rfl rfl rfl hp5 ?_
        refine WH.pure 12 (by kernel_rfl) rfl (by kernel_rfl) rfl rfl rfl hp5 ?_
        refine WH.pure 13 (by kernel_rfl) rfl (by kernel_rfl) rfl rfl rfl hp5 ?_
        refine WH.load 14 (by kernel_rfl) rfl (by kernel_rfl) rfl rfl rfl rfl rfl (fun w' h => cell_of_obj (h.obj 0 rfl) rfl) hp5 ?_
        refine WH.one 7 rfl (by kernel_rfl) ?_
        refine WL.call rfl rfl rfl rfl rfl ent50 (value_pd q X _ F hp0 hp1021 iF hX.1 (by omega) w5 dF) ?_
        rintro _ w6 ⟨rfl, hp6⟩
        have hq6 := hp5.call hp6.below
        refine WL.nil ⟨hq6, ?_⟩
        refine WH.pure 8 (by kernel_rfl) rfl (by kernel_rfl) rfl rfl rfl hq6 ?_
        refine WH.known (d := 76) (congrArg (fun z => some (Value.int .i64 z)) (show IntKind.i64.wrap (((Y : Nat) : Int) - ((valL q F X : Nat) : Int)) = ((Y : Nat) : Int) - ((valL q F X : Nat) : Int) from wrap_mid (by omega) (by omega))) ?_
        refine WH.one 9 rfl (by kernel_rfl) ?_
        refine WL.callP rfl rfl rfl rfl rfl ent54 (mod_any q _ hp0 (by omega) _) ?_
        refine WL.nil ⟨hq6, ?_⟩
        have dz := dz.hp hp6
        refine WH.one 15 rfl (by kernel_rfl) ?_
        refine WL.call rfl rfl rfl rfl rfl ent50 (value_pd q X _ Zp hp0 hp1021 iZ hX.1 (by omega) w6 dz) ?_
        rintro _ w7 ⟨rfl, hp7⟩
        have hq7 := hq6.call hp7.below
        refine WL.nil ⟨hq7, ?_⟩
        refine WH.one 16 rfl (by kernel_rfl) ?_
        refine WL.callP rfl rfl rfl rfl rfl ent55 (inverse_any q _ hq (show 0 < valL q Zp X by omega) hvZ (by omega) _) ?_
        refine WL.nil ⟨hq7, ?_⟩
        refine WH.pure 17 (by kernel_rfl) rfl (by kernel_rfl) rfl rfl rfl hq7 ?_
        refine WH.pure 18 (by kernel_rfl) rfl (by kernel_rfl) rfl rfl rfl hq7 ?_
        refine WH.done (by kernel_rfl) ?_
        have e1 : (((Y : Nat) : Int) - ((valL q F X : Nat) : Int)) % ((q : Nat) : Int) = (((Y + (q - valL q F X)) % q : Nat) : Int) := by
          rw [Int.natCast_emod, show ((Y + (q - valL q F X) : Nat) : Int) = (((Y : Nat) : Int) - ((valL q F X : Nat) : Int)) + (q : Int) by omega, Int.add_emod_right]
        have h4 : (Y + (q - valL q F X)) % q < q := Nat.mod_lt _ hp0
        have e2 : IntKind.i64.wrap ((((Y : Nat) : Int) - ((valL q F X : Nat) : Int)) % ((q : Nat) : Int) * ((iv q (valL q Zp X) : Nat) : Int)) = (((Y + (q - valL q F X)) % q * iv q (valL q Zp X) : Nat) : Int) := by
          rw [e1]
          have h5 : (Y + (q - valL q F X)) % q * iv q (valL q Zp X) ≤ 1021 * 1021 := Nat.mul_le_mul (by omega) (by omega)
          rw [← Int.natCast_mul, wrap_i64_in (by omega) (by omega)]
        exact ⟨(), ⟨rfl, rfl, rfl, rfl, rfl, congrArg (fun z => some (Value.int .i64 z)) e2, rfl, rfl, rfl, rfl⟩, hq7⟩
      rintro ⟨⟩ e2 w5 hsub (hp5 : Hp w3 w5 [.blk bx (.cells #[.int .i64 (X : Nat), .int .i64 (Y : Nat)] 50 (0, 0))])
      refine WC.sub hsub ?_
      have dF := dF.hp hp5
      have dz := dz.hp hp5
      have lS : (scaleL q Zp ((Y + (q - valL q F X)) % q * iv q (valL q Zp X))).length ≤ 1000 := by
        refine Nat.le_trans (scale_le q Zp _) (by omega)
      repeat (first | refine WC.seq ?_ | refine WC.reg ?_ | refine WL.pure rfl rfl rfl ?_ | refine WL.nil ?_ | refine WC.skip ?_ | refine WC.block ?_ | refine WC.condT rfl ?_ | refine WC.condF rfl ?_ | refine WL.off rfl rfl rfl ?_ | refine WL.off0 rfl rfl ?_ | refine WC.exit ?_ | refine blk_hit ?_ | refine blk_miss rfl ?_ | refine WC.ret ?_)
      refine WL.call rfl rfl rfl rfl rfl ent56 (scale_pd q _ _ Zp hq hp1021 iZ (by omega) w5 dz) ?_
      rintro u6 w6 hp6
      refine WL.call rfl rfl rfl rfl rfl ent41 (add_pd q _ _ F _ hq hp1021 iF (scale_isP hq iZ _) (by omega) lS w6 (dF.hp hp6) (Pd.row hp6 0 rfl)) ?_
      rintro u7 w7 hp7
      have hp57 := hp6.nil'.over hp7
      have hp7 := hp5.comb hp57
      have dz := dz.hp hp57
      repeat (first | refine WC.seq ?_ | refine WC.reg ?_ | refine WL.pure rfl rfl rfl ?_ | refine WL.nil ?_ | refine WC.skip ?_ | refine WC.block ?_ | refine WC.condT rfl ?_ | refine WC.condF rfl ?_ | refine WL.off rfl rfl rfl ?_ | refine WL.off0 rfl rfl ?_ | refine WC.exit ?_ | refine blk_hit ?_ | refine blk_miss rfl ?_ | refine WC.ret ?_)
      refine WL.loadB rfl rfl rfl rfl rfl (hp7.obj 1 rfl) rfl ?_
      repeat (first | refine WC.seq ?_ | refine WC.reg ?_ | refine WL.pure rfl rfl rfl ?_ | refine WL.nil ?_ | refine WC.skip ?_ | refine WC.block ?_ | refine WC.condT rfl ?_ | refine WC.condF rfl ?_ | refine WL.off rfl rfl rfl ?_ | refine WL.off0 rfl rfl ?_ | refine WC.exit ?_ | refine blk_hit ?_ | refine blk_miss rfl ?_ | refine WC.ret ?_)
      refine WL.known (d := 98) (congrArg (fun z => some (Value.int .i64 z)) (show IntKind.i64.wrap (0 - ((X : Nat) : Int)) = -((X : Nat) : Int) by rw [wrap_mid (by omega) (by omega)]; omega)) ?_
      refine WL.callP rfl rfl rfl rfl rfl ent54 (mod_any q _ hp0 (by omega) _) ?_
      rw [show -((X : Nat) : Int) % ((q : Nat) : Int) = (((q - X) % q : Nat) : Int) by rw [Int.natCast_emod, show ((q - X : Nat) : Int) = -((X : Nat) : Int) + (q : Int) by omega, Int.add_emod_right]]
      refine WL.buildS (cs := ints [(q - X) % q, 1]) rfl rfl rfl rfl rfl rfl rfl rfl rfl ?_
      intro b8 w8 hb8
      have hp78 := (Hp.start w7).new hb8
      have hr8 : Hp w7 w8 [Rw (.slice (some ⟨b8, 0, none⟩) 2 2) [(q - X) % q, 1]] := hp78.toRow (m := 2) (s := 1) rfl (by decide)
      refine WL.call rfl rfl rfl rfl rfl ent42 (mul_pd q _ _ Zp _ hq hp1021 iZ (lin_isP hq X) (by omega) (by simp) w8 (dz.hp hr8.nil') (Pd.row hr8 0 rfl)) ?_
      rintro u9 w9 hp9
      have hp79 := hr8.nil'.over hp9
      have hpF := hp7.comb hp79
      repeat (first | refine WC.seq ?_ | refine WC.reg ?_ | refine WL.pure rfl rfl rfl ?_ | refine WL.nil ?_ | refine WC.skip ?_ | refine WC.block ?_ | refine WC.condT rfl ?_ | refine WC.condF rfl ?_ | refine WL.off rfl rfl rfl ?_ | refine WL.off0 rfl rfl ?_ | refine WC.exit ?_ | refine blk_hit ?_ | refine blk_miss rfl ?_ | refine WC.ret ?_)
      refine ⟨(i + 1, u7, u9), by show l.length - (i + 1) < l.length - i; omega, ⟨rfl, rfl, rfl, rfl, rfl, rfl, congrArg (fun z => some (Value.int .i64 z)) step, rfl⟩, ?_⟩
      exact close _ _ _ (hpF.subl (by simp)) (Pd.row hpF 0 rfl)
    · have hi : i = l.length := by have := of_decide_eq_false hc2; omega
      subst hi
      repeat (first | refine WC.seq ?_ | refine WC.reg ?_ | refine WL.pure rfl rfl rfl ?_ | refine WL.nil ?_ | refine WC.skip ?_ | refine WC.block ?_ | refine WC.condT rfl ?_ | refine WC.condF rfl ?_ | refine WL.off rfl rfl rfl ?_ | refine WL.off0 rfl rfl ?_ | refine WC.exit ?_ | refine blk_hit ?_ | refine blk_miss rfl ?_ | refine WC.ret ?_)
      refine Res.two rfl rfl rfl rfl ⟨fun h => ?_, fun q' _ e1 _ _ => ?_⟩
      · rcases h with h | h | h
        · cases h
        · omega
        · exact absurd hG h
      · have e1 : q = q' := by omega
        subst e1
        exact ⟨vf, rfl, hp2.over hp3⟩
end Go.Proofs.Ytagfpnnplgkkoaa
