/- ltl, twenty-fifth: the other two tests of run. -/
import Derived.Test.YtpbbneclkhfgoaaDoorU24
namespace Go.Proofs.YtpbbneclkhfgoaaDoor
open Go.W Go.Ltl Go.RowKit
set_option maxRecDepth 100000
attribute [local irreducible] WC WL WQ WS WH

section
variable {P : Program} [T : TT P] {n : Nat} {l0 rest : List Oper} {C : World → Prop} {M : Env → Prop} {e : Env} {ty : TypeId} {pos : String} {aft : Array Edge} {g : Option (Nat × Bool)}
/-- A lookup of a number, in every world of the class. -/
theorem WQ.lookM {d : Nat} {t kt vt : TypeId} {z : Value} {s0 b0 b : Nat} {iv : TI} {x ix : Operand} {l : List (Int × Value)} {k : Int} {v : Value} (hg : grd l0 e g = some true) (hd : Nat.blt d n = true)
    (hK : KeyT P kt iKey) (ht : T.ti t = some ⟨.map kt vt, z, s0, b0⟩) (hv : T.ti vt = some iv) (hx : opv e x = some (.map (some b))) (hix : opv e ix = some (.int .i64 k)) (hb : ∀ w, C w → w.heap[b]? = some (mapO iKey l)) (hl : (kGet l k).getD iv.zero = v)
    (h : Go.W.WQ P n l0 C M rest ((d, v) :: e)) : Go.W.WQ P n l0 C M (⟨some d, .lookup t x ix false, ty, pos, aft, g⟩ :: rest) e :=
  Go.W.WQ.val hg hd (fun w hw => by rw [← hl]; exact yLookM (k := k) (c := false) hK ht hv hx hix (hb w hw)) h
end
/-- What the test of the stem reads. -/
structure Rd2 (w : World) (N b9 b6 b8 b7 : Nat) (of_ : List Nat) (tb fb ob : Nat) (TL FL : List (Int × Value)) (tn : Nat → Bool) (fr : Nat → Nat) (all : Nat) : Prop where
  h9 : w.cell? ⟨b9, 0, none⟩ = some (.map (some tb))
  hT : w.heap[tb]? = some (mapO iKey TL)
  tn : ∀ c : Nat, (kGet TL (c : Int)).getD (.bool false) = .bool (tn c)
  h6 : w.cell? ⟨b6, 0, none⟩ = some (sN ob N)
  hO : Sl w (some ⟨ob, 0, none⟩) (natL of_)
  hN : of_.length = N
  h8 : w.cell? ⟨b8, 0, none⟩ = some (.map (some fb))
  hF : w.heap[fb]? = some (mapO iKey FL)
  fr : ∀ c : Nat, (kGet FL (c : Int)).getD (.int .i64 0) = .int .i64 (fr c : Nat)
  h7 : w.cell? ⟨b7, 0, none⟩ = some (.int .i64 (all : Nat))
theorem Rd2.below {w w' : World} {N b9 b6 b8 b7 : Nat} {of_ : List Nat} {tb fb ob : Nat} {TL FL : List (Int × Value)} {tn : Nat → Bool} {fr : Nat → Nat} {all : Nat} (h : Rd2 w N b9 b6 b8 b7 of_ tb fb ob TL FL tn fr all) (hb : Below w.heap.size w w') : Rd2 w' N b9 b6 b8 b7 of_ tb fb ob TL FL tn fr all :=
  ⟨cell_below hb h.h9, by rw [hb.block tb (Array.getElem?_eq_some_iff.1 h.hT).1]; exact h.hT, h.tn, cell_below hb h.h6, h.hO.below hb, h.hN, cell_below hb h.h8, by rw [hb.block fb (Array.getElem?_eq_some_iff.1 h.hF).1]; exact h.hF, h.fr, cell_below hb h.h7⟩
theorem run2_any {w : World} {N b9 b6 b8 b7 : Nat} {of_ : List Nat} {tb fb ob : Nat} {TL FL : List (Int × Value)} {tn : Nat → Bool} {fr : Nat → Nat} {all : Nat} (h : Rd2 w N b9 b6 b8 b7 of_ tb fb ob TL FL tn fr all) (v : Nat) (hv : v < N) :
    Ret Tryd.prog 91 [.int .i64 (v : Nat), ptr b9, ptr b6, ptr b8, ptr b7] w fun u w' => u = .bool (tn (of_.getD v 0) && decide (fr (of_.getD v 0) = all)) ∧ Hp w w' [] := by
  refine enter Tryd.func91 rfl rfl ⟨rfl, rfl⟩ rfl ?_
  repeat (first | refine WC.seq ?_ | refine WC.reg ?_ | refine WL.pure rfl rfl rfl ?_ | refine WL.nil ?_ | refine WC.skip ?_ | refine WC.block ?_ | refine WC.condT rfl ?_ | refine WC.condF rfl ?_ | refine WL.off rfl rfl rfl ?_ | refine WL.off0 rfl rfl ?_ | refine WC.exit ?_ | refine blk_hit ?_ | refine blk_miss rfl ?_ | refine WC.ret ?_)
  refine WC.regQ (fun w' => Hp w w' []) mixed (by kernel_rfl) (fun w' hw' => (Hp.start w).keep hw') ?_
  refine WQ.load rfl rfl rfl rfl rfl (fun w' q => cell_below q.below h.h9) ?_
  refine WQ.load rfl rfl rfl rfl rfl (fun w' q => cell_below q.below h.h6) ?_
  repeat (first | refine WQ.pure rfl rfl rfl ?_ | refine WQ.off rfl rfl rfl ?_ | refine WQ.nil ?_)
  refine WQ.ixload rfl (fun _ => rfl) rfl rfl rfl rfl rfl rfl rfl hv rfl rfl (fun w' q => Sl.cell (h.hO.hp q) (nd h.hN hv)) ?_
  refine WQ.lookM (k := ((of_.getD v 0 : Nat) : Int)) rfl rfl (keyT_int rfl) rfl rfl rfl rfl (fun w' q => (h.below q.below).hT) (h.tn _) ?_
  repeat (first | refine WQ.pure rfl rfl rfl ?_ | refine WQ.off rfl rfl rfl ?_ | refine WQ.nil ?_)
  refine WQ.split 13 rfl (fun c1 => ?_) (fun c1 => ?_)
  · rw [c1, Bool.true_and]
    refine WQ.load rfl rfl rfl rfl rfl (fun w' q => cell_below q.below h.h8) ?_
    refine WQ.load rfl rfl rfl rfl rfl (fun w' q => cell_below q.below h.h6) ?_
    repeat (first | refine WQ.pure rfl rfl rfl ?_ | refine WQ.off rfl rfl rfl ?_ | refine WQ.nil ?_)
    refine WQ.ixload rfl (fun _ => rfl) rfl rfl rfl rfl rfl rfl rfl hv rfl rfl (fun w' q => Sl.cell (h.hO.hp q) (nd h.hN hv)) ?_
    refine WQ.lookM (k := ((of_.getD v 0 : Nat) : Int)) rfl rfl (keyT_int rfl) rfl rfl rfl rfl (fun w' q => (h.below q.below).hF) (h.fr _) ?_
    refine WQ.load rfl rfl rfl rfl rfl (fun w' q => cell_below q.below h.h7) ?_
    repeat (first | refine WQ.pure rfl rfl rfl ?_ | refine WQ.off rfl rfl rfl ?_ | refine WQ.nil ?_)
    intro w2 hp2
    repeat (first | refine WC.seq ?_ | refine WC.reg ?_ | refine WL.pure rfl rfl rfl ?_ | refine WL.nil ?_ | refine WC.skip ?_ | refine WC.block ?_ | refine WC.condT rfl ?_ | refine WC.condF rfl ?_ | refine WL.off rfl rfl rfl ?_ | refine WL.off0 rfl rfl ?_ | refine WC.exit ?_ | refine blk_hit ?_ | refine blk_miss rfl ?_ | refine WC.ret ?_)
    refine Res.one rfl rfl rfl ⟨?_, hp2⟩
    congr 1
    rw [Bool.eq_iff_iff, beq_iff_eq, decide_eq_true_iff]
    exact Int.ofNat_inj
  · rw [c1, Bool.false_and]
    repeat (first | refine WQ.pure rfl rfl rfl ?_ | refine WQ.off rfl rfl rfl ?_ | refine WQ.nil ?_)
    intro w2 hp2
    repeat (first | refine WC.seq ?_ | refine WC.reg ?_ | refine WL.pure rfl rfl rfl ?_ | refine WL.nil ?_ | refine WC.skip ?_ | refine WC.block ?_ | refine WC.condT rfl ?_ | refine WC.condF rfl ?_ | refine WL.off rfl rfl rfl ?_ | refine WL.off0 rfl rfl ?_ | refine WC.exit ?_ | refine blk_hit ?_ | refine blk_miss rfl ?_ | refine WC.ret ?_)
    exact Res.one rfl rfl rfl ⟨rfl, hp2⟩
theorem run4_any {w : World} {b1 b21 b7 b18 xb : Nat} {nx mk : Value} {starts : Nat} {lv : Value} {pairs : Nat} {wv tv : Value} {fa : Option Addr} {fcap N : Nat} {fair : List Nat} {seen all home : Nat} (h1 : w.cell? ⟨b1, 0, none⟩ = some (ptr xb))
    (hx : w.heap[xb]? = some (Sxo nx mk starts lv pairs wv tv (.slice fa N fcap))) (hf : Sl w fa (natL fair)) (hN : fair.length = N) (hfb : ∀ x ∈ fair, x < 2 ^ 40) (hsb : seen < 2 ^ 40)
    (h21 : w.cell? ⟨b21, 0, none⟩ = some (.int .i64 (seen : Nat))) (h7 : w.cell? ⟨b7, 0, none⟩ = some (.int .i64 (all : Nat))) (h18 : w.cell? ⟨b18, 0, none⟩ = some (.int .i64 (home : Nat))) (v : Nat) (hv : v < N) :
    Ret Tryd.prog 93 [.int .i64 (v : Nat), ptr b1, ptr b21, ptr b7, ptr b18] w fun u w' => u = .bool (loopFits fair all home seen v) ∧ Hp w w' [] := by
  have hc7 : w.cell? ⟨xb, 7, none⟩ = some (.slice fa N fcap) := cell_of_obj (j := 7) hx rfl
  have hfv : fair.getD v 0 < 2 ^ 40 := by
    have : fair.getD v 0 = fair[v]'(by omega) := by simp [hN, hv]
    rw [this]; exact hfb _ (List.getElem_mem _)
  obtain ⟨fb, fo, rfl, hfc⟩ := hf _ _ (nd hN hv)
  have e1 : bits .andNot .i64 ((fair.getD v 0 : Nat) : Int) ((seen : Nat) : Int) = ((bd (fair.getD v 0) seen : Nat) : Int) := andNot_i64 (by omega) (by omega)
  unfold loopFits
  refine enter Tryd.func93 rfl rfl ⟨rfl, rfl⟩ rfl ?_
  repeat (first | refine WC.seq ?_ | refine WC.reg ?_ | refine WL.pure rfl rfl rfl ?_ | refine WL.nil ?_ | refine WC.skip ?_ | refine WC.block ?_ | refine WC.condT rfl ?_ | refine WC.condF rfl ?_ | refine WL.off rfl rfl rfl ?_ | refine WL.off0 rfl rfl ?_ | refine WC.exit ?_ | refine blk_hit ?_ | refine blk_miss rfl ?_ | refine WC.ret ?_)
  refine WC.regQ (fun w' => Hp w w' []) mixed (by kernel_rfl) (fun w' hw' => (Hp.start w).keep hw') ?_
  refine WQ.load rfl rfl rfl rfl rfl (fun w' q => cell_below q.below h1) ?_
  refine WQ.nilC rfl rfl rfl ?_
  repeat (first | refine WQ.pure rfl rfl rfl ?_ | refine WQ.off rfl rfl rfl ?_ | refine WQ.nil ?_)
  refine WQ.load rfl rfl rfl rfl rfl (fun w' q => cell_below q.below hc7) ?_
  repeat (first | refine WQ.pure rfl rfl rfl ?_ | refine WQ.off rfl rfl rfl ?_ | refine WQ.nil ?_)
  refine WQ.ixload rfl (fun _ => rfl) rfl rfl rfl rfl rfl rfl rfl hv rfl rfl (fun w' q => cell_below q.below hfc) ?_
  refine WQ.load rfl rfl rfl rfl rfl (fun w' q => cell_below q.below h21) ?_
  refine WQ.pure rfl rfl rfl ?_
  refine WQ.known (d := 15) (congrArg (fun z => some (Value.int .i64 z)) e1) ?_
  generalize bd (fair.getD v 0) seen = dif at *
  repeat (first | refine WQ.pure rfl rfl rfl ?_ | refine WQ.off rfl rfl rfl ?_ | refine WQ.nil ?_)
  refine WQ.split 17 rfl (fun c1 => ?_) (fun c1 => ?_)
  · have c1 : dif ≠ 0 := by simpa using c1
    rw [decide_eq_true c1, Bool.true_or]
    repeat (first | refine WQ.pure rfl rfl rfl ?_ | refine WQ.off rfl rfl rfl ?_ | refine WQ.nil ?_)
    intro w2 hp2
    repeat (first | refine WC.seq ?_ | refine WC.reg ?_ | refine WL.pure rfl rfl rfl ?_ | refine WL.nil ?_ | refine WC.skip ?_ | refine WC.block ?_ | refine WC.condT rfl ?_ | refine WC.condF rfl ?_ | refine WL.off rfl rfl rfl ?_ | refine WL.off0 rfl rfl ?_ | refine WC.exit ?_ | refine blk_hit ?_ | refine blk_miss rfl ?_ | refine WC.ret ?_)
    exact Res.one rfl rfl rfl ⟨rfl, hp2⟩
  · have c1 : ¬ dif ≠ 0 := by simpa using c1
    rw [decide_eq_false c1, Bool.false_or]
    refine WQ.load rfl rfl rfl rfl rfl (fun w' q => cell_below q.below h21) ?_
    refine WQ.load rfl rfl rfl rfl rfl (fun w' q => cell_below q.below h7) ?_
    repeat (first | refine WQ.pure rfl rfl rfl ?_ | refine WQ.off rfl rfl rfl ?_ | refine WQ.nil ?_)
    refine WQ.split 21 rfl (fun c2 => ?_) (fun c2 => ?_)
    · have c2 : seen = all := Int.ofNat_inj.1 (beq_iff_eq.1 c2)
      rw [decide_eq_true c2, Bool.true_and]
      repeat (first | refine WQ.pure rfl rfl rfl ?_ | refine WQ.off rfl rfl rfl ?_ | refine WQ.nil ?_)
      refine WQ.load rfl rfl rfl rfl rfl (fun w' q => cell_below q.below h18) ?_
      repeat (first | refine WQ.pure rfl rfl rfl ?_ | refine WQ.off rfl rfl rfl ?_ | refine WQ.nil ?_)
      intro w2 hp2
      repeat (first | refine WC.seq ?_ | refine WC.reg ?_ | refine WL.pure rfl rfl rfl ?_ | refine WL.nil ?_ | refine WC.skip ?_ | refine WC.block ?_ | refine WC.condT rfl ?_ | refine WC.condF rfl ?_ | refine WL.off rfl rfl rfl ?_ | refine WL.off0 rfl rfl ?_ | refine WC.exit ?_ | refine blk_hit ?_ | refine blk_miss rfl ?_ | refine WC.ret ?_)
      refine Res.one rfl rfl rfl ⟨?_, hp2⟩
      congr 1
      rw [Bool.eq_iff_iff, beq_iff_eq, decide_eq_true_iff]
      exact Int.ofNat_inj
    · have c2 : ¬ seen = all := fun h => by rw [h] at c2; simp at c2
      rw [decide_eq_false c2, Bool.false_and]
      repeat (first | refine WQ.pure rfl rfl rfl ?_ | refine WQ.off rfl rfl rfl ?_ | refine WQ.nil ?_)
      intro w2 hp2
      repeat (first | refine WC.seq ?_ | refine WC.reg ?_ | refine WL.pure rfl rfl rfl ?_ | refine WL.nil ?_ | refine WC.skip ?_ | refine WC.block ?_ | refine WC.condT rfl ?_ | refine WC.condF rfl ?_ | refine WL.off rfl rfl rfl ?_ | refine WL.off0 rfl rfl ?_ | refine WC.exit ?_ | refine blk_hit ?_ | refine blk_miss rfl ?_ | refine WC.ret ?_)
      exact Res.one rfl rfl rfl ⟨rfl, hp2⟩
end Go.Proofs.YtpbbneclkhfgoaaDoor
