/- Texts on the way to LtlLaws, one behind the other: U58 U59 U61 U32 U33 U34 U35. -/
import Derived.Test.YtpbbneclkhfgoaaDoorG6
section
/- ltl, fifty-eighth: size, everything. -/
namespace Go.Proofs.YtpbbneclkhfgoaaDoor
open Go.W Go.Ltl Go.RowKit
set_option maxRecDepth 100000
set_option linter.unusedSectionVars false
attribute [local irreducible] WC WL WQ WS WH

theorem size_any : ∀ (f : Fm) (w : World), sizeF f ≤ 100000 → Ret Tryd.prog 58 [fmV f] w fun v w' => v = .int .i64 (sizeF f : Nat) ∧ Hp w w' [] := by
  intro f
  induction f with
  | at_ s =>
    intro w _
    refine enter Tryd.func58 rfl rfl ⟨rfl, rfl⟩ rfl ?_
    repeat (first | refine zA ?_ | refine zB ?_ | refine zC rfl rfl rfl ?_ | refine zD ?_ | refine zE ?_ | refine zF ?_ | refine zG rfl ?_ | refine zH rfl ?_ | refine zI rfl rfl rfl ?_ | refine zJ rfl rfl ?_ | refine zK ?_ | refine zL ?_ | refine zM rfl ?_ | refine zN ?_)
    refine WL.val rfl rfl rfl (yAsT rfl rfl rfl) ?_
    repeat (first | refine zA ?_ | refine zB ?_ | refine zC rfl rfl rfl ?_ | refine zD ?_ | refine zE ?_ | refine zF ?_ | refine zG rfl ?_ | refine zH rfl ?_ | refine zI rfl rfl rfl ?_ | refine zJ rfl rfl ?_ | refine zK ?_ | refine zL ?_ | refine zM rfl ?_ | refine zN ?_)
    refine WL.val rfl rfl rfl (yAsT rfl rfl rfl) ?_
    repeat (first | refine zA ?_ | refine zB ?_ | refine zC rfl rfl rfl ?_ | refine zD ?_ | refine zE ?_ | refine zF ?_ | refine zG rfl ?_ | refine zH rfl ?_ | refine zI rfl rfl rfl ?_ | refine zJ rfl rfl ?_ | refine zK ?_ | refine zL ?_ | refine zM rfl ?_ | refine zN ?_)
    exact Res.one rfl rfl rfl ⟨rfl, Hp.start w⟩
  | on_ s f ih =>
    intro w hsz
    unfold sizeF at hsz
    refine enter Tryd.func58 rfl rfl ⟨rfl, rfl⟩ rfl ?_
    repeat (first | refine zA ?_ | refine zB ?_ | refine zC rfl rfl rfl ?_ | refine zD ?_ | refine zE ?_ | refine zF ?_ | refine zG rfl ?_ | refine zH rfl ?_ | refine zI rfl rfl rfl ?_ | refine zJ rfl rfl ?_ | refine zK ?_ | refine zL ?_ | refine zM rfl ?_ | refine zN ?_)
    refine WL.val rfl rfl rfl (yAsT rfl rfl rfl) ?_
    repeat (first | refine zA ?_ | refine zB ?_ | refine zC rfl rfl rfl ?_ | refine zD ?_ | refine zE ?_ | refine zF ?_ | refine zG rfl ?_ | refine zH rfl ?_ | refine zI rfl rfl rfl ?_ | refine zJ rfl rfl ?_ | refine zK ?_ | refine zL ?_ | refine zM rfl ?_ | refine zN ?_)
    refine WL.alloc rfl rfl rfl (fun b2 w2 h2 => ?_)
    have hp2 := (Hp.start w).new h2
    refine WL.storeN rfl rfl rfl rfl rfl (by simp [Value.oneCell', st]; exact fm_one f) (hp2.obj 0 rfl) (Nat.le_refl _) rfl (fun w3 h3 => ?_)
    have hp3 : Hp w w3 [Q1b b2 s f] := hp2.set 0 rfl rfl h3
    repeat (first | refine zA ?_ | refine zB ?_ | refine zC rfl rfl rfl ?_ | refine zD ?_ | refine zE ?_ | refine zF ?_ | refine zG rfl ?_ | refine zH rfl ?_ | refine zI rfl rfl rfl ?_ | refine zJ rfl rfl ?_ | refine zK ?_ | refine zL ?_ | refine zM rfl ?_ | refine zN ?_)
    refine WL.loadB rfl rfl rfl rfl rfl (hp3.obj 0 rfl) (j := 1) rfl ?_
    refine WL.call rfl rfl rfl rfl rfl ent58 (ih w3 (by omega)) ?_
    rintro _ w4 ⟨rfl, hp4⟩
    have e1 : IntKind.i64.wrap (1 + ((sizeF f : Nat) : Int)) = ((1 + sizeF f : Nat) : Int) := by rw [wrap_mid (by omega) (by omega)]; omega
    refine WL.pure rfl rfl rfl ?_
    refine WL.known (d := 12) (congrArg (fun z => some (Value.int .i64 z)) e1) ?_
    repeat (first | refine zA ?_ | refine zB ?_ | refine zC rfl rfl rfl ?_ | refine zD ?_ | refine zE ?_ | refine zF ?_ | refine zG rfl ?_ | refine zH rfl ?_ | refine zI rfl rfl rfl ?_ | refine zJ rfl rfl ?_ | refine zK ?_ | refine zL ?_ | refine zM rfl ?_ | refine zN ?_)
    exact Res.one rfl rfl rfl ⟨rfl, (hp3.comb hp4).nil'⟩
  | tw_ s f g ihf ihg =>
    intro w hsz
    unfold sizeF at hsz
    refine enter Tryd.func58 rfl rfl ⟨rfl, rfl⟩ rfl ?_
    repeat (first | refine zA ?_ | refine zB ?_ | refine zC rfl rfl rfl ?_ | refine zD ?_ | refine zE ?_ | refine zF ?_ | refine zG rfl ?_ | refine zH rfl ?_ | refine zI rfl rfl rfl ?_ | refine zJ rfl rfl ?_ | refine zK ?_ | refine zL ?_ | refine zM rfl ?_ | refine zN ?_)
    refine WL.val rfl rfl rfl (yAsT rfl rfl rfl) ?_
    repeat (first | refine zA ?_ | refine zB ?_ | refine zC rfl rfl rfl ?_ | refine zD ?_ | refine zE ?_ | refine zF ?_ | refine zG rfl ?_ | refine zH rfl ?_ | refine zI rfl rfl rfl ?_ | refine zJ rfl rfl ?_ | refine zK ?_ | refine zL ?_ | refine zM rfl ?_ | refine zN ?_)
    refine WL.val rfl rfl rfl (yAsT rfl rfl rfl) ?_
    repeat (first | refine zA ?_ | refine zB ?_ | refine zC rfl rfl rfl ?_ | refine zD ?_ | refine zE ?_ | refine zF ?_ | refine zG rfl ?_ | refine zH rfl ?_ | refine zI rfl rfl rfl ?_ | refine zJ rfl rfl ?_ | refine zK ?_ | refine zL ?_ | refine zM rfl ?_ | refine zN ?_)
    refine WL.alloc rfl rfl rfl (fun b2 w2 h2 => ?_)
    have hp2 := (Hp.start w).new h2
    refine WL.storeN rfl rfl rfl rfl rfl (by simp [Value.oneCell', st]; exact ⟨fm_one f, fm_one g⟩) (hp2.obj 0 rfl) (Nat.le_refl _) rfl (fun w3 h3 => ?_)
    have hp3 : Hp w w3 [Q2b b2 s f g] := hp2.set 0 rfl rfl h3
    have e1 : IntKind.i64.wrap (1 + ((sizeF f : Nat) : Int)) = ((1 + sizeF f : Nat) : Int) := by rw [wrap_mid (by omega) (by omega)]; omega
    have e2 : IntKind.i64.wrap (((1 + sizeF f : Nat) : Int) + ((sizeF g : Nat) : Int)) = ((1 + sizeF f + sizeF g : Nat) : Int) := by rw [wrap_mid (by omega) (by omega)]; omega
    repeat (first | refine zA ?_ | refine zB ?_ | refine zC rfl rfl rfl ?_ | refine zD ?_ | refine zE ?_ | refine zF ?_ | refine zG rfl ?_ | refine zH rfl ?_ | refine zI rfl rfl rfl ?_ | refine zJ rfl rfl ?_ | refine zK ?_ | refine zL ?_ | refine zM rfl ?_ | refine zN ?_)
    refine WC.regQ (fun w' => Hp w w' [Q2b b2 s f g]) mixed (by kernel_rfl) (fun w' hw' => hp3.keep hw') ?_
    repeat (first | refine WQ.pure rfl rfl rfl ?_ | refine WQ.off rfl rfl rfl ?_ | refine WQ.nil ?_)
    refine WQ.load rfl rfl rfl rfl rfl (fun w' h => cell_of_obj (h.obj 0 rfl) (j := 1) rfl) ?_
    refine WQ.call rfl rfl rfl rfl rfl ent58 (fun w' h => (ihf w' (by omega)).mono fun v w'' hh => ⟨hh.1, h.comb hh.2⟩) ?_
    refine WQ.pure rfl rfl rfl ?_
    refine WQ.known (d := 19) (congrArg (fun z => some (Value.int .i64 z)) e1) ?_
    repeat (first | refine WQ.pure rfl rfl rfl ?_ | refine WQ.off rfl rfl rfl ?_ | refine WQ.nil ?_)
    refine WQ.load rfl rfl rfl rfl rfl (fun w' h => cell_of_obj (h.obj 0 rfl) (j := 2) rfl) ?_
    refine WQ.call rfl rfl rfl rfl rfl ent58 (fun w' h => (ihg w' (by omega)).mono fun v w'' hh => ⟨hh.1, h.comb hh.2⟩) ?_
    refine WQ.pure rfl rfl rfl ?_
    refine WQ.known (d := 23) (congrArg (fun z => some (Value.int .i64 z)) e2) ?_
    repeat (first | refine WQ.pure rfl rfl rfl ?_ | refine WQ.off rfl rfl rfl ?_ | refine WQ.nil ?_)
    intro w4 hp4
    repeat (first | refine zA ?_ | refine zB ?_ | refine zC rfl rfl rfl ?_ | refine zD ?_ | refine zE ?_ | refine zF ?_ | refine zG rfl ?_ | refine zH rfl ?_ | refine zI rfl rfl rfl ?_ | refine zJ rfl rfl ?_ | refine zK ?_ | refine zL ?_ | refine zM rfl ?_ | refine zN ?_)
    exact Res.one rfl rfl rfl ⟨rfl, hp4.nil'⟩
/-- The marks of the structure of all sequences. -/
def M16 (i : Nat) : List Int := (List.range i).map fun k : Nat => (k : Int)
theorem M16_succ (i : Nat) : zs (M16 (i + 1)) = zs (M16 i) ++ [.int .i64 ((i : Nat) : Int)] := by
  unfold M16; rw [List.range_succ, List.map_append, zs_app]; rfl
/-- Its states. -/
def vs16 (ma : Option Addr) (mc : Nat) : Vs := List.replicate 16 (ma, mc, M16 16)
theorem str16 (ma : Option Addr) (mc : Nat) : strB (vs16 ma mc) (M16 16) = true := by
  rw [strB_R]
  unfold rowsOf vs16
  rw [List.map_replicate]
  show strR (List.replicate 16 (M16 16)) (M16 16) = true
  decide +kernel
abbrev E16 (na : Option Addr) (nc : Nat) (ma : Option Addr) (mc : Nat) : List Ent := [.row 22 1 (.slice na 16 nc) 16 (catV (vs16 ma mc)), .row 3 1 (.slice ma 16 mc) 16 (zs (M16 16))]
theorem stc16 {w w' : World} {L : List Ent} {na ma : Option Addr} {nc mc : Nat} (h : Hp w w' L) (hsub : ∀ x ∈ E16 na nc ma mc, x ∈ L) : Stc w' na ma (vs16 ma mc) (M16 16) := by
  have h2 : Sl w' ma (zs (M16 16)) := Sl.of_row (h.sat (.row 3 1 (.slice ma 16 mc) 16 (zs (M16 16))) (hsub _ (by simp)))
  refine ⟨Sl.of_row (h.sat (.row 22 1 (.slice na 16 nc) 16 (catV (vs16 ma mc))) (hsub _ (by simp))), fun x hx => ?_, h2⟩
  rw [(List.mem_replicate.1 hx).2]
  exact h2
theorem everything_any (w : World) : Ret Tryd.prog 59 [] w fun u w' => ∃ na nc ma mc, u = stV na nc ma mc (vs16 ma mc) (M16 16) ∧ Hp w w' (E16 na nc ma mc) := by
  refine enter Tryd.func59 rfl rfl ⟨rfl, rfl⟩ rfl ?_
  repeat (first | refine zA ?_ | refine zB ?_ | refine zC rfl rfl rfl ?_ | refine zD ?_ | refine zE ?_ | refine zF ?_ | refine zG rfl ?_ | refine zH rfl ?_ | refine zI rfl rfl rfl ?_ | refine zJ rfl rfl ?_ | refine zK ?_ | refine zL ?_ | refine zM rfl ?_ | refine zN ?_)
  refine WL.alloc rfl rfl rfl (fun b0 w1 h1 => ?_)
  have hp1 : Hp w w1 [Stb b0 none 0 0 none 0 0] := (Hp.start w).new h1
  repeat (first | refine zA ?_ | refine zB ?_ | refine zC rfl rfl rfl ?_ | refine zD ?_ | refine zE ?_ | refine zF ?_ | refine zG rfl ?_ | refine zH rfl ?_ | refine zI rfl rfl rfl ?_ | refine zJ rfl rfl ?_ | refine zK ?_ | refine zL ?_ | refine zM rfl ?_ | refine zN ?_)
  refine WL.alloc rfl rfl rfl (fun b1 w2 h2 => ?_)
  have hp2 : Hp w w2 [Stb b1 none 0 0 none 0 0, Stb b0 none 0 0 none 0 0] := hp1.new h2
  repeat (first | refine zA ?_ | refine zB ?_ | refine zC rfl rfl rfl ?_ | refine zD ?_ | refine zE ?_ | refine zF ?_ | refine zG rfl ?_ | refine zH rfl ?_ | refine zI rfl rfl rfl ?_ | refine zJ rfl rfl ?_ | refine zK ?_ | refine zL ?_ | refine zM rfl ?_ | refine zN ?_)
  refine WC.loop (Nat × Option Addr × Nat) (fun (i, _) => [(0, ptr b0), (1, ptr b1), (3, .int .i64 (i : Nat))])
    (fun (i, ma, mc) w' => i ≤ 16 ∧ Hp w w' [Stb b1 none 0 0 ma i mc, .row 3 1 (.slice ma i mc) i (zs (M16 i)), Stb b0 none 0 0 none 0 0]) (fun (i, _) => 16 - i) (0, none, 0) ⟨rfl, rfl, rfl, rfl⟩ ⟨Nat.zero_le _, (hp2.nilrow 3 1).pick [1, 0, 2] (by decide)⟩ ?_
  clear hp1 hp2 h1 h2
  rintro ⟨i, ma, mc⟩ w3 ⟨hi, hp3⟩
  replace hi : i ≤ 16 := hi
  replace hp3 : Hp w w3 [Stb b1 none 0 0 ma i mc, .row 3 1 (.slice ma i mc) i (zs (M16 i)), Stb b0 none 0 0 none 0 0] := hp3
  repeat (first | refine zA ?_ | refine zB ?_ | refine zC rfl rfl rfl ?_ | refine zD ?_ | refine zE ?_ | refine zF ?_ | refine zG rfl ?_ | refine zH rfl ?_ | refine zI rfl rfl rfl ?_ | refine zJ rfl rfl ?_ | refine zK ?_ | refine zL ?_ | refine zM rfl ?_ | refine zN ?_)
  refine WC.cond rfl (fun g => ?_) (fun g => ?_)
  · have hi : i < 16 := by have h : ((i : Nat) : Int) < 16 := of_decide_eq_true g; omega
    have step := wrap_succ (i := i) (n := i + 1) (by omega) (by omega)
    repeat (first | refine zA ?_ | refine zB ?_ | refine zC rfl rfl rfl ?_ | refine zD ?_ | refine zE ?_ | refine zF ?_ | refine zG rfl ?_ | refine zH rfl ?_ | refine zI rfl rfl rfl ?_ | refine zJ rfl rfl ?_ | refine zK ?_ | refine zL ?_ | refine zM rfl ?_ | refine zN ?_)
    refine WL.loadB rfl rfl rfl rfl rfl (hp3.obj 0 rfl) (j := 1) rfl ?_
    repeat (first | refine zA ?_ | refine zB ?_ | refine zC rfl rfl rfl ?_ | refine zD ?_ | refine zE ?_ | refine zF ?_ | refine zG rfl ?_ | refine zH rfl ?_ | refine zI rfl rfl rfl ?_ | refine zJ rfl rfl ?_ | refine zK ?_ | refine zL ?_ | refine zM rfl ?_ | refine zN ?_)
    refine WL.buildS (cs := [.int .i64 (i : Nat)]) rfl rfl rfl rfl rfl rfl rfl rfl rfl (fun b9 w4 h4 => ?_)
    have hp4 := hp3.new h4
    refine WL.append 2 hp4 rfl rfl rfl rfl rfl (by decide) rfl rfl rfl (news := [.int .i64 (i : Nat)]) (Sl.of_obj (hp4.obj 0 rfl) (fun q u hq => by simpa using hq)) rfl (zs_cells [((i : Nat) : Int)]) (by unfold maxLen; omega) (by show (i + 1) * 8 ≤ _; omega) ?_
    intro pa pc w5 hp5 _
    replace hp5 : Hp w w5 [Stb b1 none 0 0 ma i mc, .row 3 1 (.slice pa (i + 1) pc) (i + 1) (zs (M16 i) ++ [.int .i64 (i : Nat)]), Stb b0 none 0 0 none 0 0] := hp5.tail
    rw [← M16_succ] at hp5
    repeat (first | refine zA ?_ | refine zB ?_ | refine zC rfl rfl rfl ?_ | refine zD ?_ | refine zE ?_ | refine zF ?_ | refine zG rfl ?_ | refine zH rfl ?_ | refine zI rfl rfl rfl ?_ | refine zJ rfl rfl ?_ | refine zK ?_ | refine zL ?_ | refine zM rfl ?_ | refine zN ?_)
    refine WL.store rfl rfl rfl rfl rfl rfl (hp5.obj 0 rfl) (Nat.lt_succ_self 1) (fun w6 h6 => ?_)
    have hp6 := hp5.set 0 rfl rfl h6
    repeat (first | refine zA ?_ | refine zB ?_ | refine zC rfl rfl rfl ?_ | refine zD ?_ | refine zE ?_ | refine zF ?_ | refine zG rfl ?_ | refine zH rfl ?_ | refine zI rfl rfl rfl ?_ | refine zJ rfl rfl ?_ | refine zK ?_ | refine zL ?_ | refine zM rfl ?_ | refine zN ?_)
    exact ⟨(i + 1, pa, pc), (by show 16 - (i + 1) < 16 - i; omega), ⟨rfl, rfl, congrArg (fun z => some (Value.int .i64 z)) step, rfl⟩, hi, hp6⟩
  have hi : i = 16 := by have h : ¬ ((i : Nat) : Int) < 16 := of_decide_eq_false g; omega
  subst hi
  repeat (first | refine zA ?_ | refine zB ?_ | refine zC rfl rfl rfl ?_ | refine zD ?_ | refine zE ?_ | refine zF ?_ | refine zG rfl ?_ | refine zH rfl ?_ | refine zI rfl rfl rfl ?_ | refine zJ rfl rfl ?_ | refine zK ?_ | refine zL ?_ | refine zM rfl ?_ | refine zN ?_)
  refine WC.loop (Nat × Option Addr × Nat) (fun (i, _) => [(0, ptr b0), (1, ptr b1), (13, .int .i64 (i : Nat))])
    (fun (i, na, nc) w' => i ≤ 16 ∧ Hp w w' [Stb b1 na i nc ma 16 mc, .row 22 1 (.slice na i nc) i (catV (List.replicate i (ma, mc, M16 16))), .row 3 1 (.slice ma 16 mc) 16 (zs (M16 16)), Stb b0 none 0 0 none 0 0]) (fun (i, _) => 16 - i) (0, none, 0) ⟨rfl, rfl, rfl, rfl⟩ ⟨Nat.zero_le _, (hp3.nilrow 22 1).pick [1, 0, 2, 3] (by decide)⟩ ?_
  clear hp3
  rintro ⟨i, na, nc⟩ w4 ⟨hi, hp4⟩
  replace hi : i ≤ 16 := hi
  replace hp4 : Hp w w4 [Stb b1 na i nc ma 16 mc, .row 22 1 (.slice na i nc) i (catV (List.replicate i (ma, mc, M16 16))), .row 3 1 (.slice ma 16 mc) 16 (zs (M16 16)), Stb b0 none 0 0 none 0 0] := hp4
  repeat (first | refine zA ?_ | refine zB ?_ | refine zC rfl rfl rfl ?_ | refine zD ?_ | refine zE ?_ | refine zF ?_ | refine zG rfl ?_ | refine zH rfl ?_ | refine zI rfl rfl rfl ?_ | refine zJ rfl rfl ?_ | refine zK ?_ | refine zL ?_ | refine zM rfl ?_ | refine zN ?_)
  refine WC.cond rfl (fun g2 => ?_) (fun g2 => ?_)
  · have hi : i < 16 := by have h : ((i : Nat) : Int) < 16 := of_decide_eq_true g2; omega
    have step := wrap_succ (i := i) (n := i + 1) (by omega) (by omega)
    repeat (first | refine zA ?_ | refine zB ?_ | refine zC rfl rfl rfl ?_ | refine zD ?_ | refine zE ?_ | refine zF ?_ | refine zG rfl ?_ | refine zH rfl ?_ | refine zI rfl rfl rfl ?_ | refine zJ rfl rfl ?_ | refine zK ?_ | refine zL ?_ | refine zM rfl ?_ | refine zN ?_)
    refine WL.loadB rfl rfl rfl rfl rfl (hp4.obj 0 rfl) (j := 0) rfl ?_
    refine WL.pure rfl rfl rfl ?_
    refine WL.loadB rfl rfl rfl rfl rfl (hp4.obj 0 rfl) (j := 1) rfl ?_
    refine WL.buildS (cs := [.slice ma 16 mc]) rfl rfl rfl rfl rfl rfl rfl rfl rfl (fun b9 w5 h5 => ?_)
    have hp5 := hp4.new h5
    refine WL.append 2 hp5 rfl rfl rfl rfl rfl (by decide) rfl rfl rfl (news := [.slice ma 16 mc]) (Sl.of_obj (hp5.obj 0 rfl) (fun q u hq => by simpa using hq)) rfl (Cells.cons rfl Cells.nil) (by unfold maxLen; omega) (by show (i + 1) * 24 ≤ _; omega) ?_
    intro pa pc w6 hp6 _
    have hp6 := hp6.tail
    replace hp6 : Hp w w6 [Stb b1 na i nc ma 16 mc, .row 22 1 (.slice pa (i + 1) pc) (i + 1) (catV (List.replicate i (ma, mc, M16 16)) ++ [.slice ma 16 mc]), .row 3 1 (.slice ma 16 mc) 16 (zs (M16 16)), Stb b0 none 0 0 none 0 0] := hp6
    have e : catV (List.replicate i (ma, mc, M16 16)) ++ [.slice ma 16 mc] = catV (List.replicate (i + 1) (ma, mc, M16 16)) := by
      rw [List.replicate_succ', catV_snoc]; rfl
    rw [e] at hp6
    repeat (first | refine zA ?_ | refine zB ?_ | refine zC rfl rfl rfl ?_ | refine zD ?_ | refine zE ?_ | refine zF ?_ | refine zG rfl ?_ | refine zH rfl ?_ | refine zI rfl rfl rfl ?_ | refine zJ rfl rfl ?_ | refine zK ?_ | refine zL ?_ | refine zM rfl ?_ | refine zN ?_)
    refine WL.store rfl rfl rfl rfl rfl rfl (hp6.obj 0 rfl) (Nat.succ_pos 1) (fun w7 h7 => ?_)
    have hp7 := hp6.set 0 rfl rfl h7
    repeat (first | refine zA ?_ | refine zB ?_ | refine zC rfl rfl rfl ?_ | refine zD ?_ | refine zE ?_ | refine zF ?_ | refine zG rfl ?_ | refine zH rfl ?_ | refine zI rfl rfl rfl ?_ | refine zJ rfl rfl ?_ | refine zK ?_ | refine zL ?_ | refine zM rfl ?_ | refine zN ?_)
    exact ⟨(i + 1, pa, pc), (by show 16 - (i + 1) < 16 - i; omega), ⟨rfl, rfl, congrArg (fun z => some (Value.int .i64 z)) step, rfl⟩, hi, hp7⟩
  have hi : i = 16 := by have h : ¬ ((i : Nat) : Int) < 16 := of_decide_eq_false g2; omega
  subst hi
  repeat (first | refine zA ?_ | refine zB ?_ | refine zC rfl rfl rfl ?_ | refine zD ?_ | refine zE ?_ | refine zF ?_ | refine zG rfl ?_ | refine zH rfl ?_ | refine zI rfl rfl rfl ?_ | refine zJ rfl rfl ?_ | refine zK ?_ | refine zL ?_ | refine zM rfl ?_ | refine zN ?_)
  refine WL.loadN rfl rfl rfl rfl rfl (cs := [.slice na 16 nc, .slice ma 16 mc]) rfl (fun q v hq => cell_of_obj (hp4.obj 0 rfl) (by rw [Nat.zero_add]; simpa using hq)) ?_
  refine WL.storeN rfl rfl rfl rfl rfl (by simp [Value.oneCell']) (hp4.obj 3 rfl) (Nat.le_refl _) rfl (fun w5 h5 => ?_)
  have hp5 := hp4.set 3 rfl rfl h5
  repeat (first | refine zA ?_ | refine zB ?_ | refine zC rfl rfl rfl ?_ | refine zD ?_ | refine zE ?_ | refine zF ?_ | refine zG rfl ?_ | refine zH rfl ?_ | refine zI rfl rfl rfl ?_ | refine zJ rfl rfl ?_ | refine zK ?_ | refine zL ?_ | refine zM rfl ?_ | refine zN ?_)
  exact Res.cell rfl rfl rfl rfl rfl rfl (hp5.obj 3 rfl) ⟨na, nc, ma, mc, rfl, hp5.pick [1, 2] (by decide)⟩
end Go.Proofs.YtpbbneclkhfgoaaDoor
end
section
/- ltl, fifty-ninth: Same. -/
namespace Go.Proofs.YtpbbneclkhfgoaaDoor
open Go.W Go.Ltl Go.RowKit
set_option maxRecDepth 100000
set_option linter.unusedSectionVars false
attribute [local irreducible] WC WL WQ WS WH

/-- True of the same sequences of marks. -/
def SameA (a b : Fm) : Prop := ∀ σ : Nat → Int, (∀ i, 0 ≤ σ i ∧ σ i ≤ 15) → (satS σ a 0 ↔ satS σ b 0)
/-- A lasso of marks that tells them apart. -/
structure LassoD (a b : Fm) (stem loop : List Nat) : Prop where
  ne1 : stem ≠ []
  ne2 : loop ≠ []
  l1 : stem.length ≤ 32768
  l2 : loop.length ≤ 32768
  lt : ∀ v ∈ stem ++ loop, v < 16
  df : ¬ (satS (seqL (upN stem ++ upN loop) stem.length) a 0 ↔ satS (seqL (upN stem ++ upN loop) stem.length) b 0)
theorem seqL_mem {l : List Int} {lp : Nat} (h : lp < l.length) (i : Nat) : seqL l lp i ∈ l := by
  unfold seqL
  rw [List.getD_eq_getElem?_getD, List.getElem?_eq_getElem (pos_lt h i)]
  exact List.getElem_mem _
theorem LassoD.not {a b : Fm} {stem loop : List Nat} (h : LassoD a b stem loop) : ¬ SameA a b := fun k => h.df (k _ fun i => by
  have hm := seqL_mem (l := upN stem ++ upN loop) (lp := stem.length) (by rw [List.length_append, upN_len, upN_len]; have := List.length_pos_iff.2 h.ne2; omega) i
  rw [← upN_app] at hm
  obtain ⟨v, hv, he⟩ := List.mem_map.1 hm
  have := h.lt v hv
  rw [← upN_app, ← he]
  omega)
theorem M16_get {v : Nat} (h : v < 16) : (M16 16).getD v 0 = ((v : Nat) : Int) := by
  unfold M16
  rw [List.getD_eq_getElem?_getD, List.getElem?_map, List.getElem?_range h]; rfl
theorem nx16_get (ma : Option Addr) (mc : Nat) {v : Nat} (h : v < 16) (u : Nat) : u ∈ (nxOf (vs16 ma mc)).getD v [] ↔ u < 16 := by
  have e : (nxOf (vs16 ma mc)).getD v [] = List.range 16 := by
    unfold nxOf vs16
    rw [List.map_replicate, List.getD_eq_getElem?_getD, List.getElem?_replicate, if_pos h]
    show (M16 16).map Int.toNat = List.range 16
    decide
  rw [e, List.mem_range]
/-- The search of all sequences. -/
theorem srch16 (ma : Option Addr) (mc : Nat) {p : Fm} (hwf : wfF p) (hw : wgt (kinds p) ≤ 11) :
    (srchM 1099511627776 1048576 (nxOf (vs16 ma mc)) (M16 16) p (vs16 ma mc).length = some none ∧ ∀ σ : Nat → Int, (∀ i, 0 ≤ σ i ∧ σ i ≤ 15) → ¬ satS σ p 0) ∨
    ∃ stem loop, srchM 1099511627776 1048576 (nxOf (vs16 ma mc)) (M16 16) p (vs16 ma mc).length = some (some (stem, loop)) ∧ stem ≠ [] ∧ loop ≠ [] ∧ stem.length ≤ 32768 ∧ loop.length ≤ 32768 ∧ (∀ v ∈ stem ++ loop, v < 16) ∧ satS (seqL (upN stem ++ upN loop) stem.length) p 0 := by
  have hok := strB_ok (str16 ma mc)
  have hlen : (vs16 ma mc).length = 16 := rfl
  have hsr : SrOk (nxOf (vs16 ma mc)) (M16 16) (vs16 ma mc).length := ⟨hok.sr.len, hok.sr.hi, hok.sr.row, by rw [nxOf_len]; exact Nat.le_refl _⟩
  rcases srchM_ok (F := 1099511627776) (G := 1048576) hsr hwf hw (Nat.le_refl _) (Nat.le_refl _) with ⟨h1, h2⟩ | ⟨stem, loop, h1, h2, h3, h4, h5, h6, h7⟩
  · refine .inl ⟨h1, fun σ hσ hs => h2 (fun i => (σ i).toNat) ⟨?_, fun i => ?_⟩ ?_⟩
    · have := hσ 0; show (σ 0).toNat < _; rw [hlen]; omega
    · have a1 := hσ i
      have a2 := hσ (i + 1)
      exact (nx16_get ma mc (v := (σ i).toNat) (by omega) (σ (i + 1)).toNat).2 (by omega)
    · refine (satS_congr (a := 0) (b := 0) (fun k => ?_) p 0).1 hs
      have := hσ k
      rw [Nat.zero_add, M16_get (by omega)]
      omega
  · have hlp : stem.length < (stem ++ loop).length := by rw [List.length_append]; have := List.length_pos_iff.2 h3; omega
    have hlt : ∀ v ∈ stem ++ loop, v < 16 := by
      intro v hv
      obtain ⟨q, hq, rfl⟩ := List.getElem_of_mem hv
      have := (getD_row (h6.2 q)).1
      simp only [nxOf_len, hlen, pos_small hlp hq, List.getD_eq_getElem?_getD, List.getElem?_eq_getElem hq, Option.getD_some] at this
      exact this
    refine .inr ⟨stem, loop, h1, h2, h3, h4, h5, hlt, ?_⟩
    have e : ((stem ++ loop).map fun v => (M16 16).getD v 0) = upN stem ++ upN loop := by
      rw [← upN_app]
      unfold upN
      apply List.map_congr_left
      intro v hv
      exact M16_get (hlt v hv)
    rwa [e] at h7
/-- One is true and the other is not. -/
def tellF (a b : Fm) (k : Nat) : Fm := if k = 0 then .tw_ wAnd (pushM a false) (pushM b true) else .tw_ wAnd (pushM a true) (pushM b false)
theorem tell_sat {a b : Fm} (ha : wfF a) (hb : wfF b) (σ : Nat → Int) (k : Nat) : satS σ (tellF a b k) 0 ↔ if k = 0 then satS σ a 0 ∧ ¬ satS σ b 0 else ¬ satS σ a 0 ∧ satS σ b 0 := by
  unfold tellF
  split
  · show (if wAnd = wAnd then _ else _) ↔ _
    rw [if_pos rfl, push_sat σ a false 0 ha, push_sat σ b true 0 hb, if_neg (by decide), if_pos rfl]
  · show (if wAnd = wAnd then _ else _) ↔ _
    rw [if_pos rfl, push_sat σ a true 0 ha, push_sat σ b false 0 hb, if_pos rfl, if_neg (by decide)]
theorem tell_wf {a b : Fm} (ha : wfF a) (hb : wfF b) (k : Nat) : wfF (tellF a b k) := by
  unfold tellF
  split
  · exact ⟨by decide, pushM_wf a _ ha, pushM_wf b _ hb⟩
  · exact ⟨by decide, pushM_wf a _ ha, pushM_wf b _ hb⟩
theorem tell_wgt {a b : Fm} (ha : wfF a) (hb : wfF b) (k : Nat) (h : sizeF a + sizeF b ≤ 12) : wgt (kinds (tellF a b k)) ≤ 11 := by
  have key : ∀ c d, wgt (kinds (.tw_ wAnd (pushM a c) (pushM b d))) ≤ 11 := fun c d => by
    have h1 := push_wgt a c ha
    have h2 := push_wgt b d hb
    unfold kinds
    rw [if_pos (.inl rfl), List.append_nil, wgt_app]
    omega
  unfold tellF
  split
  · exact key _ _
  · exact key _ _
/-- What Same answers. -/
def ShapeS (s t : Str) (hb : Bool) (sa : Option Addr) (sl sc : Nat) (qa : Option Addr) (ql qc : Nat) (ec : Int) (E : List Ent) : Prop :=
  ((parseM s = none ∨ parseM t = none) ∧ ec = 4 ∧ hb = false ∧ sl = 0 ∧ ql = 0) ∨
  ∃ a b, parseM s = some a ∧ parseM t = some b ∧ ((12 < sizeF a + sizeF b ∧ ec = 5 ∧ hb = false ∧ sl = 0 ∧ ql = 0) ∨
    (sizeF a + sizeF b ≤ 12 ∧ ec = 0 ∧ ((hb = true ∧ SameA a b ∧ sl = 0 ∧ ql = 0) ∨ (hb = false ∧ ∃ stem loop, LassoD a b stem loop ∧ sl = stem.length ∧ ql = loop.length ∧ E = [Rna (.slice qa loop.length qc) loop.length loop, Rna (.slice sa stem.length sc) stem.length stem]))))
theorem Same_any (s t : Str) (hs : s.length ≤ 2000) (ht : t.length ≤ 2000) (w : World) (hG : Gl w) :
    Ret Tryd.prog 30 [st s, st t] w fun v w' => ∃ (hb : Bool) (sa : Option Addr) (sl sc : Nat) (qa : Option Addr) (ql qc : Nat) (ec : Int) (E : List Ent), v = .tuple #[.agg #[.bool hb, .slice sa sl sc, .slice qa ql qc], .int .i64 ec] ∧ Hp w w' E ∧ ShapeS s t hb sa sl sc qa ql qc ec E := by
  refine enter Tryd.func30 rfl rfl ⟨rfl, rfl⟩ rfl ?_
  repeat (first | refine zA ?_ | refine zB ?_ | refine zC rfl rfl rfl ?_ | refine zD ?_ | refine zE ?_ | refine zF ?_ | refine zG rfl ?_ | refine zH rfl ?_ | refine zI rfl rfl rfl ?_ | refine zJ rfl rfl ?_ | refine zK ?_ | refine zL ?_ | refine zM rfl ?_ | refine zN ?_)
  refine WL.alloc rfl rfl rfl (fun b4 w1 h1 => ?_)
  have hp1 : Hp w w1 [Rb b4 false none 0 0 none 0 0] := (Hp.start w).new h1
  repeat (first | refine zA ?_ | refine zB ?_ | refine zC rfl rfl rfl ?_ | refine zD ?_ | refine zE ?_ | refine zF ?_ | refine zG rfl ?_ | refine zH rfl ?_ | refine zI rfl rfl rfl ?_ | refine zJ rfl rfl ?_ | refine zK ?_ | refine zL ?_ | refine zM rfl ?_ | refine zN ?_)
  refine WL.call rfl rfl rfl rfl rfl ent48 (parse_any s hs w1 (hG.hp hp1)) ?_
  rintro v1 w2 ⟨hv1, hp2⟩
  have hp2 := hp1.call hp2.below
  obtain ⟨x1, e1, rfl, hx1⟩ : ∃ (x1 : Value) (e1 : Int), v1 = .tuple #[x1, .int .i64 e1] ∧ ((∃ f, parseM s = some f ∧ x1 = fmV f ∧ e1 = 0) ∨ (parseM s = none ∧ e1 = 4)) := by
    rcases hv1 with ⟨f, hf, rfl⟩ | ⟨hf, x, rfl⟩
    · exact ⟨_, _, rfl, .inl ⟨f, hf, rfl, rfl⟩⟩
    · exact ⟨_, _, rfl, .inr ⟨hf, rfl⟩⟩
  clear hv1
  repeat (first | refine zA ?_ | refine zB ?_ | refine zC rfl rfl rfl ?_ | refine zD ?_ | refine zE ?_ | refine zF ?_ | refine zG rfl ?_ | refine zH rfl ?_ | refine zI rfl rfl rfl ?_ | refine zJ rfl rfl ?_ | refine zK ?_ | refine zL ?_ | refine zM rfl ?_ | refine zN ?_)
  refine WL.call rfl rfl rfl rfl rfl ent48 (parse_any t ht w2 (hG.hp hp2)) ?_
  rintro v2 w3 ⟨hv2, hp3⟩
  have hp3 := hp2.call hp3.below
  obtain ⟨x2, e2, rfl, hx2⟩ : ∃ (x2 : Value) (e2 : Int), v2 = .tuple #[x2, .int .i64 e2] ∧ ((∃ f, parseM t = some f ∧ x2 = fmV f ∧ e2 = 0) ∨ (parseM t = none ∧ e2 = 4)) := by
    rcases hv2 with ⟨f, hf, rfl⟩ | ⟨hf, x, rfl⟩
    · exact ⟨_, _, rfl, .inl ⟨f, hf, rfl, rfl⟩⟩
    · exact ⟨_, _, rfl, .inr ⟨hf, rfl⟩⟩
  clear hv2 hp1 hp2 h1
  rcases hx1 with ⟨a, ha, rfl, rfl⟩ | ⟨ha, rfl⟩
  rotate_left
  · repeat (first | refine zA ?_ | refine zB ?_ | refine zC rfl rfl rfl ?_ | refine zD ?_ | refine zE ?_ | refine zF ?_ | refine zG rfl ?_ | refine zH rfl ?_ | refine zI rfl rfl rfl ?_ | refine zJ rfl rfl ?_ | refine zK ?_ | refine zL ?_ | refine zM rfl ?_ | refine zN ?_)
    refine WL.buildT (cs := [.bool false, .slice none 0 0, .slice none 0 0]) rfl rfl rfl rfl rfl rfl ?_
    refine WL.storeN rfl rfl rfl rfl rfl (by simp [Value.oneCell']) (hp3.obj 0 rfl) (Nat.le_refl _) rfl (fun w4 h4 => ?_)
    have hp4 := hp3.set 0 rfl rfl h4
    repeat (first | refine zA ?_ | refine zB ?_ | refine zC rfl rfl rfl ?_ | refine zD ?_ | refine zE ?_ | refine zF ?_ | refine zG rfl ?_ | refine zH rfl ?_ | refine zI rfl rfl rfl ?_ | refine zJ rfl rfl ?_ | refine zK ?_ | refine zL ?_ | refine zM rfl ?_ | refine zN ?_)
    exact Res.cellT rfl rfl rfl rfl rfl rfl rfl (hp4.obj 0 rfl) ⟨false, none, 0, 0, none, 0, 0, 4, [], rfl, hp4.nil', .inl ⟨.inl ha, rfl, rfl, rfl, rfl⟩⟩
  rcases hx2 with ⟨b, hb, rfl, rfl⟩ | ⟨hb, rfl⟩
  rotate_left
  · repeat (first | refine zA ?_ | refine zB ?_ | refine zC rfl rfl rfl ?_ | refine zD ?_ | refine zE ?_ | refine zF ?_ | refine zG rfl ?_ | refine zH rfl ?_ | refine zI rfl rfl rfl ?_ | refine zJ rfl rfl ?_ | refine zK ?_ | refine zL ?_ | refine zM rfl ?_ | refine zN ?_)
    refine WL.buildT (cs := [.bool false, .slice none 0 0, .slice none 0 0]) rfl rfl rfl rfl rfl rfl ?_
    refine WL.storeN rfl rfl rfl rfl rfl (by simp [Value.oneCell']) (hp3.obj 0 rfl) (Nat.le_refl _) rfl (fun w4 h4 => ?_)
    have hp4 := hp3.set 0 rfl rfl h4
    repeat (first | refine zA ?_ | refine zB ?_ | refine zC rfl rfl rfl ?_ | refine zD ?_ | refine zE ?_ | refine zF ?_ | refine zG rfl ?_ | refine zH rfl ?_ | refine zI rfl rfl rfl ?_ | refine zJ rfl rfl ?_ | refine zK ?_ | refine zL ?_ | refine zM rfl ?_ | refine zN ?_)
    exact Res.cellT rfl rfl rfl rfl rfl rfl rfl (hp4.obj 0 rfl) ⟨false, none, 0, 0, none, 0, 0, 4, [], rfl, hp4.nil', .inl ⟨.inr hb, rfl, rfl, rfl, rfl⟩⟩
  have hwa := parseM_wf ha
  have hwb := parseM_wf hb
  have hza := (parseM_sz ha).2
  have hzb := (parseM_sz hb).2
  repeat (first | refine zA ?_ | refine zB ?_ | refine zC rfl rfl rfl ?_ | refine zD ?_ | refine zE ?_ | refine zF ?_ | refine zG rfl ?_ | refine zH rfl ?_ | refine zI rfl rfl rfl ?_ | refine zJ rfl rfl ?_ | refine zK ?_ | refine zL ?_ | refine zM rfl ?_ | refine zN ?_)
  refine WL.call rfl rfl rfl rfl rfl ent58 (size_any a w3 (by omega)) ?_
  rintro _ w4 ⟨rfl, hp4⟩
  have hp4 := hp3.call hp4.below
  repeat (first | refine zA ?_ | refine zB ?_ | refine zC rfl rfl rfl ?_ | refine zD ?_ | refine zE ?_ | refine zF ?_ | refine zG rfl ?_ | refine zH rfl ?_ | refine zI rfl rfl rfl ?_ | refine zJ rfl rfl ?_ | refine zK ?_ | refine zL ?_ | refine zM rfl ?_ | refine zN ?_)
  refine WL.call rfl rfl rfl rfl rfl ent58 (size_any b w4 (by omega)) ?_
  rintro _ w5 ⟨rfl, hp5⟩
  have hp5 := hp4.call hp5.below
  clear hp3 hp4
  refine WL.pure rfl rfl rfl ?_
  refine WL.known (d := 37) (congrArg (fun z => some (Value.int .i64 z)) (show IntKind.i64.wrap (((sizeF a : Nat) : Int) + ((sizeF b : Nat) : Int)) = ((sizeF a + sizeF b : Nat) : Int) by rw [wrap_mid (by omega) (by omega)]; omega)) ?_
  repeat (first | refine zA ?_ | refine zB ?_ | refine zC rfl rfl rfl ?_ | refine zD ?_ | refine zE ?_ | refine zF ?_ | refine zG rfl ?_ | refine zH rfl ?_ | refine zI rfl rfl rfl ?_ | refine zJ rfl rfl ?_ | refine zK ?_ | refine zL ?_ | refine zM rfl ?_ | refine zN ?_)
  refine WC.cond rfl (fun c => ?_) (fun c => ?_)
  · have c : 12 < sizeF a + sizeF b := by have c : (12 : Int) < ((sizeF a + sizeF b : Nat) : Int) := of_decide_eq_true c; omega
    repeat (first | refine zA ?_ | refine zB ?_ | refine zC rfl rfl rfl ?_ | refine zD ?_ | refine zE ?_ | refine zF ?_ | refine zG rfl ?_ | refine zH rfl ?_ | refine zI rfl rfl rfl ?_ | refine zJ rfl rfl ?_ | refine zK ?_ | refine zL ?_ | refine zM rfl ?_ | refine zN ?_)
    refine WL.buildT (cs := [.bool false, .slice none 0 0, .slice none 0 0]) rfl rfl rfl rfl rfl rfl ?_
    refine WL.storeN rfl rfl rfl rfl rfl (by simp [Value.oneCell']) (hp5.obj 0 rfl) (Nat.le_refl _) rfl (fun w6 h6 => ?_)
    have hp6 := hp5.set 0 rfl rfl h6
    repeat (first | refine zA ?_ | refine zB ?_ | refine zC rfl rfl rfl ?_ | refine zD ?_ | refine zE ?_ | refine zF ?_ | refine zG rfl ?_ | refine zH rfl ?_ | refine zI rfl rfl rfl ?_ | refine zJ rfl rfl ?_ | refine zK ?_ | refine zL ?_ | refine zM rfl ?_ | refine zN ?_)
    exact Res.cellT rfl rfl rfl rfl rfl rfl rfl (hp6.obj 0 rfl) ⟨false, none, 0, 0, none, 0, 0, 5, [], rfl, hp6.nil', .inr ⟨a, b, ha, hb, .inl ⟨c, rfl, rfl, rfl, rfl⟩⟩⟩
  have hsz : sizeF a + sizeF b ≤ 12 := by have c : ¬ (12 : Int) < ((sizeF a + sizeF b : Nat) : Int) := of_decide_eq_false c; omega
  repeat (first | refine zA ?_ | refine zB ?_ | refine zC rfl rfl rfl ?_ | refine zD ?_ | refine zE ?_ | refine zF ?_ | refine zG rfl ?_ | refine zH rfl ?_ | refine zI rfl rfl rfl ?_ | refine zJ rfl rfl ?_ | refine zK ?_ | refine zL ?_ | refine zM rfl ?_ | refine zN ?_)
  refine WL.call rfl rfl rfl rfl rfl ent59 (everything_any w5) ?_
  rintro _ w6 ⟨na, nc, ma, mc, rfl, hp6⟩
  have hp6 := hp5.comb hp6
  refine WL.alloc rfl rfl rfl (fun b10 w7 h7 => ?_)
  have hp7 := hp6.new h7
  refine WL.storeN rfl rfl rfl rfl rfl (by simp [Value.oneCell']) (hp7.obj 0 rfl) (Nat.le_refl _) rfl (fun w8 h8 => ?_)
  have hp8 : Hp w w8 [Stb b10 na 16 nc ma 16 mc, .row 22 1 (.slice na 16 nc) 16 (catV (vs16 ma mc)), .row 3 1 (.slice ma 16 mc) 16 (zs (M16 16)), Rb b4 false none 0 0 none 0 0] := hp7.set 0 rfl rfl h8
  clear hp5 hp6 hp7 h7 h8
  repeat (first | refine zA ?_ | refine zB ?_ | refine zC rfl rfl rfl ?_ | refine zD ?_ | refine zE ?_ | refine zF ?_ | refine zG rfl ?_ | refine zH rfl ?_ | refine zI rfl rfl rfl ?_ | refine zJ rfl rfl ?_ | refine zK ?_ | refine zL ?_ | refine zM rfl ?_ | refine zN ?_)
  refine WL.call rfl rfl rfl rfl rfl ent53 (push_any a false w8 (hG.hp hp8)) ?_
  rintro _ w9 ⟨rfl, hp9⟩
  have hp9 := hp8.call hp9.below
  refine WL.pure rfl rfl rfl ?_
  refine WL.call rfl rfl rfl rfl rfl ent53 (push_any b true w9 (hG.hp hp9)) ?_
  rintro _ w10 ⟨rfl, hp10⟩
  have hp10 := hp9.call hp10.below
  refine WL.buildT (cs := [st wAnd, fmV (pushM a false), fmV (pushM b true)]) rfl rfl rfl rfl rfl (by cases pushM a false <;> cases pushM b true <;> rfl) ?_
  refine WL.val rfl rfl rfl (yMkI rfl rfl rfl) ?_
  refine WL.pure rfl rfl rfl ?_
  refine WL.call rfl rfl rfl rfl rfl ent53 (push_any a true w10 (hG.hp hp10)) ?_
  rintro _ w11 ⟨rfl, hp11⟩
  have hp11 := hp10.call hp11.below
  refine WL.pure rfl rfl rfl ?_
  refine WL.call rfl rfl rfl rfl rfl ent53 (push_any b false w11 (hG.hp hp11)) ?_
  rintro _ w12 ⟨rfl, hp12⟩
  have hp12 := hp11.call hp12.below
  refine WL.buildT (cs := [st wAnd, fmV (pushM a true), fmV (pushM b false)]) rfl rfl rfl rfl rfl (by cases pushM a true <;> cases pushM b false <;> rfl) ?_
  refine WL.val rfl rfl rfl (yMkI rfl rfl rfl) ?_
  refine WL.buildS (cs := [fmV (tellF a b 0), fmV (tellF a b 1)]) rfl rfl rfl rfl rfl rfl rfl rfl rfl (fun b53 w13 h13 => ?_)
  have hp13 : Hp w w13 [.blk b53 (.cells #[fmV (tellF a b 0), fmV (tellF a b 1)] 87 (0, 0)), Stb b10 na 16 nc ma 16 mc, .row 22 1 (.slice na 16 nc) 16 (catV (vs16 ma mc)), .row 3 1 (.slice ma 16 mc) 16 (zs (M16 16)), Rb b4 false none 0 0 none 0 0] := hp12.new h13
  clear hp8 hp9 hp10 hp11 hp12 h13
  repeat (first | refine zA ?_ | refine zB ?_ | refine zC rfl rfl rfl ?_ | refine zD ?_ | refine zE ?_ | refine zF ?_ | refine zG rfl ?_ | refine zH rfl ?_ | refine zI rfl rfl rfl ?_ | refine zJ rfl rfl ?_ | refine zK ?_ | refine zL ?_ | refine zM rfl ?_ | refine zN ?_)
  refine WC.loop Nat (fun k => [(4, ptr b4), (10, ptr b10), (53, .slice (some ⟨b53, 0, none⟩) 2 2), (54, .int .i64 ((2 : Nat) : Int)), (55, .int .i64 (k : Nat))])
    (fun k w' => k ≤ 2 ∧ (∀ j, j < k → ∀ σ : Nat → Int, (∀ i, 0 ≤ σ i ∧ σ i ≤ 15) → ¬ satS σ (tellF a b j) 0) ∧ Hp w w' [.blk b53 (.cells #[fmV (tellF a b 0), fmV (tellF a b 1)] 87 (0, 0)), Stb b10 na 16 nc ma 16 mc, .row 22 1 (.slice na 16 nc) 16 (catV (vs16 ma mc)), .row 3 1 (.slice ma 16 mc) 16 (zs (M16 16)), Rb b4 false none 0 0 none 0 0]) (fun k => 2 - k) 0 ⟨rfl, rfl, rfl, rfl, rfl, rfl⟩ ⟨Nat.zero_le _, fun j hj => by omega, hp13⟩ ?_
  clear hp13
  rintro k w14 ⟨hk, hno, hp14⟩
  replace hk : k ≤ 2 := hk
  replace hno : ∀ j, j < k → ∀ σ : Nat → Int, (∀ i, 0 ≤ σ i ∧ σ i ≤ 15) → ¬ satS σ (tellF a b j) 0 := hno
  replace hp14 : Hp w w14 [.blk b53 (.cells #[fmV (tellF a b 0), fmV (tellF a b 1)] 87 (0, 0)), Stb b10 na 16 nc ma 16 mc, .row 22 1 (.slice na 16 nc) 16 (catV (vs16 ma mc)), .row 3 1 (.slice ma 16 mc) 16 (zs (M16 16)), Rb b4 false none 0 0 none 0 0] := hp14
  repeat (first | refine zA ?_ | refine zB ?_ | refine zC rfl rfl rfl ?_ | refine zD ?_ | refine zE ?_ | refine zF ?_ | refine zG rfl ?_ | refine zH rfl ?_ | refine zI rfl rfl rfl ?_ | refine zJ rfl rfl ?_ | refine zK ?_ | refine zL ?_ | refine zM rfl ?_ | refine zN ?_)
  refine WC.cond rfl (fun g => ?_) (fun g => ?_)
  · have hk : k < 2 := by have := of_decide_eq_true g; omega
    have step := wrap_succ (i := k) (n := k + 1) (by omega) (by omega)
    have hel : ([fmV (tellF a b 0), fmV (tellF a b 1)] : List Value)[k]? = some (fmV (tellF a b k)) := by
      rcases (show k = 0 ∨ k = 1 by omega) with rfl | rfl <;> rfl
    have hsl : Sl w14 (some ⟨b53, 0, none⟩) [fmV (tellF a b 0), fmV (tellF a b 1)] := Sl.of_obj (hp14.obj 0 rfl) (fun q u hq => by simpa using hq)
    have hwp := tell_wf hwa hwb k
    have hgp := tell_wgt hwa hwb k hsz
    have hlk : looksN (tellF a b k) ≤ 12 := Nat.le_trans (looks_wgt _) (by omega)
    generalize hp0 : tellF a b k = p at *
    have hok := strB_ok (str16 ma mc)
    have hst : ∀ {w' : World} {L : List Ent}, Hp w w' L → (∀ x ∈ E16 na nc ma mc, x ∈ L) → Stc w' na ma (vs16 ma mc) (M16 16) := fun {w' L} h hs => stc16 h hs
    repeat (first | refine zA ?_ | refine zB ?_ | refine zC rfl rfl rfl ?_ | refine zD ?_ | refine zE ?_ | refine zF ?_ | refine zG rfl ?_ | refine zH rfl ?_ | refine zI rfl rfl rfl ?_ | refine zJ rfl rfl ?_ | refine zK ?_ | refine zL ?_ | refine zM rfl ?_ | refine zN ?_)
    refine WL.ixload (j := k) rfl (fun _ => rfl) rfl rfl rfl rfl rfl rfl rfl hk rfl rfl hsl hel ?_
    intro q0
    repeat (first | refine zA ?_ | refine zB ?_ | refine zC rfl rfl rfl ?_ | refine zD ?_ | refine zE ?_ | refine zF ?_ | refine zG rfl ?_ | refine zH rfl ?_ | refine zI rfl rfl rfl ?_ | refine zJ rfl rfl ?_ | refine zK ?_ | refine zL ?_ | refine zM rfl ?_ | refine zN ?_)
    refine WL.loadN rfl rfl rfl rfl rfl (cs := [.slice na 16 nc, .slice ma 16 mc]) rfl (fun q v hq => cell_of_obj (hp14.obj 1 rfl) (by rw [Nat.zero_add]; simpa using hq)) ?_
    refine WL.pure rfl rfl rfl ?_
    refine WL.pure rfl rfl rfl ?_
    refine WL.loadB rfl rfl rfl rfl rfl (hp14.obj 1 rfl) (j := 0) rfl ?_
    refine WL.pure rfl rfl rfl ?_
    refine WL.call rfl rfl rfl rfl rfl ent60 (newSearch_any na nc ma mc (vs16 ma mc) (M16 16) (by decide) hok.mkk p hwp hlk (vs16 ma mc).length w14 (hst hp14 (fun x hx => by simp only [E16, List.mem_cons, List.not_mem_nil, or_false] at hx ⊢; rcases hx with rfl | rfl <;> simp)).mks) ?_
    rintro _ w15 ⟨xb, la, lc, wa, wc, ta, tc, fa, fcap, rfl, hp15⟩
    have hp16 := hp14.call hp15.below
    have hst15 := hst hp16 (fun x hx => by simp only [E16, List.mem_cons, List.not_mem_nil, or_false] at hx ⊢; rcases hx with rfl | rfl <;> simp)
    rcases srch16 ma mc hwp hgp with ⟨hM, hN⟩ | ⟨stem, loop, hM, k1, k2, k3, k4, k5, k6⟩
    · refine WL.call rfl rfl rfl rfl rfl ent61 (srch_any hok na nc ma mc p hwp hlk (vs16 ma mc).length (Nat.le_refl _) 1099511627776 1048576 (Nat.le_refl _) (Nat.le_refl _) none hM xb la lc wa wc ta tc fa fcap w15 hst15 hp15) ?_
      rintro _ w16 ⟨rfl, hp17⟩
      have hp18 := hp16.call hp17.below
      repeat (first | refine zA ?_ | refine zB ?_ | refine zC rfl rfl rfl ?_ | refine zD ?_ | refine zE ?_ | refine zF ?_ | refine zG rfl ?_ | refine zH rfl ?_ | refine zI rfl rfl rfl ?_ | refine zJ rfl rfl ?_ | refine zK ?_ | refine zL ?_ | refine zM rfl ?_ | refine zN ?_)
      refine ⟨k + 1, (by omega), ⟨rfl, rfl, rfl, rfl, congrArg (fun z => some (Value.int .i64 z)) step, rfl⟩, hk, fun j hj => ?_, hp18⟩
      rcases Nat.lt_or_ge j k with h | h
      · exact hno j h
      · rw [show j = k by omega, hp0]; exact hN
    · refine WL.call rfl rfl rfl rfl rfl ent61 (srch_any hok na nc ma mc p hwp hlk (vs16 ma mc).length (Nat.le_refl _) 1099511627776 1048576 (Nat.le_refl _) (Nat.le_refl _) (some (stem, loop)) hM xb la lc wa wc ta tc fa fcap w15 hst15 hp15) ?_
      rintro _ w16 ⟨sa, sc, pa, pc, rfl, hp17⟩
      have hp18 := hp16.comb hp17
      repeat (first | refine zA ?_ | refine zB ?_ | refine zC rfl rfl rfl ?_ | refine zD ?_ | refine zE ?_ | refine zF ?_ | refine zG rfl ?_ | refine zH rfl ?_ | refine zI rfl rfl rfl ?_ | refine zJ rfl rfl ?_ | refine zK ?_ | refine zL ?_ | refine zM rfl ?_ | refine zN ?_)
      refine WL.buildT (cs := [.bool false, .slice sa stem.length sc, .slice pa loop.length pc]) rfl rfl rfl rfl rfl rfl ?_
      refine WL.storeN rfl rfl rfl rfl rfl (by simp [Value.oneCell']) (hp18.obj 6 rfl) (Nat.le_refl _) rfl (fun w17 h17 => ?_)
      have hp19 := hp18.set 6 rfl rfl h17
      repeat (first | refine zA ?_ | refine zB ?_ | refine zC rfl rfl rfl ?_ | refine zD ?_ | refine zE ?_ | refine zF ?_ | refine zG rfl ?_ | refine zH rfl ?_ | refine zI rfl rfl rfl ?_ | refine zJ rfl rfl ?_ | refine zK ?_ | refine zL ?_ | refine zM rfl ?_ | refine zN ?_)
      refine Res.cellT rfl rfl rfl rfl rfl rfl rfl (hp19.obj 6 rfl) ⟨false, sa, stem.length, sc, pa, loop.length, pc, 0, _, rfl, hp19.pick [0, 1] (by decide), .inr ⟨a, b, ha, hb, .inr ⟨hsz, rfl, .inr ⟨rfl, stem, loop, ⟨k1, k2, k3, k4, k5, ?_⟩, rfl, rfl, rfl⟩⟩⟩⟩
      rw [← hp0, tell_sat hwa hwb] at k6
      intro h
      split at k6
      · exact k6.2 (h.1 k6.1)
      · exact k6.1 (h.2 k6.2)
  have hk : k = 2 := by have := of_decide_eq_false g; omega
  have hS : SameA a b := fun σ hσ => by
    have h0 := hno 0 (by omega) σ hσ
    have h1 := hno 1 (by omega) σ hσ
    rw [tell_sat hwa hwb, if_pos rfl] at h0
    rw [tell_sat hwa hwb, if_neg (by decide)] at h1
    exact ⟨fun h => Classical.byContradiction fun hn => h0 ⟨h, hn⟩, fun h => Classical.byContradiction fun hn => h1 ⟨hn, h⟩⟩
  repeat (first | refine zA ?_ | refine zB ?_ | refine zC rfl rfl rfl ?_ | refine zD ?_ | refine zE ?_ | refine zF ?_ | refine zG rfl ?_ | refine zH rfl ?_ | refine zI rfl rfl rfl ?_ | refine zJ rfl rfl ?_ | refine zK ?_ | refine zL ?_ | refine zM rfl ?_ | refine zN ?_)
  refine WL.buildT (cs := [.bool true, .slice none 0 0, .slice none 0 0]) rfl rfl rfl rfl rfl rfl ?_
  refine WL.storeN rfl rfl rfl rfl rfl (by simp [Value.oneCell']) (hp14.obj 4 rfl) (Nat.le_refl _) rfl (fun w15 h15 => ?_)
  have hp15 := hp14.set 4 rfl rfl h15
  repeat (first | refine zA ?_ | refine zB ?_ | refine zC rfl rfl rfl ?_ | refine zD ?_ | refine zE ?_ | refine zF ?_ | refine zG rfl ?_ | refine zH rfl ?_ | refine zI rfl rfl rfl ?_ | refine zJ rfl rfl ?_ | refine zK ?_ | refine zL ?_ | refine zM rfl ?_ | refine zN ?_)
  exact Res.cellT rfl rfl rfl rfl rfl rfl rfl (hp15.obj 4 rfl) ⟨true, none, 0, 0, none, 0, 0, 0, [], rfl, hp15.nil', .inr ⟨a, b, ha, hb, .inr ⟨hsz, rfl, .inl ⟨rfl, hS, rfl, rfl⟩⟩⟩⟩
end Go.Proofs.YtpbbneclkhfgoaaDoor
end
section
/- ltl, sixty-first: the usual laws, in plain words. -/
namespace Go.Ltl
open Go.W
/-- A formula with two parts left open. -/
inductive Tm where
  | F | G
  | at_ (w : Str)
  | on_ (w : Str) (t : Tm)
  | tw_ (w : Str) (t u : Tm)
def unS (w s : Str) : Str := [40] ++ w ++ [32] ++ s ++ [41]
def biS (w s t : Str) : Str := [40] ++ w ++ [32] ++ s ++ [32] ++ t ++ [41]
def txS (sf sg : Str) : Tm → Str
  | .F => sf
  | .G => sg
  | .at_ w => w
  | .on_ w t => unS w (txS sf sg t)
  | .tw_ w t u => biS w (txS sf sg t) (txS sf sg u)
def txF (a b : Fm) : Tm → Fm
  | .F => a
  | .G => b
  | .at_ w => .at_ w
  | .on_ w t => .on_ w (txF a b t)
  | .tw_ w t u => .tw_ w (txF a b t) (txF a b u)
def okT : Tm → Bool
  | .F => true
  | .G => true
  | .at_ w => decide (w ∈ atomsL)
  | .on_ w t => decide (w ∈ onesL) && okT t
  | .tw_ w t u => decide (w ∈ twosL) && okT t && okT u
theorem tx_wf {a b : Fm} (ha : wfF a) (hb : wfF b) : ∀ t, okT t = true → wfF (txF a b t) := by
  intro t
  induction t with
  | F => intro _; exact ha
  | G => intro _; exact hb
  | at_ w => intro h; exact (of_decide_eq_true h : w ∈ atomsL)
  | on_ w t ih =>
    intro h
    unfold okT at h
    rw [Bool.and_eq_true, decide_eq_true_eq] at h
    exact ⟨h.1, ih h.2⟩
  | tw_ w t u iht ihu =>
    intro h
    unfold okT at h
    rw [Bool.and_eq_true, Bool.and_eq_true, decide_eq_true_eq] at h
    exact ⟨h.1.1, iht h.1.2, ihu h.2⟩
theorem tx_tok {sf sg : Str} {a b : Fm} (hf : tokM sf = tks a) (hg : tokM sg = tks b) : ∀ t, okT t = true → tokM (txS sf sg t) = tks (txF a b t) := by
  intro t
  induction t with
  | F => intro _; exact hf
  | G => intro _; exact hg
  | at_ w => intro h; exact tok_text (.at_ w) (of_decide_eq_true h : w ∈ atomsL)
  | on_ w t ih =>
    intro h
    unfold okT at h
    rw [Bool.and_eq_true, decide_eq_true_eq] at h
    obtain ⟨p1, p2⟩ := words_plain w (by simp [h.1])
    unfold txS txF tks unS
    rw [tok_un w _ p1 p2, ih h.2]
  | tw_ w t u iht ihu =>
    intro h
    unfold okT at h
    rw [Bool.and_eq_true, Bool.and_eq_true, decide_eq_true_eq] at h
    obtain ⟨p1, p2⟩ := words_plain w (by simp [h.1.1])
    unfold txS txF tks biS
    rw [tok_bi w _ _ p1 p2, iht h.1.2, ihu h.2]
/-- The laws. -/
def lawL : List (Tm × Tm) :=
  [(.tw_ wUntil .F .G, .tw_ wOr .G (.tw_ wAnd .F (.on_ wNext (.tw_ wUntil .F .G)))),
   (.tw_ wRelease .F .G, .tw_ wAnd .G (.tw_ wOr .F (.on_ wNext (.tw_ wRelease .F .G)))),
   (.on_ wNot (.tw_ wUntil .F .G), .tw_ wRelease (.on_ wNot .F) (.on_ wNot .G)),
   (.on_ wAlways .F, .tw_ wRelease (.at_ wFalse) .F),
   (.on_ wFinally .F, .tw_ wUntil (.at_ wTrue) .F),
   (.on_ wNot (.on_ wAlways .F), .on_ wFinally (.on_ wNot .F)),
   (.on_ wAlways .F, .tw_ wAnd .F (.on_ wNext (.on_ wAlways .F))),
   (.on_ wNext (.tw_ wAnd .F .G), .tw_ wAnd (.on_ wNext .F) (.on_ wNext .G)),
   (.on_ wAlways (.tw_ wAnd .F .G), .tw_ wAnd (.on_ wAlways .F) (.on_ wAlways .G)),
   (.on_ wFinally (.tw_ wOr .F .G), .tw_ wOr (.on_ wFinally .F) (.on_ wFinally .G)),
   (.on_ wAlways (.on_ wAlways .F), .on_ wAlways .F),
   (.on_ wFinally (.on_ wAlways (.on_ wFinally .F)), .on_ wAlways (.on_ wFinally .F))]
theorem law_ok : ∀ p ∈ lawL, okT p.1 = true ∧ okT p.2 = true := by decide
section
variable (σ : Nat → Int) (f g : Fm) (i : Nat)
theorem s_not : satS σ (.on_ wNot f) i ↔ ¬ satS σ f i := Iff.rfl
theorem s_next : satS σ (.on_ wNext f) i ↔ satS σ f (i + 1) := Iff.rfl
theorem s_always : satS σ (.on_ wAlways f) i ↔ ∀ j, i ≤ j → satS σ f j := Iff.rfl
theorem s_finally : satS σ (.on_ wFinally f) i ↔ ∃ j, i ≤ j ∧ satS σ f j := Iff.rfl
theorem s_and : satS σ (.tw_ wAnd f g) i ↔ satS σ f i ∧ satS σ g i := Iff.rfl
theorem s_or : satS σ (.tw_ wOr f g) i ↔ satS σ f i ∨ satS σ g i := Iff.rfl
theorem s_until : satS σ (.tw_ wUntil f g) i ↔ ∃ j, i ≤ j ∧ satS σ g j ∧ ∀ k, i ≤ k → k < j → satS σ f k := Iff.rfl
theorem s_release : satS σ (.tw_ wRelease f g) i ↔ ∀ j, i ≤ j → satS σ g j ∨ ∃ k, i ≤ k ∧ k < j ∧ satS σ f k := Iff.rfl
end
/-- Each law is true of every sequence. -/
theorem law_sat (σ : Nat → Int) (a b : Fm) : ∀ p ∈ lawL, (satS σ (txF a b p.1) 0 ↔ satS σ (txF a b p.2) 0) := by
  intro p hp
  simp only [lawL, List.mem_cons, List.not_mem_nil, or_false] at hp
  rcases hp with rfl | rfl | rfl | rfl | rfl | rfl | rfl | rfl | rfl | rfl | rfl | rfl <;> simp only [txF]
  · rw [s_or, s_and, s_next, s_until, s_until]
    constructor
    · rintro ⟨j, h1, h2, h3⟩
      by_cases hj : j = 0
      · subst hj; exact .inl h2
      · exact .inr ⟨h3 0 (Nat.le_refl _) (by omega), j, by omega, h2, fun k hk1 hk2 => h3 k (by omega) hk2⟩
    · rintro (h | ⟨h, j, h1, h2, h3⟩)
      · exact ⟨0, Nat.le_refl _, h, fun k hk1 hk2 => by omega⟩
      · refine ⟨j, by omega, h2, fun k hk1 hk2 => ?_⟩
        by_cases hk : k = 0
        · rw [hk]; exact h
        · exact h3 k (by omega) hk2
  · rw [s_and, s_or, s_next, s_release, s_release]
    constructor
    · intro h
      refine ⟨(h 0 (Nat.le_refl _)).resolve_right (fun ⟨k, h1, h2, _⟩ => by omega), ?_⟩
      by_cases ha : satS σ a 0
      · exact .inl ha
      · refine .inr fun j hj => (h j (by omega)).imp id ?_
        rintro ⟨k, h1, h2, h3⟩
        refine ⟨k, ?_, h2, h3⟩
        by_cases hk : k = 0
        · rw [hk] at h3; exact absurd h3 ha
        · omega
    · rintro ⟨h1, h2⟩ j hj
      by_cases hj0 : j = 0
      · rw [hj0]; exact .inl h1
      · rcases h2 with h2 | h2
        · exact .inr ⟨0, Nat.le_refl _, by omega, h2⟩
        · refine (h2 j (by omega)).imp id ?_
          rintro ⟨k, k1, k2, k3⟩
          exact ⟨k, by omega, k2, k3⟩
  · rw [s_not, s_until, s_release]
    simp only [s_not]
    constructor
    · intro h j hj
      by_cases hb : satS σ b j
      · refine .inr (Classical.byContradiction fun hn => h ⟨j, hj, hb, fun k h1 h2 => Classical.byContradiction fun hk => hn ⟨k, h1, h2, hk⟩⟩)
      · exact .inl hb
    · rintro h ⟨j, h1, h2, h3⟩
      rcases h j h1 with h4 | ⟨k, k1, k2, k3⟩
      · exact h4 h2
      · exact k3 (h3 k k1 k2)
  · rw [s_always, s_release]
    constructor
    · intro h j hj; exact .inl (h j hj)
    · intro h j hj
      rcases h j hj with h | ⟨k, _, _, h⟩
      · exact h
      · have h : (false = true) := h
        cases h
  · rw [s_finally, s_until]
    exact ⟨fun ⟨j, h1, h2⟩ => ⟨j, h1, h2, fun _ _ _ => rfl⟩, fun ⟨j, h1, h2, _⟩ => ⟨j, h1, h2⟩⟩
  · rw [s_not, s_always, s_finally]
    simp only [s_not]
    exact ⟨fun h => Classical.byContradiction fun hn => h fun j hj => Classical.byContradiction fun hk => hn ⟨j, hj, hk⟩, fun ⟨j, h1, h2⟩ h => h2 (h j h1)⟩
  · rw [s_and, s_next, s_always, s_always]
    constructor
    · intro h; exact ⟨h 0 (Nat.le_refl _), fun j hj => h j (by omega)⟩
    · rintro ⟨h1, h2⟩ j hj
      by_cases h : j = 0
      · rw [h]; exact h1
      · exact h2 j (by omega)
  · exact Iff.rfl
  · simp only [s_and, s_always]
    exact ⟨fun h => ⟨fun j hj => (h j hj).1, fun j hj => (h j hj).2⟩, fun h j hj => ⟨h.1 j hj, h.2 j hj⟩⟩
  · simp only [s_or, s_finally]
    constructor
    · rintro ⟨j, h1, h2 | h2⟩
      · exact .inl ⟨j, h1, h2⟩
      · exact .inr ⟨j, h1, h2⟩
    · rintro (⟨j, h1, h2⟩ | ⟨j, h1, h2⟩)
      · exact ⟨j, h1, .inl h2⟩
      · exact ⟨j, h1, .inr h2⟩
  · simp only [s_always]
    exact ⟨fun h j hj => h j hj j (Nat.le_refl _), fun h j hj k hk => h k (by omega)⟩
  · simp only [s_finally, s_always]
    constructor
    · rintro ⟨j, _, h⟩ k _
      obtain ⟨q, h1, h2⟩ := h (max j k) (Nat.le_max_left _ _)
      exact ⟨q, Nat.le_trans (Nat.le_max_right _ _) h1, h2⟩
    · intro h
      exact ⟨0, Nat.le_refl _, fun j hj => h j hj⟩
end Go.Ltl
namespace Go.Proofs.YtpbbneclkhfgoaaDoor
open Go.W Go.Ltl Go.RowKit
/-- What Same says of a law. -/
theorem law_same {sf sg : Str} {a b : Fm} (ha : wfF a) (hb : wfF b) (hf : tokM sf = tks a) (hg : tokM sg = tks b) {p : Tm × Tm} (hp : p ∈ lawL) {h0 : Bool} {sa : Option Addr} {sl sc : Nat} {qa : Option Addr} {ql qc : Nat} {ec : Int} {E : List Ent}
    (h : ShapeS (txS sf sg p.1) (txS sf sg p.2) h0 sa sl sc qa ql qc ec E) : ((ec = 4 ∨ ec = 5) ∧ h0 = false) ∨ (ec = 0 ∧ h0 = true) := by
  obtain ⟨o1, o2⟩ := law_ok p hp
  rcases h with ⟨_, h1, h2, _⟩ | ⟨x, y, hx, hy, ⟨_, h1, h2, _⟩ | ⟨_, h1, h2⟩⟩
  · exact .inl ⟨.inl h1, h2⟩
  · exact .inl ⟨.inr h1, h2⟩
  · refine .inr ⟨h1, ?_⟩
    obtain ⟨x1, _, x3⟩ := (parse_iff _ _).1 hx
    obtain ⟨y1, _, y3⟩ := (parse_iff _ _).1 hy
    rw [tx_tok hf hg _ o1] at x3
    rw [tx_tok hf hg _ o2] at y3
    obtain rfl := tks_inj (tx_wf ha hb _ o1) x1 x3
    obtain rfl := tks_inj (tx_wf ha hb _ o2) y1 y3
    rcases h2 with ⟨h2, _⟩ | ⟨_, st1, lo1, h2, _⟩
    · exact h2
    · exact absurd (fun σ _ => law_sat σ a b p hp) h2.not
end Go.Proofs.YtpbbneclkhfgoaaDoor
end
section
/- ltl, thirty-second: the reference's Tokens. -/
namespace Go.Proofs.YtpbbneclkhfgoaaDoor
open Go.W Go.Ltl Go.RowKit
set_option maxRecDepth 100000
attribute [local irreducible] WC WL WQ WS WH

theorem Rs_snoc (a : Option Addr) (c : Nat) (l : List Str) (x : Str) : Rs (.slice a (l ++ [x]).length c) (l ++ [x]) = .row 9 1 (.slice a (l.length + 1) c) (l.length + 1) (l.map st ++ [st x]) := by
  unfold Rs; rw [List.length_append, List.map_append]; rfl
theorem u8_eq {c : UInt8} {n : Nat} (hn : n < 256) (h : (((c.toNat : Nat) : Int) != ((n : Nat) : Int)) = false) : c = UInt8.ofNat n := by
  have : ¬ (((c.toNat : Nat) : Int) ≠ ((n : Nat) : Int)) := fun e => by rw [← bne_iff_ne] at e; rw [h] at e; cases e
  exact (u8_iff c n hn).1 (Classical.not_not.1 this)
def sepU (u : UInt8) : Prop := u = 40 ∨ u = 41 ∨ u = 32 ∨ u = 10
theorem Tokens_any (s : Str) (hs : s.length ≤ 2000) (w : World) :
    Ret Tryd.prog 50 [st s] w fun v w' => ∃ a c, v = .slice a (tokM s).length c ∧ Hp w w' [Rs (.slice a (tokM s).length c) (tokM s)] := by
  refine enter Tryd.func50 rfl rfl ⟨rfl, rfl⟩ rfl ?_
  repeat (first | refine zA ?_ | refine zB ?_ | refine zC rfl rfl rfl ?_ | refine zD ?_ | refine zE ?_ | refine zF ?_ | refine zG rfl ?_ | refine zH rfl ?_ | refine zI rfl rfl rfl ?_ | refine zJ rfl rfl ?_ | refine zK ?_ | refine zL ?_ | refine zM rfl ?_ | refine zN ?_)
  refine WC.loop (Nat × Nat × Option Addr × Nat × List Str) (fun (i, q, a, c, l) => [(0, st s), (3, .slice a l.length c), (4, .int .i64 (q : Nat)), (5, .int .i64 (i : Nat))])
    (fun (i, q, a, c, l) w' => ((i ≤ s.length ∧ q ≤ i ∧ tokM s = l ++ tokN (s.drop i) ((s.drop q).take (i - q))) ∨ (i = s.length + 1 ∧ tokM s = l)) ∧ l.length ≤ 2 * i ∧ Hp w w' [Rs (.slice a l.length c) l]) (fun (i, _) => s.length + 1 - i) (0, 0, none, 0, []) ⟨rfl, rfl, rfl, rfl, rfl⟩
    ⟨.inl ⟨Nat.zero_le _, Nat.le_refl _, rfl⟩, Nat.le_refl _, (Hp.start w).nilrow _ _⟩ ?_
  rintro ⟨i, q, a, c, l⟩ w1 ⟨hinv, hll, hp⟩
  replace hinv : (i ≤ s.length ∧ q ≤ i ∧ tokM s = l ++ tokN (s.drop i) ((s.drop q).take (i - q))) ∨ (i = s.length + 1 ∧ tokM s = l) := hinv
  replace hll : l.length ≤ 2 * i := hll
  replace hp : Hp w w1 [Rs (.slice a l.length c) l] := hp
  repeat (first | refine zA ?_ | refine zB ?_ | refine zC rfl rfl rfl ?_ | refine zD ?_ | refine zE ?_ | refine zF ?_ | refine zG rfl ?_ | refine zH rfl ?_ | refine zI rfl rfl rfl ?_ | refine zJ rfl rfl ?_ | refine zK ?_ | refine zL ?_ | refine zM rfl ?_ | refine zN ?_)
  repeat (first | refine zA ?_ | refine zB ?_ | refine zC rfl rfl rfl ?_ | refine zD ?_ | refine zE ?_ | refine zF ?_ | refine zG rfl ?_ | refine zH rfl ?_ | refine zI rfl rfl rfl ?_ | refine zJ rfl rfl ?_ | refine zK ?_ | refine zL ?_ | refine zM rfl ?_ | refine zN ?_)
  refine WC.cond rfl (fun hc => ?_) (fun hc => ?_)
  · have hi : i ≤ s.length := by have h : ((i : Nat) : Int) ≤ ((s.length : Nat) : Int) := of_decide_eq_true hc; omega
    obtain ⟨_, hq, hinv⟩ := hinv.resolve_right (fun h => by omega)
    have step := wrap_succ (i := i) (n := i + 1) (by omega) (by omega)
    refine WC.skip ?_
    refine WC.seq ?_
    refine WC.mid (Nat × Option Addr × Nat × List Str) (fun (q, a, c, l) => [(0, st s), (3, .slice a l.length c), (4, .int .i64 (q : Nat)), (5, .int .i64 (i : Nat))])
      (fun (q, a, c, l) w' => ((i + 1 ≤ s.length ∧ q ≤ i + 1 ∧ tokM s = l ++ tokN (s.drop (i + 1)) ((s.drop q).take (i + 1 - q))) ∨ (i + 1 = s.length + 1 ∧ tokM s = l)) ∧ l.length ≤ 2 * (i + 1) ∧ Hp w w' [Rs (.slice a l.length c) l]) ?_ ?_
    · refine WC.block ?_
      refine WC.seq ?_
      refine WC.mid Unit (fun _ => [(0, st s), (3, .slice a l.length c), (4, .int .i64 (q : Nat)), (5, .int .i64 (i : Nat))]) (fun _ w' => (∀ h : i < s.length, sepU s[i]) ∧ w' = w1) ?_ ?_
      · repeat (first | refine zA ?_ | refine zB ?_ | refine zC rfl rfl rfl ?_ | refine zD ?_ | refine zE ?_ | refine zF ?_ | refine zG rfl ?_ | refine zH rfl ?_ | refine zI rfl rfl rfl ?_ | refine zJ rfl rfl ?_ | refine zK ?_ | refine zL ?_ | refine zM rfl ?_ | refine zN ?_)
        repeat (first | refine zA ?_ | refine zB ?_ | refine zC rfl rfl rfl ?_ | refine zD ?_ | refine zE ?_ | refine zF ?_ | refine zG rfl ?_ | refine zH rfl ?_ | refine zI rfl rfl rfl ?_ | refine zJ rfl rfl ?_ | refine zK ?_ | refine zL ?_ | refine zM rfl ?_ | refine zN ?_)
        refine WL.split 16 rfl (fun c1 => ?_) (fun c1 => ?_)
        · have hi : i < s.length := by have h : ((i : Nat) : Int) < ((s.length : Nat) : Int) := of_decide_eq_true c1; omega
          have hd : s.drop i = s[i] :: s.drop (i + 1) := List.drop_eq_getElem_cons hi
          have hgo : ¬ sepU s[i] → tokM s = l ++ tokN (s.drop (i + 1)) ((s.drop q).take (i + 1 - q)) := by
            intro hn
            rw [hinv, hd, tokN_go _ _ (fun h => hn (by exact h.elim (fun h => .inr (.inr (.inl h))) (fun h => .inr (.inr (.inr h))))) (fun h => hn (by exact h.elim (fun h => .inl h) (fun h => .inr (.inl h))))]
            congr 2
            rw [show i + 1 - q = (i - q) + 1 from by omega, List.take_succ_eq_append_getElem (by rw [List.length_drop]; omega), List.getElem_drop]
            congr 3
            omega
          repeat (first | refine zA ?_ | refine zB ?_ | refine zC rfl rfl rfl ?_ | refine zD ?_ | refine zE ?_ | refine zF ?_ | refine zG rfl ?_ | refine zH rfl ?_ | refine zI rfl rfl rfl ?_ | refine zJ rfl rfl ?_ | refine zK ?_ | refine zL ?_ | refine zM rfl ?_ | refine zN ?_)
          refine WL.sAt rfl rfl rfl rfl rfl hi ?_
          repeat (first | refine zA ?_ | refine zB ?_ | refine zC rfl rfl rfl ?_ | refine zD ?_ | refine zE ?_ | refine zF ?_ | refine zG rfl ?_ | refine zH rfl ?_ | refine zI rfl rfl rfl ?_ | refine zJ rfl rfl ?_ | refine zK ?_ | refine zL ?_ | refine zM rfl ?_ | refine zN ?_)
          refine WL.split 22 rfl (fun c2 => ?_) (fun c2 => ?_)
          rotate_left
          · have h2 : s[i] = 40 := u8_eq (n := 40) (by decide) c2
            repeat (first | refine zA ?_ | refine zB ?_ | refine zC rfl rfl rfl ?_ | refine zD ?_ | refine zE ?_ | refine zF ?_ | refine zG rfl ?_ | refine zH rfl ?_ | refine zI rfl rfl rfl ?_ | refine zJ rfl rfl ?_ | refine zK ?_ | refine zL ?_ | refine zM rfl ?_ | refine zN ?_)
            exact ⟨(), ⟨rfl, rfl, rfl, rfl, rfl⟩, fun _ => .inl h2, rfl⟩
          repeat (first | refine zA ?_ | refine zB ?_ | refine zC rfl rfl rfl ?_ | refine zD ?_ | refine zE ?_ | refine zF ?_ | refine zG rfl ?_ | refine zH rfl ?_ | refine zI rfl rfl rfl ?_ | refine zJ rfl rfl ?_ | refine zK ?_ | refine zL ?_ | refine zM rfl ?_ | refine zN ?_)
          refine WL.sAt rfl rfl rfl rfl rfl hi ?_
          repeat (first | refine zA ?_ | refine zB ?_ | refine zC rfl rfl rfl ?_ | refine zD ?_ | refine zE ?_ | refine zF ?_ | refine zG rfl ?_ | refine zH rfl ?_ | refine zI rfl rfl rfl ?_ | refine zJ rfl rfl ?_ | refine zK ?_ | refine zL ?_ | refine zM rfl ?_ | refine zN ?_)
          refine WL.split 28 rfl (fun c3 => ?_) (fun c3 => ?_)
          rotate_left
          · have h2 : s[i] = 41 := u8_eq (n := 41) (by decide) c3
            repeat (first | refine zA ?_ | refine zB ?_ | refine zC rfl rfl rfl ?_ | refine zD ?_ | refine zE ?_ | refine zF ?_ | refine zG rfl ?_ | refine zH rfl ?_ | refine zI rfl rfl rfl ?_ | refine zJ rfl rfl ?_ | refine zK ?_ | refine zL ?_ | refine zM rfl ?_ | refine zN ?_)
            exact ⟨(), ⟨rfl, rfl, rfl, rfl, rfl⟩, fun _ => .inr (.inl h2), rfl⟩
          repeat (first | refine zA ?_ | refine zB ?_ | refine zC rfl rfl rfl ?_ | refine zD ?_ | refine zE ?_ | refine zF ?_ | refine zG rfl ?_ | refine zH rfl ?_ | refine zI rfl rfl rfl ?_ | refine zJ rfl rfl ?_ | refine zK ?_ | refine zL ?_ | refine zM rfl ?_ | refine zN ?_)
          refine WL.sAt rfl rfl rfl rfl rfl hi ?_
          repeat (first | refine zA ?_ | refine zB ?_ | refine zC rfl rfl rfl ?_ | refine zD ?_ | refine zE ?_ | refine zF ?_ | refine zG rfl ?_ | refine zH rfl ?_ | refine zI rfl rfl rfl ?_ | refine zJ rfl rfl ?_ | refine zK ?_ | refine zL ?_ | refine zM rfl ?_ | refine zN ?_)
          refine WL.split 34 rfl (fun c4 => ?_) (fun c4 => ?_)
          rotate_left
          · have h2 : s[i] = 32 := u8_eq (n := 32) (by decide) c4
            repeat (first | refine zA ?_ | refine zB ?_ | refine zC rfl rfl rfl ?_ | refine zD ?_ | refine zE ?_ | refine zF ?_ | refine zG rfl ?_ | refine zH rfl ?_ | refine zI rfl rfl rfl ?_ | refine zJ rfl rfl ?_ | refine zK ?_ | refine zL ?_ | refine zM rfl ?_ | refine zN ?_)
            exact ⟨(), ⟨rfl, rfl, rfl, rfl, rfl⟩, fun _ => .inr (.inr (.inl h2)), rfl⟩
          repeat (first | refine zA ?_ | refine zB ?_ | refine zC rfl rfl rfl ?_ | refine zD ?_ | refine zE ?_ | refine zF ?_ | refine zG rfl ?_ | refine zH rfl ?_ | refine zI rfl rfl rfl ?_ | refine zJ rfl rfl ?_ | refine zK ?_ | refine zL ?_ | refine zM rfl ?_ | refine zN ?_)
          refine WL.sAt rfl rfl rfl rfl rfl hi ?_
          repeat (first | refine zA ?_ | refine zB ?_ | refine zC rfl rfl rfl ?_ | refine zD ?_ | refine zE ?_ | refine zF ?_ | refine zG rfl ?_ | refine zH rfl ?_ | refine zI rfl rfl rfl ?_ | refine zJ rfl rfl ?_ | refine zK ?_ | refine zL ?_ | refine zM rfl ?_ | refine zN ?_)
          refine WC.cond rfl (fun c5 => ?_) (fun c5 => ?_)
          · have hn : ¬ sepU s[i] := by
              rintro (h | h | h | h)
              · rw [h] at c2; exact absurd c2 (by decide)
              · rw [h] at c3; exact absurd c3 (by decide)
              · rw [h] at c4; exact absurd c4 (by decide)
              · rw [h] at c5; exact absurd c5 (by decide)
            repeat (first | refine zA ?_ | refine zB ?_ | refine zC rfl rfl rfl ?_ | refine zD ?_ | refine zE ?_ | refine zF ?_ | refine zG rfl ?_ | refine zH rfl ?_ | refine zI rfl rfl rfl ?_ | refine zJ rfl rfl ?_ | refine zK ?_ | refine zL ?_ | refine zM rfl ?_ | refine zN ?_)
            exact ⟨(q, a, c, l), ⟨rfl, rfl, rfl, rfl, rfl⟩, .inl ⟨hi, by omega, hgo hn⟩, by omega, hp⟩
          · have h2 : s[i] = 10 := u8_eq (n := 10) (by decide) c5
            repeat (first | refine zA ?_ | refine zB ?_ | refine zC rfl rfl rfl ?_ | refine zD ?_ | refine zE ?_ | refine zF ?_ | refine zG rfl ?_ | refine zH rfl ?_ | refine zI rfl rfl rfl ?_ | refine zJ rfl rfl ?_ | refine zK ?_ | refine zL ?_ | refine zM rfl ?_ | refine zN ?_)
            exact ⟨(), ⟨rfl, rfl, rfl, rfl, rfl⟩, fun _ => .inr (.inr (.inr h2)), rfl⟩
        · have hi : ¬ i < s.length := by have h : ¬ ((i : Nat) : Int) < ((s.length : Nat) : Int) := of_decide_eq_false c1; omega
          repeat (first | refine zA ?_ | refine zB ?_ | refine zC rfl rfl rfl ?_ | refine zD ?_ | refine zE ?_ | refine zF ?_ | refine zG rfl ?_ | refine zH rfl ?_ | refine zI rfl rfl rfl ?_ | refine zJ rfl rfl ?_ | refine zK ?_ | refine zL ?_ | refine zM rfl ?_ | refine zN ?_)
          exact ⟨(), ⟨rfl, rfl, rfl, rfl, rfl⟩, fun h => absurd h hi, rfl⟩
      rintro ⟨⟩ e2 w2 hsub ⟨hsep, rfl⟩
      refine WC.sub hsub ?_
      clear hsub e2
      refine WC.seq ?_
      refine WC.mid (Option Addr × Nat × List Str) (fun (a, c, l) => [(0, st s), (3, .slice a l.length c), (5, .int .i64 (i : Nat))])
        (fun (a, c, l1) w' => l1 = l ++ flush ((s.drop q).take (i - q)) ∧ Hp w w' [Rs (.slice a l1.length c) l1]) ?_ ?_
      · repeat (first | refine zA ?_ | refine zB ?_ | refine zC rfl rfl rfl ?_ | refine zD ?_ | refine zE ?_ | refine zF ?_ | refine zG rfl ?_ | refine zH rfl ?_ | refine zI rfl rfl rfl ?_ | refine zJ rfl rfl ?_ | refine zK ?_ | refine zL ?_ | refine zM rfl ?_ | refine zN ?_)
        refine WC.cond rfl (fun c1 => ?_) (fun c1 => ?_)
        · have hqi : q < i := by have h : ((q : Nat) : Int) < ((i : Nat) : Int) := of_decide_eq_true c1; omega
          have hne : (s.drop q).take (i - q) ≠ [] := by
            intro h
            have := congrArg List.length h
            rw [List.length_take, List.length_drop] at this
            simp only [List.length_nil] at this
            omega
          have hfl : flush ((s.drop q).take (i - q)) = [(s.drop q).take (i - q)] := by unfold flush; rw [if_neg hne]
          repeat (first | refine zA ?_ | refine zB ?_ | refine zC rfl rfl rfl ?_ | refine zD ?_ | refine zE ?_ | refine zF ?_ | refine zG rfl ?_ | refine zH rfl ?_ | refine zI rfl rfl rfl ?_ | refine zJ rfl rfl ?_ | refine zK ?_ | refine zL ?_ | refine zM rfl ?_ | refine zN ?_)
          refine WL.sSl (a := q) (b := i) rfl rfl rfl rfl rfl rfl hq hi ?_
          rw [hfl]
          generalize (s.drop q).take (i - q) = x
          refine WL.buildS (cs := [st x]) rfl rfl rfl rfl rfl rfl rfl rfl rfl (fun b3 w3 h3 => ?_)
          have hp3 := hp.new h3
          refine WL.append 1 hp3 rfl rfl rfl rfl rfl (by decide) rfl rfl rfl (news := [st x]) (Sl.of_obj (hp3.obj 0 rfl) (fun q u hq => by simpa using hq)) rfl (st_cells [x]) (by unfold maxLen; omega) (by show (l.length + 1) * 16 ≤ _; omega) ?_
          intro a2 c2 w4 hp4 _
          repeat (first | refine zA ?_ | refine zB ?_ | refine zC rfl rfl rfl ?_ | refine zD ?_ | refine zE ?_ | refine zF ?_ | refine zG rfl ?_ | refine zH rfl ?_ | refine zI rfl rfl rfl ?_ | refine zJ rfl rfl ?_ | refine zK ?_ | refine zL ?_ | refine zM rfl ?_ | refine zN ?_)
          refine ⟨(a2, c2, l ++ [x]), ⟨rfl, by rw [List.length_append]; rfl, rfl, rfl⟩, rfl, ?_⟩
          show Hp w w4 [Rs (.slice a2 (l ++ [x]).length c2) (l ++ [x])]
          rw [Rs_snoc]
          exact hp4.tail
        · have hqi : q = i := by have h : ¬ ((q : Nat) : Int) < ((i : Nat) : Int) := of_decide_eq_false c1; omega
          repeat (first | refine zA ?_ | refine zB ?_ | refine zC rfl rfl rfl ?_ | refine zD ?_ | refine zE ?_ | refine zF ?_ | refine zG rfl ?_ | refine zH rfl ?_ | refine zI rfl rfl rfl ?_ | refine zJ rfl rfl ?_ | refine zK ?_ | refine zL ?_ | refine zM rfl ?_ | refine zN ?_)
          exact ⟨(a, c, l), ⟨rfl, rfl, rfl, rfl⟩, by rw [hqi, Nat.sub_self, List.take_zero]; exact (List.append_nil l).symm, hp⟩
      rintro ⟨a, c, l1⟩ e3 w3 hsub ⟨hl1, hp3⟩
      refine WC.sub hsub ?_
      clear hsub e3 hp
      replace hl1 : l1 = l ++ flush ((s.drop q).take (i - q)) := hl1
      replace hp3 : Hp w w3 [Rs (.slice a l1.length c) l1] := hp3
      have hl1l : l1.length ≤ 2 * i + 1 := by
        rw [hl1, List.length_append]
        have := flush_le ((s.drop q).take (i - q))
        omega
      refine WC.seq ?_
      refine WC.mid (Option Addr × Nat × List Str) (fun (a, c, l) => [(0, st s), (3, .slice a l.length c), (5, .int .i64 (i : Nat))])
        (fun (a, c, l2) w' => ((i < s.length ∧ tokM s = l2 ++ tokN (s.drop (i + 1)) []) ∨ (i = s.length ∧ tokM s = l2)) ∧ l2.length ≤ 2 * i + 2 ∧ Hp w w' [Rs (.slice a l2.length c) l2]) ?_ ?_
      · repeat (first | refine zA ?_ | refine zB ?_ | refine zC rfl rfl rfl ?_ | refine zD ?_ | refine zE ?_ | refine zF ?_ | refine zG rfl ?_ | refine zH rfl ?_ | refine zI rfl rfl rfl ?_ | refine zJ rfl rfl ?_ | refine zK ?_ | refine zL ?_ | refine zM rfl ?_ | refine zN ?_)
        repeat (first | refine zA ?_ | refine zB ?_ | refine zC rfl rfl rfl ?_ | refine zD ?_ | refine zE ?_ | refine zF ?_ | refine zG rfl ?_ | refine zH rfl ?_ | refine zI rfl rfl rfl ?_ | refine zJ rfl rfl ?_ | refine zK ?_ | refine zL ?_ | refine zM rfl ?_ | refine zN ?_)
        refine WL.split 54 rfl (fun c1 => ?_) (fun c1 => ?_)
        · have hi : i < s.length := by have h : ((i : Nat) : Int) < ((s.length : Nat) : Int) := of_decide_eq_true c1; omega
          have hd : s.drop i = s[i] :: s.drop (i + 1) := List.drop_eq_getElem_cons hi
          have hsp := hsep hi
          have e3 : (s.drop i).take (i + 1 - i) = [s[i]] := by rw [hd, Nat.add_sub_cancel_left]; rfl
          have hpar : (s[i] = 40 ∨ s[i] = 41) → tokM s = (l1 ++ [[s[i]]]) ++ tokN (s.drop (i + 1)) [] := by
            intro h
            rw [hinv, hd, tokN_pa _ _ (by rcases h with h | h <;> rw [h] <;> decide) h, hl1, List.append_assoc, List.append_assoc]; rfl
          have hspc : (s[i] = 32 ∨ s[i] = 10) → tokM s = l1 ++ tokN (s.drop (i + 1)) [] := by
            intro h
            rw [hinv, hd, tokN_sp _ _ h, hl1, List.append_assoc]
          obtain ⟨u, hu⟩ : ∃ u, s[i] = u := ⟨_, rfl⟩
          rw [hu] at hd hsp e3 hpar hspc
          rcases hsp with rfl | rfl | rfl | rfl
          · repeat (first | refine zA ?_ | refine zB ?_ | refine zC rfl rfl rfl ?_ | refine zD ?_ | refine zE ?_ | refine zF ?_ | refine zG rfl ?_ | refine zH rfl ?_ | refine zI rfl rfl rfl ?_ | refine zJ rfl rfl ?_ | refine zK ?_ | refine zL ?_ | refine zM rfl ?_ | refine zN ?_)
            refine WL.sAt rfl rfl rfl rfl rfl hi ?_
            rw [hu]
            repeat (first | refine zA ?_ | refine zB ?_ | refine zC rfl rfl rfl ?_ | refine zD ?_ | refine zE ?_ | refine zF ?_ | refine zG rfl ?_ | refine zH rfl ?_ | refine zI rfl rfl rfl ?_ | refine zJ rfl rfl ?_ | refine zK ?_ | refine zL ?_ | refine zM rfl ?_ | refine zN ?_)
            refine WL.known (d := 70) (congrArg (fun z => some (Value.int .i64 z)) step) ?_
            refine WL.sSl (a := i) (b := i + 1) rfl rfl rfl rfl rfl rfl (by omega) (by omega) ?_
            rw [e3]
            refine WL.buildS (cs := [st [40]]) rfl rfl rfl rfl rfl rfl rfl rfl rfl (fun b5 w5 h5 => ?_)
            have hp5 := hp3.new h5
            refine WL.append 1 hp5 rfl rfl rfl rfl rfl (by decide) rfl rfl rfl (news := [st [40]]) (Sl.of_obj (hp5.obj 0 rfl) (fun q u hq => by simpa using hq)) rfl (st_cells [[40]]) (by unfold maxLen; omega) (by show (l1.length + 1) * 16 ≤ _; omega) ?_
            intro a2 c2 w6 hp6 _
            repeat (first | refine zA ?_ | refine zB ?_ | refine zC rfl rfl rfl ?_ | refine zD ?_ | refine zE ?_ | refine zF ?_ | refine zG rfl ?_ | refine zH rfl ?_ | refine zI rfl rfl rfl ?_ | refine zJ rfl rfl ?_ | refine zK ?_ | refine zL ?_ | refine zM rfl ?_ | refine zN ?_)
            refine ⟨(a2, c2, l1 ++ [[40]]), ⟨rfl, by rw [List.length_append]; rfl, rfl, rfl⟩, .inl ⟨hi, hpar (.inl rfl)⟩, by show (l1 ++ [[40]]).length ≤ _; rw [List.length_append]; show l1.length + 1 ≤ _; omega, ?_⟩
            show Hp w w6 [Rs (.slice a2 (l1 ++ [[40]]).length c2) (l1 ++ [[40]])]
            rw [Rs_snoc]
            exact hp6.tail
          · repeat (first | refine zA ?_ | refine zB ?_ | refine zC rfl rfl rfl ?_ | refine zD ?_ | refine zE ?_ | refine zF ?_ | refine zG rfl ?_ | refine zH rfl ?_ | refine zI rfl rfl rfl ?_ | refine zJ rfl rfl ?_ | refine zK ?_ | refine zL ?_ | refine zM rfl ?_ | refine zN ?_)
            refine WL.sAt rfl rfl rfl rfl rfl hi ?_
            rw [hu]
            repeat (first | refine zA ?_ | refine zB ?_ | refine zC rfl rfl rfl ?_ | refine zD ?_ | refine zE ?_ | refine zF ?_ | refine zG rfl ?_ | refine zH rfl ?_ | refine zI rfl rfl rfl ?_ | refine zJ rfl rfl ?_ | refine zK ?_ | refine zL ?_ | refine zM rfl ?_ | refine zN ?_)
            refine WL.sAt rfl rfl rfl rfl rfl hi ?_
            rw [hu]
            repeat (first | refine zA ?_ | refine zB ?_ | refine zC rfl rfl rfl ?_ | refine zD ?_ | refine zE ?_ | refine zF ?_ | refine zG rfl ?_ | refine zH rfl ?_ | refine zI rfl rfl rfl ?_ | refine zJ rfl rfl ?_ | refine zK ?_ | refine zL ?_ | refine zM rfl ?_ | refine zN ?_)
            refine WL.known (d := 70) (congrArg (fun z => some (Value.int .i64 z)) step) ?_
            refine WL.sSl (a := i) (b := i + 1) rfl rfl rfl rfl rfl rfl (by omega) (by omega) ?_
            rw [e3]
            refine WL.buildS (cs := [st [41]]) rfl rfl rfl rfl rfl rfl rfl rfl rfl (fun b5 w5 h5 => ?_)
            have hp5 := hp3.new h5
            refine WL.append 1 hp5 rfl rfl rfl rfl rfl (by decide) rfl rfl rfl (news := [st [41]]) (Sl.of_obj (hp5.obj 0 rfl) (fun q u hq => by simpa using hq)) rfl (st_cells [[41]]) (by unfold maxLen; omega) (by show (l1.length + 1) * 16 ≤ _; omega) ?_
            intro a2 c2 w6 hp6 _
            repeat (first | refine zA ?_ | refine zB ?_ | refine zC rfl rfl rfl ?_ | refine zD ?_ | refine zE ?_ | refine zF ?_ | refine zG rfl ?_ | refine zH rfl ?_ | refine zI rfl rfl rfl ?_ | refine zJ rfl rfl ?_ | refine zK ?_ | refine zL ?_ | refine zM rfl ?_ | refine zN ?_)
            refine ⟨(a2, c2, l1 ++ [[41]]), ⟨rfl, by rw [List.length_append]; rfl, rfl, rfl⟩, .inl ⟨hi, hpar (.inr rfl)⟩, by show (l1 ++ [[41]]).length ≤ _; rw [List.length_append]; show l1.length + 1 ≤ _; omega, ?_⟩
            show Hp w w6 [Rs (.slice a2 (l1 ++ [[41]]).length c2) (l1 ++ [[41]])]
            rw [Rs_snoc]
            exact hp6.tail
          · repeat (first | refine zA ?_ | refine zB ?_ | refine zC rfl rfl rfl ?_ | refine zD ?_ | refine zE ?_ | refine zF ?_ | refine zG rfl ?_ | refine zH rfl ?_ | refine zI rfl rfl rfl ?_ | refine zJ rfl rfl ?_ | refine zK ?_ | refine zL ?_ | refine zM rfl ?_ | refine zN ?_)
            refine WL.sAt rfl rfl rfl rfl rfl hi ?_
            rw [hu]
            repeat (first | refine zA ?_ | refine zB ?_ | refine zC rfl rfl rfl ?_ | refine zD ?_ | refine zE ?_ | refine zF ?_ | refine zG rfl ?_ | refine zH rfl ?_ | refine zI rfl rfl rfl ?_ | refine zJ rfl rfl ?_ | refine zK ?_ | refine zL ?_ | refine zM rfl ?_ | refine zN ?_)
            refine WL.sAt rfl rfl rfl rfl rfl hi ?_
            rw [hu]
            repeat (first | refine zA ?_ | refine zB ?_ | refine zC rfl rfl rfl ?_ | refine zD ?_ | refine zE ?_ | refine zF ?_ | refine zG rfl ?_ | refine zH rfl ?_ | refine zI rfl rfl rfl ?_ | refine zJ rfl rfl ?_ | refine zK ?_ | refine zL ?_ | refine zM rfl ?_ | refine zN ?_)
            exact ⟨(a, c, l1), ⟨rfl, rfl, rfl, rfl⟩, .inl ⟨hi, hspc (.inl rfl)⟩, by show l1.length ≤ _; omega, hp3⟩
          · repeat (first | refine zA ?_ | refine zB ?_ | refine zC rfl rfl rfl ?_ | refine zD ?_ | refine zE ?_ | refine zF ?_ | refine zG rfl ?_ | refine zH rfl ?_ | refine zI rfl rfl rfl ?_ | refine zJ rfl rfl ?_ | refine zK ?_ | refine zL ?_ | refine zM rfl ?_ | refine zN ?_)
            refine WL.sAt rfl rfl rfl rfl rfl hi ?_
            rw [hu]
            repeat (first | refine zA ?_ | refine zB ?_ | refine zC rfl rfl rfl ?_ | refine zD ?_ | refine zE ?_ | refine zF ?_ | refine zG rfl ?_ | refine zH rfl ?_ | refine zI rfl rfl rfl ?_ | refine zJ rfl rfl ?_ | refine zK ?_ | refine zL ?_ | refine zM rfl ?_ | refine zN ?_)
            refine WL.sAt rfl rfl rfl rfl rfl hi ?_
            rw [hu]
            repeat (first | refine zA ?_ | refine zB ?_ | refine zC rfl rfl rfl ?_ | refine zD ?_ | refine zE ?_ | refine zF ?_ | refine zG rfl ?_ | refine zH rfl ?_ | refine zI rfl rfl rfl ?_ | refine zJ rfl rfl ?_ | refine zK ?_ | refine zL ?_ | refine zM rfl ?_ | refine zN ?_)
            exact ⟨(a, c, l1), ⟨rfl, rfl, rfl, rfl⟩, .inl ⟨hi, hspc (.inr rfl)⟩, by show l1.length ≤ _; omega, hp3⟩
        · have hi : i = s.length := by have h : ¬ ((i : Nat) : Int) < ((s.length : Nat) : Int) := of_decide_eq_false c1; omega
          repeat (first | refine zA ?_ | refine zB ?_ | refine zC rfl rfl rfl ?_ | refine zD ?_ | refine zE ?_ | refine zF ?_ | refine zG rfl ?_ | refine zH rfl ?_ | refine zI rfl rfl rfl ?_ | refine zJ rfl rfl ?_ | refine zK ?_ | refine zL ?_ | refine zM rfl ?_ | refine zN ?_)
          refine ⟨(a, c, l1), ⟨rfl, rfl, rfl, rfl⟩, .inr ⟨hi, ?_⟩, by show l1.length ≤ _; omega, hp3⟩
          rw [hinv, hl1, hi, List.drop_of_length_le (Nat.le_refl _)]
          rfl
      rintro ⟨a, c, l2⟩ e4 w4 hsub ⟨hinv2, hl2, hp4⟩
      refine WC.sub hsub ?_
      clear hsub e4
      repeat (first | refine zA ?_ | refine zB ?_ | refine zC rfl rfl rfl ?_ | refine zD ?_ | refine zE ?_ | refine zF ?_ | refine zG rfl ?_ | refine zH rfl ?_ | refine zI rfl rfl rfl ?_ | refine zJ rfl rfl ?_ | refine zK ?_ | refine zL ?_ | refine zM rfl ?_ | refine zN ?_)
      refine ⟨(i + 1, a, c, l2), ⟨rfl, rfl, congrArg (fun z => some (Value.int .i64 z)) step, rfl, rfl⟩, ?_, by show l2.length ≤ _; omega, hp4⟩
      rcases hinv2 with ⟨h1, h2⟩ | ⟨h1, h2⟩
      · exact .inl ⟨h1, Nat.le_refl _, by rw [h2, Nat.sub_self, List.take_zero]⟩
      · exact .inr ⟨by omega, h2⟩
    · rintro ⟨q', a', c', l'⟩ e6 w6 hsub ⟨h1, h3, h4⟩
      refine WC.sub hsub ?_
      clear hsub e6
      repeat (first | refine zA ?_ | refine zB ?_ | refine zC rfl rfl rfl ?_ | refine zD ?_ | refine zE ?_ | refine zF ?_ | refine zG rfl ?_ | refine zH rfl ?_ | refine zI rfl rfl rfl ?_ | refine zJ rfl rfl ?_ | refine zK ?_ | refine zL ?_ | refine zM rfl ?_ | refine zN ?_)
      exact ⟨(i + 1, q', a', c', l'), (by show s.length + 1 - (i + 1) < s.length + 1 - i; omega), ⟨rfl, rfl, rfl, congrArg (fun z => some (Value.int .i64 z)) step, rfl⟩, h1, h3, h4⟩
  · have hi : ¬ i ≤ s.length := by have h : ¬ ((i : Nat) : Int) ≤ ((s.length : Nat) : Int) := of_decide_eq_false hc; omega
    have hinv := (hinv.resolve_left (fun h => hi h.1)).2
    subst hinv
    repeat (first | refine zA ?_ | refine zB ?_ | refine zC rfl rfl rfl ?_ | refine zD ?_ | refine zE ?_ | refine zF ?_ | refine zG rfl ?_ | refine zH rfl ?_ | refine zI rfl rfl rfl ?_ | refine zJ rfl rfl ?_ | refine zK ?_ | refine zL ?_ | refine zM rfl ?_ | refine zN ?_)
    exact Res.one rfl rfl rfl ⟨a, c, rfl, hp⟩
end Go.Proofs.YtpbbneclkhfgoaaDoor
end
section
/- ltl, thirty-third: the reference's Arity, Dual (printed by genu33.py). -/
namespace Go.Ltl
open Go.W
def arM (w : Str) : Int := if w ∈ atomsL then 0 else if w ∈ onesL then 1 else if w ∈ twosL then 2 else -1
end Go.Ltl
namespace Go.Proofs.YtpbbneclkhfgoaaDoor
open Go.W Go.Ltl Go.RowKit
set_option maxRecDepth 100000
attribute [local irreducible] WC WL WQ WS WH

theorem Arity_any (w : Str) (W : World) : Ret Tryd.prog 55 [st w] W fun v w' => v = .int .i64 (arM w) ∧ w' = W := by
  by_cases h0 : w = wTrue
  · subst h0
    refine enter Tryd.func55 rfl rfl ⟨rfl, rfl⟩ rfl ?_
    repeat (first | refine zA ?_ | refine zB ?_ | refine zC rfl rfl rfl ?_ | refine zD ?_ | refine zE ?_ | refine zF ?_ | refine zG rfl ?_ | refine zH rfl ?_ | refine zI rfl rfl rfl ?_ | refine zJ rfl rfl ?_ | refine zK ?_ | refine zL ?_ | refine zM rfl ?_ | refine zN ?_)
    refine WL.sCmp (a := wTrue) (b := wTrue) (r := true) rfl rfl rfl rfl (by decide) ?_
    repeat (first | refine zA ?_ | refine zB ?_ | refine zC rfl rfl rfl ?_ | refine zD ?_ | refine zE ?_ | refine zF ?_ | refine zG rfl ?_ | refine zH rfl ?_ | refine zI rfl rfl rfl ?_ | refine zJ rfl rfl ?_ | refine zK ?_ | refine zL ?_ | refine zM rfl ?_ | refine zN ?_)
    exact Res.one rfl rfl rfl ⟨rfl, rfl⟩
  by_cases h1 : w = wFalse
  · subst h1
    refine enter Tryd.func55 rfl rfl ⟨rfl, rfl⟩ rfl ?_
    repeat (first | refine zA ?_ | refine zB ?_ | refine zC rfl rfl rfl ?_ | refine zD ?_ | refine zE ?_ | refine zF ?_ | refine zG rfl ?_ | refine zH rfl ?_ | refine zI rfl rfl rfl ?_ | refine zJ rfl rfl ?_ | refine zK ?_ | refine zL ?_ | refine zM rfl ?_ | refine zN ?_)
    refine WL.sCmp (a := wFalse) (b := wTrue) (r := false) rfl rfl rfl rfl (by decide) ?_
    repeat (first | refine zA ?_ | refine zB ?_ | refine zC rfl rfl rfl ?_ | refine zD ?_ | refine zE ?_ | refine zF ?_ | refine zG rfl ?_ | refine zH rfl ?_ | refine zI rfl rfl rfl ?_ | refine zJ rfl rfl ?_ | refine zK ?_ | refine zL ?_ | refine zM rfl ?_ | refine zN ?_)
    refine WL.sCmp (a := wFalse) (b := wFalse) (r := true) rfl rfl rfl rfl (by decide) ?_
    repeat (first | refine zA ?_ | refine zB ?_ | refine zC rfl rfl rfl ?_ | refine zD ?_ | refine zE ?_ | refine zF ?_ | refine zG rfl ?_ | refine zH rfl ?_ | refine zI rfl rfl rfl ?_ | refine zJ rfl rfl ?_ | refine zK ?_ | refine zL ?_ | refine zM rfl ?_ | refine zN ?_)
    exact Res.one rfl rfl rfl ⟨rfl, rfl⟩
  by_cases h2 : w = [112, 48]
  · subst h2
    refine enter Tryd.func55 rfl rfl ⟨rfl, rfl⟩ rfl ?_
    repeat (first | refine zA ?_ | refine zB ?_ | refine zC rfl rfl rfl ?_ | refine zD ?_ | refine zE ?_ | refine zF ?_ | refine zG rfl ?_ | refine zH rfl ?_ | refine zI rfl rfl rfl ?_ | refine zJ rfl rfl ?_ | refine zK ?_ | refine zL ?_ | refine zM rfl ?_ | refine zN ?_)
    refine WL.sCmp (a := [112, 48]) (b := wTrue) (r := false) rfl rfl rfl rfl (by decide) ?_
    repeat (first | refine zA ?_ | refine zB ?_ | refine zC rfl rfl rfl ?_ | refine zD ?_ | refine zE ?_ | refine zF ?_ | refine zG rfl ?_ | refine zH rfl ?_ | refine zI rfl rfl rfl ?_ | refine zJ rfl rfl ?_ | refine zK ?_ | refine zL ?_ | refine zM rfl ?_ | refine zN ?_)
    refine WL.sCmp (a := [112, 48]) (b := wFalse) (r := false) rfl rfl rfl rfl (by decide) ?_
    repeat (first | refine zA ?_ | refine zB ?_ | refine zC rfl rfl rfl ?_ | refine zD ?_ | refine zE ?_ | refine zF ?_ | refine zG rfl ?_ | refine zH rfl ?_ | refine zI rfl rfl rfl ?_ | refine zJ rfl rfl ?_ | refine zK ?_ | refine zL ?_ | refine zM rfl ?_ | refine zN ?_)
    refine WL.sCmp (a := [112, 48]) (b := [112, 48]) (r := true) rfl rfl rfl rfl (by decide) ?_
    repeat (first | refine zA ?_ | refine zB ?_ | refine zC rfl rfl rfl ?_ | refine zD ?_ | refine zE ?_ | refine zF ?_ | refine zG rfl ?_ | refine zH rfl ?_ | refine zI rfl rfl rfl ?_ | refine zJ rfl rfl ?_ | refine zK ?_ | refine zL ?_ | refine zM rfl ?_ | refine zN ?_)
    exact Res.one rfl rfl rfl ⟨rfl, rfl⟩
  by_cases h3 : w = [112, 49]
  · subst h3
    refine enter Tryd.func55 rfl rfl ⟨rfl, rfl⟩ rfl ?_
    repeat (first | refine zA ?_ | refine zB ?_ | refine zC rfl rfl rfl ?_ | refine zD ?_ | refine zE ?_ | refine zF ?_ | refine zG rfl ?_ | refine zH rfl ?_ | refine zI rfl rfl rfl ?_ | refine zJ rfl rfl ?_ | refine zK ?_ | refine zL ?_ | refine zM rfl ?_ | refine zN ?_)
    refine WL.sCmp (a := [112, 49]) (b := wTrue) (r := false) rfl rfl rfl rfl (by decide) ?_
    repeat (first | refine zA ?_ | refine zB ?_ | refine zC rfl rfl rfl ?_ | refine zD ?_ | refine zE ?_ | refine zF ?_ | refine zG rfl ?_ | refine zH rfl ?_ | refine zI rfl rfl rfl ?_ | refine zJ rfl rfl ?_ | refine zK ?_ | refine zL ?_ | refine zM rfl ?_ | refine zN ?_)
    refine WL.sCmp (a := [112, 49]) (b := wFalse) (r := false) rfl rfl rfl rfl (by decide) ?_
    repeat (first | refine zA ?_ | refine zB ?_ | refine zC rfl rfl rfl ?_ | refine zD ?_ | refine zE ?_ | refine zF ?_ | refine zG rfl ?_ | refine zH rfl ?_ | refine zI rfl rfl rfl ?_ | refine zJ rfl rfl ?_ | refine zK ?_ | refine zL ?_ | refine zM rfl ?_ | refine zN ?_)
    refine WL.sCmp (a := [112, 49]) (b := [112, 48]) (r := false) rfl rfl rfl rfl (by decide) ?_
    repeat (first | refine zA ?_ | refine zB ?_ | refine zC rfl rfl rfl ?_ | refine zD ?_ | refine zE ?_ | refine zF ?_ | refine zG rfl ?_ | refine zH rfl ?_ | refine zI rfl rfl rfl ?_ | refine zJ rfl rfl ?_ | refine zK ?_ | refine zL ?_ | refine zM rfl ?_ | refine zN ?_)
    refine WL.sCmp (a := [112, 49]) (b := [112, 49]) (r := true) rfl rfl rfl rfl (by decide) ?_
    repeat (first | refine zA ?_ | refine zB ?_ | refine zC rfl rfl rfl ?_ | refine zD ?_ | refine zE ?_ | refine zF ?_ | refine zG rfl ?_ | refine zH rfl ?_ | refine zI rfl rfl rfl ?_ | refine zJ rfl rfl ?_ | refine zK ?_ | refine zL ?_ | refine zM rfl ?_ | refine zN ?_)
    exact Res.one rfl rfl rfl ⟨rfl, rfl⟩
  by_cases h4 : w = [112, 50]
  · subst h4
    refine enter Tryd.func55 rfl rfl ⟨rfl, rfl⟩ rfl ?_
    repeat (first | refine zA ?_ | refine zB ?_ | refine zC rfl rfl rfl ?_ | refine zD ?_ | refine zE ?_ | refine zF ?_ | refine zG rfl ?_ | refine zH rfl ?_ | refine zI rfl rfl rfl ?_ | refine zJ rfl rfl ?_ | refine zK ?_ | refine zL ?_ | refine zM rfl ?_ | refine zN ?_)
    refine WL.sCmp (a := [112, 50]) (b := wTrue) (r := false) rfl rfl rfl rfl (by decide) ?_
    repeat (first | refine zA ?_ | refine zB ?_ | refine zC rfl rfl rfl ?_ | refine zD ?_ | refine zE ?_ | refine zF ?_ | refine zG rfl ?_ | refine zH rfl ?_ | refine zI rfl rfl rfl ?_ | refine zJ rfl rfl ?_ | refine zK ?_ | refine zL ?_ | refine zM rfl ?_ | refine zN ?_)
    refine WL.sCmp (a := [112, 50]) (b := wFalse) (r := false) rfl rfl rfl rfl (by decide) ?_
    repeat (first | refine zA ?_ | refine zB ?_ | refine zC rfl rfl rfl ?_ | refine zD ?_ | refine zE ?_ | refine zF ?_ | refine zG rfl ?_ | refine zH rfl ?_ | refine zI rfl rfl rfl ?_ | refine zJ rfl rfl ?_ | refine zK ?_ | refine zL ?_ | refine zM rfl ?_ | refine zN ?_)
    refine WL.sCmp (a := [112, 50]) (b := [112, 48]) (r := false) rfl rfl rfl rfl (by decide) ?_
    repeat (first | refine zA ?_ | refine zB ?_ | refine zC rfl rfl rfl ?_ | refine zD ?_ | refine zE ?_ | refine zF ?_ | refine zG rfl ?_ | refine zH rfl ?_ | refine zI rfl rfl rfl ?_ | refine zJ rfl rfl ?_ | refine zK ?_ | refine zL ?_ | refine zM rfl ?_ | refine zN ?_)
    refine WL.sCmp (a := [112, 50]) (b := [112, 49]) (r := false) rfl rfl rfl rfl (by decide) ?_
    repeat (first | refine zA ?_ | refine zB ?_ | refine zC rfl rfl rfl ?_ | refine zD ?_ | refine zE ?_ | refine zF ?_ | refine zG rfl ?_ | refine zH rfl ?_ | refine zI rfl rfl rfl ?_ | refine zJ rfl rfl ?_ | refine zK ?_ | refine zL ?_ | refine zM rfl ?_ | refine zN ?_)
    refine WL.sCmp (a := [112, 50]) (b := [112, 50]) (r := true) rfl rfl rfl rfl (by decide) ?_
    repeat (first | refine zA ?_ | refine zB ?_ | refine zC rfl rfl rfl ?_ | refine zD ?_ | refine zE ?_ | refine zF ?_ | refine zG rfl ?_ | refine zH rfl ?_ | refine zI rfl rfl rfl ?_ | refine zJ rfl rfl ?_ | refine zK ?_ | refine zL ?_ | refine zM rfl ?_ | refine zN ?_)
    exact Res.one rfl rfl rfl ⟨rfl, rfl⟩
  by_cases h5 : w = [112, 51]
  · subst h5
    refine enter Tryd.func55 rfl rfl ⟨rfl, rfl⟩ rfl ?_
    repeat (first | refine zA ?_ | refine zB ?_ | refine zC rfl rfl rfl ?_ | refine zD ?_ | refine zE ?_ | refine zF ?_ | refine zG rfl ?_ | refine zH rfl ?_ | refine zI rfl rfl rfl ?_ | refine zJ rfl rfl ?_ | refine zK ?_ | refine zL ?_ | refine zM rfl ?_ | refine zN ?_)
    refine WL.sCmp (a := [112, 51]) (b := wTrue) (r := false) rfl rfl rfl rfl (by decide) ?_
    repeat (first | refine zA ?_ | refine zB ?_ | refine zC rfl rfl rfl ?_ | refine zD ?_ | refine zE ?_ | refine zF ?_ | refine zG rfl ?_ | refine zH rfl ?_ | refine zI rfl rfl rfl ?_ | refine zJ rfl rfl ?_ | refine zK ?_ | refine zL ?_ | refine zM rfl ?_ | refine zN ?_)
    refine WL.sCmp (a := [112, 51]) (b := wFalse) (r := false) rfl rfl rfl rfl (by decide) ?_
    repeat (first | refine zA ?_ | refine zB ?_ | refine zC rfl rfl rfl ?_ | refine zD ?_ | refine zE ?_ | refine zF ?_ | refine zG rfl ?_ | refine zH rfl ?_ | refine zI rfl rfl rfl ?_ | refine zJ rfl rfl ?_ | refine zK ?_ | refine zL ?_ | refine zM rfl ?_ | refine zN ?_)
    refine WL.sCmp (a := [112, 51]) (b := [112, 48]) (r := false) rfl rfl rfl rfl (by decide) ?_
    repeat (first | refine zA ?_ | refine zB ?_ | refine zC rfl rfl rfl ?_ | refine zD ?_ | refine zE ?_ | refine zF ?_ | refine zG rfl ?_ | refine zH rfl ?_ | refine zI rfl rfl rfl ?_ | refine zJ rfl rfl ?_ | refine zK ?_ | refine zL ?_ | refine zM rfl ?_ | refine zN ?_)
    refine WL.sCmp (a := [112, 51]) (b := [112, 49]) (r := false) rfl rfl rfl rfl (by decide) ?_
    repeat (first | refine zA ?_ | refine zB ?_ | refine zC rfl rfl rfl ?_ | refine zD ?_ | refine zE ?_ | refine zF ?_ | refine zG rfl ?_ | refine zH rfl ?_ | refine zI rfl rfl rfl ?_ | refine zJ rfl rfl ?_ | refine zK ?_ | refine zL ?_ | refine zM rfl ?_ | refine zN ?_)
    refine WL.sCmp (a := [112, 51]) (b := [112, 50]) (r := false) rfl rfl rfl rfl (by decide) ?_
    repeat (first | refine zA ?_ | refine zB ?_ | refine zC rfl rfl rfl ?_ | refine zD ?_ | refine zE ?_ | refine zF ?_ | refine zG rfl ?_ | refine zH rfl ?_ | refine zI rfl rfl rfl ?_ | refine zJ rfl rfl ?_ | refine zK ?_ | refine zL ?_ | refine zM rfl ?_ | refine zN ?_)
    refine WL.sCmp (a := [112, 51]) (b := [112, 51]) (r := true) rfl rfl rfl rfl (by decide) ?_
    repeat (first | refine zA ?_ | refine zB ?_ | refine zC rfl rfl rfl ?_ | refine zD ?_ | refine zE ?_ | refine zF ?_ | refine zG rfl ?_ | refine zH rfl ?_ | refine zI rfl rfl rfl ?_ | refine zJ rfl rfl ?_ | refine zK ?_ | refine zL ?_ | refine zM rfl ?_ | refine zN ?_)
    exact Res.one rfl rfl rfl ⟨rfl, rfl⟩
  by_cases h6 : w = wNot
  · subst h6
    refine enter Tryd.func55 rfl rfl ⟨rfl, rfl⟩ rfl ?_
    repeat (first | refine zA ?_ | refine zB ?_ | refine zC rfl rfl rfl ?_ | refine zD ?_ | refine zE ?_ | refine zF ?_ | refine zG rfl ?_ | refine zH rfl ?_ | refine zI rfl rfl rfl ?_ | refine zJ rfl rfl ?_ | refine zK ?_ | refine zL ?_ | refine zM rfl ?_ | refine zN ?_)
    refine WL.sCmp (a := wNot) (b := wTrue) (r := false) rfl rfl rfl rfl (by decide) ?_
    repeat (first | refine zA ?_ | refine zB ?_ | refine zC rfl rfl rfl ?_ | refine zD ?_ | refine zE ?_ | refine zF ?_ | refine zG rfl ?_ | refine zH rfl ?_ | refine zI rfl rfl rfl ?_ | refine zJ rfl rfl ?_ | refine zK ?_ | refine zL ?_ | refine zM rfl ?_ | refine zN ?_)
    refine WL.sCmp (a := wNot) (b := wFalse) (r := false) rfl rfl rfl rfl (by decide) ?_
    repeat (first | refine zA ?_ | refine zB ?_ | refine zC rfl rfl rfl ?_ | refine zD ?_ | refine zE ?_ | refine zF ?_ | refine zG rfl ?_ | refine zH rfl ?_ | refine zI rfl rfl rfl ?_ | refine zJ rfl rfl ?_ | refine zK ?_ | refine zL ?_ | refine zM rfl ?_ | refine zN ?_)
    refine WL.sCmp (a := wNot) (b := [112, 48]) (r := false) rfl rfl rfl rfl (by decide) ?_
    repeat (first | refine zA ?_ | refine zB ?_ | refine zC rfl rfl rfl ?_ | refine zD ?_ | refine zE ?_ | refine zF ?_ | refine zG rfl ?_ | refine zH rfl ?_ | refine zI rfl rfl rfl ?_ | refine zJ rfl rfl ?_ | refine zK ?_ | refine zL ?_ | refine zM rfl ?_ | refine zN ?_)
    refine WL.sCmp (a := wNot) (b := [112, 49]) (r := false) rfl rfl rfl rfl (by decide) ?_
    repeat (first | refine zA ?_ | refine zB ?_ | refine zC rfl rfl rfl ?_ | refine zD ?_ | refine zE ?_ | refine zF ?_ | refine zG rfl ?_ | refine zH rfl ?_ | refine zI rfl rfl rfl ?_ | refine zJ rfl rfl ?_ | refine zK ?_ | refine zL ?_ | refine zM rfl ?_ | refine zN ?_)
    refine WL.sCmp (a := wNot) (b := [112, 50]) (r := false) rfl rfl rfl rfl (by decide) ?_
    repeat (first | refine zA ?_ | refine zB ?_ | refine zC rfl rfl rfl ?_ | refine zD ?_ | refine zE ?_ | refine zF ?_ | refine zG rfl ?_ | refine zH rfl ?_ | refine zI rfl rfl rfl ?_ | refine zJ rfl rfl ?_ | refine zK ?_ | refine zL ?_ | refine zM rfl ?_ | refine zN ?_)
    refine WL.sCmp (a := wNot) (b := [112, 51]) (r := false) rfl rfl rfl rfl (by decide) ?_
    repeat (first | refine zA ?_ | refine zB ?_ | refine zC rfl rfl rfl ?_ | refine zD ?_ | refine zE ?_ | refine zF ?_ | refine zG rfl ?_ | refine zH rfl ?_ | refine zI rfl rfl rfl ?_ | refine zJ rfl rfl ?_ | refine zK ?_ | refine zL ?_ | refine zM rfl ?_ | refine zN ?_)
    refine WL.sCmp (a := wNot) (b := wNot) (r := true) rfl rfl rfl rfl (by decide) ?_
    repeat (first | refine zA ?_ | refine zB ?_ | refine zC rfl rfl rfl ?_ | refine zD ?_ | refine zE ?_ | refine zF ?_ | refine zG rfl ?_ | refine zH rfl ?_ | refine zI rfl rfl rfl ?_ | refine zJ rfl rfl ?_ | refine zK ?_ | refine zL ?_ | refine zM rfl ?_ | refine zN ?_)
    exact Res.one rfl rfl rfl ⟨rfl, rfl⟩
  by_cases h7 : w = wNext
  · subst h7
    refine enter Tryd.func55 rfl rfl ⟨rfl, rfl⟩ rfl ?_
    repeat (first | refine zA ?_ | refine zB ?_ | refine zC rfl rfl rfl ?_ | refine zD ?_ | refine zE ?_ | refine zF ?_ | refine zG rfl ?_ | refine zH rfl ?_ | refine zI rfl rfl rfl ?_ | refine zJ rfl rfl ?_ | refine zK ?_ | refine zL ?_ | refine zM rfl ?_ | refine zN ?_)
    refine WL.sCmp (a := wNext) (b := wTrue) (r := false) rfl rfl rfl rfl (by decide) ?_
    repeat (first | refine zA ?_ | refine zB ?_ | refine zC rfl rfl rfl ?_ | refine zD ?_ | refine zE ?_ | refine zF ?_ | refine zG rfl ?_ | refine zH rfl ?_ | refine zI rfl rfl rfl ?_ | refine zJ rfl rfl ?_ | refine zK ?_ | refine zL ?_ | refine zM rfl ?_ | refine zN ?_)
    refine WL.sCmp (a := wNext) (b := wFalse) (r := false) rfl rfl rfl rfl (by decide) ?_
    repeat (first | refine zA ?_ | refine zB ?_ | refine zC rfl rfl rfl ?_ | refine zD ?_ | refine zE ?_ | refine zF ?_ | refine zG rfl ?_ | refine zH rfl ?_ | refine zI rfl rfl rfl ?_ | refine zJ rfl rfl ?_ | refine zK ?_ | refine zL ?_ | refine zM rfl ?_ | refine zN ?_)
    refine WL.sCmp (a := wNext) (b := [112, 48]) (r := false) rfl rfl rfl rfl (by decide) ?_
    repeat (first | refine zA ?_ | refine zB ?_ | refine zC rfl rfl rfl ?_ | refine zD ?_ | refine zE ?_ | refine zF ?_ | refine zG rfl ?_ | refine zH rfl ?_ | refine zI rfl rfl rfl ?_ | refine zJ rfl rfl ?_ | refine zK ?_ | refine zL ?_ | refine zM rfl ?_ | refine zN ?_)
    refine WL.sCmp (a := wNext) (b := [112, 49]) (r := false) rfl rfl rfl rfl (by decide) ?_
    repeat (first | refine zA ?_ | refine zB ?_ | refine zC rfl rfl rfl ?_ | refine zD ?_ | refine zE ?_ | refine zF ?_ | refine zG rfl ?_ | refine zH rfl ?_ | refine zI rfl rfl rfl ?_ | refine zJ rfl rfl ?_ | refine zK ?_ | refine zL ?_ | refine zM rfl ?_ | refine zN ?_)
    refine WL.sCmp (a := wNext) (b := [112, 50]) (r := false) rfl rfl rfl rfl (by decide) ?_
    repeat (first | refine zA ?_ | refine zB ?_ | refine zC rfl rfl rfl ?_ | refine zD ?_ | refine zE ?_ | refine zF ?_ | refine zG rfl ?_ | refine zH rfl ?_ | refine zI rfl rfl rfl ?_ | refine zJ rfl rfl ?_ | refine zK ?_ | refine zL ?_ | refine zM rfl ?_ | refine zN ?_)
    refine WL.sCmp (a := wNext) (b := [112, 51]) (r := false) rfl rfl rfl rfl (by decide) ?_
    repeat (first | refine zA ?_ | refine zB ?_ | refine zC rfl rfl rfl ?_ | refine zD ?_ | refine zE ?_ | refine zF ?_ | refine zG rfl ?_ | refine zH rfl ?_ | refine zI rfl rfl rfl ?_ | refine zJ rfl rfl ?_ | refine zK ?_ | refine zL ?_ | refine zM rfl ?_ | refine zN ?_)
    refine WL.sCmp (a := wNext) (b := wNot) (r := false) rfl rfl rfl rfl (by decide) ?_
    repeat (first | refine zA ?_ | refine zB ?_ | refine zC rfl rfl rfl ?_ | refine zD ?_ | refine zE ?_ | refine zF ?_ | refine zG rfl ?_ | refine zH rfl ?_ | refine zI rfl rfl rfl ?_ | refine zJ rfl rfl ?_ | refine zK ?_ | refine zL ?_ | refine zM rfl ?_ | refine zN ?_)
    refine WL.sCmp (a := wNext) (b := wNext) (r := true) rfl rfl rfl rfl (by decide) ?_
    repeat (first | refine zA ?_ | refine zB ?_ | refine zC rfl rfl rfl ?_ | refine zD ?_ | refine zE ?_ | refine zF ?_ | refine zG rfl ?_ | refine zH rfl ?_ | refine zI rfl rfl rfl ?_ | refine zJ rfl rfl ?_ | refine zK ?_ | refine zL ?_ | refine zM rfl ?_ | refine zN ?_)
    exact Res.one rfl rfl rfl ⟨rfl, rfl⟩
  by_cases h8 : w = wAlways
  · subst h8
    refine enter Tryd.func55 rfl rfl ⟨rfl, rfl⟩ rfl ?_
    repeat (first | refine zA ?_ | refine zB ?_ | refine zC rfl rfl rfl ?_ | refine zD ?_ | refine zE ?_ | refine zF ?_ | refine zG rfl ?_ | refine zH rfl ?_ | refine zI rfl rfl rfl ?_ | refine zJ rfl rfl ?_ | refine zK ?_ | refine zL ?_ | refine zM rfl ?_ | refine zN ?_)
    refine WL.sCmp (a := wAlways) (b := wTrue) (r := false) rfl rfl rfl rfl (by decide) ?_
    repeat (first | refine zA ?_ | refine zB ?_ | refine zC rfl rfl rfl ?_ | refine zD ?_ | refine zE ?_ | refine zF ?_ | refine zG rfl ?_ | refine zH rfl ?_ | refine zI rfl rfl rfl ?_ | refine zJ rfl rfl ?_ | refine zK ?_ | refine zL ?_ | refine zM rfl ?_ | refine zN ?_)
    refine WL.sCmp (a := wAlways) (b := wFalse) (r := false) rfl rfl rfl rfl (by decide) ?_
    repeat (first | refine zA ?_ | refine zB ?_ | refine zC rfl rfl rfl ?_ | refine zD ?_ | refine zE ?_ | refine zF ?_ | refine zG rfl ?_ | refine zH rfl ?_ | refine zI rfl rfl rfl ?_ | refine zJ rfl rfl ?_ | refine zK ?_ | refine zL ?_ | refine zM rfl ?_ | refine zN ?_)
    refine WL.sCmp (a := wAlways) (b := [112, 48]) (r := false) rfl rfl rfl rfl (by decide) ?_
    repeat (first | refine zA ?_ | refine zB ?_ | refine zC rfl rfl rfl ?_ | refine zD ?_ | refine zE ?_ | refine zF ?_ | refine zG rfl ?_ | refine zH rfl ?_ | refine zI rfl rfl rfl ?_ | refine zJ rfl rfl ?_ | refine zK ?_ | refine zL ?_ | refine zM rfl ?_ | refine zN ?_)
    refine WL.sCmp (a := wAlways) (b := [112, 49]) (r := false) rfl rfl rfl rfl (by decide) ?_
    repeat (first | refine zA ?_ | refine zB ?_ | refine zC rfl rfl rfl ?_ | refine zD ?_ | refine zE ?_ | refine zF ?_ | refine zG rfl ?_ | refine zH rfl ?_ | refine zI rfl rfl rfl ?_ | refine zJ rfl rfl ?_ | refine zK ?_ | refine zL ?_ | refine zM rfl ?_ | refine zN ?_)
    refine WL.sCmp (a := wAlways) (b := [112, 50]) (r := false) rfl rfl rfl rfl (by decide) ?_
    repeat (first | refine zA ?_ | refine zB ?_ | refine zC rfl rfl rfl ?_ | refine zD ?_ | refine zE ?_ | refine zF ?_ | refine zG rfl ?_ | refine zH rfl ?_ | refine zI rfl rfl rfl ?_ | refine zJ rfl rfl ?_ | refine zK ?_ | refine zL ?_ | refine zM rfl ?_ | refine zN ?_)
    refine WL.sCmp (a := wAlways) (b := [112, 51]) (r := false) rfl rfl rfl rfl (by decide) ?_
    repeat (first | refine zA ?_ | refine zB ?_ | refine zC rfl rfl rfl ?_ | refine zD ?_ | refine zE ?_ | refine zF ?_ | refine zG rfl ?_ | refine zH rfl ?_ | refine zI rfl rfl rfl ?_ | refine zJ rfl rfl ?_ | refine zK ?_ | refine zL ?_ | refine zM rfl ?_ | refine zN ?_)
    refine WL.sCmp (a := wAlways) (b := wNot) (r := false) rfl rfl rfl rfl (by decide) ?_
    repeat (first | refine zA ?_ | refine zB ?_ | refine zC rfl rfl rfl ?_ | refine zD ?_ | refine zE ?_ | refine zF ?_ | refine zG rfl ?_ | refine zH rfl ?_ | refine zI rfl rfl rfl ?_ | refine zJ rfl rfl ?_ | refine zK ?_ | refine zL ?_ | refine zM rfl ?_ | refine zN ?_)
    refine WL.sCmp (a := wAlways) (b := wNext) (r := false) rfl rfl rfl rfl (by decide) ?_
    repeat (first | refine zA ?_ | refine zB ?_ | refine zC rfl rfl rfl ?_ | refine zD ?_ | refine zE ?_ | refine zF ?_ | refine zG rfl ?_ | refine zH rfl ?_ | refine zI rfl rfl rfl ?_ | refine zJ rfl rfl ?_ | refine zK ?_ | refine zL ?_ | refine zM rfl ?_ | refine zN ?_)
    refine WL.sCmp (a := wAlways) (b := wAlways) (r := true) rfl rfl rfl rfl (by decide) ?_
    repeat (first | refine zA ?_ | refine zB ?_ | refine zC rfl rfl rfl ?_ | refine zD ?_ | refine zE ?_ | refine zF ?_ | refine zG rfl ?_ | refine zH rfl ?_ | refine zI rfl rfl rfl ?_ | refine zJ rfl rfl ?_ | refine zK ?_ | refine zL ?_ | refine zM rfl ?_ | refine zN ?_)
    exact Res.one rfl rfl rfl ⟨rfl, rfl⟩
  by_cases h9 : w = wFinally
  · subst h9
    refine enter Tryd.func55 rfl rfl ⟨rfl, rfl⟩ rfl ?_
    repeat (first | refine zA ?_ | refine zB ?_ | refine zC rfl rfl rfl ?_ | refine zD ?_ | refine zE ?_ | refine zF ?_ | refine zG rfl ?_ | refine zH rfl ?_ | refine zI rfl rfl rfl ?_ | refine zJ rfl rfl ?_ | refine zK ?_ | refine zL ?_ | refine zM rfl ?_ | refine zN ?_)
    refine WL.sCmp (a := wFinally) (b := wTrue) (r := false) rfl rfl rfl rfl (by decide) ?_
    repeat (first | refine zA ?_ | refine zB ?_ | refine zC rfl rfl rfl ?_ | refine zD ?_ | refine zE ?_ | refine zF ?_ | refine zG rfl ?_ | refine zH rfl ?_ | refine zI rfl rfl rfl ?_ | refine zJ rfl rfl ?_ | refine zK ?_ | refine zL ?_ | refine zM rfl ?_ | refine zN ?_)
    refine WL.sCmp (a := wFinally) (b := wFalse) (r := false) rfl rfl rfl rfl (by decide) ?_
    repeat (first | refine zA ?_ | refine zB ?_ | refine zC rfl rfl rfl ?_ | refine zD ?_ | refine zE ?_ | refine zF ?_ | refine zG rfl ?_ | refine zH rfl ?_ | refine zI rfl rfl rfl ?_ | refine zJ rfl rfl ?_ | refine zK ?_ | refine zL ?_ | refine zM rfl ?_ | refine zN ?_)
    refine WL.sCmp (a := wFinally) (b := [112, 48]) (r := false) rfl rfl rfl rfl (by decide) ?_
    repeat (first | refine zA ?_ | refine zB ?_ | refine zC rfl rfl rfl ?_ | refine zD ?_ | refine zE ?_ | refine zF ?_ | refine zG rfl ?_ | refine zH rfl ?_ | refine zI rfl rfl rfl ?_ | refine zJ rfl rfl ?_ | refine zK ?_ | refine zL ?_ | refine zM rfl ?_ | refine zN ?_)
    refine WL.sCmp (a := wFinally) (b := [112, 49]) (r := false) rfl rfl rfl rfl (by decide) ?_
    repeat (first | refine zA ?_ | refine zB ?_ | refine zC rfl rfl rfl ?_ | refine zD ?_ | refine zE ?_ | refine zF ?_ | refine zG rfl ?_ | refine zH rfl ?_ | refine zI rfl rfl rfl ?_ | refine zJ rfl rfl ?_ | refine zK ?_ | refine zL ?_ | refine zM rfl ?_ | refine zN ?_)
    refine WL.sCmp (a := wFinally) (b := [112, 50]) (r := false) rfl rfl rfl rfl (by decide) ?_
    repeat (first | refine zA ?_ | refine zB ?_ | refine zC rfl rfl rfl ?_ | refine zD ?_ | refine zE ?_ | refine zF ?_ | refine zG rfl ?_ | refine zH rfl ?_ | refine zI rfl rfl rfl ?_ | refine zJ rfl rfl ?_ | refine zK ?_ | refine zL ?_ | refine zM rfl ?_ | refine zN ?_)
    refine WL.sCmp (a := wFinally) (b := [112, 51]) (r := false) rfl rfl rfl rfl (by decide) ?_
    repeat (first | refine zA ?_ | refine zB ?_ | refine zC rfl rfl rfl ?_ | refine zD ?_ | refine zE ?_ | refine zF ?_ | refine zG rfl ?_ | refine zH rfl ?_ | refine zI rfl rfl rfl ?_ | refine zJ rfl rfl ?_ | refine zK ?_ | refine zL ?_ | refine zM rfl ?_ | refine zN ?_)
    refine WL.sCmp (a := wFinally) (b := wNot) (r := false) rfl rfl rfl rfl (by decide) ?_
    repeat (first | refine zA ?_ | refine zB ?_ | refine zC rfl rfl rfl ?_ | refine zD ?_ | refine zE ?_ | refine zF ?_ | refine zG rfl ?_ | refine zH rfl ?_ | refine zI rfl rfl rfl ?_ | refine zJ rfl rfl ?_ | refine zK ?_ | refine zL ?_ | refine zM rfl ?_ | refine zN ?_)
    refine WL.sCmp (a := wFinally) (b := wNext) (r := false) rfl rfl rfl rfl (by decide) ?_
    repeat (first | refine zA ?_ | refine zB ?_ | refine zC rfl rfl rfl ?_ | refine zD ?_ | refine zE ?_ | refine zF ?_ | refine zG rfl ?_ | refine zH rfl ?_ | refine zI rfl rfl rfl ?_ | refine zJ rfl rfl ?_ | refine zK ?_ | refine zL ?_ | refine zM rfl ?_ | refine zN ?_)
    refine WL.sCmp (a := wFinally) (b := wAlways) (r := false) rfl rfl rfl rfl (by decide) ?_
    repeat (first | refine zA ?_ | refine zB ?_ | refine zC rfl rfl rfl ?_ | refine zD ?_ | refine zE ?_ | refine zF ?_ | refine zG rfl ?_ | refine zH rfl ?_ | refine zI rfl rfl rfl ?_ | refine zJ rfl rfl ?_ | refine zK ?_ | refine zL ?_ | refine zM rfl ?_ | refine zN ?_)
    refine WL.sCmp (a := wFinally) (b := wFinally) (r := true) rfl rfl rfl rfl (by decide) ?_
    repeat (first | refine zA ?_ | refine zB ?_ | refine zC rfl rfl rfl ?_ | refine zD ?_ | refine zE ?_ | refine zF ?_ | refine zG rfl ?_ | refine zH rfl ?_ | refine zI rfl rfl rfl ?_ | refine zJ rfl rfl ?_ | refine zK ?_ | refine zL ?_ | refine zM rfl ?_ | refine zN ?_)
    exact Res.one rfl rfl rfl ⟨rfl, rfl⟩
  by_cases h10 : w = wAnd
  · subst h10
    refine enter Tryd.func55 rfl rfl ⟨rfl, rfl⟩ rfl ?_
    repeat (first | refine zA ?_ | refine zB ?_ | refine zC rfl rfl rfl ?_ | refine zD ?_ | refine zE ?_ | refine zF ?_ | refine zG rfl ?_ | refine zH rfl ?_ | refine zI rfl rfl rfl ?_ | refine zJ rfl rfl ?_ | refine zK ?_ | refine zL ?_ | refine zM rfl ?_ | refine zN ?_)
    refine WL.sCmp (a := wAnd) (b := wTrue) (r := false) rfl rfl rfl rfl (by decide) ?_
    repeat (first | refine zA ?_ | refine zB ?_ | refine zC rfl rfl rfl ?_ | refine zD ?_ | refine zE ?_ | refine zF ?_ | refine zG rfl ?_ | refine zH rfl ?_ | refine zI rfl rfl rfl ?_ | refine zJ rfl rfl ?_ | refine zK ?_ | refine zL ?_ | refine zM rfl ?_ | refine zN ?_)
    refine WL.sCmp (a := wAnd) (b := wFalse) (r := false) rfl rfl rfl rfl (by decide) ?_
    repeat (first | refine zA ?_ | refine zB ?_ | refine zC rfl rfl rfl ?_ | refine zD ?_ | refine zE ?_ | refine zF ?_ | refine zG rfl ?_ | refine zH rfl ?_ | refine zI rfl rfl rfl ?_ | refine zJ rfl rfl ?_ | refine zK ?_ | refine zL ?_ | refine zM rfl ?_ | refine zN ?_)
    refine WL.sCmp (a := wAnd) (b := [112, 48]) (r := false) rfl rfl rfl rfl (by decide) ?_
    repeat (first | refine zA ?_ | refine zB ?_ | refine zC rfl rfl rfl ?_ | refine zD ?_ | refine zE ?_ | refine zF ?_ | refine zG rfl ?_ | refine zH rfl ?_ | refine zI rfl rfl rfl ?_ | refine zJ rfl rfl ?_ | refine zK ?_ | refine zL ?_ | refine zM rfl ?_ | refine zN ?_)
    refine WL.sCmp (a := wAnd) (b := [112, 49]) (r := false) rfl rfl rfl rfl (by decide) ?_
    repeat (first | refine zA ?_ | refine zB ?_ | refine zC rfl rfl rfl ?_ | refine zD ?_ | refine zE ?_ | refine zF ?_ | refine zG rfl ?_ | refine zH rfl ?_ | refine zI rfl rfl rfl ?_ | refine zJ rfl rfl ?_ | refine zK ?_ | refine zL ?_ | refine zM rfl ?_ | refine zN ?_)
    refine WL.sCmp (a := wAnd) (b := [112, 50]) (r := false) rfl rfl rfl rfl (by decide) ?_
    repeat (first | refine zA ?_ | refine zB ?_ | refine zC rfl rfl rfl ?_ | refine zD ?_ | refine zE ?_ | refine zF ?_ | refine zG rfl ?_ | refine zH rfl ?_ | refine zI rfl rfl rfl ?_ | refine zJ rfl rfl ?_ | refine zK ?_ | refine zL ?_ | refine zM rfl ?_ | refine zN ?_)
    refine WL.sCmp (a := wAnd) (b := [112, 51]) (r := false) rfl rfl rfl rfl (by decide) ?_
    repeat (first | refine zA ?_ | refine zB ?_ | refine zC rfl rfl rfl ?_ | refine zD ?_ | refine zE ?_ | refine zF ?_ | refine zG rfl ?_ | refine zH rfl ?_ | refine zI rfl rfl rfl ?_ | refine zJ rfl rfl ?_ | refine zK ?_ | refine zL ?_ | refine zM rfl ?_ | refine zN ?_)
    refine WL.sCmp (a := wAnd) (b := wNot) (r := false) rfl rfl rfl rfl (by decide) ?_
    repeat (first | refine zA ?_ | refine zB ?_ | refine zC rfl rfl rfl ?_ | refine zD ?_ | refine zE ?_ | refine zF ?_ | refine zG rfl ?_ | refine zH rfl ?_ | refine zI rfl rfl rfl ?_ | refine zJ rfl rfl ?_ | refine zK ?_ | refine zL ?_ | refine zM rfl ?_ | refine zN ?_)
    refine WL.sCmp (a := wAnd) (b := wNext) (r := false) rfl rfl rfl rfl (by decide) ?_
    repeat (first | refine zA ?_ | refine zB ?_ | refine zC rfl rfl rfl ?_ | refine zD ?_ | refine zE ?_ | refine zF ?_ | refine zG rfl ?_ | refine zH rfl ?_ | refine zI rfl rfl rfl ?_ | refine zJ rfl rfl ?_ | refine zK ?_ | refine zL ?_ | refine zM rfl ?_ | refine zN ?_)
    refine WL.sCmp (a := wAnd) (b := wAlways) (r := false) rfl rfl rfl rfl (by decide) ?_
    repeat (first | refine zA ?_ | refine zB ?_ | refine zC rfl rfl rfl ?_ | refine zD ?_ | refine zE ?_ | refine zF ?_ | refine zG rfl ?_ | refine zH rfl ?_ | refine zI rfl rfl rfl ?_ | refine zJ rfl rfl ?_ | refine zK ?_ | refine zL ?_ | refine zM rfl ?_ | refine zN ?_)
    refine WL.sCmp (a := wAnd) (b := wFinally) (r := false) rfl rfl rfl rfl (by decide) ?_
    repeat (first | refine zA ?_ | refine zB ?_ | refine zC rfl rfl rfl ?_ | refine zD ?_ | refine zE ?_ | refine zF ?_ | refine zG rfl ?_ | refine zH rfl ?_ | refine zI rfl rfl rfl ?_ | refine zJ rfl rfl ?_ | refine zK ?_ | refine zL ?_ | refine zM rfl ?_ | refine zN ?_)
    refine WL.sCmp (a := wAnd) (b := wAnd) (r := true) rfl rfl rfl rfl (by decide) ?_
    repeat (first | refine zA ?_ | refine zB ?_ | refine zC rfl rfl rfl ?_ | refine zD ?_ | refine zE ?_ | refine zF ?_ | refine zG rfl ?_ | refine zH rfl ?_ | refine zI rfl rfl rfl ?_ | refine zJ rfl rfl ?_ | refine zK ?_ | refine zL ?_ | refine zM rfl ?_ | refine zN ?_)
    exact Res.one rfl rfl rfl ⟨rfl, rfl⟩
  by_cases h11 : w = wOr
  · subst h11
    refine enter Tryd.func55 rfl rfl ⟨rfl, rfl⟩ rfl ?_
    repeat (first | refine zA ?_ | refine zB ?_ | refine zC rfl rfl rfl ?_ | refine zD ?_ | refine zE ?_ | refine zF ?_ | refine zG rfl ?_ | refine zH rfl ?_ | refine zI rfl rfl rfl ?_ | refine zJ rfl rfl ?_ | refine zK ?_ | refine zL ?_ | refine zM rfl ?_ | refine zN ?_)
    refine WL.sCmp (a := wOr) (b := wTrue) (r := false) rfl rfl rfl rfl (by decide) ?_
    repeat (first | refine zA ?_ | refine zB ?_ | refine zC rfl rfl rfl ?_ | refine zD ?_ | refine zE ?_ | refine zF ?_ | refine zG rfl ?_ | refine zH rfl ?_ | refine zI rfl rfl rfl ?_ | refine zJ rfl rfl ?_ | refine zK ?_ | refine zL ?_ | refine zM rfl ?_ | refine zN ?_)
    refine WL.sCmp (a := wOr) (b := wFalse) (r := false) rfl rfl rfl rfl (by decide) ?_
    repeat (first | refine zA ?_ | refine zB ?_ | refine zC rfl rfl rfl ?_ | refine zD ?_ | refine zE ?_ | refine zF ?_ | refine zG rfl ?_ | refine zH rfl ?_ | refine zI rfl rfl rfl ?_ | refine zJ rfl rfl ?_ | refine zK ?_ | refine zL ?_ | refine zM rfl ?_ | refine zN ?_)
    refine WL.sCmp (a := wOr) (b := [112, 48]) (r := false) rfl rfl rfl rfl (by decide) ?_
    repeat (first | refine zA ?_ | refine zB ?_ | refine zC rfl rfl rfl ?_ | refine zD ?_ | refine zE ?_ | refine zF ?_ | refine zG rfl ?_ | refine zH rfl ?_ | refine zI rfl rfl rfl ?_ | refine zJ rfl rfl ?_ | refine zK ?_ | refine zL ?_ | refine zM rfl ?_ | refine zN ?_)
    refine WL.sCmp (a := wOr) (b := [112, 49]) (r := false) rfl rfl rfl rfl (by decide) ?_
    repeat (first | refine zA ?_ | refine zB ?_ | refine zC rfl rfl rfl ?_ | refine zD ?_ | refine zE ?_ | refine zF ?_ | refine zG rfl ?_ | refine zH rfl ?_ | refine zI rfl rfl rfl ?_ | refine zJ rfl rfl ?_ | refine zK ?_ | refine zL ?_ | refine zM rfl ?_ | refine zN ?_)
    refine WL.sCmp (a := wOr) (b := [112, 50]) (r := false) rfl rfl rfl rfl (by decide) ?_
    repeat (first | refine zA ?_ | refine zB ?_ | refine zC rfl rfl rfl ?_ | refine zD ?_ | refine zE ?_ | refine zF ?_ | refine zG rfl ?_ | refine zH rfl ?_ | refine zI rfl rfl rfl ?_ | refine zJ rfl rfl ?_ | refine zK ?_ | refine zL ?_ | refine zM rfl ?_ | refine zN ?_)
    refine WL.sCmp (a := wOr) (b := [112, 51]) (r := false) rfl rfl rfl rfl (by decide) ?_
    repeat (first | refine zA ?_ | refine zB ?_ | refine zC rfl rfl rfl ?_ | refine zD ?_ | refine zE ?_ | refine zF ?_ | refine zG rfl ?_ | refine zH rfl ?_ | refine zI rfl rfl rfl ?_ | refine zJ rfl rfl ?_ | refine zK ?_ | refine zL ?_ | refine zM rfl ?_ | refine zN ?_)
    refine WL.sCmp (a := wOr) (b := wNot) (r := false) rfl rfl rfl rfl (by decide) ?_
    repeat (first | refine zA ?_ | refine zB ?_ | refine zC rfl rfl rfl ?_ | refine zD ?_ | refine zE ?_ | refine zF ?_ | refine zG rfl ?_ | refine zH rfl ?_ | refine zI rfl rfl rfl ?_ | refine zJ rfl rfl ?_ | refine zK ?_ | refine zL ?_ | refine zM rfl ?_ | refine zN ?_)
    refine WL.sCmp (a := wOr) (b := wNext) (r := false) rfl rfl rfl rfl (by decide) ?_
    repeat (first | refine zA ?_ | refine zB ?_ | refine zC rfl rfl rfl ?_ | refine zD ?_ | refine zE ?_ | refine zF ?_ | refine zG rfl ?_ | refine zH rfl ?_ | refine zI rfl rfl rfl ?_ | refine zJ rfl rfl ?_ | refine zK ?_ | refine zL ?_ | refine zM rfl ?_ | refine zN ?_)
    refine WL.sCmp (a := wOr) (b := wAlways) (r := false) rfl rfl rfl rfl (by decide) ?_
    repeat (first | refine zA ?_ | refine zB ?_ | refine zC rfl rfl rfl ?_ | refine zD ?_ | refine zE ?_ | refine zF ?_ | refine zG rfl ?_ | refine zH rfl ?_ | refine zI rfl rfl rfl ?_ | refine zJ rfl rfl ?_ | refine zK ?_ | refine zL ?_ | refine zM rfl ?_ | refine zN ?_)
    refine WL.sCmp (a := wOr) (b := wFinally) (r := false) rfl rfl rfl rfl (by decide) ?_
    repeat (first | refine zA ?_ | refine zB ?_ | refine zC rfl rfl rfl ?_ | refine zD ?_ | refine zE ?_ | refine zF ?_ | refine zG rfl ?_ | refine zH rfl ?_ | refine zI rfl rfl rfl ?_ | refine zJ rfl rfl ?_ | refine zK ?_ | refine zL ?_ | refine zM rfl ?_ | refine zN ?_)
    refine WL.sCmp (a := wOr) (b := wAnd) (r := false) rfl rfl rfl rfl (by decide) ?_
    repeat (first | refine zA ?_ | refine zB ?_ | refine zC rfl rfl rfl ?_ | refine zD ?_ | refine zE ?_ | refine zF ?_ | refine zG rfl ?_ | refine zH rfl ?_ | refine zI rfl rfl rfl ?_ | refine zJ rfl rfl ?_ | refine zK ?_ | refine zL ?_ | refine zM rfl ?_ | refine zN ?_)
    refine WL.sCmp (a := wOr) (b := wOr) (r := true) rfl rfl rfl rfl (by decide) ?_
    repeat (first | refine zA ?_ | refine zB ?_ | refine zC rfl rfl rfl ?_ | refine zD ?_ | refine zE ?_ | refine zF ?_ | refine zG rfl ?_ | refine zH rfl ?_ | refine zI rfl rfl rfl ?_ | refine zJ rfl rfl ?_ | refine zK ?_ | refine zL ?_ | refine zM rfl ?_ | refine zN ?_)
    exact Res.one rfl rfl rfl ⟨rfl, rfl⟩
  by_cases h12 : w = wUntil
  · subst h12
    refine enter Tryd.func55 rfl rfl ⟨rfl, rfl⟩ rfl ?_
    repeat (first | refine zA ?_ | refine zB ?_ | refine zC rfl rfl rfl ?_ | refine zD ?_ | refine zE ?_ | refine zF ?_ | refine zG rfl ?_ | refine zH rfl ?_ | refine zI rfl rfl rfl ?_ | refine zJ rfl rfl ?_ | refine zK ?_ | refine zL ?_ | refine zM rfl ?_ | refine zN ?_)
    refine WL.sCmp (a := wUntil) (b := wTrue) (r := false) rfl rfl rfl rfl (by decide) ?_
    repeat (first | refine zA ?_ | refine zB ?_ | refine zC rfl rfl rfl ?_ | refine zD ?_ | refine zE ?_ | refine zF ?_ | refine zG rfl ?_ | refine zH rfl ?_ | refine zI rfl rfl rfl ?_ | refine zJ rfl rfl ?_ | refine zK ?_ | refine zL ?_ | refine zM rfl ?_ | refine zN ?_)
    refine WL.sCmp (a := wUntil) (b := wFalse) (r := false) rfl rfl rfl rfl (by decide) ?_
    repeat (first | refine zA ?_ | refine zB ?_ | refine zC rfl rfl rfl ?_ | refine zD ?_ | refine zE ?_ | refine zF ?_ | refine zG rfl ?_ | refine zH rfl ?_ | refine zI rfl rfl rfl ?_ | refine zJ rfl rfl ?_ | refine zK ?_ | refine zL ?_ | refine zM rfl ?_ | refine zN ?_)
    refine WL.sCmp (a := wUntil) (b := [112, 48]) (r := false) rfl rfl rfl rfl (by decide) ?_
    repeat (first | refine zA ?_ | refine zB ?_ | refine zC rfl rfl rfl ?_ | refine zD ?_ | refine zE ?_ | refine zF ?_ | refine zG rfl ?_ | refine zH rfl ?_ | refine zI rfl rfl rfl ?_ | refine zJ rfl rfl ?_ | refine zK ?_ | refine zL ?_ | refine zM rfl ?_ | refine zN ?_)
    refine WL.sCmp (a := wUntil) (b := [112, 49]) (r := false) rfl rfl rfl rfl (by decide) ?_
    repeat (first | refine zA ?_ | refine zB ?_ | refine zC rfl rfl rfl ?_ | refine zD ?_ | refine zE ?_ | refine zF ?_ | refine zG rfl ?_ | refine zH rfl ?_ | refine zI rfl rfl rfl ?_ | refine zJ rfl rfl ?_ | refine zK ?_ | refine zL ?_ | refine zM rfl ?_ | refine zN ?_)
    refine WL.sCmp (a := wUntil) (b := [112, 50]) (r := false) rfl rfl rfl rfl (by decide) ?_
    repeat (first | refine zA ?_ | refine zB ?_ | refine zC rfl rfl rfl ?_ | refine zD ?_ | refine zE ?_ | refine zF ?_ | refine zG rfl ?_ | refine zH rfl ?_ | refine zI rfl rfl rfl ?_ | refine zJ rfl rfl ?_ | refine zK ?_ | refine zL ?_ | refine zM rfl ?_ | refine zN ?_)
    refine WL.sCmp (a := wUntil) (b := [112, 51]) (r := false) rfl rfl rfl rfl (by decide) ?_
    repeat (first | refine zA ?_ | refine zB ?_ | refine zC rfl rfl rfl ?_ | refine zD ?_ | refine zE ?_ | refine zF ?_ | refine zG rfl ?_ | refine zH rfl ?_ | refine zI rfl rfl rfl ?_ | refine zJ rfl rfl ?_ | refine zK ?_ | refine zL ?_ | refine zM rfl ?_ | refine zN ?_)
    refine WL.sCmp (a := wUntil) (b := wNot) (r := false) rfl rfl rfl rfl (by decide) ?_
    repeat (first | refine zA ?_ | refine zB ?_ | refine zC rfl rfl rfl ?_ | refine zD ?_ | refine zE ?_ | refine zF ?_ | refine zG rfl ?_ | refine zH rfl ?_ | refine zI rfl rfl rfl ?_ | refine zJ rfl rfl ?_ | refine zK ?_ | refine zL ?_ | refine zM rfl ?_ | refine zN ?_)
    refine WL.sCmp (a := wUntil) (b := wNext) (r := false) rfl rfl rfl rfl (by decide) ?_
    repeat (first | refine zA ?_ | refine zB ?_ | refine zC rfl rfl rfl ?_ | refine zD ?_ | refine zE ?_ | refine zF ?_ | refine zG rfl ?_ | refine zH rfl ?_ | refine zI rfl rfl rfl ?_ | refine zJ rfl rfl ?_ | refine zK ?_ | refine zL ?_ | refine zM rfl ?_ | refine zN ?_)
    refine WL.sCmp (a := wUntil) (b := wAlways) (r := false) rfl rfl rfl rfl (by decide) ?_
    repeat (first | refine zA ?_ | refine zB ?_ | refine zC rfl rfl rfl ?_ | refine zD ?_ | refine zE ?_ | refine zF ?_ | refine zG rfl ?_ | refine zH rfl ?_ | refine zI rfl rfl rfl ?_ | refine zJ rfl rfl ?_ | refine zK ?_ | refine zL ?_ | refine zM rfl ?_ | refine zN ?_)
    refine WL.sCmp (a := wUntil) (b := wFinally) (r := false) rfl rfl rfl rfl (by decide) ?_
    repeat (first | refine zA ?_ | refine zB ?_ | refine zC rfl rfl rfl ?_ | refine zD ?_ | refine zE ?_ | refine zF ?_ | refine zG rfl ?_ | refine zH rfl ?_ | refine zI rfl rfl rfl ?_ | refine zJ rfl rfl ?_ | refine zK ?_ | refine zL ?_ | refine zM rfl ?_ | refine zN ?_)
    refine WL.sCmp (a := wUntil) (b := wAnd) (r := false) rfl rfl rfl rfl (by decide) ?_
    repeat (first | refine zA ?_ | refine zB ?_ | refine zC rfl rfl rfl ?_ | refine zD ?_ | refine zE ?_ | refine zF ?_ | refine zG rfl ?_ | refine zH rfl ?_ | refine zI rfl rfl rfl ?_ | refine zJ rfl rfl ?_ | refine zK ?_ | refine zL ?_ | refine zM rfl ?_ | refine zN ?_)
    refine WL.sCmp (a := wUntil) (b := wOr) (r := false) rfl rfl rfl rfl (by decide) ?_
    repeat (first | refine zA ?_ | refine zB ?_ | refine zC rfl rfl rfl ?_ | refine zD ?_ | refine zE ?_ | refine zF ?_ | refine zG rfl ?_ | refine zH rfl ?_ | refine zI rfl rfl rfl ?_ | refine zJ rfl rfl ?_ | refine zK ?_ | refine zL ?_ | refine zM rfl ?_ | refine zN ?_)
    refine WL.sCmp (a := wUntil) (b := wUntil) (r := true) rfl rfl rfl rfl (by decide) ?_
    repeat (first | refine zA ?_ | refine zB ?_ | refine zC rfl rfl rfl ?_ | refine zD ?_ | refine zE ?_ | refine zF ?_ | refine zG rfl ?_ | refine zH rfl ?_ | refine zI rfl rfl rfl ?_ | refine zJ rfl rfl ?_ | refine zK ?_ | refine zL ?_ | refine zM rfl ?_ | refine zN ?_)
    exact Res.one rfl rfl rfl ⟨rfl, rfl⟩
  by_cases h13 : w = wRelease
  · subst h13
    refine enter Tryd.func55 rfl rfl ⟨rfl, rfl⟩ rfl ?_
    repeat (first | refine zA ?_ | refine zB ?_ | refine zC rfl rfl rfl ?_ | refine zD ?_ | refine zE ?_ | refine zF ?_ | refine zG rfl ?_ | refine zH rfl ?_ | refine zI rfl rfl rfl ?_ | refine zJ rfl rfl ?_ | refine zK ?_ | refine zL ?_ | refine zM rfl ?_ | refine zN ?_)
    refine WL.sCmp (a := wRelease) (b := wTrue) (r := false) rfl rfl rfl rfl (by decide) ?_
    repeat (first | refine zA ?_ | refine zB ?_ | refine zC rfl rfl rfl ?_ | refine zD ?_ | refine zE ?_ | refine zF ?_ | refine zG rfl ?_ | refine zH rfl ?_ | refine zI rfl rfl rfl ?_ | refine zJ rfl rfl ?_ | refine zK ?_ | refine zL ?_ | refine zM rfl ?_ | refine zN ?_)
    refine WL.sCmp (a := wRelease) (b := wFalse) (r := false) rfl rfl rfl rfl (by decide) ?_
    repeat (first | refine zA ?_ | refine zB ?_ | refine zC rfl rfl rfl ?_ | refine zD ?_ | refine zE ?_ | refine zF ?_ | refine zG rfl ?_ | refine zH rfl ?_ | refine zI rfl rfl rfl ?_ | refine zJ rfl rfl ?_ | refine zK ?_ | refine zL ?_ | refine zM rfl ?_ | refine zN ?_)
    refine WL.sCmp (a := wRelease) (b := [112, 48]) (r := false) rfl rfl rfl rfl (by decide) ?_
    repeat (first | refine zA ?_ | refine zB ?_ | refine zC rfl rfl rfl ?_ | refine zD ?_ | refine zE ?_ | refine zF ?_ | refine zG rfl ?_ | refine zH rfl ?_ | refine zI rfl rfl rfl ?_ | refine zJ rfl rfl ?_ | refine zK ?_ | refine zL ?_ | refine zM rfl ?_ | refine zN ?_)
    refine WL.sCmp (a := wRelease) (b := [112, 49]) (r := false) rfl rfl rfl rfl (by decide) ?_
    repeat (first | refine zA ?_ | refine zB ?_ | refine zC rfl rfl rfl ?_ | refine zD ?_ | refine zE ?_ | refine zF ?_ | refine zG rfl ?_ | refine zH rfl ?_ | refine zI rfl rfl rfl ?_ | refine zJ rfl rfl ?_ | refine zK ?_ | refine zL ?_ | refine zM rfl ?_ | refine zN ?_)
    refine WL.sCmp (a := wRelease) (b := [112, 50]) (r := false) rfl rfl rfl rfl (by decide) ?_
    repeat (first | refine zA ?_ | refine zB ?_ | refine zC rfl rfl rfl ?_ | refine zD ?_ | refine zE ?_ | refine zF ?_ | refine zG rfl ?_ | refine zH rfl ?_ | refine zI rfl rfl rfl ?_ | refine zJ rfl rfl ?_ | refine zK ?_ | refine zL ?_ | refine zM rfl ?_ | refine zN ?_)
    refine WL.sCmp (a := wRelease) (b := [112, 51]) (r := false) rfl rfl rfl rfl (by decide) ?_
    repeat (first | refine zA ?_ | refine zB ?_ | refine zC rfl rfl rfl ?_ | refine zD ?_ | refine zE ?_ | refine zF ?_ | refine zG rfl ?_ | refine zH rfl ?_ | refine zI rfl rfl rfl ?_ | refine zJ rfl rfl ?_ | refine zK ?_ | refine zL ?_ | refine zM rfl ?_ | refine zN ?_)
    refine WL.sCmp (a := wRelease) (b := wNot) (r := false) rfl rfl rfl rfl (by decide) ?_
    repeat (first | refine zA ?_ | refine zB ?_ | refine zC rfl rfl rfl ?_ | refine zD ?_ | refine zE ?_ | refine zF ?_ | refine zG rfl ?_ | refine zH rfl ?_ | refine zI rfl rfl rfl ?_ | refine zJ rfl rfl ?_ | refine zK ?_ | refine zL ?_ | refine zM rfl ?_ | refine zN ?_)
    refine WL.sCmp (a := wRelease) (b := wNext) (r := false) rfl rfl rfl rfl (by decide) ?_
    repeat (first | refine zA ?_ | refine zB ?_ | refine zC rfl rfl rfl ?_ | refine zD ?_ | refine zE ?_ | refine zF ?_ | refine zG rfl ?_ | refine zH rfl ?_ | refine zI rfl rfl rfl ?_ | refine zJ rfl rfl ?_ | refine zK ?_ | refine zL ?_ | refine zM rfl ?_ | refine zN ?_)
    refine WL.sCmp (a := wRelease) (b := wAlways) (r := false) rfl rfl rfl rfl (by decide) ?_
    repeat (first | refine zA ?_ | refine zB ?_ | refine zC rfl rfl rfl ?_ | refine zD ?_ | refine zE ?_ | refine zF ?_ | refine zG rfl ?_ | refine zH rfl ?_ | refine zI rfl rfl rfl ?_ | refine zJ rfl rfl ?_ | refine zK ?_ | refine zL ?_ | refine zM rfl ?_ | refine zN ?_)
    refine WL.sCmp (a := wRelease) (b := wFinally) (r := false) rfl rfl rfl rfl (by decide) ?_
    repeat (first | refine zA ?_ | refine zB ?_ | refine zC rfl rfl rfl ?_ | refine zD ?_ | refine zE ?_ | refine zF ?_ | refine zG rfl ?_ | refine zH rfl ?_ | refine zI rfl rfl rfl ?_ | refine zJ rfl rfl ?_ | refine zK ?_ | refine zL ?_ | refine zM rfl ?_ | refine zN ?_)
    refine WL.sCmp (a := wRelease) (b := wAnd) (r := false) rfl rfl rfl rfl (by decide) ?_
    repeat (first | refine zA ?_ | refine zB ?_ | refine zC rfl rfl rfl ?_ | refine zD ?_ | refine zE ?_ | refine zF ?_ | refine zG rfl ?_ | refine zH rfl ?_ | refine zI rfl rfl rfl ?_ | refine zJ rfl rfl ?_ | refine zK ?_ | refine zL ?_ | refine zM rfl ?_ | refine zN ?_)
    refine WL.sCmp (a := wRelease) (b := wOr) (r := false) rfl rfl rfl rfl (by decide) ?_
    repeat (first | refine zA ?_ | refine zB ?_ | refine zC rfl rfl rfl ?_ | refine zD ?_ | refine zE ?_ | refine zF ?_ | refine zG rfl ?_ | refine zH rfl ?_ | refine zI rfl rfl rfl ?_ | refine zJ rfl rfl ?_ | refine zK ?_ | refine zL ?_ | refine zM rfl ?_ | refine zN ?_)
    refine WL.sCmp (a := wRelease) (b := wUntil) (r := false) rfl rfl rfl rfl (by decide) ?_
    repeat (first | refine zA ?_ | refine zB ?_ | refine zC rfl rfl rfl ?_ | refine zD ?_ | refine zE ?_ | refine zF ?_ | refine zG rfl ?_ | refine zH rfl ?_ | refine zI rfl rfl rfl ?_ | refine zJ rfl rfl ?_ | refine zK ?_ | refine zL ?_ | refine zM rfl ?_ | refine zN ?_)
    refine WL.sCmp (a := wRelease) (b := wRelease) (r := true) rfl rfl rfl rfl (by decide) ?_
    repeat (first | refine zA ?_ | refine zB ?_ | refine zC rfl rfl rfl ?_ | refine zD ?_ | refine zE ?_ | refine zF ?_ | refine zG rfl ?_ | refine zH rfl ?_ | refine zI rfl rfl rfl ?_ | refine zJ rfl rfl ?_ | refine zK ?_ | refine zL ?_ | refine zM rfl ?_ | refine zN ?_)
    exact Res.one rfl rfl rfl ⟨rfl, rfl⟩
  have e0 : arM w = -1 := by
    unfold arM
    rw [if_neg (by simp only [atomsL, List.mem_cons, List.not_mem_nil, or_false, not_or]; exact ⟨h0, h1, h2, h3, h4, h5⟩), if_neg (by simp only [onesL, List.mem_cons, List.not_mem_nil, or_false, not_or]; exact ⟨h6, h7, h8, h9⟩), if_neg (by simp only [twosL, List.mem_cons, List.not_mem_nil, or_false, not_or]; exact ⟨h10, h11, h12, h13⟩)]
  rw [e0]
  refine enter Tryd.func55 rfl rfl ⟨rfl, rfl⟩ rfl ?_
  repeat (first | refine zA ?_ | refine zB ?_ | refine zC rfl rfl rfl ?_ | refine zD ?_ | refine zE ?_ | refine zF ?_ | refine zG rfl ?_ | refine zH rfl ?_ | refine zI rfl rfl rfl ?_ | refine zJ rfl rfl ?_ | refine zK ?_ | refine zL ?_ | refine zM rfl ?_ | refine zN ?_)
  refine WL.sCmp (a := w) (b := wTrue) (r := false) rfl rfl rfl rfl (by simp [cmpS, h0]) ?_
  repeat (first | refine zA ?_ | refine zB ?_ | refine zC rfl rfl rfl ?_ | refine zD ?_ | refine zE ?_ | refine zF ?_ | refine zG rfl ?_ | refine zH rfl ?_ | refine zI rfl rfl rfl ?_ | refine zJ rfl rfl ?_ | refine zK ?_ | refine zL ?_ | refine zM rfl ?_ | refine zN ?_)
  refine WL.sCmp (a := w) (b := wFalse) (r := false) rfl rfl rfl rfl (by simp [cmpS, h1]) ?_
  repeat (first | refine zA ?_ | refine zB ?_ | refine zC rfl rfl rfl ?_ | refine zD ?_ | refine zE ?_ | refine zF ?_ | refine zG rfl ?_ | refine zH rfl ?_ | refine zI rfl rfl rfl ?_ | refine zJ rfl rfl ?_ | refine zK ?_ | refine zL ?_ | refine zM rfl ?_ | refine zN ?_)
  refine WL.sCmp (a := w) (b := [112, 48]) (r := false) rfl rfl rfl rfl (by simp [cmpS, h2]) ?_
  repeat (first | refine zA ?_ | refine zB ?_ | refine zC rfl rfl rfl ?_ | refine zD ?_ | refine zE ?_ | refine zF ?_ | refine zG rfl ?_ | refine zH rfl ?_ | refine zI rfl rfl rfl ?_ | refine zJ rfl rfl ?_ | refine zK ?_ | refine zL ?_ | refine zM rfl ?_ | refine zN ?_)
  refine WL.sCmp (a := w) (b := [112, 49]) (r := false) rfl rfl rfl rfl (by simp [cmpS, h3]) ?_
  repeat (first | refine zA ?_ | refine zB ?_ | refine zC rfl rfl rfl ?_ | refine zD ?_ | refine zE ?_ | refine zF ?_ | refine zG rfl ?_ | refine zH rfl ?_ | refine zI rfl rfl rfl ?_ | refine zJ rfl rfl ?_ | refine zK ?_ | refine zL ?_ | refine zM rfl ?_ | refine zN ?_)
  refine WL.sCmp (a := w) (b := [112, 50]) (r := false) rfl rfl rfl rfl (by simp [cmpS, h4]) ?_
  repeat (first | refine zA ?_ | refine zB ?_ | refine zC rfl rfl rfl ?_ | refine zD ?_ | refine zE ?_ | refine zF ?_ | refine zG rfl ?_ | refine zH rfl ?_ | refine zI rfl rfl rfl ?_ | refine zJ rfl rfl ?_ | refine zK ?_ | refine zL ?_ | refine zM rfl ?_ | refine zN ?_)
  refine WL.sCmp (a := w) (b := [112, 51]) (r := false) rfl rfl rfl rfl (by simp [cmpS, h5]) ?_
  repeat (first | refine zA ?_ | refine zB ?_ | refine zC rfl rfl rfl ?_ | refine zD ?_ | refine zE ?_ | refine zF ?_ | refine zG rfl ?_ | refine zH rfl ?_ | refine zI rfl rfl rfl ?_ | refine zJ rfl rfl ?_ | refine zK ?_ | refine zL ?_ | refine zM rfl ?_ | refine zN ?_)
  refine WL.sCmp (a := w) (b := wNot) (r := false) rfl rfl rfl rfl (by simp [cmpS, h6]) ?_
  repeat (first | refine zA ?_ | refine zB ?_ | refine zC rfl rfl rfl ?_ | refine zD ?_ | refine zE ?_ | refine zF ?_ | refine zG rfl ?_ | refine zH rfl ?_ | refine zI rfl rfl rfl ?_ | refine zJ rfl rfl ?_ | refine zK ?_ | refine zL ?_ | refine zM rfl ?_ | refine zN ?_)
  refine WL.sCmp (a := w) (b := wNext) (r := false) rfl rfl rfl rfl (by simp [cmpS, h7]) ?_
  repeat (first | refine zA ?_ | refine zB ?_ | refine zC rfl rfl rfl ?_ | refine zD ?_ | refine zE ?_ | refine zF ?_ | refine zG rfl ?_ | refine zH rfl ?_ | refine zI rfl rfl rfl ?_ | refine zJ rfl rfl ?_ | refine zK ?_ | refine zL ?_ | refine zM rfl ?_ | refine zN ?_)
  refine WL.sCmp (a := w) (b := wAlways) (r := false) rfl rfl rfl rfl (by simp [cmpS, h8]) ?_
  repeat (first | refine zA ?_ | refine zB ?_ | refine zC rfl rfl rfl ?_ | refine zD ?_ | refine zE ?_ | refine zF ?_ | refine zG rfl ?_ | refine zH rfl ?_ | refine zI rfl rfl rfl ?_ | refine zJ rfl rfl ?_ | refine zK ?_ | refine zL ?_ | refine zM rfl ?_ | refine zN ?_)
  refine WL.sCmp (a := w) (b := wFinally) (r := false) rfl rfl rfl rfl (by simp [cmpS, h9]) ?_
  repeat (first | refine zA ?_ | refine zB ?_ | refine zC rfl rfl rfl ?_ | refine zD ?_ | refine zE ?_ | refine zF ?_ | refine zG rfl ?_ | refine zH rfl ?_ | refine zI rfl rfl rfl ?_ | refine zJ rfl rfl ?_ | refine zK ?_ | refine zL ?_ | refine zM rfl ?_ | refine zN ?_)
  refine WL.sCmp (a := w) (b := wAnd) (r := false) rfl rfl rfl rfl (by simp [cmpS, h10]) ?_
  repeat (first | refine zA ?_ | refine zB ?_ | refine zC rfl rfl rfl ?_ | refine zD ?_ | refine zE ?_ | refine zF ?_ | refine zG rfl ?_ | refine zH rfl ?_ | refine zI rfl rfl rfl ?_ | refine zJ rfl rfl ?_ | refine zK ?_ | refine zL ?_ | refine zM rfl ?_ | refine zN ?_)
  refine WL.sCmp (a := w) (b := wOr) (r := false) rfl rfl rfl rfl (by simp [cmpS, h11]) ?_
  repeat (first | refine zA ?_ | refine zB ?_ | refine zC rfl rfl rfl ?_ | refine zD ?_ | refine zE ?_ | refine zF ?_ | refine zG rfl ?_ | refine zH rfl ?_ | refine zI rfl rfl rfl ?_ | refine zJ rfl rfl ?_ | refine zK ?_ | refine zL ?_ | refine zM rfl ?_ | refine zN ?_)
  refine WL.sCmp (a := w) (b := wUntil) (r := false) rfl rfl rfl rfl (by simp [cmpS, h12]) ?_
  repeat (first | refine zA ?_ | refine zB ?_ | refine zC rfl rfl rfl ?_ | refine zD ?_ | refine zE ?_ | refine zF ?_ | refine zG rfl ?_ | refine zH rfl ?_ | refine zI rfl rfl rfl ?_ | refine zJ rfl rfl ?_ | refine zK ?_ | refine zL ?_ | refine zM rfl ?_ | refine zN ?_)
  refine WL.sCmp (a := w) (b := wRelease) (r := false) rfl rfl rfl rfl (by simp [cmpS, h13]) ?_
  repeat (first | refine zA ?_ | refine zB ?_ | refine zC rfl rfl rfl ?_ | refine zD ?_ | refine zE ?_ | refine zF ?_ | refine zG rfl ?_ | refine zH rfl ?_ | refine zI rfl rfl rfl ?_ | refine zJ rfl rfl ?_ | refine zK ?_ | refine zL ?_ | refine zM rfl ?_ | refine zN ?_)
  exact Res.one rfl rfl rfl ⟨rfl, rfl⟩
end Go.Proofs.YtpbbneclkhfgoaaDoor
end
section
/- ltl, thirty-fourth: the reference's parse and Parse. -/
namespace Go.Proofs.YtpbbneclkhfgoaaDoor
open Go.W Go.Ltl Go.RowKit
set_option maxRecDepth 100000
attribute [local irreducible] WC WL WQ WS WH

def ndC (l : List Nd) : List Value := l.flatMap fun x => [st x.1, .int .i64 x.2.1, .int .i64 x.2.2]
theorem ndC_app (a b : List Nd) : ndC (a ++ b) = ndC a ++ ndC b := by unfold ndC; rw [List.flatMap_append]
theorem ndC_cells (l : List Nd) : Cells (ndC l) := by
  intro v hv
  obtain ⟨x, _, h⟩ := List.mem_flatMap.1 hv
  simp only [List.mem_cons, List.not_mem_nil, or_false] at h
  rcases h with rfl | rfl | rfl <;> rfl
/-- A row of nodes. -/
abbrev Rnd (v : Value) (l : List Nd) : Ent := .row 98 3 v l.length (ndC l)
theorem Rnd_snoc (a : Option Addr) (c : Nat) (l : List Nd) (x : Nd) : Rnd (.slice a (l ++ [x]).length c) (l ++ [x]) = .row 98 3 (.slice a (l.length + 1) c) (l.length + 1) (ndC l ++ [st x.1, .int .i64 x.2.1, .int .i64 x.2.2]) := by
  unfold Rnd; rw [List.length_append, ndC_app]; rfl
theorem st_at {t : List Str} {i : Nat} (h : i < t.length) : (t.map st)[i]? = some (st t[i]) := by simp [h]
theorem arM_0 (w : Str) : arM w = 0 ↔ w ∈ atomsL := by
  unfold arM
  split
  · rename_i h; simp [h]
  · rename_i h; split <;> (try split) <;> simp [h]
theorem arM_lt (w : Str) : (arM w < 1) ↔ w ∉ onesL ∧ w ∉ twosL := by
  by_cases h : w ∈ atomsL
  · have h1 : w ∉ onesL := fun h2 => ops_word w (by simp [h2]) h
    have h3 : w ∉ twosL := fun h2 => ops_word w (by simp [h2]) h
    rw [(arM_0 w).2 h]
    exact ⟨fun _ => ⟨h1, h3⟩, fun _ => by decide⟩
  · unfold arM
    rw [if_neg h]
    split
    · rename_i h1; simp [h1]
    · rename_i h1
      split
      · rename_i h2; simp [h2]
      · rename_i h2; simp [h1, h2]
theorem rprs_suf : ∀ (n : Nat) (l : List Str) (f : Fm) (r : List Str), rprs n l = some (f, r) → ∃ p, l = p ++ r := by
  intro n
  induction n with
  | zero => intro l f r h; cases h
  | succ n ih =>
    intro l f r h
    cases l with
    | nil => cases h
    | cons s l =>
      unfold rprs at h
      split at h
      · simp only [Option.some.injEq, Prod.mk.injEq] at h
        obtain ⟨rfl, rfl⟩ := h
        exact ⟨[s], rfl⟩
      · split at h
        · cases h
        · cases l with
          | nil => cases h
          | cons s2 l2 =>
            simp only at h
            split at h
            · split at h
              · rename_i f1 l3 hp
                simp only [Option.some.injEq, Prod.mk.injEq] at h
                obtain ⟨rfl, rfl⟩ := h
                obtain ⟨p, hp2⟩ := ih _ _ _ hp
                exact ⟨s :: s2 :: (p ++ [[41]]), by rw [hp2]; simp⟩
              · cases h
            · split at h
              · split at h
                · rename_i f1 l3 hp
                  split at h
                  · rename_i g1 l4 hq
                    simp only [Option.some.injEq, Prod.mk.injEq] at h
                    obtain ⟨rfl, rfl⟩ := h
                    obtain ⟨p, hp2⟩ := ih _ _ _ hp
                    obtain ⟨q, hq2⟩ := ih _ _ _ hq
                    exact ⟨s :: s2 :: (p ++ (q ++ [[41]])), by rw [hp2, hq2]; simp⟩
                  · cases h
                · cases h
              · cases h
theorem rprs_drop {n at_ : Nat} {t : List Str} {f : Fm} {r : List Str} (h : rprs n (t.drop at_) = some (f, r)) (hat : at_ ≤ t.length) : r = t.drop (t.length - r.length) ∧ r.length ≤ t.length - at_ := by
  obtain ⟨p, hp⟩ := rprs_suf _ _ _ _ h
  have hl := congrArg List.length hp
  rw [List.length_drop, List.length_append] at hl
  refine ⟨?_, by omega⟩
  have e : t = (t.take at_ ++ p) ++ r := by rw [List.append_assoc, ← hp, List.take_append_drop]
  have e2 : t.length - r.length = (t.take at_ ++ p).length := by rw [List.length_append, List.length_take]; omega
  rw [e2]
  have e3 := congrArg (List.drop (t.take at_ ++ p).length) e
  rw [List.drop_left] at e3
  exact e3.symm
theorem rprs_size : ∀ (n : Nat) (l : List Str) (f : Fm) (r : List Str), rprs n l = some (f, r) → sizeF f + r.length ≤ l.length := by
  intro n
  induction n with
  | zero => intro l f r h; cases h
  | succ n ih =>
    intro l f r h
    cases l with
    | nil => cases h
    | cons s l =>
      unfold rprs at h
      split at h
      · simp only [Option.some.injEq, Prod.mk.injEq] at h
        obtain ⟨rfl, rfl⟩ := h
        show 1 + l.length ≤ l.length + 1
        omega
      · split at h
        · cases h
        · cases l with
          | nil => cases h
          | cons s2 l2 =>
            simp only at h
            split at h
            · split at h
              · rename_i f1 l3 hp
                simp only [Option.some.injEq, Prod.mk.injEq] at h
                obtain ⟨rfl, rfl⟩ := h
                have hp2 := ih _ _ _ hp
                simp only [List.length_cons] at hp2 ⊢
                show 1 + sizeF f1 + l3.length ≤ _
                omega
              · cases h
            · split at h
              · split at h
                · rename_i f1 l3 hp
                  split at h
                  · rename_i g1 l4 hq
                    simp only [Option.some.injEq, Prod.mk.injEq] at h
                    obtain ⟨rfl, rfl⟩ := h
                    have hp2 := ih _ _ _ hp
                    have hq2 := ih _ _ _ hq
                    simp only [List.length_cons] at hp2 hq2 ⊢
                    show 1 + sizeF f1 + sizeF g1 + l4.length ≤ _
                    omega
                  · cases h
                · cases h
              · cases h
/-- A closing parenthesis. -/
def finR (x : Fm) : List Str → Option (Fm × List Str)
  | [41] :: l => some (x, l)
  | _ => none
theorem rprs_on {n : Nat} {s : Str} {l : List Str} (h1 : s ∈ onesL) : rprs (n + 1) ([40] :: s :: l) = match rprs n l with
    | some (f, r) => finR (.on_ s f) r
    | none => none := by
  conv => lhs; unfold rprs
  rw [if_neg atoms_40, if_neg (by simp)]
  simp only [if_pos h1]
  cases rprs n l with
  | none => rfl
  | some q =>
    obtain ⟨f, r⟩ := q
    show _ = finR (.on_ s f) r
    unfold finR
    split <;> split <;> simp_all
theorem rprs_tw {n : Nat} {s : Str} {l : List Str} (h1 : s ∉ onesL) (h2 : s ∈ twosL) : rprs (n + 1) ([40] :: s :: l) = match rprs n l with
    | some (f, r) => match rprs n r with
      | some (g, r) => finR (.tw_ s f g) r
      | none => none
    | none => none := by
  conv => lhs; unfold rprs
  rw [if_neg atoms_40, if_neg (by simp)]
  simp only [if_neg h1, if_pos h2]
  cases rprs n l with
  | none => rfl
  | some q =>
    obtain ⟨f, r⟩ := q
    simp only
    cases rprs n r with
    | none => rfl
    | some q2 =>
      obtain ⟨g, r2⟩ := q2
      show _ = finR (.tw_ s f g) r2
      unfold finR
      split <;> split <;> simp_all
theorem rprs_un {n : Nat} {s : Str} {l : List Str} (h1 : s ∉ onesL) (h2 : s ∉ twosL) : rprs (n + 1) ([40] :: s :: l) = none := by
  unfold rprs
  rw [if_neg atoms_40, if_neg (by simp)]
  simp only [if_neg h1, if_neg h2]
theorem arM_2 (w : Str) (h : w ∈ onesL ∨ w ∈ twosL) : arM w = if w ∈ onesL then 1 else 2 := by
  unfold arM
  have h0 : w ∉ atomsL := ops_word w (by rcases h with h | h <;> simp [h])
  rw [if_neg h0]
  split
  · rfl
  · rename_i h1; rw [if_pos (h.resolve_left h1)]
/-- What the reference's parse answers. -/
def RpR (w0 : World) (acc : List Nd) (tl : Nat) (L : List Ent) (r : Option (Fm × List Str)) (v : Value) (w' : World) : Prop := match r with
  | some (f, rest) => ∃ la lc, v = .tuple #[.slice la (acc ++ nodesN acc.length f).length lc, .int .i64 ((tl - rest.length : Nat) : Int)] ∧ Hp w0 w' (Rnd (.slice la (acc ++ nodesN acc.length f).length lc) (acc ++ nodesN acc.length f) :: L)
  | none => ∃ la n lc, v = .tuple #[.slice la n lc, .int .i64 (-1)] ∧ Hp w0 w' L
theorem rparse_any {w0 : World} (t : List Str) (ta : Option Addr) (tc : Nat) (ht : t.length ≤ 5000) : ∀ (n at_ : Nat) (L : List Ent) (acc : List Nd) (la : Option Addr) (lc : Nat) (w : World), t.length - at_ < n → at_ ≤ 6000 → acc.length + (t.length - at_) ≤ 10000 → Sl w0 ta (t.map st) → Hp w0 w (Rnd (.slice la acc.length lc) acc :: L) →
    Ret Tryd.prog 51 [.slice la acc.length lc, .slice ta t.length tc, .int .i64 (at_ : Nat)] w fun v w' => RpR w0 acc t.length L (rprs n (t.drop at_)) v w' := by
  intro n
  induction n with
  | zero => intro at_ L acc la lc w h; exact absurd h (Nat.not_lt_zero _)
  | succ n ih =>
    intro at_ L acc la lc w hn hat hacc hs hp
    refine enter Tryd.func51 rfl rfl ⟨rfl, rfl⟩ rfl ?_
    repeat (first | refine zA ?_ | refine zB ?_ | refine zC rfl rfl rfl ?_ | refine zD ?_ | refine zE ?_ | refine zF ?_ | refine zG rfl ?_ | refine zH rfl ?_ | refine zI rfl rfl rfl ?_ | refine zJ rfl rfl ?_ | refine zK ?_ | refine zL ?_ | refine zM rfl ?_ | refine zN ?_)
    refine WC.cond rfl (fun c1 => ?_) (fun c1 => ?_)
    · have c1 : t.length ≤ at_ := by have h : ((t.length : Nat) : Int) ≤ ((at_ : Nat) : Int) := of_decide_eq_true c1; omega
      rw [List.drop_of_length_le c1]
      repeat (first | refine zA ?_ | refine zB ?_ | refine zC rfl rfl rfl ?_ | refine zD ?_ | refine zE ?_ | refine zF ?_ | refine zG rfl ?_ | refine zH rfl ?_ | refine zI rfl rfl rfl ?_ | refine zJ rfl rfl ?_ | refine zK ?_ | refine zL ?_ | refine zM rfl ?_ | refine zN ?_)
      exact Res.two rfl rfl rfl rfl ⟨la, acc.length, lc, rfl, hp.tail⟩
    · have c1 : at_ < t.length := by have h : ¬ ((t.length : Nat) : Int) ≤ ((at_ : Nat) : Int) := of_decide_eq_false c1; omega
      have hd : t.drop at_ = t[at_] :: t.drop (at_ + 1) := List.drop_eq_getElem_cons c1
      have step1 := wrap_succ (i := at_) (n := at_ + 1) (by omega) (by omega)
      have step2 : IntKind.i64.wrap (((at_ : Nat) : Int) + 2) = ((at_ + 2 : Nat) : Int) := by rw [wrap_mid (by omega) (by omega)]; omega
      obtain ⟨s, hsx⟩ : ∃ s, s = t[at_] := ⟨_, rfl⟩
      rw [← hsx] at hd
      rw [hd]
      repeat (first | refine zA ?_ | refine zB ?_ | refine zC rfl rfl rfl ?_ | refine zD ?_ | refine zE ?_ | refine zF ?_ | refine zG rfl ?_ | refine zH rfl ?_ | refine zI rfl rfl rfl ?_ | refine zJ rfl rfl ?_ | refine zK ?_ | refine zL ?_ | refine zM rfl ?_ | refine zN ?_)
      refine WL.ixload rfl (fun _ => rfl) rfl rfl rfl rfl rfl rfl rfl c1 rfl rfl (hs.hp hp) (st_at c1) ?_
      intro q0
      rw [← hsx]
      refine WL.call rfl rfl rfl rfl rfl ent55 (Arity_any s w) ?_
      rintro _ w1 ⟨rfl, hw1⟩
      obtain rfl := hw1.symm
      repeat (first | refine zA ?_ | refine zB ?_ | refine zC rfl rfl rfl ?_ | refine zD ?_ | refine zE ?_ | refine zF ?_ | refine zG rfl ?_ | refine zH rfl ?_ | refine zI rfl rfl rfl ?_ | refine zJ rfl rfl ?_ | refine zK ?_ | refine zL ?_ | refine zM rfl ?_ | refine zN ?_)
      refine WC.cond rfl (fun c2 => ?_) (fun c2 => ?_)
      · have c2 : s ∈ atomsL := (arM_0 s).1 (beq_iff_eq.1 c2)
        have hr : rprs (n + 1) (s :: t.drop (at_ + 1)) = some (.at_ s, t.drop (at_ + 1)) := by unfold rprs; rw [if_pos c2]
        rw [hr]
        repeat (first | refine zA ?_ | refine zB ?_ | refine zC rfl rfl rfl ?_ | refine zD ?_ | refine zE ?_ | refine zF ?_ | refine zG rfl ?_ | refine zH rfl ?_ | refine zI rfl rfl rfl ?_ | refine zJ rfl rfl ?_ | refine zK ?_ | refine zL ?_ | refine zM rfl ?_ | refine zN ?_)
        refine WL.ixload rfl (fun _ => rfl) rfl rfl rfl rfl rfl rfl rfl c1 rfl rfl (hs.hp hp) (st_at c1) ?_
        intro q1
        rw [← hsx]
        refine WL.buildT (cs := [st s, .int .i64 (-1), .int .i64 (-1)]) rfl rfl rfl rfl rfl rfl ?_
        refine WL.buildS (cs := [st s, .int .i64 (-1), .int .i64 (-1)]) rfl rfl rfl rfl rfl rfl rfl rfl rfl (fun b2 w2 h2 => ?_)
        have hp2 := hp.new h2
        refine WL.append 1 hp2 rfl rfl rfl rfl rfl (by decide) rfl rfl rfl (news := [st s, .int .i64 (-1), .int .i64 (-1)]) (Sl.of_obj (hp2.obj 0 rfl) (fun q u hq => by simpa using hq)) rfl (ndC_cells [(s, -1, -1)]) (by unfold maxLen; omega) (by show (acc.length + 1) * 32 ≤ _; omega) ?_
        intro pa pc w3 hp3 _
        refine WL.pure rfl rfl rfl ?_
        refine WL.pure rfl rfl rfl ?_
        refine WL.known (d := 30) (congrArg (fun z => some (Value.int .i64 z)) step1) ?_
        repeat (first | refine zA ?_ | refine zB ?_ | refine zC rfl rfl rfl ?_ | refine zD ?_ | refine zE ?_ | refine zF ?_ | refine zG rfl ?_ | refine zH rfl ?_ | refine zI rfl rfl rfl ?_ | refine zJ rfl rfl ?_ | refine zK ?_ | refine zL ?_ | refine zM rfl ?_ | refine zN ?_)
        refine Res.two rfl rfl rfl rfl ⟨pa, pc, ?_, ?_⟩
        · have e1 : t.length - (t.drop (at_ + 1)).length = at_ + 1 := by rw [List.length_drop]; omega
          rw [e1]
          show _ = Value.tuple #[.slice pa (acc ++ [(s, -1, -1)]).length pc, _]
          rw [List.length_append]; rfl
        · show Hp w0 w3 (Rnd (.slice pa (acc ++ [(s, -1, -1)]).length pc) (acc ++ [(s, -1, -1)]) :: L)
          rw [Rnd_snoc]
          exact hp3.tail
      · have c2 : s ∉ atomsL := fun h => by
          have := (arM_0 s).2 h
          rw [this] at c2
          exact absurd c2 (by decide)
        repeat (first | refine zA ?_ | refine zB ?_ | refine zC rfl rfl rfl ?_ | refine zD ?_ | refine zE ?_ | refine zF ?_ | refine zG rfl ?_ | refine zH rfl ?_ | refine zI rfl rfl rfl ?_ | refine zJ rfl rfl ?_ | refine zK ?_ | refine zL ?_ | refine zM rfl ?_ | refine zN ?_)
        refine WL.ixload rfl (fun _ => rfl) rfl rfl rfl rfl rfl rfl rfl c1 rfl rfl (hs.hp hp) (st_at c1) ?_
        intro q1
        rw [← hsx]
        have hcmp : cmpS .neq s [40] = some (!decide (s = [40])) := rfl
        refine WL.sCmp (a := s) (b := [40]) rfl rfl rfl rfl hcmp ?_
        refine WL.pure rfl rfl rfl ?_
        refine WL.split 36 rfl (fun c3 => ?_) (fun c3 => ?_)
        · have c3 : s ≠ [40] := by simpa using c3
          have hr : rprs (n + 1) (s :: t.drop (at_ + 1)) = none := by unfold rprs; rw [if_neg c2, if_pos c3]
          rw [hr]
          repeat (first | refine zA ?_ | refine zB ?_ | refine zC rfl rfl rfl ?_ | refine zD ?_ | refine zE ?_ | refine zF ?_ | refine zG rfl ?_ | refine zH rfl ?_ | refine zI rfl rfl rfl ?_ | refine zJ rfl rfl ?_ | refine zK ?_ | refine zL ?_ | refine zM rfl ?_ | refine zN ?_)
          exact Res.two rfl rfl rfl rfl ⟨la, acc.length, lc, rfl, hp.tail⟩
        have c3 : s = [40] := by simpa using c3
        subst c3
        refine WL.pure rfl rfl rfl ?_
        refine WL.pure rfl rfl rfl ?_
        refine WL.known (d := 38) (congrArg (fun z => some (Value.int .i64 z)) step1) ?_
        repeat (first | refine zA ?_ | refine zB ?_ | refine zC rfl rfl rfl ?_ | refine zD ?_ | refine zE ?_ | refine zF ?_ | refine zG rfl ?_ | refine zH rfl ?_ | refine zI rfl rfl rfl ?_ | refine zJ rfl rfl ?_ | refine zK ?_ | refine zL ?_ | refine zM rfl ?_ | refine zN ?_)
        refine WL.split 43 rfl (fun c4 => ?_) (fun c4 => ?_)
        · have c4 : t.length ≤ at_ + 1 := by have h : ((t.length : Nat) : Int) ≤ ((at_ + 1 : Nat) : Int) := of_decide_eq_true c4; omega
          have hr : rprs (n + 1) ([40] :: t.drop (at_ + 1)) = none := by rw [List.drop_of_length_le c4]; unfold rprs; rw [if_neg c2, if_neg (by simp)]
          rw [hr]
          repeat (first | refine zA ?_ | refine zB ?_ | refine zC rfl rfl rfl ?_ | refine zD ?_ | refine zE ?_ | refine zF ?_ | refine zG rfl ?_ | refine zH rfl ?_ | refine zI rfl rfl rfl ?_ | refine zJ rfl rfl ?_ | refine zK ?_ | refine zL ?_ | refine zM rfl ?_ | refine zN ?_)
          exact Res.two rfl rfl rfl rfl ⟨la, acc.length, lc, rfl, hp.tail⟩
        have c4 : at_ + 1 < t.length := by have h : ¬ ((t.length : Nat) : Int) ≤ ((at_ + 1 : Nat) : Int) := of_decide_eq_false c4; omega
        have hd2 : t.drop (at_ + 1) = t[at_ + 1] :: t.drop (at_ + 2) := List.drop_eq_getElem_cons c4
        obtain ⟨s2, hsx2⟩ : ∃ s2, s2 = t[at_ + 1] := ⟨_, rfl⟩
        rw [← hsx2] at hd2
        rw [hd2]
        repeat (first | refine zA ?_ | refine zB ?_ | refine zC rfl rfl rfl ?_ | refine zD ?_ | refine zE ?_ | refine zF ?_ | refine zG rfl ?_ | refine zH rfl ?_ | refine zI rfl rfl rfl ?_ | refine zJ rfl rfl ?_ | refine zK ?_ | refine zL ?_ | refine zM rfl ?_ | refine zN ?_)
        refine WL.known (d := 46) (congrArg (fun z => some (Value.int .i64 z)) step1) ?_
        refine WL.ixload (j := at_ + 1) rfl (fun _ => rfl) rfl rfl rfl rfl rfl rfl rfl c4 rfl rfl (hs.hp hp) (st_at c4) ?_
        intro q2
        rw [← hsx2]
        refine WL.call rfl rfl rfl rfl rfl ent55 (Arity_any s2 _) ?_
        rintro _ w2 ⟨rfl, hw2⟩
        obtain rfl := hw2.symm
        repeat (first | refine zA ?_ | refine zB ?_ | refine zC rfl rfl rfl ?_ | refine zD ?_ | refine zE ?_ | refine zF ?_ | refine zG rfl ?_ | refine zH rfl ?_ | refine zI rfl rfl rfl ?_ | refine zJ rfl rfl ?_ | refine zK ?_ | refine zL ?_ | refine zM rfl ?_ | refine zN ?_)
        refine WC.cond rfl (fun c5 => ?_) (fun c5 => ?_)
        · have c5 := (arM_lt s2).1 (of_decide_eq_true c5)
          rw [rprs_un c5.1 c5.2]
          repeat (first | refine zA ?_ | refine zB ?_ | refine zC rfl rfl rfl ?_ | refine zD ?_ | refine zE ?_ | refine zF ?_ | refine zG rfl ?_ | refine zH rfl ?_ | refine zI rfl rfl rfl ?_ | refine zJ rfl rfl ?_ | refine zK ?_ | refine zL ?_ | refine zM rfl ?_ | refine zN ?_)
          exact Res.two rfl rfl rfl rfl ⟨la, acc.length, lc, rfl, hp.tail⟩
        have c5 : s2 ∈ onesL ∨ s2 ∈ twosL := by
          have h := mt (arM_lt s2).2 (of_decide_eq_false c5)
          rcases Classical.em (s2 ∈ onesL) with h1 | h1
          · exact .inl h1
          · exact .inr (Classical.byContradiction fun h2 => h ⟨h1, h2⟩)
        repeat (first | refine zA ?_ | refine zB ?_ | refine zC rfl rfl rfl ?_ | refine zD ?_ | refine zE ?_ | refine zF ?_ | refine zG rfl ?_ | refine zH rfl ?_ | refine zI rfl rfl rfl ?_ | refine zJ rfl rfl ?_ | refine zK ?_ | refine zL ?_ | refine zM rfl ?_ | refine zN ?_)
        refine WL.known (d := 55) (congrArg (fun z => some (Value.int .i64 z)) step1) ?_
        refine WL.ixload (j := at_ + 1) rfl (fun _ => rfl) rfl rfl rfl rfl rfl rfl rfl c4 rfl rfl (hs.hp hp) (st_at c4) ?_
        intro q3
        rw [← hsx2]
        refine WL.buildT (cs := [st s2, .int .i64 (-1), .int .i64 (-1)]) rfl rfl rfl rfl rfl rfl ?_
        refine WL.alloc rfl rfl rfl (fun b8 w3 h3 => ?_)
        have hp3 := hp.new h3
        refine WL.storeN rfl rfl rfl rfl rfl (by simp [Value.oneCell', st]) (hp3.obj 0 rfl) (Nat.le_refl _) rfl (fun w4 h4 => ?_)
        have hp4 : Hp w0 w4 (Rnd (.slice la acc.length lc) acc :: .blk b8 (.cells #[st s2, .int .i64 (-1), .int .i64 (-1)] 98 (0, 0)) :: L) := (hp3.set 0 rfl rfl h4).swap
        clear hp3
        repeat (first | refine zA ?_ | refine zB ?_ | refine zC rfl rfl rfl ?_ | refine zD ?_ | refine zE ?_ | refine zF ?_ | refine zG rfl ?_ | refine zH rfl ?_ | refine zI rfl rfl rfl ?_ | refine zJ rfl rfl ?_ | refine zK ?_ | refine zL ?_ | refine zM rfl ?_ | refine zN ?_)
        refine WL.known (d := 63) (congrArg (fun z => some (Value.int .i64 z)) step2) ?_
        refine WL.call rfl rfl rfl rfl rfl ent51 (ih (at_ + 2) _ acc la lc w4 (by omega) (by omega) (by omega) hs hp4) ?_
        intro v w5 hv
        cases hr1 : rprs n (t.drop (at_ + 2)) with
        | none =>
          rw [hr1] at hv
          obtain ⟨la5, n5, lc5, rfl, hp5⟩ := hv
          have hr : rprs (n + 1) ([40] :: s2 :: t.drop (at_ + 2)) = none := by
            by_cases h1 : s2 ∈ onesL
            · rw [rprs_on h1, hr1]
            · rw [rprs_tw h1 (c5.resolve_left h1), hr1]
          rw [hr]
          repeat (first | refine zA ?_ | refine zB ?_ | refine zC rfl rfl rfl ?_ | refine zD ?_ | refine zE ?_ | refine zF ?_ | refine zG rfl ?_ | refine zH rfl ?_ | refine zI rfl rfl rfl ?_ | refine zJ rfl rfl ?_ | refine zK ?_ | refine zL ?_ | refine zM rfl ?_ | refine zN ?_)
          exact Res.two rfl rfl rfl rfl ⟨la5, n5, lc5, rfl, hp5.tail⟩
        | some qq =>
        obtain ⟨f1, r1⟩ := qq
        rw [hr1] at hv
        obtain ⟨la5, lc5, rfl, hp5⟩ := hv
        obtain ⟨hrd, hrl⟩ := rprs_drop hr1 (by omega)
        have hnl : sizeF f1 + r1.length ≤ t.length - (at_ + 2) := by have := rprs_size _ _ _ _ hr1; rwa [List.length_drop] at this
        obtain ⟨nx, hnx⟩ : ∃ nx, nx = t.length - r1.length := ⟨_, rfl⟩
        rw [← hnx] at hrd ⊢
        have hpos := sizeF_pos f1
        have hlen : (acc ++ nodesN acc.length f1).length = acc.length + sizeF f1 := by rw [List.length_append, nodesN_len]
        have e3 : IntKind.i64.wrap (((acc ++ nodesN acc.length f1).length : Nat) - 1 : Int) = ((acc.length + sizeF f1 - 1 : Nat) : Int) := by rw [hlen, wrap_mid (by omega) (by omega)]; omega
        repeat (first | refine zA ?_ | refine zB ?_ | refine zC rfl rfl rfl ?_ | refine zD ?_ | refine zE ?_ | refine zF ?_ | refine zG rfl ?_ | refine zH rfl ?_ | refine zI rfl rfl rfl ?_ | refine zJ rfl rfl ?_ | refine zK ?_ | refine zL ?_ | refine zM rfl ?_ | refine zN ?_)
        refine WL.known (d := 72) (congrArg (fun z => some (Value.int .i64 z)) e3) ?_
        refine WL.store rfl rfl rfl rfl rfl rfl (hp5.obj 1 rfl) (by show 1 < 3; decide) (fun w6 h6 => ?_)
        have hp6 : Hp w0 w6 (.blk b8 (.cells #[st s2, .int .i64 ((acc.length + sizeF f1 - 1 : Nat) : Int), .int .i64 (-1)] 98 (0, 0)) :: Rnd (.slice la5 (acc ++ nodesN acc.length f1).length lc5) (acc ++ nodesN acc.length f1) :: L) := (hp5.set 1 rfl rfl h6).swap
        clear hp5
        refine WL.nil ?_
        refine WC.seq ?_
        refine WC.mid (Option Addr × Nat × Fm × List Str × Int × List Nd) (fun (a, c, _, r, _, body) => [(0, .slice a body.length c), (1, .slice ta t.length tc), (8, ptr b8), (9, .int .i64 ((t.length - r.length : Nat) : Int))])
          (fun (a, c, fm, r, B, body) w' => Hp w0 w' (.blk b8 (.cells #[st s2, .int .i64 ((acc.length + sizeF f1 - 1 : Nat) : Int), .int .i64 B] 98 (0, 0)) :: Rnd (.slice a body.length c) body :: L)
            ∧ rprs (n + 1) ([40] :: s2 :: t.drop (at_ + 2)) = finR fm r ∧ body ++ [(s2, ((acc.length + sizeF f1 - 1 : Nat) : Int), B)] = acc ++ nodesN acc.length fm ∧ r = t.drop (t.length - r.length) ∧ r.length ≤ t.length ∧ body.length < 10000) ?_ ?_
        · repeat (first | refine zA ?_ | refine zB ?_ | refine zC rfl rfl rfl ?_ | refine zD ?_ | refine zE ?_ | refine zF ?_ | refine zG rfl ?_ | refine zH rfl ?_ | refine zI rfl rfl rfl ?_ | refine zJ rfl rfl ?_ | refine zK ?_ | refine zL ?_ | refine zM rfl ?_ | refine zN ?_)
          refine WL.loadB rfl rfl rfl rfl rfl (hp6.obj 0 rfl) (j := 0) rfl ?_
          refine WL.call rfl rfl rfl rfl rfl ent55 (Arity_any s2 _) ?_
          rintro _ w7 ⟨rfl, hw7⟩
          obtain rfl := hw7.symm
          repeat (first | refine zA ?_ | refine zB ?_ | refine zC rfl rfl rfl ?_ | refine zD ?_ | refine zE ?_ | refine zF ?_ | refine zG rfl ?_ | refine zH rfl ?_ | refine zI rfl rfl rfl ?_ | refine zJ rfl rfl ?_ | refine zK ?_ | refine zL ?_ | refine zM rfl ?_ | refine zN ?_)
          refine WC.cond rfl (fun c7 => ?_) (fun c7 => ?_)
          · have c7 : s2 ∉ onesL := fun h => by
              have c8 := beq_iff_eq.1 c7
              rw [arM_2 s2 c5, if_pos h] at c8
              exact absurd c8 (by decide)
            repeat (first | refine zA ?_ | refine zB ?_ | refine zC rfl rfl rfl ?_ | refine zD ?_ | refine zE ?_ | refine zF ?_ | refine zG rfl ?_ | refine zH rfl ?_ | refine zI rfl rfl rfl ?_ | refine zJ rfl rfl ?_ | refine zK ?_ | refine zL ?_ | refine zM rfl ?_ | refine zN ?_)
            refine WL.call rfl rfl rfl rfl rfl ent51 (ih nx _ (acc ++ nodesN acc.length f1) la5 lc5 _ (by omega) (by omega) (by omega) hs (hp6.swap)) ?_
            intro v w8 hv
            rw [← hrd] at hv
            cases hr2 : rprs n r1 with
            | none =>
              rw [hr2] at hv
              obtain ⟨la6, n6, lc6, rfl, hp8⟩ := hv
              have hr : rprs (n + 1) ([40] :: s2 :: t.drop (at_ + 2)) = none := by rw [rprs_tw c7 (c5.resolve_left c7), hr1]; simp only; rw [hr2]
              rw [hr]
              repeat (first | refine zA ?_ | refine zB ?_ | refine zC rfl rfl rfl ?_ | refine zD ?_ | refine zE ?_ | refine zF ?_ | refine zG rfl ?_ | refine zH rfl ?_ | refine zI rfl rfl rfl ?_ | refine zJ rfl rfl ?_ | refine zK ?_ | refine zL ?_ | refine zM rfl ?_ | refine zN ?_)
              exact Res.two rfl rfl rfl rfl ⟨la6, n6, lc6, rfl, hp8.tail⟩
            | some qq =>
            obtain ⟨f2, r2⟩ := qq
            rw [hr2] at hv
            obtain ⟨la6, lc6, rfl, hp8⟩ := hv
            have hr2' := hr2
            rw [hrd] at hr2'
            obtain ⟨hrd2, hrl2⟩ := rprs_drop hr2' (by omega)
            have hnl2 := rprs_size _ _ _ _ hr2
            have hpos2 := sizeF_pos f2
            have hlen2 : ((acc ++ nodesN acc.length f1) ++ nodesN (acc ++ nodesN acc.length f1).length f2).length = acc.length + sizeF f1 + sizeF f2 := by rw [List.length_append, hlen, nodesN_len]
            have e4 : IntKind.i64.wrap ((((acc ++ nodesN acc.length f1) ++ nodesN (acc ++ nodesN acc.length f1).length f2).length : Nat) - 1 : Int) = ((acc.length + sizeF f1 + sizeF f2 - 1 : Nat) : Int) := by rw [hlen2, wrap_mid (by omega) (by omega)]; omega
            repeat (first | refine zA ?_ | refine zB ?_ | refine zC rfl rfl rfl ?_ | refine zD ?_ | refine zE ?_ | refine zF ?_ | refine zG rfl ?_ | refine zH rfl ?_ | refine zI rfl rfl rfl ?_ | refine zJ rfl rfl ?_ | refine zK ?_ | refine zL ?_ | refine zM rfl ?_ | refine zN ?_)
            refine WL.known (d := 90) (congrArg (fun z => some (Value.int .i64 z)) e4) ?_
            refine WL.store rfl rfl rfl rfl rfl rfl (hp8.obj 1 rfl) (by show 2 < 3; decide) (fun w9 h9 => ?_)
            have hp9 := (hp8.set 1 rfl rfl h9).swap
            refine WL.nil ?_
            refine ⟨(la6, lc6, .tw_ s2 f1 f2, r2, ((acc.length + sizeF f1 + sizeF f2 - 1 : Nat) : Int), (acc ++ nodesN acc.length f1) ++ nodesN (acc ++ nodesN acc.length f1).length f2), ⟨rfl, rfl, rfl, rfl, rfl⟩, hp9, ?_, ?_, hrd2, by omega, by omega⟩
            · rw [rprs_tw c7 (c5.resolve_left c7), hr1]; simp only; rw [hr2]
            · rw [hlen]
              show _ = acc ++ (nodesN acc.length f1 ++ nodesN (acc.length + sizeF f1) f2 ++ [_])
              simp only [List.append_assoc]
          · have c7 : s2 ∈ onesL := Classical.byContradiction fun h => by
              rw [arM_2 s2 c5, if_neg h] at c7
              exact absurd c7 (by decide)
            repeat (first | refine zA ?_ | refine zB ?_ | refine zC rfl rfl rfl ?_ | refine zD ?_ | refine zE ?_ | refine zF ?_ | refine zG rfl ?_ | refine zH rfl ?_ | refine zI rfl rfl rfl ?_ | refine zJ rfl rfl ?_ | refine zK ?_ | refine zL ?_ | refine zM rfl ?_ | refine zN ?_)
            refine ⟨(la5, lc5, .on_ s2 f1, r1, -1, acc ++ nodesN acc.length f1), ⟨rfl, rfl, rfl, congrArg (fun z => some (Value.int .i64 ((z : Nat) : Int))) hnx, rfl⟩, hp6, ?_, ?_, hnx ▸ hrd, by omega, by omega⟩
            · rw [rprs_on c7, hr1]
            · show _ = acc ++ (nodesN acc.length f1 ++ [_])
              simp only [List.append_assoc]
        rintro ⟨a, c, fm, r, B, body⟩ e9 w7 hsub ⟨hp7, hR, hbody, hrd3, hrl3, hbl⟩
        refine WC.sub hsub ?_
        rw [hR]
        clear hsub e9 hp6
        obtain ⟨nz, hnz⟩ : ∃ nz, nz = t.length - r.length := ⟨_, rfl⟩
        simp only [← hnz]
        rw [← hnz] at hrd3
        have e5 := wrap_succ (i := nz) (n := nz + 1) (by omega) (by omega)
        repeat (first | refine zA ?_ | refine zB ?_ | refine zC rfl rfl rfl ?_ | refine zD ?_ | refine zE ?_ | refine zF ?_ | refine zG rfl ?_ | refine zH rfl ?_ | refine zI rfl rfl rfl ?_ | refine zJ rfl rfl ?_ | refine zK ?_ | refine zL ?_ | refine zM rfl ?_ | refine zN ?_)
        refine WL.split 96 rfl (fun c6 => ?_) (fun c6 => ?_)
        · have c6 : t.length ≤ nz := by have h : ((t.length : Nat) : Int) ≤ ((nz : Nat) : Int) := of_decide_eq_true c6; omega
          have hr : r = [] := by rw [hrd3, List.drop_of_length_le c6]
          rw [hr]
          repeat (first | refine zA ?_ | refine zB ?_ | refine zC rfl rfl rfl ?_ | refine zD ?_ | refine zE ?_ | refine zF ?_ | refine zG rfl ?_ | refine zH rfl ?_ | refine zI rfl rfl rfl ?_ | refine zJ rfl rfl ?_ | refine zK ?_ | refine zL ?_ | refine zM rfl ?_ | refine zN ?_)
          exact Res.two rfl rfl rfl rfl ⟨_, _, _, rfl, hp7.tail.tail⟩
        have c6 : nz < t.length := by have h : ¬ ((t.length : Nat) : Int) ≤ ((nz : Nat) : Int) := of_decide_eq_false c6; omega
        have hd4 : t.drop nz = t[nz] :: t.drop (nz + 1) := List.drop_eq_getElem_cons c6
        obtain ⟨s4, hsx4⟩ : ∃ s4, s4 = t[nz] := ⟨_, rfl⟩
        rw [← hsx4] at hd4
        rw [hd4] at hrd3
        repeat (first | refine zA ?_ | refine zB ?_ | refine zC rfl rfl rfl ?_ | refine zD ?_ | refine zE ?_ | refine zF ?_ | refine zG rfl ?_ | refine zH rfl ?_ | refine zI rfl rfl rfl ?_ | refine zJ rfl rfl ?_ | refine zK ?_ | refine zL ?_ | refine zM rfl ?_ | refine zN ?_)
        refine WL.ixload (j := nz) rfl (fun _ => rfl) rfl rfl rfl rfl rfl rfl rfl c6 rfl rfl (hs.hp hp7) (st_at c6) ?_
        intro q5
        rw [← hsx4]
        have hcmp : cmpS .neq s4 [41] = some (!decide (s4 = [41])) := rfl
        refine WL.sCmp (a := s4) (b := [41]) rfl rfl rfl rfl hcmp ?_
        repeat (first | refine zA ?_ | refine zB ?_ | refine zC rfl rfl rfl ?_ | refine zD ?_ | refine zE ?_ | refine zF ?_ | refine zG rfl ?_ | refine zH rfl ?_ | refine zI rfl rfl rfl ?_ | refine zJ rfl rfl ?_ | refine zK ?_ | refine zL ?_ | refine zM rfl ?_ | refine zN ?_)
        refine WC.cond rfl (fun c8 => ?_) (fun c8 => ?_)
        · have c8 : s4 ≠ [41] := by simpa using c8
          have hr : finR fm r = none := by
            rw [hrd3]
            unfold finR
            split
            · rename_i h; injection h with h1 h2; exact absurd h1 c8
            · rfl
          rw [hr]
          repeat (first | refine zA ?_ | refine zB ?_ | refine zC rfl rfl rfl ?_ | refine zD ?_ | refine zE ?_ | refine zF ?_ | refine zG rfl ?_ | refine zH rfl ?_ | refine zI rfl rfl rfl ?_ | refine zJ rfl rfl ?_ | refine zK ?_ | refine zL ?_ | refine zM rfl ?_ | refine zN ?_)
          exact Res.two rfl rfl rfl rfl ⟨_, _, _, rfl, hp7.tail.tail⟩
        have c8 : s4 = [41] := by simpa using c8
        subst c8
        have hr : finR fm r = some (fm, t.drop (nz + 1)) := by rw [hrd3]; rfl
        rw [hr]
        repeat (first | refine zA ?_ | refine zB ?_ | refine zC rfl rfl rfl ?_ | refine zD ?_ | refine zE ?_ | refine zF ?_ | refine zG rfl ?_ | refine zH rfl ?_ | refine zI rfl rfl rfl ?_ | refine zJ rfl rfl ?_ | refine zK ?_ | refine zL ?_ | refine zM rfl ?_ | refine zN ?_)
        refine WL.loadN (cs := [st s2, .int .i64 ((acc.length + sizeF f1 - 1 : Nat) : Int), .int .i64 B]) rfl rfl rfl rfl rfl rfl (fun j v hj => cell_of_obj (hp7.obj 0 rfl) (by rw [Nat.zero_add]; simpa using hj)) ?_
        refine WL.buildS (cs := [st s2, .int .i64 ((acc.length + sizeF f1 - 1 : Nat) : Int), .int .i64 B]) rfl rfl rfl rfl rfl rfl rfl rfl rfl (fun b2 w8 h8 => ?_)
        have hp8 := hp7.new h8
        refine WL.append 2 hp8 rfl rfl rfl rfl rfl (by decide) rfl rfl rfl (news := [st s2, .int .i64 ((acc.length + sizeF f1 - 1 : Nat) : Int), .int .i64 B]) (Sl.of_obj (hp8.obj 0 rfl) (fun q u hq => by simpa using hq)) rfl (ndC_cells [(s2, ((acc.length + sizeF f1 - 1 : Nat) : Int), B)]) (by unfold maxLen; omega) (by show (body.length + 1) * 32 ≤ _; omega) ?_
        intro pa pc w9 hp9 _
        refine WL.pure rfl rfl rfl ?_
        refine WL.pure rfl rfl rfl ?_
        refine WL.known (d := 109) (congrArg (fun z => some (Value.int .i64 z)) e5) ?_
        repeat (first | refine zA ?_ | refine zB ?_ | refine zC rfl rfl rfl ?_ | refine zD ?_ | refine zE ?_ | refine zF ?_ | refine zG rfl ?_ | refine zH rfl ?_ | refine zI rfl rfl rfl ?_ | refine zJ rfl rfl ?_ | refine zK ?_ | refine zL ?_ | refine zM rfl ?_ | refine zN ?_)
        refine Res.two rfl rfl rfl rfl ⟨pa, pc, ?_, ?_⟩
        · have e1 : t.length - (t.drop (nz + 1)).length = nz + 1 := by rw [List.length_drop]; omega
          rw [e1, ← hbody, List.length_append]
          rfl
        · rw [← hbody, Rnd_snoc]
          exact hp9.tail.tail
end Go.Proofs.YtpbbneclkhfgoaaDoor
end
section
/- ltl, thirty-fifth: the reference's Parse. -/
namespace Go.Proofs.YtpbbneclkhfgoaaDoor
open Go.W Go.Ltl Go.RowKit
set_option maxRecDepth 100000
set_option linter.unusedSectionVars false
attribute [local irreducible] WC WL WQ WS WH

theorem wcnt_take {t : List Str} {i : Nat} (h : i < t.length) : wcnt (t.take (i + 1)) = wcnt (t.take i) + if parB t[i] then 0 else 1 := by
  rw [List.take_add_one, List.getElem?_eq_getElem h]
  unfold wcnt
  rw [List.filter_append, List.length_append]
  show _ + (List.filter _ [t[i]]).length = _
  congr 1
  cases hp : parB t[i] <;> simp [hp]
theorem wcnt_le (t : List Str) : wcnt t ≤ t.length := List.length_filter_le _ _
theorem parseM_wf {s : Str} {f : Fm} (h : parseM s = some f) : wfF f := by
  rw [parseM_ref] at h
  split at h
  · cases h
  · split at h
    · rename_i g he
      cases h
      exact (rprs_wcnt _ _ _ _ he).2.2
    · cases h
theorem Parse_any (s : Str) (hs : s.length ≤ 2000) (w : World) :
    Ret Tryd.prog 19 [st s] w fun v w' => match parseM s with
      | some f => ∃ a c, v = .tuple #[.slice a (nodesN 0 f).length c, .bool true] ∧ Hp w w' [Rnd (.slice a (nodesN 0 f).length c) (nodesN 0 f)]
      | none => ∃ a n c, v = .tuple #[.slice a n c, .bool false] ∧ Hp w w' [] := by
  refine enter Tryd.func19 rfl rfl ⟨rfl, rfl⟩ rfl ?_
  repeat (first | refine zA ?_ | refine zB ?_ | refine zC rfl rfl rfl ?_ | refine zD ?_ | refine zE ?_ | refine zF ?_ | refine zG rfl ?_ | refine zH rfl ?_ | refine zI rfl rfl rfl ?_ | refine zJ rfl rfl ?_ | refine zK ?_ | refine zL ?_ | refine zM rfl ?_ | refine zN ?_)
  refine WL.call rfl rfl rfl rfl rfl ent50 (Tokens_any s hs w) ?_
  rintro _ w1 ⟨ta, tc, rfl, hp1⟩
  have htl : (tokM s).length ≤ 2 * s.length + 1 := tokN_len s []
  obtain ⟨t, hte⟩ : ∃ t, t = tokM s := ⟨_, rfl⟩
  rw [parseM_ref, ← hte]
  rw [← hte] at hp1 htl
  have hsl : Sl w1 ta (t.map st) := Sl.of_row (hp1.at 0 rfl)
  have ht5 : t.length ≤ 5000 := by omega
  repeat (first | refine zA ?_ | refine zB ?_ | refine zC rfl rfl rfl ?_ | refine zD ?_ | refine zE ?_ | refine zF ?_ | refine zG rfl ?_ | refine zH rfl ?_ | refine zI rfl rfl rfl ?_ | refine zJ rfl rfl ?_ | refine zK ?_ | refine zL ?_ | refine zM rfl ?_ | refine zN ?_)
  refine WC.loop Nat (fun i => [(4, .slice ta t.length tc), (5, .int .i64 (wcnt (t.take i) : Nat)), (6, .int .i64 (i : Nat))])
    (fun i w' => i ≤ t.length ∧ w' = w1) (fun i => t.length - i) 0 ⟨rfl, rfl, rfl, rfl⟩ ⟨Nat.zero_le _, rfl⟩ ?_
  rintro i w ⟨hi0, rfl⟩
  repeat (first | refine zA ?_ | refine zB ?_ | refine zC rfl rfl rfl ?_ | refine zD ?_ | refine zE ?_ | refine zF ?_ | refine zG rfl ?_ | refine zH rfl ?_ | refine zI rfl rfl rfl ?_ | refine zJ rfl rfl ?_ | refine zK ?_ | refine zL ?_ | refine zM rfl ?_ | refine zN ?_)
  refine WC.cond rfl (fun c1 => ?_) (fun c1 => ?_)
  · have hi : i < t.length := by have := of_decide_eq_true c1; omega
    have step := wrap_succ (i := i) (n := i + 1) (by omega) (by omega)
    have hw := wcnt_take hi
    have hwl : wcnt (t.take i) ≤ i := by have := wcnt_le (t.take i); rw [List.length_take] at this; omega
    obtain ⟨x, hx⟩ : ∃ x, x = t[i] := ⟨_, rfl⟩
    rw [← hx] at hw
    repeat (first | refine zA ?_ | refine zB ?_ | refine zC rfl rfl rfl ?_ | refine zD ?_ | refine zE ?_ | refine zF ?_ | refine zG rfl ?_ | refine zH rfl ?_ | refine zI rfl rfl rfl ?_ | refine zJ rfl rfl ?_ | refine zK ?_ | refine zL ?_ | refine zM rfl ?_ | refine zN ?_)
    refine WL.ixload rfl (fun _ => rfl) rfl rfl rfl rfl rfl rfl rfl hi rfl rfl hsl (st_at hi) ?_
    intro q0
    rw [← hx]
    by_cases h1 : x = [40]
    · have e : wcnt (t.take (i + 1)) = wcnt (t.take i) := by rw [hw]; simp [parB, h1]
      refine WL.sCmp (a := x) (b := [40]) (r := false) rfl rfl rfl rfl (by simp [cmpS, h1]) ?_
      repeat (first | refine zA ?_ | refine zB ?_ | refine zC rfl rfl rfl ?_ | refine zD ?_ | refine zE ?_ | refine zF ?_ | refine zG rfl ?_ | refine zH rfl ?_ | refine zI rfl rfl rfl ?_ | refine zJ rfl rfl ?_ | refine zK ?_ | refine zL ?_ | refine zM rfl ?_ | refine zN ?_)
      exact ⟨i + 1, by omega, ⟨rfl, congrArg (fun z => some (Value.int .i64 ((z : Nat) : Int))) e.symm, congrArg (fun z => some (Value.int .i64 z)) step, rfl⟩, hi, rfl⟩
    refine WL.sCmp (a := x) (b := [40]) (r := true) rfl rfl rfl rfl (by simp [cmpS, h1]) ?_
    repeat (first | refine zA ?_ | refine zB ?_ | refine zC rfl rfl rfl ?_ | refine zD ?_ | refine zE ?_ | refine zF ?_ | refine zG rfl ?_ | refine zH rfl ?_ | refine zI rfl rfl rfl ?_ | refine zJ rfl rfl ?_ | refine zK ?_ | refine zL ?_ | refine zM rfl ?_ | refine zN ?_)
    refine WL.ixload (j := i) rfl (fun _ => rfl) rfl rfl rfl rfl rfl rfl rfl hi rfl rfl hsl (st_at hi) ?_
    intro q1
    rw [← hx]
    by_cases h2 : x = [41]
    · have e : wcnt (t.take (i + 1)) = wcnt (t.take i) := by rw [hw]; simp [parB, h2]
      refine WL.sCmp (a := x) (b := [41]) (r := false) rfl rfl rfl rfl (by simp [cmpS, h2]) ?_
      repeat (first | refine zA ?_ | refine zB ?_ | refine zC rfl rfl rfl ?_ | refine zD ?_ | refine zE ?_ | refine zF ?_ | refine zG rfl ?_ | refine zH rfl ?_ | refine zI rfl rfl rfl ?_ | refine zJ rfl rfl ?_ | refine zK ?_ | refine zL ?_ | refine zM rfl ?_ | refine zN ?_)
      exact ⟨i + 1, by omega, ⟨rfl, congrArg (fun z => some (Value.int .i64 ((z : Nat) : Int))) e.symm, congrArg (fun z => some (Value.int .i64 z)) step, rfl⟩, hi, rfl⟩
    have e : wcnt (t.take (i + 1)) = wcnt (t.take i) + 1 := by rw [hw]; simp [parB, h1, h2]
    have step2 : IntKind.i64.wrap (((wcnt (t.take i) : Nat) : Int) + 1) = ((wcnt (t.take (i + 1)) : Nat) : Int) := by rw [e]; exact wrap_succ (i := wcnt (t.take i)) (n := wcnt (t.take i) + 1) (by omega) (by omega)
    refine WL.sCmp (a := x) (b := [41]) (r := true) rfl rfl rfl rfl (by simp [cmpS, h2]) ?_
    repeat (first | refine zA ?_ | refine zB ?_ | refine zC rfl rfl rfl ?_ | refine zD ?_ | refine zE ?_ | refine zF ?_ | refine zG rfl ?_ | refine zH rfl ?_ | refine zI rfl rfl rfl ?_ | refine zJ rfl rfl ?_ | refine zK ?_ | refine zL ?_ | refine zM rfl ?_ | refine zN ?_)
    exact ⟨i + 1, by omega, ⟨rfl, congrArg (fun z => some (Value.int .i64 z)) step2, congrArg (fun z => some (Value.int .i64 z)) step, rfl⟩, hi, rfl⟩
  have hi : i = t.length := by have := of_decide_eq_false c1; omega
  subst hi
  rw [List.take_length]
  repeat (first | refine zA ?_ | refine zB ?_ | refine zC rfl rfl rfl ?_ | refine zD ?_ | refine zE ?_ | refine zF ?_ | refine zG rfl ?_ | refine zH rfl ?_ | refine zI rfl rfl rfl ?_ | refine zJ rfl rfl ?_ | refine zK ?_ | refine zL ?_ | refine zM rfl ?_ | refine zN ?_)
  refine WC.cond rfl (fun c2 => ?_) (fun c2 => ?_)
  · have c2 : 12 < wcnt t := by have := of_decide_eq_true c2; omega
    rw [if_pos c2]
    repeat (first | refine zA ?_ | refine zB ?_ | refine zC rfl rfl rfl ?_ | refine zD ?_ | refine zE ?_ | refine zF ?_ | refine zG rfl ?_ | refine zH rfl ?_ | refine zI rfl rfl rfl ?_ | refine zJ rfl rfl ?_ | refine zK ?_ | refine zL ?_ | refine zM rfl ?_ | refine zN ?_)
    exact Res.two rfl rfl rfl rfl ⟨none, 0, 0, rfl, hp1.nil'⟩
  have c2 : ¬ 12 < wcnt t := by have := of_decide_eq_false c2; omega
  rw [if_neg c2]
  have hp2 : Hp w w (Rnd (.slice none 0 0) [] :: []) := (Hp.start w).nilrow 98 3
  repeat (first | refine zA ?_ | refine zB ?_ | refine zC rfl rfl rfl ?_ | refine zD ?_ | refine zE ?_ | refine zF ?_ | refine zG rfl ?_ | refine zH rfl ?_ | refine zI rfl rfl rfl ?_ | refine zJ rfl rfl ?_ | refine zK ?_ | refine zL ?_ | refine zM rfl ?_ | refine zN ?_)
  refine WL.call rfl rfl rfl rfl rfl ent51 (rparse_any t ta tc ht5 (t.length + 1) 0 [] [] none 0 w (by omega) (by omega) (by show 0 + (t.length - 0) ≤ _; omega) hsl hp2) ?_
  intro v w3 hv
  rw [List.drop_zero] at hv
  cases hr : rprs (t.length + 1) t with
  | none =>
    rw [hr] at hv
    obtain ⟨la, n, lc, rfl, hp3⟩ := hv
    repeat (first | refine zA ?_ | refine zB ?_ | refine zC rfl rfl rfl ?_ | refine zD ?_ | refine zE ?_ | refine zF ?_ | refine zG rfl ?_ | refine zH rfl ?_ | refine zI rfl rfl rfl ?_ | refine zJ rfl rfl ?_ | refine zK ?_ | refine zL ?_ | refine zM rfl ?_ | refine zN ?_)
    exact Res.two rfl rfl rfl rfl ⟨la, n, lc, rfl, (hp1.comb hp3).nil'⟩
  | some qq =>
    obtain ⟨f, r⟩ := qq
    rw [hr] at hv
    obtain ⟨la, lc, rfl, hp3⟩ := hv
    rw [List.nil_append] at hp3 ⊢
    have hsz := rprs_size _ _ _ _ hr
    have hpos := sizeF_pos f
    cases r with
    | nil =>
      rw [List.length_nil] at hsz
      repeat (first | refine zA ?_ | refine zB ?_ | refine zC rfl rfl rfl ?_ | refine zD ?_ | refine zE ?_ | refine zF ?_ | refine zG rfl ?_ | refine zH rfl ?_ | refine zI rfl rfl rfl ?_ | refine zJ rfl rfl ?_ | refine zK ?_ | refine zL ?_ | refine zM rfl ?_ | refine zN ?_)
      refine WL.split 43 rfl (fun c3 => ?_) (fun c3 => ?_)
      · repeat (first | refine zA ?_ | refine zB ?_ | refine zC rfl rfl rfl ?_ | refine zD ?_ | refine zE ?_ | refine zF ?_ | refine zG rfl ?_ | refine zH rfl ?_ | refine zI rfl rfl rfl ?_ | refine zJ rfl rfl ?_ | refine zK ?_ | refine zL ?_ | refine zM rfl ?_ | refine zN ?_)
        refine Res.two rfl rfl rfl rfl ⟨la, lc, congrArg (fun b => Value.tuple #[_, .bool b]) (decide_eq_true (show ((0 : Nat) : Int) < ((t.length - 0 : Nat) : Int) by omega)), (hp1.comb hp3).pick [0] (by decide)⟩
      · have h : (((t.length - 0 : Nat) : Int) == ((t.length : Nat) : Int)) = true := beq_self_eq_true _
        exact Bool.noConfusion (h.symm.trans c3)
    | cons x r =>
      repeat (first | refine zA ?_ | refine zB ?_ | refine zC rfl rfl rfl ?_ | refine zD ?_ | refine zE ?_ | refine zF ?_ | refine zG rfl ?_ | refine zH rfl ?_ | refine zI rfl rfl rfl ?_ | refine zJ rfl rfl ?_ | refine zK ?_ | refine zL ?_ | refine zM rfl ?_ | refine zN ?_)
      refine WL.split 43 rfl (fun c3 => ?_) (fun c3 => ?_)
      · have c3 : ((t.length - (x :: r).length : Nat) : Int) = ((t.length : Nat) : Int) := eq_of_beq c3
        rw [List.length_cons] at c3
        omega
      · repeat (first | refine zA ?_ | refine zB ?_ | refine zC rfl rfl rfl ?_ | refine zD ?_ | refine zE ?_ | refine zF ?_ | refine zG rfl ?_ | refine zH rfl ?_ | refine zI rfl rfl rfl ?_ | refine zJ rfl rfl ?_ | refine zK ?_ | refine zL ?_ | refine zM rfl ?_ | refine zN ?_)
        exact Res.two rfl rfl rfl rfl ⟨la, _, lc, rfl, (hp1.comb hp3).nil'⟩
end Go.Proofs.YtpbbneclkhfgoaaDoor
end
