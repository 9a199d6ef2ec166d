/- ltl, thirty-sixth: the reference's Push. -/
import Derived.Test.YtpbbneclkhfgoaaDoorU34
import Derived.Test.YtpbbneclkhfgoaaDoorU7
namespace Go.Proofs.YtpbbneclkhfgoaaDoor
open Go.W Go.Ltl Go.RowKit
set_option maxRecDepth 100000
set_option linter.unusedSectionVars false
attribute [local irreducible] WC WL WQ WS WH

def wordR (c : Bool) (s : Str) : Str := if c then dualR s else s
theorem wordR_len : ∀ c : Bool, ∀ s ∈ atomsL ++ onesL ++ twosL, s.length ≤ 7 ∧ (wordR c s).length ≤ 7 := by decide
theorem name_word : ∀ c : Bool, ∀ s ∈ onesL ++ twosL, s ≠ wNot → nameM c s = wordR c s := by decide
theorem push_at0 : ∀ s ∈ atomsL, textF (pushM (.at_ s) false) = s := by decide
theorem push_at1 : ∀ s ∈ atomsL, textF (pushM (.at_ s) true) = if dualR s = s then [40, 110, 111, 116, 32] ++ s ++ [41] else dualR s := by decide
theorem atom_not : ∀ s ∈ atomsL, s ≠ wNot := by decide
theorem twos_not : ∀ s ∈ twosL, s ≠ wNot := by decide
theorem ones_at : ∀ s ∈ onesL ++ twosL, s ∉ atomsL := ops_word
theorem rpush_any (l : List Nd) (a : Option Addr) (c : Nat) (hl : l.length ≤ 5000) : ∀ (f : Fm), wfF f → shF f → sizeF f ≤ 1000 → ∀ (k : Nat) (neg : Bool) (w : World), AtN l k f → Sl w a (ndC l) →
    Ret Tryd.prog 23 [.slice a l.length c, .int .i64 (k : Nat), .bool neg] w fun v w' => v = st (textF (pushM f neg)) ∧ Hp w w' [] := by
  intro f
  induction f with
  | at_ s =>
    intro hwf hsh hsz k neg w hk hs
    have hk : l[k]? = some (s, -1, -1) := hk
    have hwf : s ∈ atomsL := hwf
    have hnot := atom_not s hwf
    obtain ⟨hlen, hlenR⟩ := wordR_len neg s (by simp [hwf])
    refine enter Tryd.func23 rfl rfl ⟨rfl, rfl⟩ rfl ?_
    have hkl := (List.getElem?_eq_some_iff.1 hk).1
    repeat (first | refine WC.seq ?_ | refine WC.reg ?_ | refine WL.pure rfl rfl rfl ?_ | refine WL.nil ?_ | refine WC.skip ?_ | refine WC.block ?_ | refine WC.condT rfl ?_ | refine WC.condF rfl ?_ | refine WL.off rfl rfl rfl ?_ | refine WL.off0 rfl rfl ?_ | refine WC.exit ?_ | refine blk_hit ?_ | refine blk_miss rfl ?_ | refine WC.ret ?_)
    refine WL.ixloadN (cs' := [st s, .int .i64 (-1), .int .i64 (-1)]) rfl (fun _ => rfl) rfl rfl rfl rfl rfl rfl rfl rfl hkl rfl rfl hs rfl (ndC_at hk) ?_
    intro p0
    refine WL.alloc rfl rfl rfl (fun b1 w1 h1 => ?_)
    have hp1 := (Hp.start w).new h1
    refine WL.storeN rfl rfl rfl rfl rfl (by simp [Value.oneCell', st]) (hp1.obj 0 rfl) (Nat.le_refl _) rfl (fun w2 h2 => ?_)
    have hp2 : Hp w w2 [.blk b1 (.cells #[st s, .int .i64 (-1), .int .i64 (-1)] 98 (0, 0))] := hp1.set 0 rfl rfl h2
    clear hp1
    repeat (first | refine WC.seq ?_ | refine WC.reg ?_ | refine WL.pure rfl rfl rfl ?_ | refine WL.nil ?_ | refine WC.skip ?_ | refine WC.block ?_ | refine WC.condT rfl ?_ | refine WC.condF rfl ?_ | refine WL.off rfl rfl rfl ?_ | refine WL.off0 rfl rfl ?_ | refine WC.exit ?_ | refine blk_hit ?_ | refine blk_miss rfl ?_ | refine WC.ret ?_)
    refine WL.loadB rfl rfl rfl rfl rfl (hp2.obj 0 rfl) (j := 0) rfl ?_
    refine WL.sCmp (a := s) (b := wNot) (r := decide (s = wNot)) rfl rfl rfl rfl rfl ?_
    refine WL.nil ?_
    refine WC.condF (congrArg (fun b => some (Value.bool b)) (decide_eq_false hnot)) ?_
    repeat (first | refine WC.seq ?_ | refine WC.reg ?_ | refine WL.pure rfl rfl rfl ?_ | refine WL.nil ?_ | refine WC.skip ?_ | refine WC.block ?_ | refine WC.condT rfl ?_ | refine WC.condF rfl ?_ | refine WL.off rfl rfl rfl ?_ | refine WL.off0 rfl rfl ?_ | refine WC.exit ?_ | refine blk_hit ?_ | refine blk_miss rfl ?_ | refine WC.ret ?_)
    refine WL.loadB rfl rfl rfl rfl rfl (hp2.obj 0 rfl) (j := 0) rfl ?_
    repeat (first | refine WC.seq ?_ | refine WC.reg ?_ | refine WL.pure rfl rfl rfl ?_ | refine WL.nil ?_ | refine WC.skip ?_ | refine WC.block ?_ | refine WC.condT rfl ?_ | refine WC.condF rfl ?_ | refine WL.off rfl rfl rfl ?_ | refine WL.off0 rfl rfl ?_ | refine WC.exit ?_ | refine blk_hit ?_ | refine blk_miss rfl ?_ | refine WC.ret ?_)
    refine WC.mid Unit (fun _ => [(0, .slice a l.length c), (2, .bool neg), (6, st []), (7, ptr b1), (8, st (wordR neg s))]) (fun _ w' => Hp w w' [.blk b1 (.cells #[st s, .int .i64 (-1), .int .i64 (-1)] 98 (0, 0))]) ?_ ?_
    · cases neg
      · repeat (first | refine WC.seq ?_ | refine WC.reg ?_ | refine WL.pure rfl rfl rfl ?_ | refine WL.nil ?_ | refine WC.skip ?_ | refine WC.block ?_ | refine WC.condT rfl ?_ | refine WC.condF rfl ?_ | refine WL.off rfl rfl rfl ?_ | refine WL.off0 rfl rfl ?_ | refine WC.exit ?_ | refine blk_hit ?_ | refine blk_miss rfl ?_ | refine WC.ret ?_)
        exact ⟨(), ⟨rfl, rfl, rfl, rfl, rfl, rfl⟩, hp2⟩
      · repeat (first | refine WC.seq ?_ | refine WC.reg ?_ | refine WL.pure rfl rfl rfl ?_ | refine WL.nil ?_ | refine WC.skip ?_ | refine WC.block ?_ | refine WC.condT rfl ?_ | refine WC.condF rfl ?_ | refine WL.off rfl rfl rfl ?_ | refine WL.off0 rfl rfl ?_ | refine WC.exit ?_ | refine blk_hit ?_ | refine blk_miss rfl ?_ | refine WC.ret ?_)
        refine WL.call rfl rfl rfl rfl rfl ent54 (Dual_any s _) ?_
        rintro _ w3 ⟨rfl, hp3⟩
        repeat (first | refine WC.seq ?_ | refine WC.reg ?_ | refine WL.pure rfl rfl rfl ?_ | refine WL.nil ?_ | refine WC.skip ?_ | refine WC.block ?_ | refine WC.condT rfl ?_ | refine WC.condF rfl ?_ | refine WL.off rfl rfl rfl ?_ | refine WL.off0 rfl rfl ?_ | refine WC.exit ?_ | refine blk_hit ?_ | refine blk_miss rfl ?_ | refine WC.ret ?_)
        exact ⟨(), ⟨rfl, rfl, rfl, rfl, rfl, rfl⟩, hp2.call hp3.below⟩
    rintro _ e3 w3 hsub hp3
    refine WC.sub hsub ?_
    clear hsub e3 hp2
    repeat (first | refine WC.seq ?_ | refine WC.reg ?_ | refine WL.pure rfl rfl rfl ?_ | refine WL.nil ?_ | refine WC.skip ?_ | refine WC.block ?_ | refine WC.condT rfl ?_ | refine WC.condF rfl ?_ | refine WL.off rfl rfl rfl ?_ | refine WL.off0 rfl rfl ?_ | refine WC.exit ?_ | refine blk_hit ?_ | refine blk_miss rfl ?_ | refine WC.ret ?_)
    refine WL.loadB rfl rfl rfl rfl rfl (hp3.obj 0 rfl) (j := 0) rfl ?_
    refine WL.call rfl rfl rfl rfl rfl ent55 (Arity_any s _) ?_
    rintro _ w4 ⟨rfl, hw4⟩
    obtain rfl := hw4.symm
    repeat (first | refine WC.seq ?_ | refine WC.reg ?_ | refine WL.pure rfl rfl rfl ?_ | refine WL.nil ?_ | refine WC.skip ?_ | refine WC.block ?_ | refine WC.condT rfl ?_ | refine WC.condF rfl ?_ | refine WL.off rfl rfl rfl ?_ | refine WL.off0 rfl rfl ?_ | refine WC.exit ?_ | refine blk_hit ?_ | refine blk_miss rfl ?_ | refine WC.ret ?_)
    refine WC.condT (congrArg (fun b => some (Value.bool b)) (beq_iff_eq.2 ((arM_0 s).2 hwf))) ?_
    cases neg
    · repeat (first | refine WC.seq ?_ | refine WC.reg ?_ | refine WL.pure rfl rfl rfl ?_ | refine WL.nil ?_ | refine WC.skip ?_ | refine WC.block ?_ | refine WC.condT rfl ?_ | refine WC.condF rfl ?_ | refine WL.off rfl rfl rfl ?_ | refine WL.off0 rfl rfl ?_ | refine WC.exit ?_ | refine blk_hit ?_ | refine blk_miss rfl ?_ | refine WC.ret ?_)
      exact Res.one rfl rfl rfl ⟨by rw [push_at0 s hwf]; rfl, hp3.nil'⟩
    · repeat (first | refine WC.seq ?_ | refine WC.reg ?_ | refine WL.pure rfl rfl rfl ?_ | refine WL.nil ?_ | refine WC.skip ?_ | refine WC.block ?_ | refine WC.condT rfl ?_ | refine WC.condF rfl ?_ | refine WL.off rfl rfl rfl ?_ | refine WL.off0 rfl rfl ?_ | refine WC.exit ?_ | refine blk_hit ?_ | refine blk_miss rfl ?_ | refine WC.ret ?_)
      refine WL.loadB rfl rfl rfl rfl rfl (hp3.obj 0 rfl) (j := 0) rfl ?_
      refine WL.sCmp (a := dualR s) (b := s) (r := decide (dualR s = s)) rfl rfl rfl rfl rfl ?_
      have h2 := push_at1 s hwf
      by_cases h1 : dualR s = s
      · rw [if_pos h1] at h2
        rw [decide_eq_true h1]
        repeat (first | refine WC.seq ?_ | refine WC.reg ?_ | refine WL.pure rfl rfl rfl ?_ | refine WL.nil ?_ | refine WC.skip ?_ | refine WC.block ?_ | refine WC.condT rfl ?_ | refine WC.condF rfl ?_ | refine WL.off rfl rfl rfl ?_ | refine WL.off0 rfl rfl ?_ | refine WC.exit ?_ | refine blk_hit ?_ | refine blk_miss rfl ?_ | refine WC.ret ?_)
        refine WL.sCat (a := [40, 110, 111, 116, 32]) (b := dualR s) rfl rfl rfl rfl (by show 5 + (wordR true s).length ≤ _; omega) ?_
        refine WL.sCat (a := [40, 110, 111, 116, 32] ++ dualR s) (b := [41]) rfl rfl rfl rfl (by rw [List.length_append]; show 5 + (wordR true s).length + 1 ≤ _; omega) ?_
        repeat (first | refine WC.seq ?_ | refine WC.reg ?_ | refine WL.pure rfl rfl rfl ?_ | refine WL.nil ?_ | refine WC.skip ?_ | refine WC.block ?_ | refine WC.condT rfl ?_ | refine WC.condF rfl ?_ | refine WL.off rfl rfl rfl ?_ | refine WL.off0 rfl rfl ?_ | refine WC.exit ?_ | refine blk_hit ?_ | refine blk_miss rfl ?_ | refine WC.ret ?_)
        exact Res.one rfl rfl rfl ⟨by rw [h2, h1], hp3.nil'⟩
      · rw [if_neg h1] at h2
        rw [decide_eq_false h1]
        repeat (first | refine WC.seq ?_ | refine WC.reg ?_ | refine WL.pure rfl rfl rfl ?_ | refine WL.nil ?_ | refine WC.skip ?_ | refine WC.block ?_ | refine WC.condT rfl ?_ | refine WC.condF rfl ?_ | refine WL.off rfl rfl rfl ?_ | refine WL.off0 rfl rfl ?_ | refine WC.exit ?_ | refine blk_hit ?_ | refine blk_miss rfl ?_ | refine WC.ret ?_)
        exact Res.one rfl rfl rfl ⟨by rw [h2]; rfl, hp3.nil'⟩
  | on_ s f ih =>
    rintro ⟨hwf, hwf1⟩ hsh hsz k neg w ⟨x, hk, hx⟩ hs
    have hsh1 : shF f := hsh.2
    have hsz1 : sizeF f < 1000 := by have h : 1 + sizeF f ≤ 1000 := hsz; omega
    have hb := textF_len _ (pushM_sh f neg hsh1).1
    have hb2 := (pushM_sh f neg hsh1).2
    obtain ⟨hlen, hlenR⟩ := wordR_len neg s (by simp [hwf])
    refine enter Tryd.func23 rfl rfl ⟨rfl, rfl⟩ rfl ?_
    have hkl := (List.getElem?_eq_some_iff.1 hk).1
    repeat (first | refine WC.seq ?_ | refine WC.reg ?_ | refine WL.pure rfl rfl rfl ?_ | refine WL.nil ?_ | refine WC.skip ?_ | refine WC.block ?_ | refine WC.condT rfl ?_ | refine WC.condF rfl ?_ | refine WL.off rfl rfl rfl ?_ | refine WL.off0 rfl rfl ?_ | refine WC.exit ?_ | refine blk_hit ?_ | refine blk_miss rfl ?_ | refine WC.ret ?_)
    refine WL.ixloadN (cs' := [st s, .int .i64 ((x : Nat)), .int .i64 (-1)]) rfl (fun _ => rfl) rfl rfl rfl rfl rfl rfl rfl rfl hkl rfl rfl hs rfl (ndC_at hk) ?_
    intro p0
    refine WL.alloc rfl rfl rfl (fun b1 w1 h1 => ?_)
    have hp1 := (Hp.start w).new h1
    refine WL.storeN rfl rfl rfl rfl rfl (by simp [Value.oneCell', st]) (hp1.obj 0 rfl) (Nat.le_refl _) rfl (fun w2 h2 => ?_)
    have hp2 : Hp w w2 [.blk b1 (.cells #[st s, .int .i64 ((x : Nat)), .int .i64 (-1)] 98 (0, 0))] := hp1.set 0 rfl rfl h2
    clear hp1
    repeat (first | refine WC.seq ?_ | refine WC.reg ?_ | refine WL.pure rfl rfl rfl ?_ | refine WL.nil ?_ | refine WC.skip ?_ | refine WC.block ?_ | refine WC.condT rfl ?_ | refine WC.condF rfl ?_ | refine WL.off rfl rfl rfl ?_ | refine WL.off0 rfl rfl ?_ | refine WC.exit ?_ | refine blk_hit ?_ | refine blk_miss rfl ?_ | refine WC.ret ?_)
    refine WL.loadB rfl rfl rfl rfl rfl (hp2.obj 0 rfl) (j := 0) rfl ?_
    refine WL.sCmp (a := s) (b := wNot) (r := decide (s = wNot)) rfl rfl rfl rfl rfl ?_
    by_cases hnot : s = wNot
    · refine WL.nil ?_
      refine WC.condT (congrArg (fun b => some (Value.bool b)) (decide_eq_true hnot)) ?_
      repeat (first | refine WC.seq ?_ | refine WC.reg ?_ | refine WL.pure rfl rfl rfl ?_ | refine WL.nil ?_ | refine WC.skip ?_ | refine WC.block ?_ | refine WC.condT rfl ?_ | refine WC.condF rfl ?_ | refine WL.off rfl rfl rfl ?_ | refine WL.off0 rfl rfl ?_ | refine WC.exit ?_ | refine blk_hit ?_ | refine blk_miss rfl ?_ | refine WC.ret ?_)
      refine WL.loadB rfl rfl rfl rfl rfl (hp2.obj 0 rfl) (j := 1) rfl ?_
      repeat (first | refine WC.seq ?_ | refine WC.reg ?_ | refine WL.pure rfl rfl rfl ?_ | refine WL.nil ?_ | refine WC.skip ?_ | refine WC.block ?_ | refine WC.condT rfl ?_ | refine WC.condF rfl ?_ | refine WL.off rfl rfl rfl ?_ | refine WL.off0 rfl rfl ?_ | refine WC.exit ?_ | refine blk_hit ?_ | refine blk_miss rfl ?_ | refine WC.ret ?_)
      refine WL.call rfl rfl rfl rfl rfl ent23 (ih hwf1 hsh1 (by omega) x (!neg) _ hx (hs.hp hp2)) ?_
      rintro _ w3 ⟨rfl, hp3⟩
      repeat (first | refine WC.seq ?_ | refine WC.reg ?_ | refine WL.pure rfl rfl rfl ?_ | refine WL.nil ?_ | refine WC.skip ?_ | refine WC.block ?_ | refine WC.condT rfl ?_ | refine WC.condF rfl ?_ | refine WL.off rfl rfl rfl ?_ | refine WL.off0 rfl rfl ?_ | refine WC.exit ?_ | refine blk_hit ?_ | refine blk_miss rfl ?_ | refine WC.ret ?_)
      refine Res.one rfl rfl rfl ⟨?_, (hp2.comb hp3).nil'⟩
      rw [show pushM (.on_ s f) neg = pushM f (!neg) from by show (if s = wNot then pushM f (!neg) else .on_ (nameM neg s) (pushM f neg)) = _; rw [if_pos hnot]]
    refine WL.nil ?_
    refine WC.condF (congrArg (fun b => some (Value.bool b)) (decide_eq_false hnot)) ?_
    repeat (first | refine WC.seq ?_ | refine WC.reg ?_ | refine WL.pure rfl rfl rfl ?_ | refine WL.nil ?_ | refine WC.skip ?_ | refine WC.block ?_ | refine WC.condT rfl ?_ | refine WC.condF rfl ?_ | refine WL.off rfl rfl rfl ?_ | refine WL.off0 rfl rfl ?_ | refine WC.exit ?_ | refine blk_hit ?_ | refine blk_miss rfl ?_ | refine WC.ret ?_)
    refine WL.loadB rfl rfl rfl rfl rfl (hp2.obj 0 rfl) (j := 0) rfl ?_
    repeat (first | refine WC.seq ?_ | refine WC.reg ?_ | refine WL.pure rfl rfl rfl ?_ | refine WL.nil ?_ | refine WC.skip ?_ | refine WC.block ?_ | refine WC.condT rfl ?_ | refine WC.condF rfl ?_ | refine WL.off rfl rfl rfl ?_ | refine WL.off0 rfl rfl ?_ | refine WC.exit ?_ | refine blk_hit ?_ | refine blk_miss rfl ?_ | refine WC.ret ?_)
    refine WC.mid Unit (fun _ => [(0, .slice a l.length c), (2, .bool neg), (6, st []), (7, ptr b1), (8, st (wordR neg s))]) (fun _ w' => Hp w w' [.blk b1 (.cells #[st s, .int .i64 ((x : Nat)), .int .i64 (-1)] 98 (0, 0))]) ?_ ?_
    · cases neg
      · repeat (first | refine WC.seq ?_ | refine WC.reg ?_ | refine WL.pure rfl rfl rfl ?_ | refine WL.nil ?_ | refine WC.skip ?_ | refine WC.block ?_ | refine WC.condT rfl ?_ | refine WC.condF rfl ?_ | refine WL.off rfl rfl rfl ?_ | refine WL.off0 rfl rfl ?_ | refine WC.exit ?_ | refine blk_hit ?_ | refine blk_miss rfl ?_ | refine WC.ret ?_)
        exact ⟨(), ⟨rfl, rfl, rfl, rfl, rfl, rfl⟩, hp2⟩
      · repeat (first | refine WC.seq ?_ | refine WC.reg ?_ | refine WL.pure rfl rfl rfl ?_ | refine WL.nil ?_ | refine WC.skip ?_ | refine WC.block ?_ | refine WC.condT rfl ?_ | refine WC.condF rfl ?_ | refine WL.off rfl rfl rfl ?_ | refine WL.off0 rfl rfl ?_ | refine WC.exit ?_ | refine blk_hit ?_ | refine blk_miss rfl ?_ | refine WC.ret ?_)
        refine WL.call rfl rfl rfl rfl rfl ent54 (Dual_any s _) ?_
        rintro _ w3 ⟨rfl, hp3⟩
        repeat (first | refine WC.seq ?_ | refine WC.reg ?_ | refine WL.pure rfl rfl rfl ?_ | refine WL.nil ?_ | refine WC.skip ?_ | refine WC.block ?_ | refine WC.condT rfl ?_ | refine WC.condF rfl ?_ | refine WL.off rfl rfl rfl ?_ | refine WL.off0 rfl rfl ?_ | refine WC.exit ?_ | refine blk_hit ?_ | refine blk_miss rfl ?_ | refine WC.ret ?_)
        exact ⟨(), ⟨rfl, rfl, rfl, rfl, rfl, rfl⟩, hp2.call hp3.below⟩
    rintro _ e3 w3 hsub hp3
    refine WC.sub hsub ?_
    clear hsub e3 hp2
    repeat (first | refine WC.seq ?_ | refine WC.reg ?_ | refine WL.pure rfl rfl rfl ?_ | refine WL.nil ?_ | refine WC.skip ?_ | refine WC.block ?_ | refine WC.condT rfl ?_ | refine WC.condF rfl ?_ | refine WL.off rfl rfl rfl ?_ | refine WL.off0 rfl rfl ?_ | refine WC.exit ?_ | refine blk_hit ?_ | refine blk_miss rfl ?_ | refine WC.ret ?_)
    refine WL.loadB rfl rfl rfl rfl rfl (hp3.obj 0 rfl) (j := 0) rfl ?_
    refine WL.call rfl rfl rfl rfl rfl ent55 (Arity_any s _) ?_
    rintro _ w4 ⟨rfl, hw4⟩
    obtain rfl := hw4.symm
    repeat (first | refine WC.seq ?_ | refine WC.reg ?_ | refine WL.pure rfl rfl rfl ?_ | refine WL.nil ?_ | refine WC.skip ?_ | refine WC.block ?_ | refine WC.condT rfl ?_ | refine WC.condF rfl ?_ | refine WL.off rfl rfl rfl ?_ | refine WL.off0 rfl rfl ?_ | refine WC.exit ?_ | refine blk_hit ?_ | refine blk_miss rfl ?_ | refine WC.ret ?_)
    refine WC.condF (congrArg (fun b => some (Value.bool b)) (beq_false_of_ne (fun h => ones_at s (by simp [hwf]) ((arM_0 s).1 h)))) ?_
    repeat (first | refine WC.seq ?_ | refine WC.reg ?_ | refine WL.pure rfl rfl rfl ?_ | refine WL.nil ?_ | refine WC.skip ?_ | refine WC.block ?_ | refine WC.condT rfl ?_ | refine WC.condF rfl ?_ | refine WL.off rfl rfl rfl ?_ | refine WL.off0 rfl rfl ?_ | refine WC.exit ?_ | refine blk_hit ?_ | refine blk_miss rfl ?_ | refine WC.ret ?_)
    refine WL.sCat (a := [40]) (b := wordR neg s) rfl rfl rfl rfl (by show 1 + (wordR neg s).length ≤ _; omega) ?_
    refine WL.sCat (a := [40] ++ wordR neg s) (b := [32]) rfl rfl rfl rfl (by rw [List.length_append]; show 1 + (wordR neg s).length + 1 ≤ _; omega) ?_
    repeat (first | refine WC.seq ?_ | refine WC.reg ?_ | refine WL.pure rfl rfl rfl ?_ | refine WL.nil ?_ | refine WC.skip ?_ | refine WC.block ?_ | refine WC.condT rfl ?_ | refine WC.condF rfl ?_ | refine WL.off rfl rfl rfl ?_ | refine WL.off0 rfl rfl ?_ | refine WC.exit ?_ | refine blk_hit ?_ | refine blk_miss rfl ?_ | refine WC.ret ?_)
    refine WL.loadB rfl rfl rfl rfl rfl (hp3.obj 0 rfl) (j := 1) rfl ?_
    repeat (first | refine WC.seq ?_ | refine WC.reg ?_ | refine WL.pure rfl rfl rfl ?_ | refine WL.nil ?_ | refine WC.skip ?_ | refine WC.block ?_ | refine WC.condT rfl ?_ | refine WC.condF rfl ?_ | refine WL.off rfl rfl rfl ?_ | refine WL.off0 rfl rfl ?_ | refine WC.exit ?_ | refine blk_hit ?_ | refine blk_miss rfl ?_ | refine WC.ret ?_)
    refine WL.call rfl rfl rfl rfl rfl ent23 (ih hwf1 hsh1 (by omega) x neg _ hx (hs.hp hp3)) ?_
    rintro _ w4 ⟨rfl, hp4⟩
    have hp4 := hp3.call hp4.below
    refine WL.sCat (a := ([40] ++ wordR neg s) ++ [32]) (b := textF (pushM f neg)) rfl rfl rfl rfl (by simp only [List.length_append, List.length_cons, List.length_nil]; omega) ?_
    repeat (first | refine WC.seq ?_ | refine WC.reg ?_ | refine WL.pure rfl rfl rfl ?_ | refine WL.nil ?_ | refine WC.skip ?_ | refine WC.block ?_ | refine WC.condT rfl ?_ | refine WC.condF rfl ?_ | refine WL.off rfl rfl rfl ?_ | refine WL.off0 rfl rfl ?_ | refine WC.exit ?_ | refine blk_hit ?_ | refine blk_miss rfl ?_ | refine WC.ret ?_)
    refine WL.loadB rfl rfl rfl rfl rfl (hp4.obj 0 rfl) (j := 2) rfl ?_
    repeat (first | refine WC.seq ?_ | refine WC.reg ?_ | refine WL.pure rfl rfl rfl ?_ | refine WL.nil ?_ | refine WC.skip ?_ | refine WC.block ?_ | refine WC.condT rfl ?_ | refine WC.condF rfl ?_ | refine WL.off rfl rfl rfl ?_ | refine WL.off0 rfl rfl ?_ | refine WC.exit ?_ | refine blk_hit ?_ | refine blk_miss rfl ?_ | refine WC.ret ?_)
    refine WL.sCat (a := (([40] ++ wordR neg s) ++ [32]) ++ textF (pushM f neg)) (b := [41]) rfl rfl rfl rfl (by simp only [List.length_append, List.length_cons, List.length_nil]; omega) ?_
    repeat (first | refine WC.seq ?_ | refine WC.reg ?_ | refine WL.pure rfl rfl rfl ?_ | refine WL.nil ?_ | refine WC.skip ?_ | refine WC.block ?_ | refine WC.condT rfl ?_ | refine WC.condF rfl ?_ | refine WL.off rfl rfl rfl ?_ | refine WL.off0 rfl rfl ?_ | refine WC.exit ?_ | refine blk_hit ?_ | refine blk_miss rfl ?_ | refine WC.ret ?_)
    refine Res.one rfl rfl rfl ⟨?_, hp4.nil'⟩
    rw [show pushM (.on_ s f) neg = .on_ (nameM neg s) (pushM f neg) from by show (if s = wNot then pushM f (!neg) else .on_ (nameM neg s) (pushM f neg)) = _; rw [if_neg hnot], name_word neg s (by simp [hwf]) hnot]
    rfl
  | tw_ s f g ihf ihg =>
    rintro ⟨hwf, hwf1, hwf2⟩ hsh hsz k neg w ⟨x, y, hk, hx, hy⟩ hs
    have hsh1 : shF f := hsh.2.1
    have hsh2 : shF g := hsh.2.2
    have hsz1 : sizeF f + sizeF g < 1000 := by have h : 1 + sizeF f + sizeF g ≤ 1000 := hsz; omega
    have hb := textF_len _ (pushM_sh f neg hsh1).1
    have hb2 := (pushM_sh f neg hsh1).2
    have hc := textF_len _ (pushM_sh g neg hsh2).1
    have hc2 := (pushM_sh g neg hsh2).2
    obtain ⟨hlen, hlenR⟩ := wordR_len neg s (by simp [hwf])
    have hnot := twos_not s hwf
    refine enter Tryd.func23 rfl rfl ⟨rfl, rfl⟩ rfl ?_
    have hkl := (List.getElem?_eq_some_iff.1 hk).1
    repeat (first | refine WC.seq ?_ | refine WC.reg ?_ | refine WL.pure rfl rfl rfl ?_ | refine WL.nil ?_ | refine WC.skip ?_ | refine WC.block ?_ | refine WC.condT rfl ?_ | refine WC.condF rfl ?_ | refine WL.off rfl rfl rfl ?_ | refine WL.off0 rfl rfl ?_ | refine WC.exit ?_ | refine blk_hit ?_ | refine blk_miss rfl ?_ | refine WC.ret ?_)
    refine WL.ixloadN (cs' := [st s, .int .i64 ((x : Nat)), .int .i64 ((y : Nat))]) rfl (fun _ => rfl) rfl rfl rfl rfl rfl rfl rfl rfl hkl rfl rfl hs rfl (ndC_at hk) ?_
    intro p0
    refine WL.alloc rfl rfl rfl (fun b1 w1 h1 => ?_)
    have hp1 := (Hp.start w).new h1
    refine WL.storeN rfl rfl rfl rfl rfl (by simp [Value.oneCell', st]) (hp1.obj 0 rfl) (Nat.le_refl _) rfl (fun w2 h2 => ?_)
    have hp2 : Hp w w2 [.blk b1 (.cells #[st s, .int .i64 ((x : Nat)), .int .i64 ((y : Nat))] 98 (0, 0))] := hp1.set 0 rfl rfl h2
    clear hp1
    repeat (first | refine WC.seq ?_ | refine WC.reg ?_ | refine WL.pure rfl rfl rfl ?_ | refine WL.nil ?_ | refine WC.skip ?_ | refine WC.block ?_ | refine WC.condT rfl ?_ | refine WC.condF rfl ?_ | refine WL.off rfl rfl rfl ?_ | refine WL.off0 rfl rfl ?_ | refine WC.exit ?_ | refine blk_hit ?_ | refine blk_miss rfl ?_ | refine WC.ret ?_)
    refine WL.loadB rfl rfl rfl rfl rfl (hp2.obj 0 rfl) (j := 0) rfl ?_
    refine WL.sCmp (a := s) (b := wNot) (r := decide (s = wNot)) rfl rfl rfl rfl rfl ?_
    refine WL.nil ?_
    refine WC.condF (congrArg (fun b => some (Value.bool b)) (decide_eq_false hnot)) ?_
    repeat (first | refine WC.seq ?_ | refine WC.reg ?_ | refine WL.pure rfl rfl rfl ?_ | refine WL.nil ?_ | refine WC.skip ?_ | refine WC.block ?_ | refine WC.condT rfl ?_ | refine WC.condF rfl ?_ | refine WL.off rfl rfl rfl ?_ | refine WL.off0 rfl rfl ?_ | refine WC.exit ?_ | refine blk_hit ?_ | refine blk_miss rfl ?_ | refine WC.ret ?_)
    refine WL.loadB rfl rfl rfl rfl rfl (hp2.obj 0 rfl) (j := 0) rfl ?_
    repeat (first | refine WC.seq ?_ | refine WC.reg ?_ | refine WL.pure rfl rfl rfl ?_ | refine WL.nil ?_ | refine WC.skip ?_ | refine WC.block ?_ | refine WC.condT rfl ?_ | refine WC.condF rfl ?_ | refine WL.off rfl rfl rfl ?_ | refine WL.off0 rfl rfl ?_ | refine WC.exit ?_ | refine blk_hit ?_ | refine blk_miss rfl ?_ | refine WC.ret ?_)
    refine WC.mid Unit (fun _ => [(0, .slice a l.length c), (2, .bool neg), (6, st []), (7, ptr b1), (8, st (wordR neg s))]) (fun _ w' => Hp w w' [.blk b1 (.cells #[st s, .int .i64 ((x : Nat)), .int .i64 ((y : Nat))] 98 (0, 0))]) ?_ ?_
    · cases neg
      · repeat (first | refine WC.seq ?_ | refine WC.reg ?_ | refine WL.pure rfl rfl rfl ?_ | refine WL.nil ?_ | refine WC.skip ?_ | refine WC.block ?_ | refine WC.condT rfl ?_ | refine WC.condF rfl ?_ | refine WL.off rfl rfl rfl ?_ | refine WL.off0 rfl rfl ?_ | refine WC.exit ?_ | refine blk_hit ?_ | refine blk_miss rfl ?_ | refine WC.ret ?_)
        exact ⟨(), ⟨rfl, rfl, rfl, rfl, rfl, rfl⟩, hp2⟩
      · repeat (first | refine WC.seq ?_ | refine WC.reg ?_ | refine WL.pure rfl rfl rfl ?_ | refine WL.nil ?_ | refine WC.skip ?_ | refine WC.block ?_ | refine WC.condT rfl ?_ | refine WC.condF rfl ?_ | refine WL.off rfl rfl rfl ?_ | refine WL.off0 rfl rfl ?_ | refine WC.exit ?_ | refine blk_hit ?_ | refine blk_miss rfl ?_ | refine WC.ret ?_)
        refine WL.call rfl rfl rfl rfl rfl ent54 (Dual_any s _) ?_
        rintro _ w3 ⟨rfl, hp3⟩
        repeat (first | refine WC.seq ?_ | refine WC.reg ?_ | refine WL.pure rfl rfl rfl ?_ | refine WL.nil ?_ | refine WC.skip ?_ | refine WC.block ?_ | refine WC.condT rfl ?_ | refine WC.condF rfl ?_ | refine WL.off rfl rfl rfl ?_ | refine WL.off0 rfl rfl ?_ | refine WC.exit ?_ | refine blk_hit ?_ | refine blk_miss rfl ?_ | refine WC.ret ?_)
        exact ⟨(), ⟨rfl, rfl, rfl, rfl, rfl, rfl⟩, hp2.call hp3.below⟩
    rintro _ e3 w3 hsub hp3
    refine WC.sub hsub ?_
    clear hsub e3 hp2
    repeat (first | refine WC.seq ?_ | refine WC.reg ?_ | refine WL.pure rfl rfl rfl ?_ | refine WL.nil ?_ | refine WC.skip ?_ | refine WC.block ?_ | refine WC.condT rfl ?_ | refine WC.condF rfl ?_ | refine WL.off rfl rfl rfl ?_ | refine WL.off0 rfl rfl ?_ | refine WC.exit ?_ | refine blk_hit ?_ | refine blk_miss rfl ?_ | refine WC.ret ?_)
    refine WL.loadB rfl rfl rfl rfl rfl (hp3.obj 0 rfl) (j := 0) rfl ?_
    refine WL.call rfl rfl rfl rfl rfl ent55 (Arity_any s _) ?_
    rintro _ w4 ⟨rfl, hw4⟩
    obtain rfl := hw4.symm
    repeat (first | refine WC.seq ?_ | refine WC.reg ?_ | refine WL.pure rfl rfl rfl ?_ | refine WL.nil ?_ | refine WC.skip ?_ | refine WC.block ?_ | refine WC.condT rfl ?_ | refine WC.condF rfl ?_ | refine WL.off rfl rfl rfl ?_ | refine WL.off0 rfl rfl ?_ | refine WC.exit ?_ | refine blk_hit ?_ | refine blk_miss rfl ?_ | refine WC.ret ?_)
    refine WC.condF (congrArg (fun b => some (Value.bool b)) (beq_false_of_ne (fun h => ones_at s (by simp [hwf]) ((arM_0 s).1 h)))) ?_
    repeat (first | refine WC.seq ?_ | refine WC.reg ?_ | refine WL.pure rfl rfl rfl ?_ | refine WL.nil ?_ | refine WC.skip ?_ | refine WC.block ?_ | refine WC.condT rfl ?_ | refine WC.condF rfl ?_ | refine WL.off rfl rfl rfl ?_ | refine WL.off0 rfl rfl ?_ | refine WC.exit ?_ | refine blk_hit ?_ | refine blk_miss rfl ?_ | refine WC.ret ?_)
    refine WL.sCat (a := [40]) (b := wordR neg s) rfl rfl rfl rfl (by show 1 + (wordR neg s).length ≤ _; omega) ?_
    refine WL.sCat (a := [40] ++ wordR neg s) (b := [32]) rfl rfl rfl rfl (by rw [List.length_append]; show 1 + (wordR neg s).length + 1 ≤ _; omega) ?_
    repeat (first | refine WC.seq ?_ | refine WC.reg ?_ | refine WL.pure rfl rfl rfl ?_ | refine WL.nil ?_ | refine WC.skip ?_ | refine WC.block ?_ | refine WC.condT rfl ?_ | refine WC.condF rfl ?_ | refine WL.off rfl rfl rfl ?_ | refine WL.off0 rfl rfl ?_ | refine WC.exit ?_ | refine blk_hit ?_ | refine blk_miss rfl ?_ | refine WC.ret ?_)
    refine WL.loadB rfl rfl rfl rfl rfl (hp3.obj 0 rfl) (j := 1) rfl ?_
    repeat (first | refine WC.seq ?_ | refine WC.reg ?_ | refine WL.pure rfl rfl rfl ?_ | refine WL.nil ?_ | refine WC.skip ?_ | refine WC.block ?_ | refine WC.condT rfl ?_ | refine WC.condF rfl ?_ | refine WL.off rfl rfl rfl ?_ | refine WL.off0 rfl rfl ?_ | refine WC.exit ?_ | refine blk_hit ?_ | refine blk_miss rfl ?_ | refine WC.ret ?_)
    refine WL.call rfl rfl rfl rfl rfl ent23 (ihf hwf1 hsh1 (by omega) x neg _ hx (hs.hp hp3)) ?_
    rintro _ w4 ⟨rfl, hp4⟩
    have hp4 := hp3.call hp4.below
    refine WL.sCat (a := ([40] ++ wordR neg s) ++ [32]) (b := textF (pushM f neg)) rfl rfl rfl rfl (by simp only [List.length_append, List.length_cons, List.length_nil]; omega) ?_
    repeat (first | refine WC.seq ?_ | refine WC.reg ?_ | refine WL.pure rfl rfl rfl ?_ | refine WL.nil ?_ | refine WC.skip ?_ | refine WC.block ?_ | refine WC.condT rfl ?_ | refine WC.condF rfl ?_ | refine WL.off rfl rfl rfl ?_ | refine WL.off0 rfl rfl ?_ | refine WC.exit ?_ | refine blk_hit ?_ | refine blk_miss rfl ?_ | refine WC.ret ?_)
    refine WL.loadB rfl rfl rfl rfl rfl (hp4.obj 0 rfl) (j := 2) rfl ?_
    repeat (first | refine WC.seq ?_ | refine WC.reg ?_ | refine WL.pure rfl rfl rfl ?_ | refine WL.nil ?_ | refine WC.skip ?_ | refine WC.block ?_ | refine WC.condT rfl ?_ | refine WC.condF rfl ?_ | refine WL.off rfl rfl rfl ?_ | refine WL.off0 rfl rfl ?_ | refine WC.exit ?_ | refine blk_hit ?_ | refine blk_miss rfl ?_ | refine WC.ret ?_)
    refine WL.sCat (a := (([40] ++ wordR neg s) ++ [32]) ++ textF (pushM f neg)) (b := [32]) rfl rfl rfl rfl (by simp only [List.length_append, List.length_cons, List.length_nil]; omega) ?_
    repeat (first | refine WC.seq ?_ | refine WC.reg ?_ | refine WL.pure rfl rfl rfl ?_ | refine WL.nil ?_ | refine WC.skip ?_ | refine WC.block ?_ | refine WC.condT rfl ?_ | refine WC.condF rfl ?_ | refine WL.off rfl rfl rfl ?_ | refine WL.off0 rfl rfl ?_ | refine WC.exit ?_ | refine blk_hit ?_ | refine blk_miss rfl ?_ | refine WC.ret ?_)
    refine WL.loadB rfl rfl rfl rfl rfl (hp4.obj 0 rfl) (j := 2) rfl ?_
    repeat (first | refine WC.seq ?_ | refine WC.reg ?_ | refine WL.pure rfl rfl rfl ?_ | refine WL.nil ?_ | refine WC.skip ?_ | refine WC.block ?_ | refine WC.condT rfl ?_ | refine WC.condF rfl ?_ | refine WL.off rfl rfl rfl ?_ | refine WL.off0 rfl rfl ?_ | refine WC.exit ?_ | refine blk_hit ?_ | refine blk_miss rfl ?_ | refine WC.ret ?_)
    refine WL.call rfl rfl rfl rfl rfl ent23 (ihg hwf2 hsh2 (by omega) y neg _ hy (hs.hp hp4)) ?_
    rintro _ w5 ⟨rfl, hp5⟩
    have hp5 := hp4.call hp5.below
    refine WL.sCat (a := ((([40] ++ wordR neg s) ++ [32]) ++ textF (pushM f neg)) ++ [32]) (b := textF (pushM g neg)) rfl rfl rfl rfl (by simp only [List.length_append, List.length_cons, List.length_nil]; omega) ?_
    repeat (first | refine WC.seq ?_ | refine WC.reg ?_ | refine WL.pure rfl rfl rfl ?_ | refine WL.nil ?_ | refine WC.skip ?_ | refine WC.block ?_ | refine WC.condT rfl ?_ | refine WC.condF rfl ?_ | refine WL.off rfl rfl rfl ?_ | refine WL.off0 rfl rfl ?_ | refine WC.exit ?_ | refine blk_hit ?_ | refine blk_miss rfl ?_ | refine WC.ret ?_)
    refine WL.sCat (a := (((([40] ++ wordR neg s) ++ [32]) ++ textF (pushM f neg)) ++ [32]) ++ textF (pushM g neg)) (b := [41]) rfl rfl rfl rfl (by simp only [List.length_append, List.length_cons, List.length_nil]; omega) ?_
    repeat (first | refine WC.seq ?_ | refine WC.reg ?_ | refine WL.pure rfl rfl rfl ?_ | refine WL.nil ?_ | refine WC.skip ?_ | refine WC.block ?_ | refine WC.condT rfl ?_ | refine WC.condF rfl ?_ | refine WL.off rfl rfl rfl ?_ | refine WL.off0 rfl rfl ?_ | refine WC.exit ?_ | refine blk_hit ?_ | refine blk_miss rfl ?_ | refine WC.ret ?_)
    refine Res.one rfl rfl rfl ⟨?_, hp5.nil'⟩
    rw [show pushM (.tw_ s f g) neg = .tw_ (nameM neg s) (pushM f neg) (pushM g neg) from rfl, name_word neg s (by simp [hwf]) hnot]
    rfl
end Go.Proofs.YtpbbneclkhfgoaaDoor
