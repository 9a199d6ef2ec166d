/- ltl, seventeenth: find. -/
import Derived.Test.YtpbbneclkhfgoaaDoorU16
namespace Go.Ltl
open Go.W
/-- The operations that look at the next position. -/
def findM : Fm → List Fm
  | .at_ _ => []
  | .on_ w f => findM f ++ if w = wNot then [] else [.on_ w f]
  | .tw_ w f g => findM f ++ findM g ++ if w = wUntil ∨ w = wRelease then [.tw_ w f g] else []
theorem findM_len : ∀ f, wfF f → (findM f).length = looksN f := by
  intro f
  induction f with
  | at_ w => intro _; rfl
  | on_ w f ih =>
    intro h
    unfold findM looksN
    rw [List.length_append, ih h.2]
    split <;> rfl
  | tw_ w f g ihf ihg =>
    intro h
    unfold findM looksN
    rw [List.length_append, List.length_append, ihf h.2.1, ihg h.2.2]
    have hs2 : w = wAnd ∨ w = wOr ∨ w = wUntil ∨ w = wRelease := by simpa [twosL] using h.1
    rcases hs2 with rfl | rfl | rfl | rfl <;> rfl
theorem looksN_le : ∀ f, looksN f ≤ sizeF f := by
  intro f
  induction f with
  | at_ w => exact Nat.zero_le _
  | on_ w f ih => unfold looksN sizeF; split <;> omega
  | tw_ w f g ihf ihg => unfold looksN sizeF; split <;> omega
end Go.Ltl
namespace Go.W
theorem Hp.rot {w0 w : World} (A B C : List Ent) (h : Hp w0 w (A ++ (B ++ C))) : Hp w0 w (B ++ (A ++ C)) := by
  have p := List.perm_append_comm_assoc A B C
  exact ⟨h.below, fun x hx => h.sat x (p.mem_iff.2 hx), (p.pairwise_iff (fun {a b} h => Apart.symm h)).1 h.dist⟩
end Go.W
namespace Go.Proofs.YtpbbneclkhfgoaaDoor
open Go.W Go.Ltl Go.RowKit
set_option maxRecDepth 100000
attribute [local irreducible] WC WL WQ WS WH

/-- The search in memory. -/
abbrev Sx (xb : Nat) (nx mk : Value) (starts : Nat) (lv : Value) (pairs : Nat) (wv tv fv : Value) : Ent := .blk xb (.cells #[nx, mk, .int .i64 (starts : Nat), lv, .int .i64 (pairs : Nat), wv, tv, fv] 140 (0, 0))
/-- A row of formulas. -/
abbrev Rf (v : Value) (l : List Fm) : Ent := .row 87 1 v l.length (l.map fmV)
theorem fm_cells (l : List Fm) : Cells (l.map fmV) := by
  intro v hv
  obtain ⟨x, _, rfl⟩ := List.mem_map.1 hv
  exact fm_one x
theorem find_any {w0 : World} (xb : Nat) (nx mk : Value) (starts pairs : Nat) (wv tv fv : Value) (L : List Ent) : ∀ (f : Fm), wfF f → ∀ (acc : List Fm) (la : Option Addr) (lc : Nat) (w : World), acc.length + looksN f ≤ 1000 → Hp w0 w (Sx xb nx mk starts (.slice la acc.length lc) pairs wv tv fv :: Rf (.slice la acc.length lc) acc :: L) →
    Ret Tryd.prog 85 [ptr xb, fmV f] w fun _ w' => ∃ la' lc', Hp w0 w' (Sx xb nx mk starts (.slice la' (acc ++ findM f).length lc') pairs wv tv fv :: Rf (.slice la' (acc ++ findM f).length lc') (acc ++ findM f) :: L) := by
  intro f
  induction f generalizing L with
  | at_ s =>
    intro hwf acc la lc w hl hp
    refine enter Tryd.func85 rfl rfl ⟨rfl, rfl⟩ rfl ?_
    repeat (first | refine WC.seq ?_ | refine WC.reg ?_ | refine WL.pure rfl rfl rfl ?_ | refine WL.nil ?_ | refine WC.skip ?_ | refine WC.block ?_ | refine WC.condT rfl ?_ | refine WC.condF rfl ?_ | refine WL.off rfl rfl rfl ?_ | refine WL.off0 rfl rfl ?_ | refine WC.exit ?_ | refine blk_hit ?_ | refine blk_miss rfl ?_ | refine WC.ret ?_)
    refine WL.val rfl rfl rfl (yAsT rfl rfl rfl) ?_
    repeat (first | refine WC.seq ?_ | refine WC.reg ?_ | refine WL.pure rfl rfl rfl ?_ | refine WL.nil ?_ | refine WC.skip ?_ | refine WC.block ?_ | refine WC.condT rfl ?_ | refine WC.condF rfl ?_ | refine WL.off rfl rfl rfl ?_ | refine WL.off0 rfl rfl ?_ | refine WC.exit ?_ | refine blk_hit ?_ | refine blk_miss rfl ?_ | refine WC.ret ?_)
    refine WL.val rfl rfl rfl (yAsT rfl rfl rfl) ?_
    repeat (first | refine WC.seq ?_ | refine WC.reg ?_ | refine WL.pure rfl rfl rfl ?_ | refine WL.nil ?_ | refine WC.skip ?_ | refine WC.block ?_ | refine WC.condT rfl ?_ | refine WC.condF rfl ?_ | refine WL.off rfl rfl rfl ?_ | refine WL.off0 rfl rfl ?_ | refine WC.exit ?_ | refine blk_hit ?_ | refine blk_miss rfl ?_ | refine WC.ret ?_)
    refine Res.zero rfl rfl ⟨la, lc, ?_⟩
    rw [show acc ++ findM (.at_ s) = acc from List.append_nil _]
    exact hp
  | on_ s f ih =>
    intro hwf acc la lc w hl hp
    have hlf : acc.length + looksN f ≤ 1000 := by unfold looksN at hl; split at hl <;> omega
    have hfl := findM_len f hwf.2
    refine enter Tryd.func85 rfl rfl ⟨rfl, rfl⟩ rfl ?_
    repeat (first | refine WC.seq ?_ | refine WC.reg ?_ | refine WL.pure rfl rfl rfl ?_ | refine WL.nil ?_ | refine WC.skip ?_ | refine WC.block ?_ | refine WC.condT rfl ?_ | refine WC.condF rfl ?_ | refine WL.off rfl rfl rfl ?_ | refine WL.off0 rfl rfl ?_ | refine WC.exit ?_ | refine blk_hit ?_ | refine blk_miss rfl ?_ | refine WC.ret ?_)
    refine WL.val rfl rfl rfl (yAsT rfl rfl rfl) ?_
    repeat (first | refine WC.seq ?_ | refine WC.reg ?_ | refine WL.pure rfl rfl rfl ?_ | refine WL.nil ?_ | refine WC.skip ?_ | refine WC.block ?_ | refine WC.condT rfl ?_ | refine WC.condF rfl ?_ | refine WL.off rfl rfl rfl ?_ | refine WL.off0 rfl rfl ?_ | refine WC.exit ?_ | refine blk_hit ?_ | refine blk_miss rfl ?_ | refine WC.ret ?_)
    refine WL.alloc rfl rfl rfl (fun b2 w2 h2 => ?_)
    have hp2 := hp.new h2
    refine WL.storeN rfl rfl rfl rfl rfl (by simp [Value.oneCell', st]; exact fm_one f) (hp2.obj 0 rfl) (Nat.le_refl _) rfl (fun w3 h3 => ?_)
    have hp3 : Hp w0 w3 (Q1b b2 s f :: Sx xb nx mk starts (.slice la acc.length lc) pairs wv tv fv :: Rf (.slice la acc.length lc) acc :: L) := hp2.set 0 rfl rfl h3
    have hp3' : Hp w0 w3 (Sx xb nx mk starts (.slice la acc.length lc) pairs wv tv fv :: Rf (.slice la acc.length lc) acc :: Q1b b2 s f :: L) := Hp.rot [_] [_, _] L hp3
    repeat (first | refine WC.seq ?_ | refine WC.reg ?_ | refine WL.pure rfl rfl rfl ?_ | refine WL.nil ?_ | refine WC.skip ?_ | refine WC.block ?_ | refine WC.condT rfl ?_ | refine WC.condF rfl ?_ | refine WL.off rfl rfl rfl ?_ | refine WL.off0 rfl rfl ?_ | refine WC.exit ?_ | refine blk_hit ?_ | refine blk_miss rfl ?_ | refine WC.ret ?_)
    refine WL.loadB rfl rfl rfl rfl rfl (hp3'.obj 2 rfl) (j := 1) rfl ?_
    refine WL.call rfl rfl rfl rfl rfl ent85 (ih (Q1b b2 s f :: L) hwf.2 acc la lc w3 hlf hp3') ?_
    rintro v w4 ⟨la4, lc4, hp4⟩
    obtain ⟨acc2, ha2⟩ : ∃ acc2, acc2 = acc ++ findM f := ⟨_, rfl⟩
    have hl2 : acc2.length = acc.length + looksN f := by rw [ha2, List.length_append, hfl]
    rw [← ha2] at hp4
    repeat (first | refine WC.seq ?_ | refine WC.reg ?_ | refine WL.pure rfl rfl rfl ?_ | refine WL.nil ?_ | refine WC.skip ?_ | refine WC.block ?_ | refine WC.condT rfl ?_ | refine WC.condF rfl ?_ | refine WL.off rfl rfl rfl ?_ | refine WL.off0 rfl rfl ?_ | refine WC.exit ?_ | refine blk_hit ?_ | refine blk_miss rfl ?_ | refine WC.ret ?_)
    refine WL.loadB rfl rfl rfl rfl rfl (hp4.obj 2 rfl) (j := 0) rfl ?_
    refine WL.sCmp rfl rfl rfl rfl rfl ?_
    repeat (first | refine WC.seq ?_ | refine WC.reg ?_ | refine WL.pure rfl rfl rfl ?_ | refine WL.nil ?_ | refine WC.skip ?_ | refine WC.block ?_ | refine WC.condT rfl ?_ | refine WC.condF rfl ?_ | refine WL.off rfl rfl rfl ?_ | refine WL.off0 rfl rfl ?_ | refine WC.exit ?_ | refine blk_hit ?_ | refine blk_miss rfl ?_ | refine WC.ret ?_)
    refine WC.cond rfl (fun h1 => ?_) (fun h1 => ?_)
    · have h1 : s ≠ wNot := by simpa [wNot] using h1
      have e1 : acc ++ findM (.on_ s f) = acc2 ++ [Fm.on_ s f] := by rw [ha2]; show acc ++ (findM f ++ if s = wNot then [] else [Fm.on_ s f]) = _; rw [if_neg h1, List.append_assoc]
      rw [e1]
      repeat (first | refine WC.seq ?_ | refine WC.reg ?_ | refine WL.pure rfl rfl rfl ?_ | refine WL.nil ?_ | refine WC.skip ?_ | refine WC.block ?_ | refine WC.condT rfl ?_ | refine WC.condF rfl ?_ | refine WL.off rfl rfl rfl ?_ | refine WL.off0 rfl rfl ?_ | refine WC.exit ?_ | refine blk_hit ?_ | refine blk_miss rfl ?_ | refine WC.ret ?_)
      refine WL.nilC rfl rfl rfl ?_
      repeat (first | refine WC.seq ?_ | refine WC.reg ?_ | refine WL.pure rfl rfl rfl ?_ | refine WL.nil ?_ | refine WC.skip ?_ | refine WC.block ?_ | refine WC.condT rfl ?_ | refine WC.condF rfl ?_ | refine WL.off rfl rfl rfl ?_ | refine WL.off0 rfl rfl ?_ | refine WC.exit ?_ | refine blk_hit ?_ | refine blk_miss rfl ?_ | refine WC.ret ?_)
      refine WL.loadB rfl rfl rfl rfl rfl (hp4.obj 0 rfl) (j := 3) rfl ?_
      repeat (first | refine WC.seq ?_ | refine WC.reg ?_ | refine WL.pure rfl rfl rfl ?_ | refine WL.nil ?_ | refine WC.skip ?_ | refine WC.block ?_ | refine WC.condT rfl ?_ | refine WC.condF rfl ?_ | refine WL.off rfl rfl rfl ?_ | refine WL.off0 rfl rfl ?_ | refine WC.exit ?_ | refine blk_hit ?_ | refine blk_miss rfl ?_ | refine WC.ret ?_)
      refine WL.buildS (cs := [fmV (Fm.on_ s f)]) rfl rfl rfl rfl rfl rfl rfl rfl rfl (fun b6 w6 h6 => ?_)
      have hp6 := hp4.new h6
      refine WL.append 2 hp6 rfl rfl rfl rfl rfl (by decide) rfl rfl rfl (news := [fmV (Fm.on_ s f)]) (Sl.of_obj (hp6.obj 0 rfl) (fun q u hq => by simpa using hq)) rfl (fm_cells [Fm.on_ s f]) (by unfold maxLen; omega) (by show (acc2.length + 1) * 16 ≤ _; omega) ?_
      intro ra rc1 w7 hp7 hg7
      have e2 : (acc2 ++ [Fm.on_ s f]).length = acc2.length + 1 := by rw [List.length_append]; rfl
      refine WL.nilC rfl rfl rfl ?_
      repeat (first | refine WC.seq ?_ | refine WC.reg ?_ | refine WL.pure rfl rfl rfl ?_ | refine WL.nil ?_ | refine WC.skip ?_ | refine WC.block ?_ | refine WC.condT rfl ?_ | refine WC.condF rfl ?_ | refine WL.off rfl rfl rfl ?_ | refine WL.off0 rfl rfl ?_ | refine WC.exit ?_ | refine blk_hit ?_ | refine blk_miss rfl ?_ | refine WC.ret ?_)
      refine WL.store rfl rfl rfl rfl rfl rfl (hp7.obj 1 rfl) (by show 3 < 8; decide) (fun w8 h8 => ?_)
      have hp8 := hp7.set 1 rfl rfl h8
      have hp9 : Hp w0 w8 (Sx xb nx mk starts (.slice ra (acc2 ++ [Fm.on_ s f]).length rc1) pairs wv tv fv :: Rf (.slice ra (acc2 ++ [Fm.on_ s f]).length rc1) (acc2 ++ [Fm.on_ s f]) :: L) := by
        unfold Rf
        rw [e2, List.map_append]
        have := hp8.tail
        exact (Hp.rot [_, _] [_] L this).tail
      repeat (first | refine WC.seq ?_ | refine WC.reg ?_ | refine WL.pure rfl rfl rfl ?_ | refine WL.nil ?_ | refine WC.skip ?_ | refine WC.block ?_ | refine WC.condT rfl ?_ | refine WC.condF rfl ?_ | refine WL.off rfl rfl rfl ?_ | refine WL.off0 rfl rfl ?_ | refine WC.exit ?_ | refine blk_hit ?_ | refine blk_miss rfl ?_ | refine WC.ret ?_)
      exact Res.zero rfl rfl ⟨ra, rc1, hp9⟩
    · have h1 : s = wNot := by simpa [wNot] using h1
      have e1 : acc ++ findM (.on_ s f) = acc2 := by rw [ha2]; show acc ++ (findM f ++ if s = wNot then [] else [Fm.on_ s f]) = _; rw [if_pos h1, List.append_nil]
      rw [e1]
      repeat (first | refine WC.seq ?_ | refine WC.reg ?_ | refine WL.pure rfl rfl rfl ?_ | refine WL.nil ?_ | refine WC.skip ?_ | refine WC.block ?_ | refine WC.condT rfl ?_ | refine WC.condF rfl ?_ | refine WL.off rfl rfl rfl ?_ | refine WL.off0 rfl rfl ?_ | refine WC.exit ?_ | refine blk_hit ?_ | refine blk_miss rfl ?_ | refine WC.ret ?_)
      exact Res.zero rfl rfl ⟨la4, lc4, (Hp.rot [_, _] [_] L hp4).tail⟩
  | tw_ s f g ihf ihg =>
    intro hwf acc la lc w hl hp
    have hlf : acc.length + looksN f + looksN g ≤ 1000 := by unfold looksN at hl; split at hl <;> omega
    have hfl := findM_len f hwf.2.1
    have hgl := findM_len g hwf.2.2
    have hlt : (s = wUntil ∨ s = wRelease) → acc.length + looksN f + looksN g + 1 ≤ 1000 := by
      intro h
      have hn : ¬ (s = wAnd ∨ s = wOr) := by rcases h with rfl | rfl <;> decide
      unfold looksN at hl
      rw [if_neg hn] at hl
      omega
    refine enter Tryd.func85 rfl rfl ⟨rfl, rfl⟩ rfl ?_
    repeat (first | refine WC.seq ?_ | refine WC.reg ?_ | refine WL.pure rfl rfl rfl ?_ | refine WL.nil ?_ | refine WC.skip ?_ | refine WC.block ?_ | refine WC.condT rfl ?_ | refine WC.condF rfl ?_ | refine WL.off rfl rfl rfl ?_ | refine WL.off0 rfl rfl ?_ | refine WC.exit ?_ | refine blk_hit ?_ | refine blk_miss rfl ?_ | refine WC.ret ?_)
    refine WL.val rfl rfl rfl (yAsT rfl rfl rfl) ?_
    repeat (first | refine WC.seq ?_ | refine WC.reg ?_ | refine WL.pure rfl rfl rfl ?_ | refine WL.nil ?_ | refine WC.skip ?_ | refine WC.block ?_ | refine WC.condT rfl ?_ | refine WC.condF rfl ?_ | refine WL.off rfl rfl rfl ?_ | refine WL.off0 rfl rfl ?_ | refine WC.exit ?_ | refine blk_hit ?_ | refine blk_miss rfl ?_ | refine WC.ret ?_)
    refine WL.val rfl rfl rfl (yAsT rfl rfl rfl) ?_
    repeat (first | refine WC.seq ?_ | refine WC.reg ?_ | refine WL.pure rfl rfl rfl ?_ | refine WL.nil ?_ | refine WC.skip ?_ | refine WC.block ?_ | refine WC.condT rfl ?_ | refine WC.condF rfl ?_ | refine WL.off rfl rfl rfl ?_ | refine WL.off0 rfl rfl ?_ | refine WC.exit ?_ | refine blk_hit ?_ | refine blk_miss rfl ?_ | refine WC.ret ?_)
    refine WL.alloc rfl rfl rfl (fun b2 w2 h2 => ?_)
    have hp2 := hp.new h2
    refine WL.storeN rfl rfl rfl rfl rfl (by simp [Value.oneCell', st]; exact ⟨fm_one f, fm_one g⟩) (hp2.obj 0 rfl) (Nat.le_refl _) rfl (fun w3 h3 => ?_)
    have hp3 : Hp w0 w3 (Q2b b2 s f g :: Sx xb nx mk starts (.slice la acc.length lc) pairs wv tv fv :: Rf (.slice la acc.length lc) acc :: L) := hp2.set 0 rfl rfl h3
    have hp3' : Hp w0 w3 (Sx xb nx mk starts (.slice la acc.length lc) pairs wv tv fv :: Rf (.slice la acc.length lc) acc :: Q2b b2 s f g :: L) := Hp.rot [_] [_, _] L hp3
    repeat (first | refine WC.seq ?_ | refine WC.reg ?_ | refine WL.pure rfl rfl rfl ?_ | refine WL.nil ?_ | refine WC.skip ?_ | refine WC.block ?_ | refine WC.condT rfl ?_ | refine WC.condF rfl ?_ | refine WL.off rfl rfl rfl ?_ | refine WL.off0 rfl rfl ?_ | refine WC.exit ?_ | refine blk_hit ?_ | refine blk_miss rfl ?_ | refine WC.ret ?_)
    refine WL.loadB rfl rfl rfl rfl rfl (hp3'.obj 2 rfl) (j := 1) rfl ?_
    refine WL.call rfl rfl rfl rfl rfl ent85 (ihf (Q2b b2 s f g :: L) hwf.2.1 acc la lc w3 (by omega) hp3') ?_
    rintro v w4 ⟨la4, lc4, hp4⟩
    obtain ⟨acc1, ha1⟩ : ∃ acc1, acc1 = acc ++ findM f := ⟨_, rfl⟩
    have hl1 : acc1.length = acc.length + looksN f := by rw [ha1, List.length_append, hfl]
    rw [← ha1] at hp4
    repeat (first | refine WC.seq ?_ | refine WC.reg ?_ | refine WL.pure rfl rfl rfl ?_ | refine WL.nil ?_ | refine WC.skip ?_ | refine WC.block ?_ | refine WC.condT rfl ?_ | refine WC.condF rfl ?_ | refine WL.off rfl rfl rfl ?_ | refine WL.off0 rfl rfl ?_ | refine WC.exit ?_ | refine blk_hit ?_ | refine blk_miss rfl ?_ | refine WC.ret ?_)
    refine WL.loadB rfl rfl rfl rfl rfl (hp4.obj 2 rfl) (j := 2) rfl ?_
    refine WL.call rfl rfl rfl rfl rfl ent85 (ihg (Q2b b2 s f g :: L) hwf.2.2 acc1 la4 lc4 w4 (by omega) hp4) ?_
    rintro v w5 ⟨la5, lc5, hp5⟩
    obtain ⟨acc2, ha2⟩ : ∃ acc2, acc2 = acc1 ++ findM g := ⟨_, rfl⟩
    have hl2 : acc2.length = acc.length + looksN f + looksN g := by rw [ha2, List.length_append, hgl]; omega
    rw [← ha2] at hp5
    repeat (first | refine WC.seq ?_ | refine WC.reg ?_ | refine WL.pure rfl rfl rfl ?_ | refine WL.nil ?_ | refine WC.skip ?_ | refine WC.block ?_ | refine WC.condT rfl ?_ | refine WC.condF rfl ?_ | refine WL.off rfl rfl rfl ?_ | refine WL.off0 rfl rfl ?_ | refine WC.exit ?_ | refine blk_hit ?_ | refine blk_miss rfl ?_ | refine WC.ret ?_)
    refine WL.loadB rfl rfl rfl rfl rfl (hp5.obj 2 rfl) (j := 0) rfl ?_
    have hs2 : s = wAnd ∨ s = wOr ∨ s = wUntil ∨ s = wRelease := by simpa [twosL] using hwf.1
    rcases hs2 with rfl | rfl | rfl | rfl
    · refine WL.sCmp (a := wAnd) (b := wUntil) rfl rfl rfl rfl rfl ?_
      repeat (first | refine WC.seq ?_ | refine WC.reg ?_ | refine WL.pure rfl rfl rfl ?_ | refine WL.nil ?_ | refine WC.skip ?_ | refine WC.block ?_ | refine WC.condT rfl ?_ | refine WC.condF rfl ?_ | refine WL.off rfl rfl rfl ?_ | refine WL.off0 rfl rfl ?_ | refine WC.exit ?_ | refine blk_hit ?_ | refine blk_miss rfl ?_ | refine WC.ret ?_)
      refine WL.loadB rfl rfl rfl rfl rfl (hp5.obj 2 rfl) (j := 0) rfl ?_
      refine WL.sCmp (a := wAnd) (b := wRelease) rfl rfl rfl rfl rfl ?_
      repeat (first | refine WC.seq ?_ | refine WC.reg ?_ | refine WL.pure rfl rfl rfl ?_ | refine WL.nil ?_ | refine WC.skip ?_ | refine WC.block ?_ | refine WC.condT rfl ?_ | refine WC.condF rfl ?_ | refine WL.off rfl rfl rfl ?_ | refine WL.off0 rfl rfl ?_ | refine WC.exit ?_ | refine blk_hit ?_ | refine blk_miss rfl ?_ | refine WC.ret ?_)
      have e1 : acc ++ findM (.tw_ wAnd f g) = acc2 := by rw [ha2, ha1]; show acc ++ (findM f ++ findM g ++ []) = _; simp only [List.append_assoc, List.append_nil]
      rw [e1]
      exact Res.zero rfl rfl ⟨la5, lc5, (Hp.rot [_, _] [_] L hp5).tail⟩
    · refine WL.sCmp (a := wOr) (b := wUntil) rfl rfl rfl rfl rfl ?_
      repeat (first | refine WC.seq ?_ | refine WC.reg ?_ | refine WL.pure rfl rfl rfl ?_ | refine WL.nil ?_ | refine WC.skip ?_ | refine WC.block ?_ | refine WC.condT rfl ?_ | refine WC.condF rfl ?_ | refine WL.off rfl rfl rfl ?_ | refine WL.off0 rfl rfl ?_ | refine WC.exit ?_ | refine blk_hit ?_ | refine blk_miss rfl ?_ | refine WC.ret ?_)
      refine WL.loadB rfl rfl rfl rfl rfl (hp5.obj 2 rfl) (j := 0) rfl ?_
      refine WL.sCmp (a := wOr) (b := wRelease) rfl rfl rfl rfl rfl ?_
      repeat (first | refine WC.seq ?_ | refine WC.reg ?_ | refine WL.pure rfl rfl rfl ?_ | refine WL.nil ?_ | refine WC.skip ?_ | refine WC.block ?_ | refine WC.condT rfl ?_ | refine WC.condF rfl ?_ | refine WL.off rfl rfl rfl ?_ | refine WL.off0 rfl rfl ?_ | refine WC.exit ?_ | refine blk_hit ?_ | refine blk_miss rfl ?_ | refine WC.ret ?_)
      have e1 : acc ++ findM (.tw_ wOr f g) = acc2 := by rw [ha2, ha1]; show acc ++ (findM f ++ findM g ++ []) = _; simp only [List.append_assoc, List.append_nil]
      rw [e1]
      exact Res.zero rfl rfl ⟨la5, lc5, (Hp.rot [_, _] [_] L hp5).tail⟩
    · have hlr := hlt (by decide)
      have e1 : acc ++ findM (.tw_ wUntil f g) = acc2 ++ [Fm.tw_ wUntil f g] := by rw [ha2, ha1]; show acc ++ (findM f ++ findM g ++ [Fm.tw_ wUntil f g]) = _; simp only [List.append_assoc]
      rw [e1]
      refine WL.sCmp (a := wUntil) (b := wUntil) rfl rfl rfl rfl rfl ?_
      repeat (first | refine WC.seq ?_ | refine WC.reg ?_ | refine WL.pure rfl rfl rfl ?_ | refine WL.nil ?_ | refine WC.skip ?_ | refine WC.block ?_ | refine WC.condT rfl ?_ | refine WC.condF rfl ?_ | refine WL.off rfl rfl rfl ?_ | refine WL.off0 rfl rfl ?_ | refine WC.exit ?_ | refine blk_hit ?_ | refine blk_miss rfl ?_ | refine WC.ret ?_)
      refine WL.nilC rfl rfl rfl ?_
      repeat (first | refine WC.seq ?_ | refine WC.reg ?_ | refine WL.pure rfl rfl rfl ?_ | refine WL.nil ?_ | refine WC.skip ?_ | refine WC.block ?_ | refine WC.condT rfl ?_ | refine WC.condF rfl ?_ | refine WL.off rfl rfl rfl ?_ | refine WL.off0 rfl rfl ?_ | refine WC.exit ?_ | refine blk_hit ?_ | refine blk_miss rfl ?_ | refine WC.ret ?_)
      refine WL.loadB rfl rfl rfl rfl rfl (hp5.obj 0 rfl) (j := 3) rfl ?_
      repeat (first | refine WC.seq ?_ | refine WC.reg ?_ | refine WL.pure rfl rfl rfl ?_ | refine WL.nil ?_ | refine WC.skip ?_ | refine WC.block ?_ | refine WC.condT rfl ?_ | refine WC.condF rfl ?_ | refine WL.off rfl rfl rfl ?_ | refine WL.off0 rfl rfl ?_ | refine WC.exit ?_ | refine blk_hit ?_ | refine blk_miss rfl ?_ | refine WC.ret ?_)
      refine WL.buildS (cs := [fmV (Fm.tw_ wUntil f g)]) rfl rfl rfl rfl rfl rfl rfl rfl rfl (fun b6 w6 h6 => ?_)
      have hp6 := hp5.new h6
      refine WL.append 2 hp6 rfl rfl rfl rfl rfl (by decide) rfl rfl rfl (news := [fmV (Fm.tw_ wUntil f g)]) (Sl.of_obj (hp6.obj 0 rfl) (fun q u hq => by simpa using hq)) rfl (fm_cells [Fm.tw_ wUntil f g]) (by unfold maxLen; omega) (by show (acc2.length + 1) * 16 ≤ _; omega) ?_
      intro ra rc1 w7 hp7 hg7
      have e2 : (acc2 ++ [Fm.tw_ wUntil f g]).length = acc2.length + 1 := by rw [List.length_append]; rfl
      refine WL.nilC rfl rfl rfl ?_
      repeat (first | refine WC.seq ?_ | refine WC.reg ?_ | refine WL.pure rfl rfl rfl ?_ | refine WL.nil ?_ | refine WC.skip ?_ | refine WC.block ?_ | refine WC.condT rfl ?_ | refine WC.condF rfl ?_ | refine WL.off rfl rfl rfl ?_ | refine WL.off0 rfl rfl ?_ | refine WC.exit ?_ | refine blk_hit ?_ | refine blk_miss rfl ?_ | refine WC.ret ?_)
      refine WL.store rfl rfl rfl rfl rfl rfl (hp7.obj 1 rfl) (by show 3 < 8; decide) (fun w8 h8 => ?_)
      have hp8 := hp7.set 1 rfl rfl h8
      have hp9 : Hp w0 w8 (Sx xb nx mk starts (.slice ra (acc2 ++ [Fm.tw_ wUntil f g]).length rc1) pairs wv tv fv :: Rf (.slice ra (acc2 ++ [Fm.tw_ wUntil f g]).length rc1) (acc2 ++ [Fm.tw_ wUntil f g]) :: L) := by
        unfold Rf
        rw [e2, List.map_append]
        have := hp8.tail
        exact (Hp.rot [_, _] [_] L this).tail
      repeat (first | refine WC.seq ?_ | refine WC.reg ?_ | refine WL.pure rfl rfl rfl ?_ | refine WL.nil ?_ | refine WC.skip ?_ | refine WC.block ?_ | refine WC.condT rfl ?_ | refine WC.condF rfl ?_ | refine WL.off rfl rfl rfl ?_ | refine WL.off0 rfl rfl ?_ | refine WC.exit ?_ | refine blk_hit ?_ | refine blk_miss rfl ?_ | refine WC.ret ?_)
      exact Res.zero rfl rfl ⟨ra, rc1, hp9⟩
    · have hlr := hlt (by decide)
      have e1 : acc ++ findM (.tw_ wRelease f g) = acc2 ++ [Fm.tw_ wRelease f g] := by rw [ha2, ha1]; show acc ++ (findM f ++ findM g ++ [Fm.tw_ wRelease f g]) = _; simp only [List.append_assoc]
      rw [e1]
      refine WL.sCmp (a := wRelease) (b := wUntil) rfl rfl rfl rfl rfl ?_
      repeat (first | refine WC.seq ?_ | refine WC.reg ?_ | refine WL.pure rfl rfl rfl ?_ | refine WL.nil ?_ | refine WC.skip ?_ | refine WC.block ?_ | refine WC.condT rfl ?_ | refine WC.condF rfl ?_ | refine WL.off rfl rfl rfl ?_ | refine WL.off0 rfl rfl ?_ | refine WC.exit ?_ | refine blk_hit ?_ | refine blk_miss rfl ?_ | refine WC.ret ?_)
      refine WL.loadB rfl rfl rfl rfl rfl (hp5.obj 2 rfl) (j := 0) rfl ?_
      refine WL.sCmp (a := wRelease) (b := wRelease) rfl rfl rfl rfl rfl ?_
      repeat (first | refine WC.seq ?_ | refine WC.reg ?_ | refine WL.pure rfl rfl rfl ?_ | refine WL.nil ?_ | refine WC.skip ?_ | refine WC.block ?_ | refine WC.condT rfl ?_ | refine WC.condF rfl ?_ | refine WL.off rfl rfl rfl ?_ | refine WL.off0 rfl rfl ?_ | refine WC.exit ?_ | refine blk_hit ?_ | refine blk_miss rfl ?_ | refine WC.ret ?_)
      refine WL.nilC rfl rfl rfl ?_
      repeat (first | refine WC.seq ?_ | refine WC.reg ?_ | refine WL.pure rfl rfl rfl ?_ | refine WL.nil ?_ | refine WC.skip ?_ | refine WC.block ?_ | refine WC.condT rfl ?_ | refine WC.condF rfl ?_ | refine WL.off rfl rfl rfl ?_ | refine WL.off0 rfl rfl ?_ | refine WC.exit ?_ | refine blk_hit ?_ | refine blk_miss rfl ?_ | refine WC.ret ?_)
      refine WL.loadB rfl rfl rfl rfl rfl (hp5.obj 0 rfl) (j := 3) rfl ?_
      repeat (first | refine WC.seq ?_ | refine WC.reg ?_ | refine WL.pure rfl rfl rfl ?_ | refine WL.nil ?_ | refine WC.skip ?_ | refine WC.block ?_ | refine WC.condT rfl ?_ | refine WC.condF rfl ?_ | refine WL.off rfl rfl rfl ?_ | refine WL.off0 rfl rfl ?_ | refine WC.exit ?_ | refine blk_hit ?_ | refine blk_miss rfl ?_ | refine WC.ret ?_)
      refine WL.buildS (cs := [fmV (Fm.tw_ wRelease f g)]) rfl rfl rfl rfl rfl rfl rfl rfl rfl (fun b6 w6 h6 => ?_)
      have hp6 := hp5.new h6
      refine WL.append 2 hp6 rfl rfl rfl rfl rfl (by decide) rfl rfl rfl (news := [fmV (Fm.tw_ wRelease f g)]) (Sl.of_obj (hp6.obj 0 rfl) (fun q u hq => by simpa using hq)) rfl (fm_cells [Fm.tw_ wRelease f g]) (by unfold maxLen; omega) (by show (acc2.length + 1) * 16 ≤ _; omega) ?_
      intro ra rc1 w7 hp7 hg7
      have e2 : (acc2 ++ [Fm.tw_ wRelease f g]).length = acc2.length + 1 := by rw [List.length_append]; rfl
      refine WL.nilC rfl rfl rfl ?_
      repeat (first | refine WC.seq ?_ | refine WC.reg ?_ | refine WL.pure rfl rfl rfl ?_ | refine WL.nil ?_ | refine WC.skip ?_ | refine WC.block ?_ | refine WC.condT rfl ?_ | refine WC.condF rfl ?_ | refine WL.off rfl rfl rfl ?_ | refine WL.off0 rfl rfl ?_ | refine WC.exit ?_ | refine blk_hit ?_ | refine blk_miss rfl ?_ | refine WC.ret ?_)
      refine WL.store rfl rfl rfl rfl rfl rfl (hp7.obj 1 rfl) (by show 3 < 8; decide) (fun w8 h8 => ?_)
      have hp8 := hp7.set 1 rfl rfl h8
      have hp9 : Hp w0 w8 (Sx xb nx mk starts (.slice ra (acc2 ++ [Fm.tw_ wRelease f g]).length rc1) pairs wv tv fv :: Rf (.slice ra (acc2 ++ [Fm.tw_ wRelease f g]).length rc1) (acc2 ++ [Fm.tw_ wRelease f g]) :: L) := by
        unfold Rf
        rw [e2, List.map_append]
        have := hp8.tail
        exact (Hp.rot [_, _] [_] L this).tail
      repeat (first | refine WC.seq ?_ | refine WC.reg ?_ | refine WL.pure rfl rfl rfl ?_ | refine WL.nil ?_ | refine WC.skip ?_ | refine WC.block ?_ | refine WC.condT rfl ?_ | refine WC.condF rfl ?_ | refine WL.off rfl rfl rfl ?_ | refine WL.off0 rfl rfl ?_ | refine WC.exit ?_ | refine blk_hit ?_ | refine blk_miss rfl ?_ | refine WC.ret ?_)
      exact Res.zero rfl rfl ⟨ra, rc1, hp9⟩
end Go.Proofs.YtpbbneclkhfgoaaDoor
