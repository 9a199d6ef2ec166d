/- Texts on the way to LtlNegates, one behind the other: Zc U52 U53 ClL ClLw ClLwC. -/
import Derived.Test.YtpbbneclkhfgoaaDoorG7
import Derived.Test.YtpbbneclkhfgoaaDoorCards
import Derived.Test.YtpbbneclkhfgoaaDoorTie
import Derived.WalkKit
import Derived.ProofKit
import Derived.OpenShut
import Derived.Carry
import Derived.Deep.Slices
import Derived.Deep.DeepHandedRow
import Derived.Lib.LaidTab
import Derived.Lib.LaidU8
import Derived.Stop.LaidErr
import Derived.WideKeyElems2
import Derived.Deep.DeepWitnessRowRef
section
/- The words of a formula, and what is read out of them. -/
namespace Go.Ltl
open Go.W
/-- The words of a formula. -/
def tks : Fm → List Str
  | .at_ w => [w]
  | .on_ w f => [40] :: w :: (tks f ++ [[41]])
  | .tw_ w f g => [40] :: w :: (tks f ++ tks g ++ [[41]])
theorem rprs_tks : ∀ (n : Nat) (l : List Str) (f : Fm) (r : List Str), rprs n l = some (f, r) → l = tks f ++ r := by
  intro n
  induction n with
  | zero => intro l f r h; cases h
  | succ n ih =>
    intro l f r h
    cases l with
    | nil => cases h
    | cons s l =>
      unfold rprs at h
      split at h
      · simp only [Option.some.injEq, Prod.mk.injEq] at h
        obtain ⟨rfl, rfl⟩ := h
        rfl
      · split at h
        · cases h
        · rename_i hs
          have hs : s = [40] := Classical.not_not.1 hs
          subst hs
          cases l with
          | nil => cases h
          | cons s l =>
            simp only at h
            split at h
            · split at h
              · rename_i f' l' hp
                simp only [Option.some.injEq, Prod.mk.injEq] at h
                obtain ⟨rfl, rfl⟩ := h
                have := ih _ _ _ hp
                rw [this]
                simp [tks]
              · cases h
            · split at h
              · split at h
                · rename_i f' l' hp
                  split at h
                  · rename_i g' l2 hq
                    simp only [Option.some.injEq, Prod.mk.injEq] at h
                    obtain ⟨rfl, rfl⟩ := h
                    have e1 := ih _ _ _ hp
                    have e2 := ih _ _ _ hq
                    rw [e1, e2]
                    simp [tks]
                  · cases h
                · cases h
              · cases h
theorem rprs_at (n : Nat) (s : Str) (l : List Str) (h : s ∈ atomsL) : rprs (n + 1) (s :: l) = some (.at_ s, l) := by
  unfold rprs; rw [if_pos h]
theorem rprs_one {n : Nat} {s : Str} {l r : List Str} {f : Fm} (h1 : s ∈ onesL) (h : rprs n l = some (f, [41] :: r)) : rprs (n + 1) ([40] :: s :: l) = some (.on_ s f, r) := by
  conv => lhs; unfold rprs
  rw [if_neg atoms_40, if_neg (by simp)]
  simp only [if_pos h1, h]
theorem twos_ones : ∀ s ∈ twosL, s ∉ onesL := by decide
theorem rprs_two {n : Nat} {s : Str} {l l2 r : List Str} {f g : Fm} (h1 : s ∈ twosL) (h : rprs n l = some (f, l2)) (h2 : rprs n l2 = some (g, [41] :: r)) : rprs (n + 1) ([40] :: s :: l) = some (.tw_ s f g, r) := by
  conv => lhs; unfold rprs
  rw [if_neg atoms_40, if_neg (by simp)]
  simp only [if_neg (twos_ones s h1), if_pos h1, h, h2]
theorem tks_rprs : ∀ (f : Fm), wfF f → ∀ (n : Nat) (r : List Str), sizeF f ≤ n → rprs n (tks f ++ r) = some (f, r) := by
  intro f
  induction f with
  | at_ w =>
    intro hw n r hn
    obtain ⟨n, rfl⟩ : ∃ m, n = m + 1 := ⟨n - 1, by unfold sizeF at hn; omega⟩
    exact rprs_at n w r hw
  | on_ w f ih =>
    rintro ⟨hw, hf⟩ n r hn
    unfold sizeF at hn
    obtain ⟨n, rfl⟩ : ∃ m, n = m + 1 := ⟨n - 1, by omega⟩
    have := ih hf n ([41] :: r) (by omega)
    show rprs (n + 1) ([40] :: w :: ((tks f ++ [[41]]) ++ r)) = _
    rw [List.append_assoc]
    exact rprs_one hw this
  | tw_ w f g ihf ihg =>
    rintro ⟨hw, hf, hg⟩ n r hn
    unfold sizeF at hn
    obtain ⟨n, rfl⟩ : ∃ m, n = m + 1 := ⟨n - 1, by omega⟩
    have h1 := ihf hf n (tks g ++ [41] :: r) (by omega)
    have h2 := ihg hg n ([41] :: r) (by omega)
    show rprs (n + 1) ([40] :: w :: ((tks f ++ tks g ++ [[41]]) ++ r)) = _
    rw [List.append_assoc, List.append_assoc]
    exact rprs_two hw h1 h2
theorem tks_len : ∀ f, sizeF f ≤ (tks f).length := by
  intro f
  induction f with
  | at_ w => exact Nat.le_refl _
  | on_ w f ih => unfold sizeF tks; simp only [List.length_cons, List.length_append, List.length_nil]; omega
  | tw_ w f g ihf ihg => unfold sizeF tks; simp only [List.length_cons, List.length_append, List.length_nil]; omega
theorem tks_inj {f g : Fm} (hf : wfF f) (hg : wfF g) (h : tks f = tks g) : f = g := by
  have h1 := tks_rprs f hf (sizeF f + sizeF g) [] (by omega)
  have h2 := tks_rprs g hg (sizeF f + sizeF g) [] (by omega)
  rw [h] at h1
  rw [h1] at h2
  simp only [Option.some.injEq, Prod.mk.injEq] at h2
  exact h2.1
theorem tks_wcnt {f : Fm} (hf : wfF f) : wcnt (tks f) = sizeF f := by
  have h1 := tks_rprs f hf (sizeF f) [] (Nat.le_refl _)
  have := (rprs_wcnt _ _ _ _ h1).1
  rw [List.append_nil] at this
  rw [this]; rfl
/-- What a string's words must be. -/
theorem parse_iff (s : Str) (f : Fm) : parseM s = some f ↔ wfF f ∧ sizeF f ≤ 12 ∧ tokM s = tks f := by
  constructor
  · intro h
    have h0 := h
    rw [parseM_ref] at h
    split at h
    · cases h
    · split at h
      · rename_i f' hp
        simp only [Option.some.injEq] at h
        subst h
        have h1 := rprs_tks _ _ _ _ hp
        rw [List.append_nil] at h1
        have h2 := rprs_wcnt _ _ _ _ hp
        exact ⟨h2.2.2, (parseM_sz h0).2, h1⟩
      · cases h
  · rintro ⟨h1, h2, h3⟩
    rw [parseM_ref, h3, tks_wcnt h1, if_neg (by omega)]
    have := tks_rprs f h1 ((tks f).length + 1) [] (by have := tks_len f; omega)
    rw [List.append_nil] at this
    rw [this]
theorem parse_none {s : Str} {f : Fm} (hf : wfF f) (ht : tokM s = tks f) (h : ¬ sizeF f ≤ 12) : parseM s = none := by
  cases hp : parseM s with
  | none => rfl
  | some g =>
    obtain ⟨h1, h2, h3⟩ := (parse_iff s g).1 hp
    have := tks_inj hf h1 (ht.symm.trans h3)
    subst this
    exact absurd h2 h
/-- No space, no parenthesis. -/
def plainW (w : Str) : Prop := ∀ c ∈ w, ¬ (c = 32 ∨ c = 10) ∧ ¬ (c = 40 ∨ c = 41)
theorem tokN_cons (c : UInt8) (s cur : Str) : tokN (c :: s) cur = if c = 32 ∨ c = 10 then flush cur ++ tokN s [] else if c = 40 ∨ c = 41 then flush cur ++ ([c] :: tokN s []) else tokN s (cur ++ [c]) := rfl
theorem tokN_word : ∀ (w : Str), plainW w → ∀ (r cur : Str), tokN (w ++ r) cur = tokN r (cur ++ w) := by
  intro w
  induction w with
  | nil => intro _ r cur; rw [List.append_nil]; rfl
  | cons c w ih =>
    intro h r cur
    have hc := h c (by simp)
    show tokN (c :: (w ++ r)) cur = _
    rw [tokN_cons, if_neg hc.1, if_neg hc.2, ih (fun x hx => h x (List.mem_cons_of_mem _ hx)), List.append_assoc]
    rfl
theorem tokN_sp : ∀ (s r cur : Str), tokN (s ++ 32 :: r) cur = tokN s cur ++ tokN r [] := by
  intro s
  induction s with
  | nil => intro r cur; show tokN (32 :: r) cur = flush cur ++ _; rw [tokN_cons, if_pos (by decide)]
  | cons c s ih =>
    intro r cur
    show tokN (c :: (s ++ 32 :: r)) cur = _
    rw [tokN_cons, tokN_cons, ih, ih]
    split
    · rw [List.append_assoc]
    · split
      · rw [List.append_assoc]; rfl
      · rfl
theorem tokN_par (w s : Str) (hw : plainW w) (hne : w ≠ []) : tokM ([40] ++ w ++ [32] ++ s) = [40] :: w :: tokM s := by
  show tokN (40 :: (w ++ [32] ++ s)) [] = _
  rw [tokN_cons, if_neg (by decide), if_pos (by decide), List.append_assoc, tokN_word w hw]
  show flush [] ++ ([40] :: tokN (32 :: s) ([] ++ w)) = _
  rw [tokN_cons, if_pos (by decide), List.nil_append, show flush w = [w] by unfold flush; rw [if_neg hne]]
  rfl
theorem tok_un (w s : Str) (hw : plainW w) (hne : w ≠ []) : tokM ([40] ++ w ++ [32] ++ s ++ [41]) = [40] :: w :: (tokM s ++ [[41]]) := by
  rw [List.append_assoc ([40] ++ w ++ [32]), tokN_par w _ hw hne]
  show [40] :: w :: tokN (s ++ [41]) [] = _
  rw [tokN_close]; rfl
theorem tok_bi (w s t : Str) (hw : plainW w) (hne : w ≠ []) : tokM ([40] ++ w ++ [32] ++ s ++ [32] ++ t ++ [41]) = [40] :: w :: (tokM s ++ tokM t ++ [[41]]) := by
  rw [List.append_assoc ([40] ++ w ++ [32] ++ s), List.append_assoc ([40] ++ w ++ [32] ++ s), List.append_assoc ([40] ++ w ++ [32]), tokN_par w _ hw hne]
  show [40] :: w :: tokN (s ++ 32 :: (t ++ [41])) [] = _
  rw [tokN_sp, tokN_close, ← List.append_assoc]; rfl
theorem words_plain : ∀ w ∈ atomsL ++ onesL ++ twosL, plainW w ∧ w ≠ [] := by
  unfold plainW; decide
theorem tok_text : ∀ f, wfF f → tokM (textF f) = tks f := by
  intro f
  induction f with
  | at_ w =>
    intro hw
    obtain ⟨h1, h2⟩ := words_plain w (by simp [show w ∈ atomsL from hw])
    have := tokN_word w h1 [] []
    rw [List.append_nil, List.nil_append] at this
    show tokN w [] = [w]
    rw [this]
    show flush w = [w]
    unfold flush; rw [if_neg h2]
  | on_ w f ih =>
    rintro ⟨hw, hf⟩
    obtain ⟨h1, h2⟩ := words_plain w (by simp [hw])
    unfold textF tks
    rw [tok_un w _ h1 h2, ih hf]
  | tw_ w f g ihf ihg =>
    rintro ⟨hw, hf, hg⟩
    obtain ⟨h1, h2⟩ := words_plain w (by simp [hw])
    unfold textF tks
    rw [tok_bi w _ _ h1 h2, ihf hf, ihg hg]
/-- A formula's text is read as this formula, if it is not too long. -/
theorem parse_text {f : Fm} (hf : wfF f) : parseM (textF f) = if sizeF f ≤ 12 then some f else none := by
  split
  · rename_i h; exact (parse_iff _ _).2 ⟨hf, h, tok_text f hf⟩
  · rename_i h; exact parse_none hf (tok_text f hf) h
end Go.Ltl
end
section
/- ltl, fifty-second: what Holds answers, in one shape; the values of a formula's text. -/
namespace Go.Proofs.YtpbbneclkhfgoaaDoor
open Go.W Go.Ltl Go.RowKit
set_option maxRecDepth 100000

abbrev Rb (b : Nat) (hb : Bool) (sa : Option Addr) (sl sc : Nat) (pa : Option Addr) (pl pc : Nat) : Ent := .blk b (.cells #[.bool hb, .slice sa sl sc, .slice pa pl pc] 48 (0, 0))
/-- The answer is a result and an error. -/
def ShapeW (vs : Vs) (ms : List Int) (s : Str) (hb : Bool) (sa : Option Addr) (sl sc : Nat) (qa : Option Addr) (ql qc : Nat) (ec : Int) (E : List Ent) : Prop :=
  (parseM s = none ∧ ec = 4 ∧ hb = false ∧ sl = 0 ∧ ql = 0) ∨ ∃ f, parseM s = some f ∧ ec = 0 ∧ ((hb = true ∧ HoldsA vs ms f ∧ sl = 0 ∧ ql = 0) ∨ (hb = false ∧ ∃ stem loop, LassoA vs ms f stem loop ∧ sl = stem.length ∧ ql = loop.length ∧ E = [Rna (.slice qa loop.length qc) loop.length loop, Rna (.slice sa stem.length sc) stem.length stem]))
theorem HoldsW.shape {vs : Vs} {ms : List Int} {s : Str} {w w' : World} {v : Value} (h : HoldsW vs ms s w v w') (hsb : strB vs ms = true) :
    ∃ (hb : Bool) (sa : Option Addr) (sl sc : Nat) (qa : Option Addr) (ql qc : Nat) (ec : Int) (E : List Ent), v = .tuple #[.agg #[.bool hb, .slice sa sl sc, .slice qa ql qc], .int .i64 ec] ∧ Hp w w' E ∧ ShapeW vs ms s hb sa sl sc qa ql qc ec E := by
  unfold HoldsW at h
  rw [if_pos hsb] at h
  cases hf : parseM s with
  | none =>
    rw [hf] at h
    obtain ⟨rfl, hp⟩ := h
    exact ⟨false, none, 0, 0, none, 0, 0, 4, [], rfl, hp, .inl ⟨hf, rfl, rfl, rfl, rfl⟩⟩
  | some f =>
    rw [hf] at h
    rcases h with ⟨hA, rfl, hp⟩ | ⟨stem, loop, sa, sc, pa, pc, hA, rfl, hp⟩
    · exact ⟨true, none, 0, 0, none, 0, 0, 0, [], rfl, hp, .inr ⟨f, hf, rfl, .inl ⟨rfl, hA, rfl, rfl⟩⟩⟩
    · exact ⟨false, sa, stem.length, sc, pa, loop.length, pc, 0, _, rfl, hp, .inr ⟨f, hf, rfl, .inr ⟨rfl, stem, loop, hA, rfl, rfl, rfl⟩⟩⟩
/-- A structure has a run. -/
theorem run_ex {vs : Vs} {ms : List Int} (h : StrOk vs ms) : ∃ τ, RunS (nxOf vs) 1 τ := by
  have hne : ∀ v, v < vs.length → ∃ u, u ∈ (nxOf vs).getD v [] ∧ u < vs.length := fun v hv => by
    have e1 : (nxOf vs).getD v [] = vs[v].2.2.map Int.toNat := by
      unfold nxOf; rw [List.getD_eq_getElem?_getD, List.getElem?_map, List.getElem?_eq_getElem hv]; rfl
    have hn := h.ne _ (List.getElem_mem hv)
    obtain ⟨z, hz⟩ := List.exists_mem_of_ne_nil _ hn
    have := h.ent _ (List.getElem_mem hv) z hz
    exact ⟨z.toNat, by rw [e1]; exact List.mem_map_of_mem hz, by omega⟩
  have hlo := h.lo
  obtain ⟨g, hg⟩ : ∃ g : {v // v < vs.length} → {v // v < vs.length}, ∀ v, (g v).1 ∈ (nxOf vs).getD v.1 [] := by
    refine ⟨fun v => ⟨(hne v.1 v.2).choose, (hne v.1 v.2).choose_spec.2⟩, fun v => (hne v.1 v.2).choose_spec.1⟩
  let τ : Nat → {v // v < vs.length} := fun i => Nat.rec ⟨0, by omega⟩ (fun _ v => g v) i
  exact ⟨fun i => (τ i).1, Nat.lt_succ_self 0, fun i => hg (τ i)⟩
theorem holds_not {vs : Vs} {ms : List Int} (h : StrOk vs ms) {f : Fm} (h1 : HoldsA vs ms f) (h2 : HoldsA vs ms (.on_ wNot f)) : False := by
  obtain ⟨τ, hτ⟩ := run_ex h
  have := h2 τ hτ
  simp only [satS, if_true] at this
  exact this (h1 τ hτ)
/-- The value of a formula's text. -/
theorem value_text {l1 l2 : List Int} {g : Fm} (hg : wfF g) (h1 : l1.length ≤ 65536) (h2 : 1 ≤ l2.length) (h3 : l2.length ≤ 65536) (hm : ∀ m ∈ l1 ++ l2, 0 ≤ m ∧ m ≤ 15) :
    ∃ b j, ValueM l1 l2 (textF g) = (b, j) ∧ ((j = 0 ∧ (b = true ↔ satS (seqL (l1 ++ l2) l1.length) g 0)) ∨ (j = 4 ∧ b = false)) := by
  have hp := parse_text hg
  split at hp
  · obtain ⟨b, hb, hs⟩ := ValueM_ok hp h1 h2 h3 hm
    exact ⟨b, 0, hb, .inl ⟨rfl, hs⟩⟩
  · exact ⟨false, 4, ValueM_none hp h1 h2 h3 hm, .inr ⟨rfl, rfl⟩⟩
end Go.Proofs.YtpbbneclkhfgoaaDoor
end
section
/- ltl, fifty-third: LtlNegates. -/
namespace Go.Proofs.YtpbbneclkhfgoaaDoor
open Go.W Go.Ltl Go.RowKit
set_option maxRecDepth 100000
set_option linter.unusedSectionVars false
attribute [local irreducible] WC WL WQ WS WH

theorem Hp.toTail {w0 w : World} {A L Y : List Ent} (h : Hp w0 w (A ++ (L ++ Y))) : Hp w0 w (L ++ (A ++ Y)) := permE h (by
  rw [← List.append_assoc, ← List.append_assoc]
  exact List.Perm.append_right Y List.perm_append_comm)
theorem mk_le {ms : List Int} (h : ∀ m ∈ ms, 0 ≤ m ∧ m ≤ 15) (l : List Nat) : ∀ m ∈ mkL ms l, 0 ≤ m ∧ m ≤ 15 := by
  intro m hm
  obtain ⟨v, _, rfl⟩ := List.mem_map.1 hm
  rw [List.getD_eq_getElem?_getD]
  cases hv : ms[v]? with
  | none => decide
  | some x => exact h x (List.mem_of_getElem? hv)
theorem LassoA.lts {vs : Vs} {ms : List Int} {f : Fm} {stem loop : List Nat} (h : LassoA vs ms f stem loop) (hok : StrOk vs ms) : ∀ v ∈ stem ++ loop, v < ms.length := by
  intro v hv
  have hr := h.runs hok
  unfold runB walkB at hr
  simp only [Bool.and_eq_true, List.all_eq_true] at hr
  have := hr.2.1.2 ((v : Nat) : Int) (List.mem_append_left _ (by rw [← upN_app]; exact List.mem_map_of_mem (f := fun n : Nat => (n : Int)) hv))
  simp only [inB, Bool.and_eq_true, decide_eq_true_eq, List.length_map] at this
  rw [hok.ml]; omega
theorem LtlNegates_any (an : Option Addr) (cn : Nat) (am : Option Addr) (cm : Nat) (vs : Vs) (ms : List Int) (hB : StcB an cn am cm vs ms) (s : Str) (hsl : s.length ≤ 9223372036854775807) (a1 a2 : Option Addr) (k1 k2 : Nat) (l1 l2 : List Int) (h1 : l1.length ≤ 9223372036854775807) (h2 : l2.length ≤ 9223372036854775807)
    (w : World) (hG : Gl w) (hst : Stc w an am vs ms) (hs1 : Sl w a1 (zs l1)) (hs2 : Sl w a2 (zs l2)) :
    Ret Tryd.prog 5 [stV an cn am cm vs ms, st s, .agg #[.slice a1 l1.length k1, .slice a2 l2.length k2]] w fun u w' => u = .bool true ∧ Hp w w' [] := by
  refine enter Tryd.func5 rfl rfl ⟨rfl, rfl⟩ rfl ?_
  repeat (first | refine zA ?_ | refine zB ?_ | refine zC rfl rfl rfl ?_ | refine zD ?_ | refine zE ?_ | refine zF ?_ | refine zG rfl ?_ | refine zH rfl ?_ | refine zI rfl rfl rfl ?_ | refine zJ rfl rfl ?_ | refine zK ?_ | refine zL ?_ | refine zM rfl ?_ | refine zN ?_)
  refine WL.box rfl rfl rfl (fun b3 w1 hb3 => ?_)
  have hp1 : Hp w w1 [Sb b3 an cn am cm vs ms] := (Hp.start w).new hb3
  refine WL.box rfl rfl rfl (fun b5 w2 hb5 => ?_)
  have hp2 : Hp w w2 [Mkb b5 (.slice a1 l1.length k1) (.slice a2 l2.length k2), Sb b3 an cn am cm vs ms] := hp1.new hb5
  obtain ⟨hC1, hC2, hC3⟩ := tameC_ok (takeV (rowsOf vs)) (ms.take 20) (most := 6) (by decide) (by decide)
  have hT := fun w' (h : Stc w' an am vs ms) => tame_any an cn am cm vs ms hB 6 (by decide) (by decide) w' h
  have hK := fun w' (p : Sl w' a1 (zs l1)) (q : Sl w' a2 (zs l2)) => marks_any a1 a2 k1 k2 l1 l2 h1 h2 w' p q
  have hS0 := stemM_ok l1
  have hL0 := lopM_ok l2
  obtain ⟨R, hR⟩ : ∃ R, R = (tameC (takeV (rowsOf vs)) (ms.take 20) 6).1 := ⟨_, rfl⟩
  obtain ⟨M, hM⟩ : ∃ M, M = (tameC (takeV (rowsOf vs)) (ms.take 20) 6).2 := ⟨_, rfl⟩
  obtain ⟨S, hS⟩ : ∃ S, S = stemM l1 := ⟨_, rfl⟩
  obtain ⟨Lo, hLo⟩ : ∃ Lo, Lo = lopM l2 := ⟨_, rfl⟩
  rw [← hR, ← hM] at hC1 hC3
  rw [← hR] at hC2
  rw [← hS] at hS0
  rw [← hLo] at hL0
  simp only [← hR, ← hM] at hT
  simp only [← hS, ← hLo] at hK
  clear hR hM hS hLo hp1
  repeat (first | refine zA ?_ | refine zB ?_ | refine zC rfl rfl rfl ?_ | refine zD ?_ | refine zE ?_ | refine zF ?_ | refine zG rfl ?_ | refine zH rfl ?_ | refine zI rfl rfl rfl ?_ | refine zJ rfl rfl ?_ | refine zK ?_ | refine zL ?_ | refine zM rfl ?_ | refine zN ?_)
  refine WC.mid (Nat × Nat × (Option Addr × Nat × Option Addr × Nat × Vs) × (Option Addr × Nat × Option Addr × Nat)) (fun (b7, b8, _, _) => [(1, st s), (7, ptr b7), (8, ptr b8)])
    (fun (b7, b8, (na, nc, ma, mc, v1), (p1, q1, p2, q2)) w' => rowsOf v1 = R ∧ Hp w w' ([Stb b7 na v1.length nc ma M.length mc, Mkb b8 (.slice p1 S.length q1) (.slice p2 Lo.length q2)] ++ (OwnS na nc ma mc v1 M ++ [Ri (.slice p1 S.length q1) S, Ri (.slice p2 Lo.length q2) Lo]))) ?_ ?_
  · refine WC.regH (fun w' => Hp w w' [Mkb b5 (.slice a1 l1.length k1) (.slice a2 l2.length k2), Sb b3 an cn am cm vs ms]) mixed (by kernel_rfl) (fun w3 hw3 hh3 => ?_)
    have hp3 : Hp w w3 ([Mkb b5 (.slice a1 l1.length k1) (.slice a2 l2.length k2), Sb b3 an cn am cm vs ms] ++ []) := hp2.keep hw3
    have hS := hp2.keep hw3
    refine WH.take 0 (by kernel_rfl) rfl (by kernel_rfl) rfl rfl (fun w' h => run_loadN (cs := [.slice an vs.length cn, .slice am ms.length cm]) rfl rfl rfl rfl (fun q v hq => by rw [Addr.add_lit]; exact cell_of_obj (h.obj 1 rfl) (by rw [Nat.zero_add]; simpa using hq))) hS ?_
    refine WH.take 2 (by kernel_rfl) rfl (by kernel_rfl) rfl rfl (fun w' h => run_loadN (cs := [.slice a1 l1.length k1, .slice a2 l2.length k2]) rfl rfl rfl rfl (fun q v hq => by rw [Addr.add_lit]; exact cell_of_obj (h.obj 0 rfl) (by rw [Nat.zero_add]; simpa using hq))) hS ?_
    clear hp2 hS
    refine WH.many [1, 4, 5] (by kernel_rfl) (by decide) ?_
    intro iord hiord
    simp only [List.mem_cons, List.not_mem_nil, or_false] at hiord
    rcases hiord with rfl | rfl | rfl
    · refine ⟨_, rfl, ?_⟩
      refine WL.call rfl rfl rfl rfl rfl ent24 (hT w3 (hst.hp hp3)) ?_
      rintro _ wo1 ⟨na, nc, ma, mc, v1, rfl, hv1, hr1⟩
      have ho1 := Hp.toTail (L := [_, _]) (hp3.comb hr1)
      refine WL.nil ⟨(Hp.frontT (L := [_, _]) ho1).pick [0, 1] (by decide), ?_⟩
      refine WH.many [3, 4, 5] (by kernel_rfl) (by decide) ?_
      intro iord hiord
      simp only [List.mem_cons, List.not_mem_nil, or_false] at hiord
      rcases hiord with rfl | rfl | rfl
      · refine ⟨_, rfl, ?_⟩
        refine WL.call rfl rfl rfl rfl rfl ent25 (hK wo1 (hs1.hp ho1) (hs2.hp ho1)) ?_
        rintro _ wo2 ⟨p1, q1, p2, q2, rfl, hr2⟩
        have ho2 := Hp.toTail (L := [_, _]) (ho1.comb hr2)
        refine WL.nil ⟨(Hp.frontT (L := [_, _]) ho2).pick [0, 1] (by decide), ?_⟩
        refine WH.many [4, 5] (by kernel_rfl) (by decide) ?_
        intro iord hiord
        simp only [List.mem_cons, List.not_mem_nil, or_false] at hiord
        rcases hiord with rfl | rfl
        · refine ⟨_, rfl, ?_⟩
          refine WL.alloc rfl rfl rfl (fun b7 wo3 hr3 => ?_)
          have ho3 := ho2.new hr3
          refine WL.nil ⟨(Hp.frontT (L := [_, _, _]) ho3).pick [1, 2] (by decide), ?_⟩
          refine WH.one 5 rfl (by kernel_rfl) ?_
          refine WL.alloc rfl rfl rfl (fun b8 wo4 hr4 => ?_)
          have ho4 := ho3.new hr4
          refine WL.nil ⟨(Hp.frontT (L := [_, _, _, _]) ho4).pick [2, 3] (by decide), ?_⟩
          refine WH.one 6 rfl (by kernel_rfl) ?_
          refine WL.storeN rfl rfl rfl rfl rfl (by simp [Value.oneCell']) (ho4.obj 1 rfl) (Nat.le_refl _) rfl (fun wo5 hr5 => ?_)
          have ho5 := ho4.set 1 rfl rfl hr5
          refine WL.nil ⟨(Hp.frontT (L := [_, _, _, _]) ho5).pick [2, 3] (by decide), ?_⟩
          refine WH.one 7 rfl (by kernel_rfl) ?_
          refine WL.storeN rfl rfl rfl rfl rfl (by simp [Value.oneCell']) (ho5.obj 0 rfl) (Nat.le_refl _) rfl (fun wo6 hr6 => ?_)
          have ho6 := ho5.set 0 rfl rfl hr6
          refine WL.nil ⟨(Hp.frontT (L := [_, _, _, _]) ho6).pick [2, 3] (by decide), ?_⟩
          refine WH.done (by kernel_rfl) ?_
          have hz := Hp.pickT (T := [Ri (.slice p1 S.length q1) S, Ri (.slice p2 Lo.length q2) Lo] ++ (OwnS na nc ma mc v1 M ++ [])) [_, _, _, _] [1, 0] ho6 (by decide)
          exact ⟨(b7, b8, (na, nc, ma, mc, v1), (p1, q1, p2, q2)), ⟨rfl, rfl, rfl, rfl⟩, hv1, permE hz (List.Perm.append_left _ (by rw [List.append_nil]; exact List.perm_append_comm))⟩
        · refine ⟨_, rfl, ?_⟩
          refine WL.alloc rfl rfl rfl (fun b8 wo7 hr7 => ?_)
          have ho7 := ho2.new hr7
          refine WL.nil ⟨(Hp.frontT (L := [_, _, _]) ho7).pick [1, 2] (by decide), ?_⟩
          refine WH.one 4 rfl (by kernel_rfl) ?_
          refine WL.alloc rfl rfl rfl (fun b7 wo8 hr8 => ?_)
          have ho8 := ho7.new hr8
          refine WL.nil ⟨(Hp.frontT (L := [_, _, _, _]) ho8).pick [2, 3] (by decide), ?_⟩
          refine WH.one 6 rfl (by kernel_rfl) ?_
          refine WL.storeN rfl rfl rfl rfl rfl (by simp [Value.oneCell']) (ho8.obj 0 rfl) (Nat.le_refl _) rfl (fun wo9 hr9 => ?_)
          have ho9 := ho8.set 0 rfl rfl hr9
          refine WL.nil ⟨(Hp.frontT (L := [_, _, _, _]) ho9).pick [2, 3] (by decide), ?_⟩
          refine WH.one 7 rfl (by kernel_rfl) ?_
          refine WL.storeN rfl rfl rfl rfl rfl (by simp [Value.oneCell']) (ho9.obj 1 rfl) (Nat.le_refl _) rfl (fun wo10 hr10 => ?_)
          have ho10 := ho9.set 1 rfl rfl hr10
          refine WL.nil ⟨(Hp.frontT (L := [_, _, _, _]) ho10).pick [2, 3] (by decide), ?_⟩
          refine WH.done (by kernel_rfl) ?_
          have hz := Hp.pickT (T := [Ri (.slice p1 S.length q1) S, Ri (.slice p2 Lo.length q2) Lo] ++ (OwnS na nc ma mc v1 M ++ [])) [_, _, _, _] [0, 1] ho10 (by decide)
          exact ⟨(b7, b8, (na, nc, ma, mc, v1), (p1, q1, p2, q2)), ⟨rfl, rfl, rfl, rfl⟩, hv1, permE hz (List.Perm.append_left _ (by rw [List.append_nil]; exact List.perm_append_comm))⟩
      · refine ⟨_, rfl, ?_⟩
        refine WL.alloc rfl rfl rfl (fun b7 wo11 hr11 => ?_)
        have ho11 := ho1.new hr11
        refine WL.nil ⟨(Hp.frontT (L := [_, _, _]) ho11).pick [1, 2] (by decide), ?_⟩
        refine WH.many [3, 5] (by kernel_rfl) (by decide) ?_
        intro iord hiord
        simp only [List.mem_cons, List.not_mem_nil, or_false] at hiord
        rcases hiord with rfl | rfl
        · refine ⟨_, rfl, ?_⟩
          refine WL.call rfl rfl rfl rfl rfl ent25 (hK wo11 (hs1.hp ho11) (hs2.hp ho11)) ?_
          rintro _ wo12 ⟨p1, q1, p2, q2, rfl, hr12⟩
          have ho12 := Hp.toTail (L := [_, _, _]) (ho11.comb hr12)
          refine WL.nil ⟨(Hp.frontT (L := [_, _, _]) ho12).pick [1, 2] (by decide), ?_⟩
          refine WH.one 5 rfl (by kernel_rfl) ?_
          refine WL.alloc rfl rfl rfl (fun b8 wo13 hr13 => ?_)
          have ho13 := ho12.new hr13
          refine WL.nil ⟨(Hp.frontT (L := [_, _, _, _]) ho13).pick [2, 3] (by decide), ?_⟩
          refine WH.one 6 rfl (by kernel_rfl) ?_
          refine WL.storeN rfl rfl rfl rfl rfl (by simp [Value.oneCell']) (ho13.obj 1 rfl) (Nat.le_refl _) rfl (fun wo14 hr14 => ?_)
          have ho14 := ho13.set 1 rfl rfl hr14
          refine WL.nil ⟨(Hp.frontT (L := [_, _, _, _]) ho14).pick [2, 3] (by decide), ?_⟩
          refine WH.one 7 rfl (by kernel_rfl) ?_
          refine WL.storeN rfl rfl rfl rfl rfl (by simp [Value.oneCell']) (ho14.obj 0 rfl) (Nat.le_refl _) rfl (fun wo15 hr15 => ?_)
          have ho15 := ho14.set 0 rfl rfl hr15
          refine WL.nil ⟨(Hp.frontT (L := [_, _, _, _]) ho15).pick [2, 3] (by decide), ?_⟩
          refine WH.done (by kernel_rfl) ?_
          have hz := Hp.pickT (T := [Ri (.slice p1 S.length q1) S, Ri (.slice p2 Lo.length q2) Lo] ++ (OwnS na nc ma mc v1 M ++ [])) [_, _, _, _] [1, 0] ho15 (by decide)
          exact ⟨(b7, b8, (na, nc, ma, mc, v1), (p1, q1, p2, q2)), ⟨rfl, rfl, rfl, rfl⟩, hv1, permE hz (List.Perm.append_left _ (by rw [List.append_nil]; exact List.perm_append_comm))⟩
        · refine ⟨_, rfl, ?_⟩
          refine WL.alloc rfl rfl rfl (fun b8 wo16 hr16 => ?_)
          have ho16 := ho11.new hr16
          refine WL.nil ⟨(Hp.frontT (L := [_, _, _, _]) ho16).pick [2, 3] (by decide), ?_⟩
          refine WH.one 3 rfl (by kernel_rfl) ?_
          refine WL.call rfl rfl rfl rfl rfl ent25 (hK wo16 (hs1.hp ho16) (hs2.hp ho16)) ?_
          rintro _ wo17 ⟨p1, q1, p2, q2, rfl, hr17⟩
          have ho17 := Hp.toTail (L := [_, _, _, _]) (ho16.comb hr17)
          refine WL.nil ⟨(Hp.frontT (L := [_, _, _, _]) ho17).pick [2, 3] (by decide), ?_⟩
          refine WH.one 6 rfl (by kernel_rfl) ?_
          refine WL.storeN rfl rfl rfl rfl rfl (by simp [Value.oneCell']) (ho17.obj 1 rfl) (Nat.le_refl _) rfl (fun wo18 hr18 => ?_)
          have ho18 := ho17.set 1 rfl rfl hr18
          refine WL.nil ⟨(Hp.frontT (L := [_, _, _, _]) ho18).pick [2, 3] (by decide), ?_⟩
          refine WH.one 7 rfl (by kernel_rfl) ?_
          refine WL.storeN rfl rfl rfl rfl rfl (by simp [Value.oneCell']) (ho18.obj 0 rfl) (Nat.le_refl _) rfl (fun wo19 hr19 => ?_)
          have ho19 := ho18.set 0 rfl rfl hr19
          refine WL.nil ⟨(Hp.frontT (L := [_, _, _, _]) ho19).pick [2, 3] (by decide), ?_⟩
          refine WH.done (by kernel_rfl) ?_
          have hz := Hp.pickT (T := [Ri (.slice p1 S.length q1) S, Ri (.slice p2 Lo.length q2) Lo] ++ (OwnS na nc ma mc v1 M ++ [])) [_, _, _, _] [1, 0] ho19 (by decide)
          exact ⟨(b7, b8, (na, nc, ma, mc, v1), (p1, q1, p2, q2)), ⟨rfl, rfl, rfl, rfl⟩, hv1, permE hz (List.Perm.append_left _ (by rw [List.append_nil]; exact List.perm_append_comm))⟩
      · refine ⟨_, rfl, ?_⟩
        refine WL.alloc rfl rfl rfl (fun b8 wo20 hr20 => ?_)
        have ho20 := ho1.new hr20
        refine WL.nil ⟨(Hp.frontT (L := [_, _, _]) ho20).pick [1, 2] (by decide), ?_⟩
        refine WH.many [3, 4] (by kernel_rfl) (by decide) ?_
        intro iord hiord
        simp only [List.mem_cons, List.not_mem_nil, or_false] at hiord
        rcases hiord with rfl | rfl
        · refine ⟨_, rfl, ?_⟩
          refine WL.call rfl rfl rfl rfl rfl ent25 (hK wo20 (hs1.hp ho20) (hs2.hp ho20)) ?_
          rintro _ wo21 ⟨p1, q1, p2, q2, rfl, hr21⟩
          have ho21 := Hp.toTail (L := [_, _, _]) (ho20.comb hr21)
          refine WL.nil ⟨(Hp.frontT (L := [_, _, _]) ho21).pick [1, 2] (by decide), ?_⟩
          refine WH.one 4 rfl (by kernel_rfl) ?_
          refine WL.alloc rfl rfl rfl (fun b7 wo22 hr22 => ?_)
          have ho22 := ho21.new hr22
          refine WL.nil ⟨(Hp.frontT (L := [_, _, _, _]) ho22).pick [2, 3] (by decide), ?_⟩
          refine WH.one 6 rfl (by kernel_rfl) ?_
          refine WL.storeN rfl rfl rfl rfl rfl (by simp [Value.oneCell']) (ho22.obj 0 rfl) (Nat.le_refl _) rfl (fun wo23 hr23 => ?_)
          have ho23 := ho22.set 0 rfl rfl hr23
          refine WL.nil ⟨(Hp.frontT (L := [_, _, _, _]) ho23).pick [2, 3] (by decide), ?_⟩
          refine WH.one 7 rfl (by kernel_rfl) ?_
          refine WL.storeN rfl rfl rfl rfl rfl (by simp [Value.oneCell']) (ho23.obj 1 rfl) (Nat.le_refl _) rfl (fun wo24 hr24 => ?_)
          have ho24 := ho23.set 1 rfl rfl hr24
          refine WL.nil ⟨(Hp.frontT (L := [_, _, _, _]) ho24).pick [2, 3] (by decide), ?_⟩
          refine WH.done (by kernel_rfl) ?_
          have hz := Hp.pickT (T := [Ri (.slice p1 S.length q1) S, Ri (.slice p2 Lo.length q2) Lo] ++ (OwnS na nc ma mc v1 M ++ [])) [_, _, _, _] [0, 1] ho24 (by decide)
          exact ⟨(b7, b8, (na, nc, ma, mc, v1), (p1, q1, p2, q2)), ⟨rfl, rfl, rfl, rfl⟩, hv1, permE hz (List.Perm.append_left _ (by rw [List.append_nil]; exact List.perm_append_comm))⟩
        · refine ⟨_, rfl, ?_⟩
          refine WL.alloc rfl rfl rfl (fun b7 wo25 hr25 => ?_)
          have ho25 := ho20.new hr25
          refine WL.nil ⟨(Hp.frontT (L := [_, _, _, _]) ho25).pick [2, 3] (by decide), ?_⟩
          refine WH.one 3 rfl (by kernel_rfl) ?_
          refine WL.call rfl rfl rfl rfl rfl ent25 (hK wo25 (hs1.hp ho25) (hs2.hp ho25)) ?_
          rintro _ wo26 ⟨p1, q1, p2, q2, rfl, hr26⟩
          have ho26 := Hp.toTail (L := [_, _, _, _]) (ho25.comb hr26)
          refine WL.nil ⟨(Hp.frontT (L := [_, _, _, _]) ho26).pick [2, 3] (by decide), ?_⟩
          refine WH.one 6 rfl (by kernel_rfl) ?_
          refine WL.storeN rfl rfl rfl rfl rfl (by simp [Value.oneCell']) (ho26.obj 0 rfl) (Nat.le_refl _) rfl (fun wo27 hr27 => ?_)
          have ho27 := ho26.set 0 rfl rfl hr27
          refine WL.nil ⟨(Hp.frontT (L := [_, _, _, _]) ho27).pick [2, 3] (by decide), ?_⟩
          refine WH.one 7 rfl (by kernel_rfl) ?_
          refine WL.storeN rfl rfl rfl rfl rfl (by simp [Value.oneCell']) (ho27.obj 1 rfl) (Nat.le_refl _) rfl (fun wo28 hr28 => ?_)
          have ho28 := ho27.set 1 rfl rfl hr28
          refine WL.nil ⟨(Hp.frontT (L := [_, _, _, _]) ho28).pick [2, 3] (by decide), ?_⟩
          refine WH.done (by kernel_rfl) ?_
          have hz := Hp.pickT (T := [Ri (.slice p1 S.length q1) S, Ri (.slice p2 Lo.length q2) Lo] ++ (OwnS na nc ma mc v1 M ++ [])) [_, _, _, _] [0, 1] ho28 (by decide)
          exact ⟨(b7, b8, (na, nc, ma, mc, v1), (p1, q1, p2, q2)), ⟨rfl, rfl, rfl, rfl⟩, hv1, permE hz (List.Perm.append_left _ (by rw [List.append_nil]; exact List.perm_append_comm))⟩
    · refine ⟨_, rfl, ?_⟩
      refine WL.alloc rfl rfl rfl (fun b7 wo29 hr29 => ?_)
      have ho29 := hp3.new hr29
      refine WL.nil ⟨(Hp.frontT (L := [_, _, _]) ho29).pick [1, 2] (by decide), ?_⟩
      refine WH.many [1, 5] (by kernel_rfl) (by decide) ?_
      intro iord hiord
      simp only [List.mem_cons, List.not_mem_nil, or_false] at hiord
      rcases hiord with rfl | rfl
      · refine ⟨_, rfl, ?_⟩
        refine WL.call rfl rfl rfl rfl rfl ent24 (hT wo29 (hst.hp ho29)) ?_
        rintro _ wo30 ⟨na, nc, ma, mc, v1, rfl, hv1, hr30⟩
        have ho30 := Hp.toTail (L := [_, _, _]) (ho29.comb hr30)
        refine WL.nil ⟨(Hp.frontT (L := [_, _, _]) ho30).pick [1, 2] (by decide), ?_⟩
        refine WH.many [3, 5] (by kernel_rfl) (by decide) ?_
        intro iord hiord
        simp only [List.mem_cons, List.not_mem_nil, or_false] at hiord
        rcases hiord with rfl | rfl
        · refine ⟨_, rfl, ?_⟩
          refine WL.call rfl rfl rfl rfl rfl ent25 (hK wo30 (hs1.hp ho30) (hs2.hp ho30)) ?_
          rintro _ wo31 ⟨p1, q1, p2, q2, rfl, hr31⟩
          have ho31 := Hp.toTail (L := [_, _, _]) (ho30.comb hr31)
          refine WL.nil ⟨(Hp.frontT (L := [_, _, _]) ho31).pick [1, 2] (by decide), ?_⟩
          refine WH.one 5 rfl (by kernel_rfl) ?_
          refine WL.alloc rfl rfl rfl (fun b8 wo32 hr32 => ?_)
          have ho32 := ho31.new hr32
          refine WL.nil ⟨(Hp.frontT (L := [_, _, _, _]) ho32).pick [2, 3] (by decide), ?_⟩
          refine WH.one 6 rfl (by kernel_rfl) ?_
          refine WL.storeN rfl rfl rfl rfl rfl (by simp [Value.oneCell']) (ho32.obj 1 rfl) (Nat.le_refl _) rfl (fun wo33 hr33 => ?_)
          have ho33 := ho32.set 1 rfl rfl hr33
          refine WL.nil ⟨(Hp.frontT (L := [_, _, _, _]) ho33).pick [2, 3] (by decide), ?_⟩
          refine WH.one 7 rfl (by kernel_rfl) ?_
          refine WL.storeN rfl rfl rfl rfl rfl (by simp [Value.oneCell']) (ho33.obj 0 rfl) (Nat.le_refl _) rfl (fun wo34 hr34 => ?_)
          have ho34 := ho33.set 0 rfl rfl hr34
          refine WL.nil ⟨(Hp.frontT (L := [_, _, _, _]) ho34).pick [2, 3] (by decide), ?_⟩
          refine WH.done (by kernel_rfl) ?_
          have hz := Hp.pickT (T := [Ri (.slice p1 S.length q1) S, Ri (.slice p2 Lo.length q2) Lo] ++ (OwnS na nc ma mc v1 M ++ [])) [_, _, _, _] [1, 0] ho34 (by decide)
          exact ⟨(b7, b8, (na, nc, ma, mc, v1), (p1, q1, p2, q2)), ⟨rfl, rfl, rfl, rfl⟩, hv1, permE hz (List.Perm.append_left _ (by rw [List.append_nil]; exact List.perm_append_comm))⟩
        · refine ⟨_, rfl, ?_⟩
          refine WL.alloc rfl rfl rfl (fun b8 wo35 hr35 => ?_)
          have ho35 := ho30.new hr35
          refine WL.nil ⟨(Hp.frontT (L := [_, _, _, _]) ho35).pick [2, 3] (by decide), ?_⟩
          refine WH.one 3 rfl (by kernel_rfl) ?_
          refine WL.call rfl rfl rfl rfl rfl ent25 (hK wo35 (hs1.hp ho35) (hs2.hp ho35)) ?_
          rintro _ wo36 ⟨p1, q1, p2, q2, rfl, hr36⟩
          have ho36 := Hp.toTail (L := [_, _, _, _]) (ho35.comb hr36)
          refine WL.nil ⟨(Hp.frontT (L := [_, _, _, _]) ho36).pick [2, 3] (by decide), ?_⟩
          refine WH.one 6 rfl (by kernel_rfl) ?_
          refine WL.storeN rfl rfl rfl rfl rfl (by simp [Value.oneCell']) (ho36.obj 1 rfl) (Nat.le_refl _) rfl (fun wo37 hr37 => ?_)
          have ho37 := ho36.set 1 rfl rfl hr37
          refine WL.nil ⟨(Hp.frontT (L := [_, _, _, _]) ho37).pick [2, 3] (by decide), ?_⟩
          refine WH.one 7 rfl (by kernel_rfl) ?_
          refine WL.storeN rfl rfl rfl rfl rfl (by simp [Value.oneCell']) (ho37.obj 0 rfl) (Nat.le_refl _) rfl (fun wo38 hr38 => ?_)
          have ho38 := ho37.set 0 rfl rfl hr38
          refine WL.nil ⟨(Hp.frontT (L := [_, _, _, _]) ho38).pick [2, 3] (by decide), ?_⟩
          refine WH.done (by kernel_rfl) ?_
          have hz := Hp.pickT (T := [Ri (.slice p1 S.length q1) S, Ri (.slice p2 Lo.length q2) Lo] ++ (OwnS na nc ma mc v1 M ++ [])) [_, _, _, _] [1, 0] ho38 (by decide)
          exact ⟨(b7, b8, (na, nc, ma, mc, v1), (p1, q1, p2, q2)), ⟨rfl, rfl, rfl, rfl⟩, hv1, permE hz (List.Perm.append_left _ (by rw [List.append_nil]; exact List.perm_append_comm))⟩
      · refine ⟨_, rfl, ?_⟩
        refine WL.alloc rfl rfl rfl (fun b8 wo39 hr39 => ?_)
        have ho39 := ho29.new hr39
        refine WL.nil ⟨(Hp.frontT (L := [_, _, _, _]) ho39).pick [2, 3] (by decide), ?_⟩
        refine WH.one 1 rfl (by kernel_rfl) ?_
        refine WL.call rfl rfl rfl rfl rfl ent24 (hT wo39 (hst.hp ho39)) ?_
        rintro _ wo40 ⟨na, nc, ma, mc, v1, rfl, hv1, hr40⟩
        have ho40 := Hp.toTail (L := [_, _, _, _]) (ho39.comb hr40)
        refine WL.nil ⟨(Hp.frontT (L := [_, _, _, _]) ho40).pick [2, 3] (by decide), ?_⟩
        refine WH.one 3 rfl (by kernel_rfl) ?_
        refine WL.call rfl rfl rfl rfl rfl ent25 (hK wo40 (hs1.hp ho40) (hs2.hp ho40)) ?_
        rintro _ wo41 ⟨p1, q1, p2, q2, rfl, hr41⟩
        have ho41 := Hp.toTail (L := [_, _, _, _]) (ho40.comb hr41)
        refine WL.nil ⟨(Hp.frontT (L := [_, _, _, _]) ho41).pick [2, 3] (by decide), ?_⟩
        refine WH.one 6 rfl (by kernel_rfl) ?_
        refine WL.storeN rfl rfl rfl rfl rfl (by simp [Value.oneCell']) (ho41.obj 1 rfl) (Nat.le_refl _) rfl (fun wo42 hr42 => ?_)
        have ho42 := ho41.set 1 rfl rfl hr42
        refine WL.nil ⟨(Hp.frontT (L := [_, _, _, _]) ho42).pick [2, 3] (by decide), ?_⟩
        refine WH.one 7 rfl (by kernel_rfl) ?_
        refine WL.storeN rfl rfl rfl rfl rfl (by simp [Value.oneCell']) (ho42.obj 0 rfl) (Nat.le_refl _) rfl (fun wo43 hr43 => ?_)
        have ho43 := ho42.set 0 rfl rfl hr43
        refine WL.nil ⟨(Hp.frontT (L := [_, _, _, _]) ho43).pick [2, 3] (by decide), ?_⟩
        refine WH.done (by kernel_rfl) ?_
        have hz := Hp.pickT (T := [Ri (.slice p1 S.length q1) S, Ri (.slice p2 Lo.length q2) Lo] ++ (OwnS na nc ma mc v1 M ++ [])) [_, _, _, _] [1, 0] ho43 (by decide)
        exact ⟨(b7, b8, (na, nc, ma, mc, v1), (p1, q1, p2, q2)), ⟨rfl, rfl, rfl, rfl⟩, hv1, permE hz (List.Perm.append_left _ (by rw [List.append_nil]; exact List.perm_append_comm))⟩
    · refine ⟨_, rfl, ?_⟩
      refine WL.alloc rfl rfl rfl (fun b8 wo44 hr44 => ?_)
      have ho44 := hp3.new hr44
      refine WL.nil ⟨(Hp.frontT (L := [_, _, _]) ho44).pick [1, 2] (by decide), ?_⟩
      refine WH.many [1, 4] (by kernel_rfl) (by decide) ?_
      intro iord hiord
      simp only [List.mem_cons, List.not_mem_nil, or_false] at hiord
      rcases hiord with rfl | rfl
      · refine ⟨_, rfl, ?_⟩
        refine WL.call rfl rfl rfl rfl rfl ent24 (hT wo44 (hst.hp ho44)) ?_
        rintro _ wo45 ⟨na, nc, ma, mc, v1, rfl, hv1, hr45⟩
        have ho45 := Hp.toTail (L := [_, _, _]) (ho44.comb hr45)
        refine WL.nil ⟨(Hp.frontT (L := [_, _, _]) ho45).pick [1, 2] (by decide), ?_⟩
        refine WH.many [3, 4] (by kernel_rfl) (by decide) ?_
        intro iord hiord
        simp only [List.mem_cons, List.not_mem_nil, or_false] at hiord
        rcases hiord with rfl | rfl
        · refine ⟨_, rfl, ?_⟩
          refine WL.call rfl rfl rfl rfl rfl ent25 (hK wo45 (hs1.hp ho45) (hs2.hp ho45)) ?_
          rintro _ wo46 ⟨p1, q1, p2, q2, rfl, hr46⟩
          have ho46 := Hp.toTail (L := [_, _, _]) (ho45.comb hr46)
          refine WL.nil ⟨(Hp.frontT (L := [_, _, _]) ho46).pick [1, 2] (by decide), ?_⟩
          refine WH.one 4 rfl (by kernel_rfl) ?_
          refine WL.alloc rfl rfl rfl (fun b7 wo47 hr47 => ?_)
          have ho47 := ho46.new hr47
          refine WL.nil ⟨(Hp.frontT (L := [_, _, _, _]) ho47).pick [2, 3] (by decide), ?_⟩
          refine WH.one 6 rfl (by kernel_rfl) ?_
          refine WL.storeN rfl rfl rfl rfl rfl (by simp [Value.oneCell']) (ho47.obj 0 rfl) (Nat.le_refl _) rfl (fun wo48 hr48 => ?_)
          have ho48 := ho47.set 0 rfl rfl hr48
          refine WL.nil ⟨(Hp.frontT (L := [_, _, _, _]) ho48).pick [2, 3] (by decide), ?_⟩
          refine WH.one 7 rfl (by kernel_rfl) ?_
          refine WL.storeN rfl rfl rfl rfl rfl (by simp [Value.oneCell']) (ho48.obj 1 rfl) (Nat.le_refl _) rfl (fun wo49 hr49 => ?_)
          have ho49 := ho48.set 1 rfl rfl hr49
          refine WL.nil ⟨(Hp.frontT (L := [_, _, _, _]) ho49).pick [2, 3] (by decide), ?_⟩
          refine WH.done (by kernel_rfl) ?_
          have hz := Hp.pickT (T := [Ri (.slice p1 S.length q1) S, Ri (.slice p2 Lo.length q2) Lo] ++ (OwnS na nc ma mc v1 M ++ [])) [_, _, _, _] [0, 1] ho49 (by decide)
          exact ⟨(b7, b8, (na, nc, ma, mc, v1), (p1, q1, p2, q2)), ⟨rfl, rfl, rfl, rfl⟩, hv1, permE hz (List.Perm.append_left _ (by rw [List.append_nil]; exact List.perm_append_comm))⟩
        · refine ⟨_, rfl, ?_⟩
          refine WL.alloc rfl rfl rfl (fun b7 wo50 hr50 => ?_)
          have ho50 := ho45.new hr50
          refine WL.nil ⟨(Hp.frontT (L := [_, _, _, _]) ho50).pick [2, 3] (by decide), ?_⟩
          refine WH.one 3 rfl (by kernel_rfl) ?_
          refine WL.call rfl rfl rfl rfl rfl ent25 (hK wo50 (hs1.hp ho50) (hs2.hp ho50)) ?_
          rintro _ wo51 ⟨p1, q1, p2, q2, rfl, hr51⟩
          have ho51 := Hp.toTail (L := [_, _, _, _]) (ho50.comb hr51)
          refine WL.nil ⟨(Hp.frontT (L := [_, _, _, _]) ho51).pick [2, 3] (by decide), ?_⟩
          refine WH.one 6 rfl (by kernel_rfl) ?_
          refine WL.storeN rfl rfl rfl rfl rfl (by simp [Value.oneCell']) (ho51.obj 0 rfl) (Nat.le_refl _) rfl (fun wo52 hr52 => ?_)
          have ho52 := ho51.set 0 rfl rfl hr52
          refine WL.nil ⟨(Hp.frontT (L := [_, _, _, _]) ho52).pick [2, 3] (by decide), ?_⟩
          refine WH.one 7 rfl (by kernel_rfl) ?_
          refine WL.storeN rfl rfl rfl rfl rfl (by simp [Value.oneCell']) (ho52.obj 1 rfl) (Nat.le_refl _) rfl (fun wo53 hr53 => ?_)
          have ho53 := ho52.set 1 rfl rfl hr53
          refine WL.nil ⟨(Hp.frontT (L := [_, _, _, _]) ho53).pick [2, 3] (by decide), ?_⟩
          refine WH.done (by kernel_rfl) ?_
          have hz := Hp.pickT (T := [Ri (.slice p1 S.length q1) S, Ri (.slice p2 Lo.length q2) Lo] ++ (OwnS na nc ma mc v1 M ++ [])) [_, _, _, _] [0, 1] ho53 (by decide)
          exact ⟨(b7, b8, (na, nc, ma, mc, v1), (p1, q1, p2, q2)), ⟨rfl, rfl, rfl, rfl⟩, hv1, permE hz (List.Perm.append_left _ (by rw [List.append_nil]; exact List.perm_append_comm))⟩
      · refine ⟨_, rfl, ?_⟩
        refine WL.alloc rfl rfl rfl (fun b7 wo54 hr54 => ?_)
        have ho54 := ho44.new hr54
        refine WL.nil ⟨(Hp.frontT (L := [_, _, _, _]) ho54).pick [2, 3] (by decide), ?_⟩
        refine WH.one 1 rfl (by kernel_rfl) ?_
        refine WL.call rfl rfl rfl rfl rfl ent24 (hT wo54 (hst.hp ho54)) ?_
        rintro _ wo55 ⟨na, nc, ma, mc, v1, rfl, hv1, hr55⟩
        have ho55 := Hp.toTail (L := [_, _, _, _]) (ho54.comb hr55)
        refine WL.nil ⟨(Hp.frontT (L := [_, _, _, _]) ho55).pick [2, 3] (by decide), ?_⟩
        refine WH.one 3 rfl (by kernel_rfl) ?_
        refine WL.call rfl rfl rfl rfl rfl ent25 (hK wo55 (hs1.hp ho55) (hs2.hp ho55)) ?_
        rintro _ wo56 ⟨p1, q1, p2, q2, rfl, hr56⟩
        have ho56 := Hp.toTail (L := [_, _, _, _]) (ho55.comb hr56)
        refine WL.nil ⟨(Hp.frontT (L := [_, _, _, _]) ho56).pick [2, 3] (by decide), ?_⟩
        refine WH.one 6 rfl (by kernel_rfl) ?_
        refine WL.storeN rfl rfl rfl rfl rfl (by simp [Value.oneCell']) (ho56.obj 0 rfl) (Nat.le_refl _) rfl (fun wo57 hr57 => ?_)
        have ho57 := ho56.set 0 rfl rfl hr57
        refine WL.nil ⟨(Hp.frontT (L := [_, _, _, _]) ho57).pick [2, 3] (by decide), ?_⟩
        refine WH.one 7 rfl (by kernel_rfl) ?_
        refine WL.storeN rfl rfl rfl rfl rfl (by simp [Value.oneCell']) (ho57.obj 1 rfl) (Nat.le_refl _) rfl (fun wo58 hr58 => ?_)
        have ho58 := ho57.set 1 rfl rfl hr58
        refine WL.nil ⟨(Hp.frontT (L := [_, _, _, _]) ho58).pick [2, 3] (by decide), ?_⟩
        refine WH.done (by kernel_rfl) ?_
        have hz := Hp.pickT (T := [Ri (.slice p1 S.length q1) S, Ri (.slice p2 Lo.length q2) Lo] ++ (OwnS na nc ma mc v1 M ++ [])) [_, _, _, _] [0, 1] ho58 (by decide)
        exact ⟨(b7, b8, (na, nc, ma, mc, v1), (p1, q1, p2, q2)), ⟨rfl, rfl, rfl, rfl⟩, hv1, permE hz (List.Perm.append_left _ (by rw [List.append_nil]; exact List.perm_append_comm))⟩
  rintro ⟨b7, b8, ⟨na, nc, ma, mc, v1⟩, ⟨p1, q1, p2, q2⟩⟩ e3 w3 hsub ⟨hv1, hp3⟩
  refine WC.sub hsub ?_
  clear hsub e3 hp2 hT hK
  replace hv1 : rowsOf v1 = R := hv1
  obtain ⟨Y, hY⟩ : ∃ Y, Y = OwnS na nc ma mc v1 M ++ [Ri (.slice p1 S.length q1) S, Ri (.slice p2 Lo.length q2) Lo] := ⟨_, rfl⟩
  replace hp3 : Hp w w3 ([Stb b7 na v1.length nc ma M.length mc, Mkb b8 (.slice p1 S.length q1) (.slice p2 Lo.length q2)] ++ (OwnS na nc ma mc v1 M ++ [Ri (.slice p1 S.length q1) S, Ri (.slice p2 Lo.length q2) Lo])) := hp3
  rw [← hY] at hp3
  have hstY : ∀ {w' : World} {L : List Ent}, Hp w w' L → (∀ x ∈ Y, x ∈ L) → Stc w' na ma v1 M := fun {w' L} h hsub => by
    subst hY
    exact Stc.own (n := v1.length) (nc := nc) (m := M.length) (mc := mc) h (hsub _ (by simp)) (hsub _ (by simp)) (fun x hx => hsub x (by simp [hx]))
  have hsS : ∀ {w' : World} {L : List Ent}, Hp w w' L → (∀ x ∈ Y, x ∈ L) → Sl w' p1 (zs S) ∧ Sl w' p2 (zs Lo) := fun {w' L} h hsub => by
    subst hY
    exact ⟨Sl.of_row (h.sat (Ri (.slice p1 S.length q1) S) (hsub _ (by simp))), Sl.of_row (h.sat (Ri (.slice p2 Lo.length q2) Lo) (hsub _ (by simp)))⟩
  have hl1 : v1.length = R.length := by rw [← hv1, List.length_map]
  have hsb1 : strB v1 M = true := by rw [strB_R, hv1]; exact hC1
  have hok1 := strB_ok hsb1
  have hr1 : ∀ x ∈ v1, x.2.2.length ≤ 1000000 := fun x hx => by have := hok1.len x hx; omega
  have hM6 : M.length ≤ 6 := by omega
  clear hY
  repeat (first | refine zA ?_ | refine zB ?_ | refine zC rfl rfl rfl ?_ | refine zD ?_ | refine zE ?_ | refine zF ?_ | refine zG rfl ?_ | refine zH rfl ?_ | refine zI rfl rfl rfl ?_ | refine zJ rfl rfl ?_ | refine zK ?_ | refine zL ?_ | refine zM rfl ?_ | refine zN ?_)
  refine WL.call rfl rfl rfl rfl rfl ent16 (short_any s hsl w3) ?_
  rintro _ w4 ⟨rfl, hw4⟩
  obtain rfl := hw4.symm
  have hq := shortM_len s
  generalize shortM s = t at *
  have hnl : (notS t).length ≤ 406 := by unfold notS; rw [List.length_append, List.length_append]; show 5 + t.length + 1 ≤ _; omega
  have hH := fun (u : Str) (hu : u.length ≤ 1000) w' (hG : Gl w') (h : Stc w' na ma v1 M) => HoldsT_any na nc ma mc v1 M (by omega) hr1 u hu w' hG h
  repeat (first | refine zA ?_ | refine zB ?_ | refine zC rfl rfl rfl ?_ | refine zD ?_ | refine zE ?_ | refine zF ?_ | refine zG rfl ?_ | refine zH rfl ?_ | refine zI rfl rfl rfl ?_ | refine zJ rfl rfl ?_ | refine zK ?_ | refine zL ?_ | refine zM rfl ?_ | refine zN ?_)
  refine WL.sCat (a := [40, 110, 111, 116, 32]) (b := t) rfl rfl rfl rfl (by show 5 + t.length ≤ _; omega) ?_
  refine WL.sCat (a := [40, 110, 111, 116, 32] ++ t) (b := [41]) rfl rfl rfl rfl (by rw [List.length_append]; show 5 + t.length + 1 ≤ _; omega) ?_
  rw [show [40, 110, 111, 116, 32] ++ t ++ [41] = notS t from rfl]
  repeat (first | refine zA ?_ | refine zB ?_ | refine zC rfl rfl rfl ?_ | refine zD ?_ | refine zE ?_ | refine zF ?_ | refine zG rfl ?_ | refine zH rfl ?_ | refine zI rfl rfl rfl ?_ | refine zJ rfl rfl ?_ | refine zK ?_ | refine zL ?_ | refine zM rfl ?_ | refine zN ?_)
  refine WL.loadN rfl rfl rfl rfl rfl (cs := [.slice na v1.length nc, .slice ma M.length mc]) rfl (fun q v hq => cell_of_obj (hp3.obj 0 rfl) (by rw [Nat.zero_add]; simpa using hq)) ?_
  refine WL.pure rfl rfl rfl ?_
  refine WL.call rfl rfl rfl rfl rfl ent26 (hH t (by omega) w3 (hG.hp hp3) (hstY hp3 (fun x hx => by simp [hx]))) ?_
  intro hv w4 hHW
  obtain ⟨hb, sa, sl, sc, qa, ql, qc, ec, E1, rfl, hpE, hsh1⟩ := hHW.shape hsb1
  have hp4 := Hp.toTail (L := [_, _]) (hp3.comb hpE)
  clear hHW hpE hp3
  repeat (first | refine zA ?_ | refine zB ?_ | refine zC rfl rfl rfl ?_ | refine zD ?_ | refine zE ?_ | refine zF ?_ | refine zG rfl ?_ | refine zH rfl ?_ | refine zI rfl rfl rfl ?_ | refine zJ rfl rfl ?_ | refine zK ?_ | refine zL ?_ | refine zM rfl ?_ | refine zN ?_)
  refine WL.alloc rfl rfl rfl (fun b10 w5 h5 => ?_)
  have hp5 := hp4.new h5
  refine WL.storeN rfl rfl rfl rfl rfl (by simp [Value.oneCell']) (hp5.obj 0 rfl) (Nat.le_refl _) rfl (fun w6 h6 => ?_)
  have hp6 : Hp w w6 ([Rb b10 hb sa sl sc qa ql qc, Stb b7 na v1.length nc ma M.length mc, Mkb b8 (.slice p1 S.length q1) (.slice p2 Lo.length q2)] ++ (E1 ++ Y)) := hp5.set 0 rfl rfl h6
  clear hp4 hp5 h5 h6
  repeat (first | refine zA ?_ | refine zB ?_ | refine zC rfl rfl rfl ?_ | refine zD ?_ | refine zE ?_ | refine zF ?_ | refine zG rfl ?_ | refine zH rfl ?_ | refine zI rfl rfl rfl ?_ | refine zJ rfl rfl ?_ | refine zK ?_ | refine zL ?_ | refine zM rfl ?_ | refine zN ?_)
  refine WL.loadN rfl rfl rfl rfl rfl (cs := [.slice na v1.length nc, .slice ma M.length mc]) rfl (fun q v hq => cell_of_obj (hp6.obj 1 rfl) (by rw [Nat.zero_add]; simpa using hq)) ?_
  refine WL.pure rfl rfl rfl ?_
  refine WL.call rfl rfl rfl rfl rfl ent26 (hH (notS t) (by omega) w6 (hG.hp hp6) (hstY hp6 (fun x hx => by simp [hx]))) ?_
  intro hv w7 hHW
  obtain ⟨hb2, sa2, sl2, sc2, qa2, ql2, qc2, ec2, E2, rfl, hpE, hsh2⟩ := hHW.shape hsb1
  have hp7 := Hp.toTail (L := [_, _, _]) (hp6.comb hpE)
  clear hHW hpE hp6 hH
  repeat (first | refine zA ?_ | refine zB ?_ | refine zC rfl rfl rfl ?_ | refine zD ?_ | refine zE ?_ | refine zF ?_ | refine zG rfl ?_ | refine zH rfl ?_ | refine zI rfl rfl rfl ?_ | refine zJ rfl rfl ?_ | refine zK ?_ | refine zL ?_ | refine zM rfl ?_ | refine zN ?_)
  refine WL.alloc rfl rfl rfl (fun b12 w8 h8 => ?_)
  have hp8 := hp7.new h8
  refine WL.storeN rfl rfl rfl rfl rfl (by simp [Value.oneCell']) (hp8.obj 0 rfl) (Nat.le_refl _) rfl (fun w9 h9 => ?_)
  have hp9 : Hp w w9 ([Rb b12 hb2 sa2 sl2 sc2 qa2 ql2 qc2, Rb b10 hb sa sl sc qa ql qc, Stb b7 na v1.length nc ma M.length mc, Mkb b8 (.slice p1 S.length q1) (.slice p2 Lo.length q2)] ++ (E2 ++ (E1 ++ Y))) := hp8.set 0 rfl rfl h9
  clear hp7 hp8 h8 h9
  rcases hsh1 with ⟨hf, rfl, _⟩ | ⟨f, hf, rfl, hsh1⟩
  · repeat (first | refine zA ?_ | refine zB ?_ | refine zC rfl rfl rfl ?_ | refine zD ?_ | refine zE ?_ | refine zF ?_ | refine zG rfl ?_ | refine zH rfl ?_ | refine zI rfl rfl rfl ?_ | refine zJ rfl rfl ?_ | refine zK ?_ | refine zL ?_ | refine zM rfl ?_ | refine zN ?_)
    refine WL.call rfl rfl rfl rfl rfl ent20 (awake_any w9 (hG.hp hp9)) ?_
    rintro _ w10 ⟨rfl, hp10⟩
    repeat (first | refine zA ?_ | refine zB ?_ | refine zC rfl rfl rfl ?_ | refine zD ?_ | refine zE ?_ | refine zF ?_ | refine zG rfl ?_ | refine zH rfl ?_ | refine zI rfl rfl rfl ?_ | refine zJ rfl rfl ?_ | refine zK ?_ | refine zL ?_ | refine zM rfl ?_ | refine zN ?_)
    exact Res.one rfl rfl rfl ⟨rfl, (hp9.call hp10.below).nil'⟩
  rcases hsh2 with ⟨hg, rfl, _⟩ | ⟨g, hg, rfl, hsh2⟩
  · repeat (first | refine zA ?_ | refine zB ?_ | refine zC rfl rfl rfl ?_ | refine zD ?_ | refine zE ?_ | refine zF ?_ | refine zG rfl ?_ | refine zH rfl ?_ | refine zI rfl rfl rfl ?_ | refine zJ rfl rfl ?_ | refine zK ?_ | refine zL ?_ | refine zM rfl ?_ | refine zN ?_)
    refine WL.call rfl rfl rfl rfl rfl ent20 (awake_any w9 (hG.hp hp9)) ?_
    rintro _ w10 ⟨rfl, hp10⟩
    repeat (first | refine zA ?_ | refine zB ?_ | refine zC rfl rfl rfl ?_ | refine zD ?_ | refine zE ?_ | refine zF ?_ | refine zG rfl ?_ | refine zH rfl ?_ | refine zI rfl rfl rfl ?_ | refine zJ rfl rfl ?_ | refine zK ?_ | refine zL ?_ | refine zM rfl ?_ | refine zN ?_)
    exact Res.one rfl rfl rfl ⟨rfl, (hp9.call hp10.below).nil'⟩
  obtain rfl := parse_one (by decide) (tok_not t) hf hg
  have hwf := parseM_wf hf
  have hsz := (parseM_sz hf).2
  refine WL.pure rfl rfl rfl ?_
  refine WL.nil ?_
  refine WC.seq ?_
  refine WC.seq ?_
  refine WC.reg ?_
  repeat (first | refine WL.pure rfl rfl rfl ?_ | refine WL.off rfl rfl rfl ?_)
  refine WL.nil ?_
  refine WC.condF rfl ?_
  refine WC.skip ?_
  refine WC.seq ?_
  refine WC.mid Unit (fun _ => [(1, st t), (7, ptr b7), (8, ptr b8), (9, st (notS t)), (10, ptr b10), (12, ptr b12)]) (fun _ w' => Hp w w' ([Rb b12 hb2 sa2 sl2 sc2 qa2 ql2 qc2, Rb b10 hb sa sl sc qa ql qc, Stb b7 na v1.length nc ma M.length mc, Mkb b8 (.slice p1 S.length q1) (.slice p2 Lo.length q2)] ++ (E2 ++ (E1 ++ Y)))) ?_ ?_
  · rcases hsh1 with ⟨rfl, hA, _⟩ | ⟨rfl, _⟩
    · rcases hsh2 with ⟨rfl, hA2, _⟩ | ⟨rfl, _⟩
      · exact (holds_not hok1 hA hA2).elim
      · repeat (first | refine zA ?_ | refine zB ?_ | refine zC rfl rfl rfl ?_ | refine zD ?_ | refine zE ?_ | refine zF ?_ | refine zG rfl ?_ | refine zH rfl ?_ | refine zI rfl rfl rfl ?_ | refine zJ rfl rfl ?_ | refine zK ?_ | refine zL ?_ | refine zM rfl ?_ | refine zN ?_)
        refine WL.loadB rfl rfl rfl rfl rfl (hp9.obj 1 rfl) (j := 0) rfl ?_
        repeat (first | refine zA ?_ | refine zB ?_ | refine zC rfl rfl rfl ?_ | refine zD ?_ | refine zE ?_ | refine zF ?_ | refine zG rfl ?_ | refine zH rfl ?_ | refine zI rfl rfl rfl ?_ | refine zJ rfl rfl ?_ | refine zK ?_ | refine zL ?_ | refine zM rfl ?_ | refine zN ?_)
        refine WL.loadB rfl rfl rfl rfl rfl (hp9.obj 0 rfl) (j := 0) rfl ?_
        repeat (first | refine zA ?_ | refine zB ?_ | refine zC rfl rfl rfl ?_ | refine zD ?_ | refine zE ?_ | refine zF ?_ | refine zG rfl ?_ | refine zH rfl ?_ | refine zI rfl rfl rfl ?_ | refine zJ rfl rfl ?_ | refine zK ?_ | refine zL ?_ | refine zM rfl ?_ | refine zN ?_)
        exact ⟨(), ⟨rfl, rfl, rfl, rfl, rfl, rfl, rfl⟩, hp9⟩
    · repeat (first | refine zA ?_ | refine zB ?_ | refine zC rfl rfl rfl ?_ | refine zD ?_ | refine zE ?_ | refine zF ?_ | refine zG rfl ?_ | refine zH rfl ?_ | refine zI rfl rfl rfl ?_ | refine zJ rfl rfl ?_ | refine zK ?_ | refine zL ?_ | refine zM rfl ?_ | refine zN ?_)
      refine WL.loadB rfl rfl rfl rfl rfl (hp9.obj 1 rfl) (j := 0) rfl ?_
      repeat (first | refine zA ?_ | refine zB ?_ | refine zC rfl rfl rfl ?_ | refine zD ?_ | refine zE ?_ | refine zF ?_ | refine zG rfl ?_ | refine zH rfl ?_ | refine zI rfl rfl rfl ?_ | refine zJ rfl rfl ?_ | refine zK ?_ | refine zL ?_ | refine zM rfl ?_ | refine zN ?_)
      exact ⟨(), ⟨rfl, rfl, rfl, rfl, rfl, rfl, rfl⟩, hp9⟩
  rintro _ e10 w10 hsub hp10
  refine WC.sub hsub ?_
  clear hsub e10 hp9
  replace hp10 : Hp w w10 ([Rb b12 hb2 sa2 sl2 sc2 qa2 ql2 qc2, Rb b10 hb sa sl sc qa ql qc, Stb b7 na v1.length nc ma M.length mc, Mkb b8 (.slice p1 S.length q1) (.slice p2 Lo.length q2)] ++ (E2 ++ (E1 ++ Y))) := hp10
  refine WC.seq ?_
  refine WC.mid Unit (fun _ => [(1, st t), (8, ptr b8), (9, st (notS t))]) (fun _ w' => Hp w w' ([Mkb b8 (.slice p1 S.length q1) (.slice p2 Lo.length q2)] ++ (E2 ++ (E1 ++ Y)))) ?_ ?_
  · rcases hsh1 with ⟨rfl, hA, rfl, rfl⟩ | ⟨rfl, stem, loop, hA, rfl, rfl, rfl⟩
    · repeat (first | refine zA ?_ | refine zB ?_ | refine zC rfl rfl rfl ?_ | refine zD ?_ | refine zE ?_ | refine zF ?_ | refine zG rfl ?_ | refine zH rfl ?_ | refine zI rfl rfl rfl ?_ | refine zJ rfl rfl ?_ | refine zK ?_ | refine zL ?_ | refine zM rfl ?_ | refine zN ?_)
      refine WL.loadB rfl rfl rfl rfl rfl (hp10.obj 1 rfl) (j := 0) rfl ?_
      repeat (first | refine zA ?_ | refine zB ?_ | refine zC rfl rfl rfl ?_ | refine zD ?_ | refine zE ?_ | refine zF ?_ | refine zG rfl ?_ | refine zH rfl ?_ | refine zI rfl rfl rfl ?_ | refine zJ rfl rfl ?_ | refine zK ?_ | refine zL ?_ | refine zM rfl ?_ | refine zN ?_)
      exact ⟨(), ⟨rfl, rfl, rfl, rfl⟩, Hp.pickT (T := E2 ++ (E1 ++ Y)) [_, _, _, _] [3] hp10 (by decide)⟩
    · have hz : ∀ {w' : World} {L : List Ent}, Hp w w' L → Rna (.slice qa loop.length qc) loop.length loop ∈ L → Rna (.slice sa stem.length sc) stem.length stem ∈ L → Sl w' sa (zs (upN stem)) ∧ Sl w' qa (zs (upN loop)) := fun {w' L} h m1 m2 => by
        have k1 := Sl.of_row (h.sat _ m2)
        have k2 := Sl.of_row (h.sat _ m1)
        rw [natL_zs] at k1 k2
        exact ⟨k1, k2⟩
      have hlts := hA.lts hok1
      have hl65 := hA.l1
      have hl66 := hA.l2
      have hl1p := List.length_pos_iff.2 hA.ne2
      have hmk1 : (mkL M stem).length = stem.length := List.length_map _
      have hmk2 : (mkL M loop).length = loop.length := List.length_map _
      repeat (first | refine zA ?_ | refine zB ?_ | refine zC rfl rfl rfl ?_ | refine zD ?_ | refine zE ?_ | refine zF ?_ | refine zG rfl ?_ | refine zH rfl ?_ | refine zI rfl rfl rfl ?_ | refine zJ rfl rfl ?_ | refine zK ?_ | refine zL ?_ | refine zM rfl ?_ | refine zN ?_)
      refine WL.loadB rfl rfl rfl rfl rfl (hp10.obj 1 rfl) (j := 0) rfl ?_
      repeat (first | refine zA ?_ | refine zB ?_ | refine zC rfl rfl rfl ?_ | refine zD ?_ | refine zE ?_ | refine zF ?_ | refine zG rfl ?_ | refine zH rfl ?_ | refine zI rfl rfl rfl ?_ | refine zJ rfl rfl ?_ | refine zK ?_ | refine zL ?_ | refine zM rfl ?_ | refine zN ?_)
      refine WC.mid Unit (fun _ => [(1, st t), (7, ptr b7), (8, ptr b8), (9, st (notS t)), (10, ptr b10), (12, ptr b12), (14, .bool true), (15, .int .i64 0)]) (fun _ w' => Hp w w' ([Rb b12 hb2 sa2 sl2 sc2 qa2 ql2 qc2, Rb b10 false sa stem.length sc qa loop.length qc, Stb b7 na v1.length nc ma M.length mc, Mkb b8 (.slice p1 S.length q1) (.slice p2 Lo.length q2)] ++ (E2 ++ ([Rna (.slice qa loop.length qc) loop.length loop, Rna (.slice sa stem.length sc) stem.length stem] ++ Y)))) ?_ ?_
      · refine WC.regH (fun w' => Hp w w' [Rb b10 false sa stem.length sc qa loop.length qc, Stb b7 na v1.length nc ma M.length mc]) mixed (by kernel_rfl) (fun w11 hw11 hh11 => ?_)
        have hp11 := hp10.keep hw11
        have hS := (Hp.frontT (L := [_, _, _, _]) hp11).pick [1, 2] (by decide)
        refine WH.take 0 (by kernel_rfl) rfl (by kernel_rfl) rfl rfl (fun w' h => run_loadN (cs := [.slice na v1.length nc, .slice ma M.length mc]) rfl rfl rfl rfl (fun q v hq => by rw [Addr.add_lit]; exact cell_of_obj (h.obj 1 rfl) (by rw [Nat.zero_add]; simpa using hq))) hS ?_
        refine WH.pure 1 (by kernel_rfl) rfl (by kernel_rfl) rfl rfl rfl (hS) ?_
        refine WH.load 2 (by kernel_rfl) rfl (by kernel_rfl) rfl rfl rfl rfl rfl (fun w' h => cell_of_obj (h.obj 0 rfl) (j := 1) rfl) hS ?_
        refine WH.take 4 (by kernel_rfl) rfl (by kernel_rfl) rfl rfl (fun w' h => run_loadN (cs := [.slice na v1.length nc, .slice ma M.length mc]) rfl rfl rfl rfl (fun q v hq => by rw [Addr.add_lit]; exact cell_of_obj (h.obj 1 rfl) (by rw [Nat.zero_add]; simpa using hq))) hS ?_
        refine WH.pure 5 (by kernel_rfl) rfl (by kernel_rfl) rfl rfl rfl (hS) ?_
        refine WH.load 6 (by kernel_rfl) rfl (by kernel_rfl) rfl rfl rfl rfl rfl (fun w' h => cell_of_obj (h.obj 0 rfl) (j := 2) rfl) hS ?_
        refine WH.pure 8 (by kernel_rfl) rfl (by kernel_rfl) rfl rfl rfl (hS) ?_
        refine WH.one 3 rfl (by kernel_rfl) ?_
        refine WL.call rfl rfl rfl rfl rfl ent27 (Marks_any na nc ma mc v1 M sa sc stem (by omega) (fun v hv => hlts v (List.mem_append_left _ hv)) w11 (hstY hp11 (fun x hx => by simp [hx])) (hz hp11 (by simp) (by simp)).1) ?_
        rintro _ w12 ⟨ra, rc, rfl, hp12⟩
        have hp12 := hp11.comb hp12
        refine WL.nil ⟨(Hp.frontT (L := [_, _, _, _, _]) hp12).pick [2, 3] (by decide), ?_⟩
        refine WH.one 7 rfl (by kernel_rfl) ?_
        refine WL.call rfl rfl rfl rfl rfl ent27 (Marks_any na nc ma mc v1 M qa qc loop (by omega) (fun v hv => hlts v (List.mem_append_right _ hv)) w12 (hstY hp12 (fun x hx => by simp [hx])) (hz hp12 (by simp) (by simp)).2) ?_
        rintro _ w13 ⟨ta, tc, rfl, hp13⟩
        have hp13 := hp12.comb hp13
        refine WL.nil ⟨(Hp.frontT (L := [_, _, _, _, _, _]) hp13).pick [3, 4] (by decide), ?_⟩
        have hV := Value_any ra ta rc tc (mkL M stem) (mkL M loop) (notS t) (by omega) (by omega) w13 (hG.hp hp13) (Sl.of_row (hp13.at 1 rfl)) (Sl.of_row (hp13.at 0 rfl))
        obtain ⟨bv, hbv, hbs⟩ := ValueM_ok hg (l1 := mkL M stem) (l2 := mkL M loop) (by omega) (by omega) (by omega) (by
          have := mk_le hok1.mkk (stem ++ loop)
          unfold mkL at this ⊢
          rwa [List.map_append] at this)
        have hbt : bv = true := hbs.2 (by
          simp only [satS, if_true]
          have := hA.no
          rw [List.map_append] at this
          rw [hmk1]
          exact this)
        rw [hbv, hbt, hmk1, hmk2] at hV
        refine WH.one 9 rfl (by kernel_rfl) ?_
        refine WL.call rfl rfl rfl rfl rfl ent17 hV ?_
        rintro _ w14 ⟨rfl, hp14⟩
        have hp15 := hp13.call hp14.below
        have hS := (Hp.frontT (L := [_, _, _, _, _, _]) hp15).pick [3, 4] (by decide)
        refine WL.nil ⟨hS, ?_⟩
        refine WH.pure 10 (by kernel_rfl) rfl (by kernel_rfl) rfl rfl rfl (hS) ?_
        refine WH.pure 11 (by kernel_rfl) rfl (by kernel_rfl) rfl rfl rfl (hS) ?_
        refine WH.pure 12 (by kernel_rfl) rfl (by kernel_rfl) rfl rfl rfl (hS) ?_
        refine WH.pure 13 (by kernel_rfl) rfl (by kernel_rfl) rfl rfl rfl (hS) ?_
        refine WH.pure 14 (by kernel_rfl) rfl (by kernel_rfl) rfl rfl rfl (hS) ?_
        refine WH.done (by kernel_rfl) ?_
        exact ⟨(), ⟨rfl, rfl, rfl, rfl, rfl, rfl, rfl, rfl, rfl⟩, hp15.tail.tail⟩
      rintro _ e11 w11 hsub hp11
      refine WC.sub hsub ?_
      clear hsub e11 hp10
      replace hp11 : Hp w w11 ([Rb b12 hb2 sa2 sl2 sc2 qa2 ql2 qc2, Rb b10 false sa stem.length sc qa loop.length qc, Stb b7 na v1.length nc ma M.length mc, Mkb b8 (.slice p1 S.length q1) (.slice p2 Lo.length q2)] ++ (E2 ++ ([Rna (.slice qa loop.length qc) loop.length loop, Rna (.slice sa stem.length sc) stem.length stem] ++ Y))) := hp11
      have hI := IsRun_any na nc ma mc v1 M (by omega) hr1 sa qa sc qc (upN stem) (upN loop) w11 (hstY hp11 (fun x hx => by simp [hx])) (hz hp11 (by simp) (by simp)).1 (hz hp11 (by simp) (by simp)).2
      rw [upN_len, upN_len, show (v1.map fun x => x.2.2) = rowsOf v1 from rfl, LassoA.runs hok1 hA] at hI
      repeat (first | refine zA ?_ | refine zB ?_ | refine zC rfl rfl rfl ?_ | refine zD ?_ | refine zE ?_ | refine zF ?_ | refine zG rfl ?_ | refine zH rfl ?_ | refine zI rfl rfl rfl ?_ | refine zJ rfl rfl ?_ | refine zK ?_ | refine zL ?_ | refine zM rfl ?_ | refine zN ?_)
      refine WL.loadN rfl rfl rfl rfl rfl (cs := [.slice na v1.length nc, .slice ma M.length mc]) rfl (fun q v hq => cell_of_obj (hp11.obj 2 rfl) (by rw [Nat.zero_add]; simpa using hq)) ?_
      refine WL.pure rfl rfl rfl ?_
      refine WL.loadB rfl rfl rfl rfl rfl (hp11.obj 1 rfl) (j := 1) rfl ?_
      refine WL.pure rfl rfl rfl ?_
      refine WL.loadB rfl rfl rfl rfl rfl (hp11.obj 1 rfl) (j := 2) rfl ?_
      refine WL.call rfl rfl rfl rfl rfl ent28 hI ?_
      rintro _ w12 ⟨rfl, hp12⟩
      have hp13 := hp11.call hp12.below
      repeat (first | refine zA ?_ | refine zB ?_ | refine zC rfl rfl rfl ?_ | refine zD ?_ | refine zE ?_ | refine zF ?_ | refine zG rfl ?_ | refine zH rfl ?_ | refine zI rfl rfl rfl ?_ | refine zJ rfl rfl ?_ | refine zK ?_ | refine zL ?_ | refine zM rfl ?_ | refine zN ?_)
      exact ⟨(), ⟨rfl, rfl, rfl, rfl⟩, Hp.pickT (T := E2 ++ (_ ++ Y)) [_, _, _, _] [3] hp13 (by decide)⟩
  rintro _ e11 w11 hsub hp11
  refine WC.sub hsub ?_
  clear hsub e11 hp10
  replace hp11 : Hp w w11 ([Mkb b8 (.slice p1 S.length q1) (.slice p2 Lo.length q2)] ++ (E2 ++ (E1 ++ Y))) := hp11
  have hps := (parseM_sz hf).1
  have hP1 : PushM t = .tuple #[st (textF (pushM f false)), .int .i64 0] := by unfold PushM; rw [hf]
  have hP2 : PushM (notS t) = .tuple #[st (textF (pushM f true)), .int .i64 0] := by unfold PushM; rw [hg]; rfl
  have hlen : ∀ c, (textF (pushM f c)).length ≤ 1000 := fun c => by
    obtain ⟨k1, k2⟩ := pushM_sh f c hps
    have := textF_len _ k1
    omega
  have hmm : ∀ m ∈ S ++ Lo, 0 ≤ m ∧ m ≤ 15 := fun m hm => by
    rcases List.mem_append.1 hm with h | h
    · exact hS0.2 m h
    · exact hL0.2.2 m h
  obtain ⟨u, hu, hus⟩ := ValueM_ok hf (l1 := S) (l2 := Lo) (by have := hS0.1; omega) hL0.1 (by have := hL0.2.1; omega) hmm
  obtain ⟨v, j1, hv, hvs⟩ := value_text (l1 := S) (l2 := Lo) (pushM_wf f false hwf) (by have := hS0.1; omega) hL0.1 (by have := hL0.2.1; omega) hmm
  obtain ⟨x, j2, hx, hxs⟩ := value_text (l1 := S) (l2 := Lo) (pushM_wf f true hwf) (by have := hS0.1; omega) hL0.1 (by have := hL0.2.1; omega) hmm
  rw [push_sat _ f false 0 hwf, if_neg (by decide)] at hvs
  rw [push_sat _ f true 0 hwf, if_pos rfl] at hxs
  have hVal := fun (q : Str) (hq : q.length ≤ 1000) w' (hG : Gl w') (z : Sl w' p1 (zs S) ∧ Sl w' p2 (zs Lo)) => Value_any p1 p2 q1 q2 S Lo q hq (by have := hS0.1; have := hL0.2.1; omega) w' hG z.1 z.2
  repeat (first | refine zA ?_ | refine zB ?_ | refine zC rfl rfl rfl ?_ | refine zD ?_ | refine zE ?_ | refine zF ?_ | refine zG rfl ?_ | refine zH rfl ?_ | refine zI rfl rfl rfl ?_ | refine zJ rfl rfl ?_ | refine zK ?_ | refine zL ?_ | refine zM rfl ?_ | refine zN ?_)
  refine WL.call rfl rfl rfl rfl rfl ent22 (Push_any t (by omega) w11 (hG.hp hp11)) ?_
  rintro _ w12 ⟨rfl, hp12⟩
  have hp12 := hp11.call hp12.below
  rw [hP1]
  repeat (first | refine zA ?_ | refine zB ?_ | refine zC rfl rfl rfl ?_ | refine zD ?_ | refine zE ?_ | refine zF ?_ | refine zG rfl ?_ | refine zH rfl ?_ | refine zI rfl rfl rfl ?_ | refine zJ rfl rfl ?_ | refine zK ?_ | refine zL ?_ | refine zM rfl ?_ | refine zN ?_)
  refine WL.call rfl rfl rfl rfl rfl ent22 (Push_any (notS t) (by omega) w12 (hG.hp hp12)) ?_
  rintro _ w13 ⟨rfl, hp13⟩
  have hp13 := hp12.call hp13.below
  rw [hP2]
  repeat (first | refine zA ?_ | refine zB ?_ | refine zC rfl rfl rfl ?_ | refine zD ?_ | refine zE ?_ | refine zF ?_ | refine zG rfl ?_ | refine zH rfl ?_ | refine zI rfl rfl rfl ?_ | refine zJ rfl rfl ?_ | refine zK ?_ | refine zL ?_ | refine zM rfl ?_ | refine zN ?_)
  refine WL.loadB rfl rfl rfl rfl rfl (hp13.obj 0 rfl) (j := 0) rfl ?_
  refine WL.pure rfl rfl rfl ?_
  refine WL.loadB rfl rfl rfl rfl rfl (hp13.obj 0 rfl) (j := 1) rfl ?_
  refine WL.pure rfl rfl rfl ?_
  refine WL.call rfl rfl rfl rfl rfl ent17 (hVal t (by omega) w13 (hG.hp hp13) (hsS hp13 (fun x hx => by simp [hx]))) ?_
  rintro _ w14 ⟨rfl, hp14⟩
  have hp14 := hp13.call hp14.below
  rw [hu]
  repeat (first | refine zA ?_ | refine zB ?_ | refine zC rfl rfl rfl ?_ | refine zD ?_ | refine zE ?_ | refine zF ?_ | refine zG rfl ?_ | refine zH rfl ?_ | refine zI rfl rfl rfl ?_ | refine zJ rfl rfl ?_ | refine zK ?_ | refine zL ?_ | refine zM rfl ?_ | refine zN ?_)
  refine WL.loadB rfl rfl rfl rfl rfl (hp14.obj 0 rfl) (j := 0) rfl ?_
  refine WL.pure rfl rfl rfl ?_
  refine WL.loadB rfl rfl rfl rfl rfl (hp14.obj 0 rfl) (j := 1) rfl ?_
  refine WL.pure rfl rfl rfl ?_
  refine WL.call rfl rfl rfl rfl rfl ent17 (hVal (textF (pushM f false)) (hlen false) w14 (hG.hp hp14) (hsS hp14 (fun x hx => by simp [hx]))) ?_
  rintro _ w15 ⟨rfl, hp15⟩
  have hp15 := hp14.call hp15.below
  rw [hv]
  repeat (first | refine zA ?_ | refine zB ?_ | refine zC rfl rfl rfl ?_ | refine zD ?_ | refine zE ?_ | refine zF ?_ | refine zG rfl ?_ | refine zH rfl ?_ | refine zI rfl rfl rfl ?_ | refine zJ rfl rfl ?_ | refine zK ?_ | refine zL ?_ | refine zM rfl ?_ | refine zN ?_)
  refine WL.loadB rfl rfl rfl rfl rfl (hp15.obj 0 rfl) (j := 0) rfl ?_
  refine WL.pure rfl rfl rfl ?_
  refine WL.loadB rfl rfl rfl rfl rfl (hp15.obj 0 rfl) (j := 1) rfl ?_
  refine WL.pure rfl rfl rfl ?_
  refine WL.call rfl rfl rfl rfl rfl ent17 (hVal (textF (pushM f true)) (hlen true) w15 (hG.hp hp15) (hsS hp15 (fun x hx => by simp [hx]))) ?_
  rintro _ w16 ⟨rfl, hp16⟩
  have hp16 := hp15.call hp16.below
  rw [hx]
  clear hp11 hp12 hp13 hp14 hp15 hu hv hx hVal
  rcases hvs with ⟨rfl, hvs⟩ | ⟨rfl, rfl⟩
  · obtain rfl : v = u := bool_iff hvs hus
    rcases hxs with ⟨rfl, hxs⟩ | ⟨rfl, rfl⟩
    · obtain rfl : x = !v := bool_iff hxs (by rw [← hvs]; cases v <;> simp)
      cases v <;>
      · repeat (first | refine zA ?_ | refine zB ?_ | refine zC rfl rfl rfl ?_ | refine zD ?_ | refine zE ?_ | refine zF ?_ | refine zG rfl ?_ | refine zH rfl ?_ | refine zI rfl rfl rfl ?_ | refine zJ rfl rfl ?_ | refine zK ?_ | refine zL ?_ | refine zM rfl ?_ | refine zN ?_)
        refine WL.call rfl rfl rfl rfl rfl ent20 (awake_any w16 (hG.hp hp16)) ?_
        rintro _ w17 ⟨rfl, hp17⟩
        repeat (first | refine zA ?_ | refine zB ?_ | refine zC rfl rfl rfl ?_ | refine zD ?_ | refine zE ?_ | refine zF ?_ | refine zG rfl ?_ | refine zH rfl ?_ | refine zI rfl rfl rfl ?_ | refine zJ rfl rfl ?_ | refine zK ?_ | refine zL ?_ | refine zM rfl ?_ | refine zN ?_)
        exact Res.one rfl rfl rfl ⟨rfl, (hp16.call hp17.below).nil'⟩
    · cases v <;>
      · repeat (first | refine zA ?_ | refine zB ?_ | refine zC rfl rfl rfl ?_ | refine zD ?_ | refine zE ?_ | refine zF ?_ | refine zG rfl ?_ | refine zH rfl ?_ | refine zI rfl rfl rfl ?_ | refine zJ rfl rfl ?_ | refine zK ?_ | refine zL ?_ | refine zM rfl ?_ | refine zN ?_)
        refine WL.call rfl rfl rfl rfl rfl ent20 (awake_any w16 (hG.hp hp16)) ?_
        rintro _ w17 ⟨rfl, hp17⟩
        repeat (first | refine zA ?_ | refine zB ?_ | refine zC rfl rfl rfl ?_ | refine zD ?_ | refine zE ?_ | refine zF ?_ | refine zG rfl ?_ | refine zH rfl ?_ | refine zI rfl rfl rfl ?_ | refine zJ rfl rfl ?_ | refine zK ?_ | refine zL ?_ | refine zM rfl ?_ | refine zN ?_)
        exact Res.one rfl rfl rfl ⟨rfl, (hp16.call hp17.below).nil'⟩
  · rcases hxs with ⟨rfl, hxs⟩ | ⟨rfl, rfl⟩
    · obtain rfl : x = !u := bool_iff hxs (by rw [← hus]; cases u <;> simp)
      cases u <;>
      · repeat (first | refine zA ?_ | refine zB ?_ | refine zC rfl rfl rfl ?_ | refine zD ?_ | refine zE ?_ | refine zF ?_ | refine zG rfl ?_ | refine zH rfl ?_ | refine zI rfl rfl rfl ?_ | refine zJ rfl rfl ?_ | refine zK ?_ | refine zL ?_ | refine zM rfl ?_ | refine zN ?_)
        refine WL.call rfl rfl rfl rfl rfl ent20 (awake_any w16 (hG.hp hp16)) ?_
        rintro _ w17 ⟨rfl, hp17⟩
        repeat (first | refine zA ?_ | refine zB ?_ | refine zC rfl rfl rfl ?_ | refine zD ?_ | refine zE ?_ | refine zF ?_ | refine zG rfl ?_ | refine zH rfl ?_ | refine zI rfl rfl rfl ?_ | refine zJ rfl rfl ?_ | refine zK ?_ | refine zL ?_ | refine zM rfl ?_ | refine zN ?_)
        exact Res.one rfl rfl rfl ⟨rfl, (hp16.call hp17.below).nil'⟩
    · cases u <;>
      · repeat (first | refine zA ?_ | refine zB ?_ | refine zC rfl rfl rfl ?_ | refine zD ?_ | refine zE ?_ | refine zF ?_ | refine zG rfl ?_ | refine zH rfl ?_ | refine zI rfl rfl rfl ?_ | refine zJ rfl rfl ?_ | refine zK ?_ | refine zL ?_ | refine zM rfl ?_ | refine zN ?_)
        refine WL.call rfl rfl rfl rfl rfl ent20 (awake_any w16 (hG.hp hp16)) ?_
        rintro _ w17 ⟨rfl, hp17⟩
        repeat (first | refine zA ?_ | refine zB ?_ | refine zC rfl rfl rfl ?_ | refine zD ?_ | refine zE ?_ | refine zF ?_ | refine zG rfl ?_ | refine zH rfl ?_ | refine zI rfl rfl rfl ?_ | refine zJ rfl rfl ?_ | refine zK ?_ | refine zL ?_ | refine zM rfl ?_ | refine zN ?_)
        exact Res.one rfl rfl rfl ⟨rfl, (hp16.call hp17.below).nil'⟩
end Go.Proofs.YtpbbneclkhfgoaaDoor
end
section
/- The arguments of the laws on formulas, opened; what the package's variables hold. -/
namespace Go.Proofs.YtpbbneclkhfgoaaDoor
set_option maxRecDepth 100000
open Go.W Go.Ltl Go.RowKit Go.ChangeShapes Go.WideShapes Go.Deep

theorem own : ownKnob Tryd.prog.godebug = none := by kernel_rfl
theorem laidOut : laidOutB Tryd.prog = true := by kernel_rfl
theorem cellsStr : Tryd.prog.cellsOf 9 = 1 := by kernel_rfl
theorem cellsInt : Tryd.prog.cellsOf 3 = 1 := by kernel_rfl
theorem cellsInts : Tryd.prog.cellsOf 22 = 1 := by kernel_rfl
section
variable {H : Type} {enc : TypeId × Value → H} {w : World}
theorem sl_of_cells {a : Addr} {cs : List Value} (h : ∀ (i : Nat) (u : Value), cs[i]? = some u → w.cell? (a.add i) = some u) : Sl w (some a) cs := by
  intro i u hi
  have hc := h i u hi
  obtain ⟨b, o, s⟩ := a
  cases s with
  | none => exact ⟨b, o, rfl, by rw [Addr.add_lit] at hc; exact hc⟩
  | some q =>
    exfalso
    obtain ⟨hlt, _⟩ := List.getElem?_eq_some_iff.1 hi
    have h0 := h 0 cs[0] (by simp)
    have e0 : (⟨b, o, some q⟩ : Addr).add 0 = ⟨b, o, some q⟩ := by simp [Addr.add]
    rw [e0] at h0
    unfold World.cell? at h0
    simp at h0
    split at h0 <;> cases h0
/-- A string. -/
theorem open_str {fuel : Nat} {cs : List Value} {x : DataW H × List MemPlace} (h : DataW.trod enc Tryd.prog w 0 (fun _ => true) true fuel 9 cs = some x) : ∃ s : Str, cs = [st s] ∧ s.length ≤ 9223372036854775807 := by
  obtain ⟨s, hc, _, hl⟩ := DataW.trod_string Tryd.underlying9 h
  obtain ⟨l, rfl⟩ := sb_ex s
  unfold maxLen at hl
  rw [sb_size] at hl
  exact ⟨l, hc, hl⟩
theorem open_ints {fuel : Nat} {cs : List Value} {x : DataW H × List MemPlace} (h : DataW.trod enc Tryd.prog w 0 (fun _ => true) true fuel 22 cs = some x) :
    ∃ (a : Option Addr) (xs : List Int) (cap : Nat), cs = [.slice a xs.length cap] ∧ Sl w a (zs xs) ∧ xs.length ≤ cap ∧ xs.length ≤ 9223372036854775807 := by
  rcases open_slice1 Tryd.underlying22 cellsInt h with ⟨rfl, _⟩ | ⟨a, len, cap, m, n, V, D, Pl, rfl, _, hl, hm, hmm, _, hx⟩
  · exact ⟨none, [], 0, rfl, (fun i u hi => by cases hi), Nat.le_refl _, Nat.zero_le _⟩
  · have hlm : len ≤ m := by rw [hmm]; split <;> omega
    have each : ∀ i, i < len → ∃ e : Int, w.cell? (a.add i) = some (.int .i64 e) := by
      intro i hi
      obtain ⟨h1, h2⟩ := hx i (by omega)
      obtain ⟨n0, e0, _, _⟩ := DataW.trod_int Tryd.underlying3 h2
      simp only [List.cons.injEq, and_true] at e0
      exact ⟨n0, by rw [h1, e0]⟩
    obtain ⟨e, he⟩ := choose_lt each
    refine ⟨some a, (List.range len).map e, cap, by simp, ?_, by simpa using hl, by simp; unfold maxLen at hm; omega⟩
    refine sl_of_cells ?_
    intro i u hi
    have hlt : i < len := by
      have := (List.getElem?_eq_some_iff.1 hi).1
      simpa [zs] using this
    rw [he i hlt]
    rw [← hi]
    simp [zs, hlt]
/-- A lasso of marks. -/
theorem open_marks {fuel : Nat} {cs : List Value} {x : DataW H × List MemPlace} (h : DataW.trod enc Tryd.prog w 0 (fun _ => true) true fuel 24 cs = some x) :
    ∃ (a1 : Option Addr) (l1 : List Int) (k1 : Nat) (a2 : Option Addr) (l2 : List Int) (k2 : Nat), cs = [.slice a1 l1.length k1, .slice a2 l2.length k2] ∧ Sl w a1 (zs l1) ∧ l1.length ≤ k1 ∧ l1.length ≤ 9223372036854775807 ∧ Sl w a2 (zs l2) ∧ l2.length ≤ k2 ∧ l2.length ≤ 9223372036854775807 := by
  obtain ⟨xs, k, _, _, hcl, hxl, hf⟩ := DataW.trod_struct Tryd.underlying24 h
  have hcl' : cs.length = 2 := hcl
  match xs, hxl, cs, hcl' with
  | [y0, y1], _, [v0, v1], _ =>
    have g0 : DataW.trod enc Tryd.prog w 0 (fun _ => true) true k 22 (List.take (Tryd.prog.cellsOf 22) (List.drop 0 [v0, v1])) = some y0 := hf 0 _ rfl
    have g1 : DataW.trod enc Tryd.prog w 0 (fun _ => true) true k 22 (List.take (Tryd.prog.cellsOf 22) (List.drop 1 [v0, v1])) = some y1 := hf 1 _ rfl
    rw [cellsInts] at g0 g1
    obtain ⟨a1, l1, k1, e0, p1, p2, p3⟩ := open_ints (show DataW.trod enc Tryd.prog w 0 (fun _ => true) true k 22 [v0] = some y0 from g0)
    obtain ⟨a2, l2, k2, e1, q1, q2, q3⟩ := open_ints (show DataW.trod enc Tryd.prog w 0 (fun _ => true) true k 22 [v1] = some y1 from g1)
    simp only [List.cons.injEq, and_true] at e0 e1
    subst e0; subst e1
    exact ⟨a1, l1, k1, a2, l2, k2, rfl, p1, p2, p3, q1, q2, q3⟩
end

/-! ### The package's variables -/
theorem var_cell {w : World} {n : String} {g : Nat} {cs : Array Value} {v : Value} (hg : Tryd.prog.globalNamed n = some g) (h : w.var? Tryd.prog n = some cs) (hv : cs[0]? = some v) : w.cell? ⟨g, 0, none⟩ = some v := by
  unfold World.var? at h
  rw [hg] at h
  simp only [Option.bind_some] at h
  split at h
  · rename_i cs' t fr hh
    simp only [Option.some.injEq] at h
    subst h
    exact cell_of_obj hh hv
  · cases h
/-- A variable that is a list of strings. -/
theorem laid_strs {w : World} {n : String} {g : Nat} (L : List Str) (hg : Tryd.prog.globalNamed n = some g) (ht : (Tryd.prog.globals[g]?).map (·.type) = some 92) (h : Lib.VarReads Tryd.prog w n (.slice (L.map fun s => .lit (.string s)) [])) (hL : 0 < L.length) :
    ∃ a c, w.cell? ⟨g, 0, none⟩ = some (.slice a L.length c) ∧ Sl w a (L.map st) := by
  obtain ⟨g', t', cs, fuel, p, h1, h2, h3, h4⟩ := h
  rw [hg] at h1
  simp only [Option.some.injEq] at h1
  subst h1
  rw [ht] at h2
  simp only [Option.some.injEq] at h2
  subst h2
  rcases open_slice1 Tryd.underlying92 cellsStr h4 with ⟨_, hx⟩ | ⟨a, len, cap, m, k, V, D, Pl, hcs, _, hl, hm, hmm, hx, hcell⟩
  · simp only [Prod.mk.injEq] at hx
    cases hx.1
  · simp only [Prod.mk.injEq, DataW.slice.injEq] at hx
    obtain ⟨⟨hD, hrest⟩, _⟩ := hx
    have hlen : len = L.length := by have := congrArg List.length hD; simpa using this.symm
    subst hlen
    have hv : cs[0]? = some (.slice (some a) L.length cap) := by
      have := congrArg (fun l : List Value => l[0]?) hcs
      simpa using this
    refine ⟨some a, cap, var_cell hg h3 hv, ?_⟩
    refine sl_of_cells ?_
    intro i u hi
    have hlt : i < L.length := by
      have := (List.getElem?_eq_some_iff.1 hi).1
      simpa using this
    have hlm : L.length ≤ m := by rw [hmm]; split <;> omega
    obtain ⟨c1, c2⟩ := hcell i (by omega)
    obtain ⟨s, e1, e2, _⟩ := DataW.trod_string Tryd.underlying9 c2
    obtain ⟨l, rfl⟩ := sb_ex s
    have hDi : D i = .lit (.string L[i]) := by
      have := congrArg (fun l => l[i]?) hD
      simpa [hlt] using this.symm
    simp only [Prod.mk.injEq] at e2
    rw [hDi] at e2
    have hll : L[i] = l := by
      have := e2.1
      simp only [DataW.lit.injEq, Lit.string.injEq] at this
      rw [this]; rfl
    simp only [List.cons.injEq, and_true] at e1
    rw [c1, e1, ← hi]
    simp [hlt, hll, st]
def dualS : List (Str × Str) := [(wAlways, wFinally), (wAnd, wOr), (wFalse, wTrue), (wFinally, wAlways), (wNext, wNext), (wOr, wAnd), (wRelease, wUntil), (wTrue, wFalse), (wUntil, wRelease)]
theorem laid_dual_is : (Rows.laid_olivette_ltl_dual : DataW Unit) = .map (dualS.map fun p => (.string p.1, .lit (.string p.2))) := rfl
theorem dualS_iff : ∀ p, p ∈ dualS ↔ p ∈ dualL := by
  intro p
  simp only [dualS, dualL, List.mem_cons, List.not_mem_nil, or_false]
  constructor <;> (intro h; rcases h with h | h | h | h | h | h | h | h | h <;> simp [h])
theorem dualL_key : ∀ p ∈ dualL, ∀ q ∈ dualL, p.1 = q.1 → p = q := by decide
theorem fndS_dual {P : List (Str × Str)} (h : ∀ p, p ∈ P ↔ p ∈ dualL) (s : Str) : fndS P s = dualM s := by
  unfold fndS dualM
  cases h1 : P.find? (fun p => decide (p.1 = s)) with
  | none =>
    cases h2 : dualL.find? (fun p => decide (p.1 = s)) with
    | none => rfl
    | some q =>
      exfalso
      have hq := List.mem_of_find?_eq_some h2
      have hs := List.find?_some h2
      exact absurd hs (List.find?_eq_none.1 h1 q ((h q).2 hq))
  | some p =>
    have hp := (h p).1 (List.mem_of_find?_eq_some h1)
    have hs : p.1 = s := by simpa using List.find?_some h1
    cases h2 : dualL.find? (fun p => decide (p.1 = s)) with
    | none => exact absurd (by simpa using hs) (List.find?_eq_none.1 h2 p hp)
    | some q =>
      have hq := List.mem_of_find?_eq_some h2
      have hs2 : q.1 = s := by simpa using List.find?_some h2
      rw [dualL_key p hp q hq (hs.trans hs2.symm)]
theorem se_of {es : List MapEntry} {rgf : MapEntry → Lit × DataW Unit} (h : ∀ y ∈ es, ∃ s t : Str, y.key = st s ∧ y.val = st t ∧ rgf y = (.string s, .lit (.string t))) : ∃ P, SE es P ∧ es.map rgf = P.map fun p => (.string p.1, .lit (.string p.2)) := by
  induction es with
  | nil => exact ⟨[], trivial, rfl⟩
  | cons y es ih =>
    obtain ⟨P, h1, h2⟩ := ih (fun z hz => h z (List.mem_cons_of_mem _ hz))
    obtain ⟨s, t, k1, k2, k3⟩ := h y (by simp)
    exact ⟨(s, t) :: P, ⟨k1, k2, h1⟩, by rw [List.map_cons, List.map_cons, k3, h2]⟩
theorem laid_map {w : World} {n : String} {g : Nat} (hg : Tryd.prog.globalNamed n = some g) (ht : (Tryd.prog.globals[g]?).map (·.type) = some 136) (h : Lib.VarReads Tryd.prog w n Rows.laid_olivette_ltl_dual) :
    ∃ mb es c P, w.cell? ⟨g, 0, none⟩ = some (.map (some mb)) ∧ mb < w.heap.size ∧ w.heap[mb]? = some (.map es c) ∧ SE es.toList P ∧ ∀ s, fndS P s = dualM s := by
  obtain ⟨g', t', cs, fuel, p, h1, h2, h3, h4⟩ := h
  rw [hg] at h1
  simp only [Option.some.injEq] at h1
  subst h1
  rw [ht] at h2
  simp only [Option.some.injEq] at h2
  subst h2
  rw [laid_dual_is] at h4
  rcases WideElems.open_map Tryd.underlying136 h4 with ⟨_, hx⟩ | ⟨b, es, clock, m, _, hcs, hb, _, hfit, hx⟩
  · simp only [Prod.mk.injEq] at hx
    cases hx.1
  · have hv : cs[0]? = some (.map (some b)) := by
      have := congrArg (fun l : List Value => l[0]?) hcs
      simpa using this
    have hread : ∀ y ∈ es.toList, ∃ s t : Str, y.key = st s ∧ y.val = st t ∧ WideElems.rg Tryd.prog 9 (WideElems.elemAt (fun _ => ()) Tryd.prog w 0 (fun _ => true) false m 9) y = (.string s, .lit (.string t)) := by
      intro y hy
      obtain ⟨z, hz⟩ := hfit.reads y hy
      have hk := WideElems.rd_key hz
      obtain ⟨q, hq, hq2⟩ := WideElems.rd_val hz
      have hk2 : ∃ s : Str, y.key = st s ∧ z.1 = .string s := by
        unfold keyOf at hk
        rw [Tryd.underlying9] at hk
        simp only at hk
        cases hkey : y.key <;> rw [hkey] at hk <;> simp only [mapKey, Tryd.underlying9] at hk <;> try (cases hk; done)
        rename_i s
        split at hk
        · obtain ⟨l, rfl⟩ := sb_ex s
          simp only [Option.some.injEq] at hk
          exact ⟨l, rfl, hk.symm⟩
        · cases hk
      obtain ⟨s, ks, zs1⟩ := hk2
      have hv2 : ∃ t : Str, y.val = st t ∧ z.2 = .lit (.string t) := by
        unfold WideElems.elemAt at hq
        split at hq
        · rename_i hform
          obtain ⟨s2, e1, e2, _⟩ := DataW.trod_string Tryd.underlying9 hq
          obtain ⟨l, rfl⟩ := sb_ex s2
          refine ⟨l, ?_, ?_⟩
          · cases hval : y.val <;> rw [hval] at e1 hform <;> simp [Value.cells] at e1
            · rw [e1]; rfl
            · rename_i vs
              exfalso
              unfold Value.formed at hform
              rw [Tryd.underlying9] at hform
              simp at hform
          · rw [hq2, e2]; rfl
        · cases hq
      obtain ⟨t, kt, zt⟩ := hv2
      exact ⟨s, t, ks, kt, by rw [WideElems.rg_of hz]; exact Prod.ext zs1 zt⟩
    obtain ⟨P, hSE, hP⟩ := se_of hread
    simp only [Prod.mk.injEq, DataW.map.injEq] at hx
    rw [hP] at hx
    have hperm := (sorted_perm (P.map fun p => ((Lit.string p.1, DataW.lit (Lit.string p.2)) : Lit × DataW Unit)))
    rw [← hx.1] at hperm
    have hmem : ∀ q, q ∈ P ↔ q ∈ dualL := by
      intro q
      rw [← dualS_iff]
      have h1 : ∀ (L : List (Str × Str)), q ∈ L ↔ ((Lit.string q.1, DataW.lit (Lit.string q.2)) : Lit × DataW Unit) ∈ L.map fun p => (Lit.string p.1, DataW.lit (Lit.string p.2)) := by
        intro L
        constructor
        · intro h; exact List.mem_map.2 ⟨q, h, rfl⟩
        · intro h
          obtain ⟨q2, h3, h4⟩ := List.mem_map.1 h
          simp only [Prod.mk.injEq, Lit.string.injEq, DataW.lit.injEq] at h4
          have : q2 = q := Prod.ext h4.1 h4.2
          rw [← this]; exact h3
      rw [h1 P, h1 dualS]
      exact hperm.mem_iff.symm
    exact ⟨b, es, clock, P, var_cell hg h3 hv, (Array.getElem?_eq_some_iff.1 hb).1, hb, hSE, fndS_dual hmem⟩
def laidAll : List (String × DataW Unit) := [("olivette/ltl.atoms", Rows.laid_olivette_ltl_atoms), ("olivette/ltl.ones", Rows.laid_olivette_ltl_ones), ("olivette/ltl.twos", Rows.laid_olivette_ltl_twos), ("olivette/ltl.dual", Rows.laid_olivette_ltl_dual)]
theorem gl_of {w : World} (h : laidMetH Tryd.prog laidAll w) : Gl w := by
  have h1 : laidMet Tryd.prog laidAll w := h
  refine ⟨?_, ?_, ?_, ?_⟩
  · exact laid_strs atomsL (n := "olivette/ltl.atoms") (by kernel_rfl) (by kernel_rfl) (Lib.laidMet.reads h1 (by simp [laidAll]; rfl)) (by decide)
  · exact laid_strs onesL (n := "olivette/ltl.ones") (by kernel_rfl) (by kernel_rfl) (Lib.laidMet.reads h1 (by simp [laidAll]; rfl)) (by decide)
  · exact laid_strs twosL (n := "olivette/ltl.twos") (by kernel_rfl) (by kernel_rfl) (Lib.laidMet.reads h1 (by simp [laidAll]; rfl)) (by decide)
  · exact laid_map (n := "olivette/ltl.dual") (by kernel_rfl) (by kernel_rfl) (Lib.laidMet.reads h1 (by simp [laidAll]))
end Go.Proofs.YtpbbneclkhfgoaaDoor
end
section
/- A world in which the package's variables hold what its text lays. -/
namespace Go.Proofs.YtpbbneclkhfgoaaDoor
set_option maxRecDepth 100000
open Go.W Go.Ltl Go.RowKit Go.ChangeShapes Go.WideShapes Go.Deep
def putV (v : Value) : Obj → Obj
  | .cells _ t fr => .cells #[v] t fr
  | o => o
def strBlk (l : List Str) : Obj := .cells (l.map st).toArray 9
def dualEs : List (Str × Str) → Nat → List MapEntry
  | [], _ => []
  | p :: r, i => { key := st p.1, val := st p.2, born := i } :: dualEs r (i + 1)
noncomputable def laidWorld (os : Os) : World :=
  { World.holding Tryd.prog os ⟨#[], #[], []⟩ with heap := (((((World.holding Tryd.prog os ⟨#[], #[], []⟩).heap.modify 0 (putV (.map (some 9)))).modify 1 (putV (.slice (some ⟨10, 0, none⟩) 6 6))).modify 2 (putV (.slice (some ⟨11, 0, none⟩) 4 4))).modify 3 (putV (.slice (some ⟨12, 0, none⟩) 4 4))) ++ #[.map (dualEs dualL 0).toArray 9, strBlk atomsL, strBlk onesL, strBlk twosL] }
theorem laid_met0 (os : Os) (args : Array Value) : laidMet Tryd.prog laidAll ((laidWorld os).forCall (fun _ _ => 0) ⟨#[], args, []⟩).memory :=
  laidMet_of_run' 8 (by kernel_rfl) (by kernel_rfl)
end Go.Proofs.YtpbbneclkhfgoaaDoor
end
section
/- Structures, results, pairs of formulas and of numbers as arguments, opened. -/
namespace Go.Proofs.YtpbbneclkhfgoaaDoor
set_option maxRecDepth 100000
open Go.W Go.Ltl Go.RowKit Go.ChangeShapes Go.WideShapes Go.Deep

theorem cellsRows : Tryd.prog.cellsOf 42 = 1 := by kernel_rfl
theorem cellsStructure : Tryd.prog.cellsOf 44 = 2 := by kernel_rfl
section
variable {H : Type} {enc : TypeId × Value → H} {w : World}
theorem open_rows {fuel : Nat} {cs : List Value} {x : DataW H × List MemPlace} (h : DataW.trod enc Tryd.prog w 0 (fun _ => true) true fuel 42 cs = some x) :
    ∃ (a : Option Addr) (vs : Vs) (cap : Nat), cs = [.slice a vs.length cap] ∧ Sl w a (catV vs) ∧ (∀ x ∈ vs, Sl w x.1 (zs x.2.2) ∧ x.2.2.length ≤ x.2.1 ∧ x.2.2.length ≤ 9223372036854775807) ∧ vs.length ≤ 9223372036854775807 := by
  rcases open_slice1 Tryd.underlying42 cellsInts h with ⟨rfl, _⟩ | ⟨a, len, cap, m, n, V, D, Pl, rfl, _, hl, hm, hmm, _, hx⟩
  · exact ⟨none, [], 0, rfl, Sl.nil, (fun b hb => by cases hb), Nat.zero_le _⟩
  · have hlm : len ≤ m := by rw [hmm]; split <;> omega
    have each : ∀ i, i < len → ∃ b : Option Addr × Nat × List Int, w.cell? (a.add i) = some (.slice b.1 b.2.2.length b.2.1) ∧ Sl w b.1 (zs b.2.2) ∧ b.2.2.length ≤ b.2.1 ∧ b.2.2.length ≤ 9223372036854775807 := by
      intro i hi
      obtain ⟨h1, h2⟩ := hx i (by omega)
      obtain ⟨ai, xs, ci, e0, hs, hc, hc2⟩ := open_ints h2
      simp only [List.cons.injEq, and_true] at e0
      exact ⟨(ai, ci, xs), by rw [h1, e0], hs, hc, hc2⟩
    obtain ⟨e, he⟩ := choose_lt each
    refine ⟨some a, (List.range len).map e, cap, by simp, sl_of_cells ?_, ?_, by simp; unfold maxLen at hm; omega⟩
    · intro i u hi
      have hlt : i < len := by
        have := (List.getElem?_eq_some_iff.1 hi).1
        simpa [catV] using this
      rw [(he i hlt).1]
      rw [← hi]
      simp [catV, hlt]
    · intro b hb
      obtain ⟨i, hi, rfl⟩ := List.mem_map.1 hb
      exact (he i (by simpa using hi)).2
/-- A structure. -/
theorem open_structure {fuel : Nat} {cs : List Value} {x : DataW H × List MemPlace} (h : DataW.trod enc Tryd.prog w 0 (fun _ => true) true fuel 44 cs = some x) :
    ∃ (an : Option Addr) (cn : Nat) (am : Option Addr) (cm : Nat) (vs : Vs) (ms : List Int), cs = [.slice an vs.length cn, .slice am ms.length cm] ∧ Stc w an am vs ms ∧ StcB an cn am cm vs ms := by
  obtain ⟨xs, k, _, _, hcl, hxl, hf⟩ := DataW.trod_struct Tryd.underlying44 h
  rw [cellsStructure] at hcl
  match cs, hcl with
  | [v0, v1], _ =>
    match xs, hxl with
    | [y0, y1], _ =>
      have g0 : DataW.trod enc Tryd.prog w 0 (fun _ => true) true k 42 (List.take (Tryd.prog.cellsOf 42) (List.drop 0 [v0, v1])) = some y0 := hf 0 _ rfl
      have g1 : DataW.trod enc Tryd.prog w 0 (fun _ => true) true k 22 (List.take (Tryd.prog.cellsOf 22) (List.drop 1 [v0, v1])) = some y1 := hf 1 _ rfl
      rw [cellsRows] at g0
      rw [cellsInts] at g1
      obtain ⟨an, vs, cn, e0, hA, hr, hl⟩ := open_rows (show DataW.trod enc Tryd.prog w 0 (fun _ => true) true k 42 [v0] = some y0 from g0)
      obtain ⟨am, ms, cm, e1, hM, hmc, hml⟩ := open_ints (show DataW.trod enc Tryd.prog w 0 (fun _ => true) true k 22 [v1] = some y1 from g1)
      simp only [List.cons.injEq, and_true] at e0 e1
      exact ⟨an, cn, am, cm, vs, ms, by rw [e0, e1], ⟨hA, fun x hx => (hr x hx).1, hM⟩, ⟨hl, fun x hx => (hr x hx).2.2, fun x hx => (hr x hx).2.1, hml, hmc⟩⟩
end
end Go.Proofs.YtpbbneclkhfgoaaDoor
end
