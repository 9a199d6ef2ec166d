/- Texts on the way to LtlLaws, one behind the other: U62 ClL ClLw ClLwC. -/
import Derived.Test.YtpbbneclkhfgoaaDoorG7
import Derived.Test.YtpbbneclkhfgoaaDoorCards
import Derived.Test.YtpbbneclkhfgoaaDoorTie
import Derived.WalkKit
import Derived.ProofKit
import Derived.OpenShut
import Derived.Carry
import Derived.Deep.Slices
import Derived.Deep.DeepHandedRow
import Derived.Lib.LaidTab
import Derived.Lib.LaidU8
import Derived.Stop.LaidErr
import Derived.WideKeyElems2
import Derived.Deep.DeepWitnessRowRef
section
/- ltl, sixty-second: LtlLaws (printed by genu62.py). -/
namespace Go.Ltl
open Go.W
def lawC (sf sg : Str) : List Value := lawL.flatMap fun p => [st (txS sf sg p.1), st (txS sf sg p.2)]
theorem tx_len {sf sg : Str} (hf : sf.length ≤ 400) (hg : sg.length ≤ 400) : ∀ p ∈ lawL, (txS sf sg p.1).length ≤ 2000 ∧ (txS sf sg p.2).length ≤ 2000 := by
  intro p hp
  simp only [lawL, List.mem_cons, List.not_mem_nil, or_false] at hp
  rcases hp with rfl | rfl | rfl | rfl | rfl | rfl | rfl | rfl | rfl | rfl | rfl | rfl <;>
    simp only [txS, unS, biS, wUntil, wRelease, wOr, wAnd, wNext, wNot, wAlways, wFinally, wTrue, wFalse, List.length_append, List.length_cons, List.length_nil] <;> omega
end Go.Ltl
namespace Go.Proofs.YtpbbneclkhfgoaaDoor
open Go.W Go.Ltl Go.RowKit
set_option maxRecDepth 100000
set_option linter.unusedSectionVars false
attribute [local irreducible] WC WL WQ WS WH

abbrev Twb (b : Nat) (s t : Str) : Ent := .blk b (.cells #[st s, st t] 67 (0, 0))
theorem LtlLaws_any (s0 t0 : Str) (hsl : s0.length ≤ 9223372036854775807) (htl : t0.length ≤ 9223372036854775807) (x : Int) (w : World) (hG : Gl w) :
    Ret Tryd.prog 10 [.agg #[st s0, st t0], .int .i64 x] w fun u w' => u = .bool true ∧ Hp w w' [] := by
  refine enter Tryd.func10 rfl rfl ⟨rfl, rfl⟩ rfl ?_
  repeat (first | refine zA ?_ | refine zB ?_ | refine zC rfl rfl rfl ?_ | refine zD ?_ | refine zE ?_ | refine zF ?_ | refine zG rfl ?_ | refine zH rfl ?_ | refine zI rfl rfl rfl ?_ | refine zJ rfl rfl ?_ | refine zK ?_ | refine zL ?_ | refine zM rfl ?_ | refine zN ?_)
  refine WL.box rfl rfl rfl (fun b2 w1 hb2 => ?_)
  have hp1 : Hp w w1 [Twb b2 s0 t0] := (Hp.start w).new hb2
  obtain ⟨s, hs⟩ : ∃ s, s = shortM s0 := ⟨_, rfl⟩
  obtain ⟨t, ht⟩ : ∃ t, t = shortM t0 := ⟨_, rfl⟩
  have hsq : s.length ≤ 400 := by rw [hs]; exact shortM_len s0
  have htq : t.length ≤ 400 := by rw [ht]; exact shortM_len t0
  repeat (first | refine zA ?_ | refine zB ?_ | refine zC rfl rfl rfl ?_ | refine zD ?_ | refine zE ?_ | refine zF ?_ | refine zG rfl ?_ | refine zH rfl ?_ | refine zI rfl rfl rfl ?_ | refine zJ rfl rfl ?_ | refine zK ?_ | refine zL ?_ | refine zM rfl ?_ | refine zN ?_)
  refine WC.mid Unit (fun _ => [(1, .int .i64 x), (5, st s), (6, st t)]) (fun _ w' => Hp w w' []) ?_ ?_
  · refine WC.regQ (fun w' => Hp w w' [Twb b2 s0 t0]) mixed (by kernel_rfl) (fun w' hw' => hp1.keep hw') ?_
    repeat (first | refine WQ.pure rfl rfl rfl ?_ | refine WQ.off rfl rfl rfl ?_ | refine WQ.nil ?_)
    refine WQ.load rfl rfl rfl rfl rfl (fun w' h => cell_of_obj (h.obj 0 rfl) (j := 0) rfl) ?_
    refine WQ.call rfl rfl rfl rfl rfl ent16 (fun w' h => (short_any s0 hsl w').mono fun v w'' hh => ⟨hh.1, by rw [hh.2]; exact h⟩) ?_
    repeat (first | refine WQ.pure rfl rfl rfl ?_ | refine WQ.off rfl rfl rfl ?_ | refine WQ.nil ?_)
    refine WQ.load rfl rfl rfl rfl rfl (fun w' h => cell_of_obj (h.obj 0 rfl) (j := 1) rfl) ?_
    refine WQ.call rfl rfl rfl rfl rfl ent16 (fun w' h => (short_any t0 htl w').mono fun v w'' hh => ⟨hh.1, by rw [hh.2]; exact h⟩) ?_
    rw [← hs, ← ht]
    repeat (first | refine WQ.pure rfl rfl rfl ?_ | refine WQ.off rfl rfl rfl ?_ | refine WQ.nil ?_)
    intro w' h
    exact ⟨(), ⟨rfl, rfl, rfl, rfl⟩, h.nil'⟩
  rintro _ e2 w2 hsub hp2
  refine WC.sub hsub ?_
  clear hsub e2 hp1 hs ht
  replace hp2 : Hp w w2 [] := hp2
  have p0 : parseM [112, 48] = some (.at_ [112, 48]) := (parse_text (f := .at_ [112, 48]) (by show _ ∈ atomsL; decide)).trans (if_pos (by decide))
  have p1 : parseM [112, 49] = some (.at_ [112, 49]) := (parse_text (f := .at_ [112, 49]) (by show _ ∈ atomsL; decide)).trans (if_pos (by decide))
  refine WC.seq ?_
  refine WC.mid Str (fun sf => [(1, .int .i64 x), (5, st sf), (6, st t)]) (fun sf w' => sf.length ≤ 400 ∧ (∃ a, parseM sf = some a) ∧ Hp w w' []) ?_ ?_
  · repeat (first | refine zA ?_ | refine zB ?_ | refine zC rfl rfl rfl ?_ | refine zD ?_ | refine zE ?_ | refine zF ?_ | refine zG rfl ?_ | refine zH rfl ?_ | refine zI rfl rfl rfl ?_ | refine zJ rfl rfl ?_ | refine zK ?_ | refine zL ?_ | refine zM rfl ?_ | refine zN ?_)
    refine WL.call rfl rfl rfl rfl rfl ent19 (Parse_any s (by omega) w2) ?_
    intro v w3 hv
    cases hf : parseM s with
    | none =>
      rw [hf] at hv
      obtain ⟨a, n, c, rfl, hp3⟩ := hv
      repeat (first | refine zA ?_ | refine zB ?_ | refine zC rfl rfl rfl ?_ | refine zD ?_ | refine zE ?_ | refine zF ?_ | refine zG rfl ?_ | refine zH rfl ?_ | refine zI rfl rfl rfl ?_ | refine zJ rfl rfl ?_ | refine zK ?_ | refine zL ?_ | refine zM rfl ?_ | refine zN ?_)
      exact ⟨[112, 48], ⟨rfl, rfl, rfl, rfl⟩, by decide, ⟨_, p0⟩, (hp2.call hp3.below).nil'⟩
    | some f =>
      rw [hf] at hv
      obtain ⟨a, c, rfl, hp3⟩ := hv
      have hp3 := hp2.call hp3.below
      repeat (first | refine zA ?_ | refine zB ?_ | refine zC rfl rfl rfl ?_ | refine zD ?_ | refine zE ?_ | refine zF ?_ | refine zG rfl ?_ | refine zH rfl ?_ | refine zI rfl rfl rfl ?_ | refine zJ rfl rfl ?_ | refine zK ?_ | refine zL ?_ | refine zM rfl ?_ | refine zN ?_)
      refine WC.cond rfl (fun g => ?_) (fun g => ?_)
      · repeat (first | refine zA ?_ | refine zB ?_ | refine zC rfl rfl rfl ?_ | refine zD ?_ | refine zE ?_ | refine zF ?_ | refine zG rfl ?_ | refine zH rfl ?_ | refine zI rfl rfl rfl ?_ | refine zJ rfl rfl ?_ | refine zK ?_ | refine zL ?_ | refine zM rfl ?_ | refine zN ?_)
        exact ⟨[112, 48], ⟨rfl, rfl, rfl, rfl⟩, by decide, ⟨_, p0⟩, hp3⟩
      · repeat (first | refine zA ?_ | refine zB ?_ | refine zC rfl rfl rfl ?_ | refine zD ?_ | refine zE ?_ | refine zF ?_ | refine zG rfl ?_ | refine zH rfl ?_ | refine zI rfl rfl rfl ?_ | refine zJ rfl rfl ?_ | refine zK ?_ | refine zL ?_ | refine zM rfl ?_ | refine zN ?_)
        exact ⟨s, ⟨rfl, rfl, rfl, rfl⟩, hsq, ⟨_, hf⟩, hp3⟩
  rintro sf e3 w3 hsub ⟨hsf, ⟨fa, hfa⟩, hp3⟩
  refine WC.sub hsub ?_
  clear hsub e3 hp2 hsq
  replace hp3 : Hp w w3 [] := hp3
  replace hsf : sf.length ≤ 400 := hsf
  replace hfa : parseM sf = some fa := hfa
  refine WC.seq ?_
  refine WC.mid Str (fun sg => [(1, .int .i64 x), (5, st sf), (6, st sg)]) (fun sg w' => sg.length ≤ 400 ∧ (∃ a, parseM sg = some a) ∧ Hp w w' []) ?_ ?_
  · repeat (first | refine zA ?_ | refine zB ?_ | refine zC rfl rfl rfl ?_ | refine zD ?_ | refine zE ?_ | refine zF ?_ | refine zG rfl ?_ | refine zH rfl ?_ | refine zI rfl rfl rfl ?_ | refine zJ rfl rfl ?_ | refine zK ?_ | refine zL ?_ | refine zM rfl ?_ | refine zN ?_)
    refine WL.call rfl rfl rfl rfl rfl ent19 (Parse_any t (by omega) w3) ?_
    intro v w4 hv
    cases hf : parseM t with
    | none =>
      rw [hf] at hv
      obtain ⟨a, n, c, rfl, hp4⟩ := hv
      repeat (first | refine zA ?_ | refine zB ?_ | refine zC rfl rfl rfl ?_ | refine zD ?_ | refine zE ?_ | refine zF ?_ | refine zG rfl ?_ | refine zH rfl ?_ | refine zI rfl rfl rfl ?_ | refine zJ rfl rfl ?_ | refine zK ?_ | refine zL ?_ | refine zM rfl ?_ | refine zN ?_)
      exact ⟨[112, 49], ⟨rfl, rfl, rfl, rfl⟩, by decide, ⟨_, p1⟩, (hp3.call hp4.below).nil'⟩
    | some f =>
      rw [hf] at hv
      obtain ⟨a, c, rfl, hp4⟩ := hv
      have hp4 := hp3.call hp4.below
      repeat (first | refine zA ?_ | refine zB ?_ | refine zC rfl rfl rfl ?_ | refine zD ?_ | refine zE ?_ | refine zF ?_ | refine zG rfl ?_ | refine zH rfl ?_ | refine zI rfl rfl rfl ?_ | refine zJ rfl rfl ?_ | refine zK ?_ | refine zL ?_ | refine zM rfl ?_ | refine zN ?_)
      refine WC.cond rfl (fun g => ?_) (fun g => ?_)
      · repeat (first | refine zA ?_ | refine zB ?_ | refine zC rfl rfl rfl ?_ | refine zD ?_ | refine zE ?_ | refine zF ?_ | refine zG rfl ?_ | refine zH rfl ?_ | refine zI rfl rfl rfl ?_ | refine zJ rfl rfl ?_ | refine zK ?_ | refine zL ?_ | refine zM rfl ?_ | refine zN ?_)
        exact ⟨[112, 49], ⟨rfl, rfl, rfl, rfl⟩, by decide, ⟨_, p1⟩, hp4⟩
      · repeat (first | refine zA ?_ | refine zB ?_ | refine zC rfl rfl rfl ?_ | refine zD ?_ | refine zE ?_ | refine zF ?_ | refine zG rfl ?_ | refine zH rfl ?_ | refine zI rfl rfl rfl ?_ | refine zJ rfl rfl ?_ | refine zK ?_ | refine zL ?_ | refine zM rfl ?_ | refine zN ?_)
        exact ⟨t, ⟨rfl, rfl, rfl, rfl⟩, htq, ⟨_, hf⟩, hp4⟩
  rintro sg e4 w4 hsub ⟨hsg, ⟨fb, hfb⟩, hp4⟩
  refine WC.sub hsub ?_
  clear hsub e4 hp3 htq s t
  replace hp4 : Hp w w4 [] := hp4
  replace hsg : sg.length ≤ 400 := hsg
  replace hfb : parseM sg = some fb := hfb
  obtain ⟨wa, _, ta⟩ := (parse_iff _ _).1 hfa
  obtain ⟨wb, _, tb⟩ := (parse_iff _ _).1 hfb
  refine WC.seq ?_
  refine WC.reg ?_
  refine WL.pure rfl rfl rfl ?_
  refine WL.sCat (a := [40, 117, 110, 116, 105, 108, 32]) (b := sf) rfl rfl rfl rfl (by simp only [List.length_cons, List.length_nil]; omega) ?_
  refine WL.sCat (a := [40, 117, 110, 116, 105, 108, 32] ++ sf) (b := [32]) rfl rfl rfl rfl (by simp only [List.length_append, List.length_cons, List.length_nil]; omega) ?_
  refine WL.pure rfl rfl rfl ?_
  refine WL.sCat (a := [40, 117, 110, 116, 105, 108, 32] ++ sf ++ [32]) (b := sg) rfl rfl rfl rfl (by simp only [List.length_append, List.length_cons, List.length_nil]; omega) ?_
  refine WL.sCat (a := [40, 117, 110, 116, 105, 108, 32] ++ sf ++ [32] ++ sg) (b := [41]) rfl rfl rfl rfl (by simp only [List.length_append, List.length_cons, List.length_nil]; omega) ?_
  refine WL.pure rfl rfl rfl ?_
  refine WL.sCat (a := [40, 111, 114, 32]) (b := sg) rfl rfl rfl rfl (by simp only [List.length_cons, List.length_nil]; omega) ?_
  refine WL.sCat (a := [40, 111, 114, 32] ++ sg) (b := [32, 40, 97, 110, 100, 32]) rfl rfl rfl rfl (by simp only [List.length_append, List.length_cons, List.length_nil]; omega) ?_
  refine WL.pure rfl rfl rfl ?_
  refine WL.sCat (a := [40, 111, 114, 32] ++ sg ++ [32, 40, 97, 110, 100, 32]) (b := sf) rfl rfl rfl rfl (by simp only [List.length_append, List.length_cons, List.length_nil]; omega) ?_
  refine WL.sCat (a := [40, 111, 114, 32] ++ sg ++ [32, 40, 97, 110, 100, 32] ++ sf) (b := [32, 40, 110, 101, 120, 116, 32, 40, 117, 110, 116, 105, 108, 32]) rfl rfl rfl rfl (by simp only [List.length_append, List.length_cons, List.length_nil]; omega) ?_
  refine WL.pure rfl rfl rfl ?_
  refine WL.sCat (a := [40, 111, 114, 32] ++ sg ++ [32, 40, 97, 110, 100, 32] ++ sf ++ [32, 40, 110, 101, 120, 116, 32, 40, 117, 110, 116, 105, 108, 32]) (b := sf) rfl rfl rfl rfl (by simp only [List.length_append, List.length_cons, List.length_nil]; omega) ?_
  refine WL.sCat (a := [40, 111, 114, 32] ++ sg ++ [32, 40, 97, 110, 100, 32] ++ sf ++ [32, 40, 110, 101, 120, 116, 32, 40, 117, 110, 116, 105, 108, 32] ++ sf) (b := [32]) rfl rfl rfl rfl (by simp only [List.length_append, List.length_cons, List.length_nil]; omega) ?_
  refine WL.pure rfl rfl rfl ?_
  refine WL.sCat (a := [40, 111, 114, 32] ++ sg ++ [32, 40, 97, 110, 100, 32] ++ sf ++ [32, 40, 110, 101, 120, 116, 32, 40, 117, 110, 116, 105, 108, 32] ++ sf ++ [32]) (b := sg) rfl rfl rfl rfl (by simp only [List.length_append, List.length_cons, List.length_nil]; omega) ?_
  refine WL.sCat (a := [40, 111, 114, 32] ++ sg ++ [32, 40, 97, 110, 100, 32] ++ sf ++ [32, 40, 110, 101, 120, 116, 32, 40, 117, 110, 116, 105, 108, 32] ++ sf ++ [32] ++ sg) (b := [41, 41, 41, 41]) rfl rfl rfl rfl (by simp only [List.length_append, List.length_cons, List.length_nil]; omega) ?_
  refine WL.known (d := 50) (v := st (txS sf sg (.tw_ wUntil .F .G))) (congrArg (fun z => some (st z)) (show [40, 117, 110, 116, 105, 108, 32] ++ sf ++ [32] ++ sg ++ [41] = txS sf sg (.tw_ wUntil .F .G) by simp [txS, biS, wUntil])) ?_
  refine WL.known (d := 62) (v := st (txS sf sg (.tw_ wOr .G (.tw_ wAnd .F (.on_ wNext (.tw_ wUntil .F .G)))))) (congrArg (fun z => some (st z)) (show [40, 111, 114, 32] ++ sg ++ [32, 40, 97, 110, 100, 32] ++ sf ++ [32, 40, 110, 101, 120, 116, 32, 40, 117, 110, 116, 105, 108, 32] ++ sf ++ [32] ++ sg ++ [41, 41, 41, 41] = txS sf sg (.tw_ wOr .G (.tw_ wAnd .F (.on_ wNext (.tw_ wUntil .F .G)))) by simp [txS, unS, biS, wUntil, wOr, wAnd, wNext])) ?_
  refine WL.buildA (cs := [st (txS sf sg (.tw_ wUntil .F .G)), st (txS sf sg (.tw_ wOr .G (.tw_ wAnd .F (.on_ wNext (.tw_ wUntil .F .G)))))]) rfl rfl rfl rfl rfl rfl ?_
  refine WL.pure rfl rfl rfl ?_
  refine WL.sCat (a := [40, 114, 101, 108, 101, 97, 115, 101, 32]) (b := sf) rfl rfl rfl rfl (by simp only [List.length_cons, List.length_nil]; omega) ?_
  refine WL.sCat (a := [40, 114, 101, 108, 101, 97, 115, 101, 32] ++ sf) (b := [32]) rfl rfl rfl rfl (by simp only [List.length_append, List.length_cons, List.length_nil]; omega) ?_
  refine WL.pure rfl rfl rfl ?_
  refine WL.sCat (a := [40, 114, 101, 108, 101, 97, 115, 101, 32] ++ sf ++ [32]) (b := sg) rfl rfl rfl rfl (by simp only [List.length_append, List.length_cons, List.length_nil]; omega) ?_
  refine WL.sCat (a := [40, 114, 101, 108, 101, 97, 115, 101, 32] ++ sf ++ [32] ++ sg) (b := [41]) rfl rfl rfl rfl (by simp only [List.length_append, List.length_cons, List.length_nil]; omega) ?_
  refine WL.pure rfl rfl rfl ?_
  refine WL.sCat (a := [40, 97, 110, 100, 32]) (b := sg) rfl rfl rfl rfl (by simp only [List.length_cons, List.length_nil]; omega) ?_
  refine WL.sCat (a := [40, 97, 110, 100, 32] ++ sg) (b := [32, 40, 111, 114, 32]) rfl rfl rfl rfl (by simp only [List.length_append, List.length_cons, List.length_nil]; omega) ?_
  refine WL.pure rfl rfl rfl ?_
  refine WL.sCat (a := [40, 97, 110, 100, 32] ++ sg ++ [32, 40, 111, 114, 32]) (b := sf) rfl rfl rfl rfl (by simp only [List.length_append, List.length_cons, List.length_nil]; omega) ?_
  refine WL.sCat (a := [40, 97, 110, 100, 32] ++ sg ++ [32, 40, 111, 114, 32] ++ sf) (b := [32, 40, 110, 101, 120, 116, 32, 40, 114, 101, 108, 101, 97, 115, 101, 32]) rfl rfl rfl rfl (by simp only [List.length_append, List.length_cons, List.length_nil]; omega) ?_
  refine WL.pure rfl rfl rfl ?_
  refine WL.sCat (a := [40, 97, 110, 100, 32] ++ sg ++ [32, 40, 111, 114, 32] ++ sf ++ [32, 40, 110, 101, 120, 116, 32, 40, 114, 101, 108, 101, 97, 115, 101, 32]) (b := sf) rfl rfl rfl rfl (by simp only [List.length_append, List.length_cons, List.length_nil]; omega) ?_
  refine WL.sCat (a := [40, 97, 110, 100, 32] ++ sg ++ [32, 40, 111, 114, 32] ++ sf ++ [32, 40, 110, 101, 120, 116, 32, 40, 114, 101, 108, 101, 97, 115, 101, 32] ++ sf) (b := [32]) rfl rfl rfl rfl (by simp only [List.length_append, List.length_cons, List.length_nil]; omega) ?_
  refine WL.pure rfl rfl rfl ?_
  refine WL.sCat (a := [40, 97, 110, 100, 32] ++ sg ++ [32, 40, 111, 114, 32] ++ sf ++ [32, 40, 110, 101, 120, 116, 32, 40, 114, 101, 108, 101, 97, 115, 101, 32] ++ sf ++ [32]) (b := sg) rfl rfl rfl rfl (by simp only [List.length_append, List.length_cons, List.length_nil]; omega) ?_
  refine WL.sCat (a := [40, 97, 110, 100, 32] ++ sg ++ [32, 40, 111, 114, 32] ++ sf ++ [32, 40, 110, 101, 120, 116, 32, 40, 114, 101, 108, 101, 97, 115, 101, 32] ++ sf ++ [32] ++ sg) (b := [41, 41, 41, 41]) rfl rfl rfl rfl (by simp only [List.length_append, List.length_cons, List.length_nil]; omega) ?_
  refine WL.known (d := 69) (v := st (txS sf sg (.tw_ wRelease .F .G))) (congrArg (fun z => some (st z)) (show [40, 114, 101, 108, 101, 97, 115, 101, 32] ++ sf ++ [32] ++ sg ++ [41] = txS sf sg (.tw_ wRelease .F .G) by simp [txS, biS, wRelease])) ?_
  refine WL.known (d := 81) (v := st (txS sf sg (.tw_ wAnd .G (.tw_ wOr .F (.on_ wNext (.tw_ wRelease .F .G)))))) (congrArg (fun z => some (st z)) (show [40, 97, 110, 100, 32] ++ sg ++ [32, 40, 111, 114, 32] ++ sf ++ [32, 40, 110, 101, 120, 116, 32, 40, 114, 101, 108, 101, 97, 115, 101, 32] ++ sf ++ [32] ++ sg ++ [41, 41, 41, 41] = txS sf sg (.tw_ wAnd .G (.tw_ wOr .F (.on_ wNext (.tw_ wRelease .F .G)))) by simp [txS, unS, biS, wRelease, wOr, wAnd, wNext])) ?_
  refine WL.buildA (cs := [st (txS sf sg (.tw_ wRelease .F .G)), st (txS sf sg (.tw_ wAnd .G (.tw_ wOr .F (.on_ wNext (.tw_ wRelease .F .G)))))]) rfl rfl rfl rfl rfl rfl ?_
  refine WL.pure rfl rfl rfl ?_
  refine WL.sCat (a := [40, 110, 111, 116, 32, 40, 117, 110, 116, 105, 108, 32]) (b := sf) rfl rfl rfl rfl (by simp only [List.length_cons, List.length_nil]; omega) ?_
  refine WL.sCat (a := [40, 110, 111, 116, 32, 40, 117, 110, 116, 105, 108, 32] ++ sf) (b := [32]) rfl rfl rfl rfl (by simp only [List.length_append, List.length_cons, List.length_nil]; omega) ?_
  refine WL.pure rfl rfl rfl ?_
  refine WL.sCat (a := [40, 110, 111, 116, 32, 40, 117, 110, 116, 105, 108, 32] ++ sf ++ [32]) (b := sg) rfl rfl rfl rfl (by simp only [List.length_append, List.length_cons, List.length_nil]; omega) ?_
  refine WL.sCat (a := [40, 110, 111, 116, 32, 40, 117, 110, 116, 105, 108, 32] ++ sf ++ [32] ++ sg) (b := [41, 41]) rfl rfl rfl rfl (by simp only [List.length_append, List.length_cons, List.length_nil]; omega) ?_
  refine WL.pure rfl rfl rfl ?_
  refine WL.sCat (a := [40, 114, 101, 108, 101, 97, 115, 101, 32, 40, 110, 111, 116, 32]) (b := sf) rfl rfl rfl rfl (by simp only [List.length_cons, List.length_nil]; omega) ?_
  refine WL.sCat (a := [40, 114, 101, 108, 101, 97, 115, 101, 32, 40, 110, 111, 116, 32] ++ sf) (b := [41, 32, 40, 110, 111, 116, 32]) rfl rfl rfl rfl (by simp only [List.length_append, List.length_cons, List.length_nil]; omega) ?_
  refine WL.pure rfl rfl rfl ?_
  refine WL.sCat (a := [40, 114, 101, 108, 101, 97, 115, 101, 32, 40, 110, 111, 116, 32] ++ sf ++ [41, 32, 40, 110, 111, 116, 32]) (b := sg) rfl rfl rfl rfl (by simp only [List.length_append, List.length_cons, List.length_nil]; omega) ?_
  refine WL.sCat (a := [40, 114, 101, 108, 101, 97, 115, 101, 32, 40, 110, 111, 116, 32] ++ sf ++ [41, 32, 40, 110, 111, 116, 32] ++ sg) (b := [41, 41]) rfl rfl rfl rfl (by simp only [List.length_append, List.length_cons, List.length_nil]; omega) ?_
  refine WL.known (d := 88) (v := st (txS sf sg (.on_ wNot (.tw_ wUntil .F .G)))) (congrArg (fun z => some (st z)) (show [40, 110, 111, 116, 32, 40, 117, 110, 116, 105, 108, 32] ++ sf ++ [32] ++ sg ++ [41, 41] = txS sf sg (.on_ wNot (.tw_ wUntil .F .G)) by simp [txS, unS, biS, wUntil, wNot])) ?_
  refine WL.known (d := 94) (v := st (txS sf sg (.tw_ wRelease (.on_ wNot .F) (.on_ wNot .G)))) (congrArg (fun z => some (st z)) (show [40, 114, 101, 108, 101, 97, 115, 101, 32, 40, 110, 111, 116, 32] ++ sf ++ [41, 32, 40, 110, 111, 116, 32] ++ sg ++ [41, 41] = txS sf sg (.tw_ wRelease (.on_ wNot .F) (.on_ wNot .G)) by simp [txS, unS, biS, wRelease, wNot])) ?_
  refine WL.buildA (cs := [st (txS sf sg (.on_ wNot (.tw_ wUntil .F .G))), st (txS sf sg (.tw_ wRelease (.on_ wNot .F) (.on_ wNot .G)))]) rfl rfl rfl rfl rfl rfl ?_
  refine WL.pure rfl rfl rfl ?_
  refine WL.sCat (a := [40, 97, 108, 119, 97, 121, 115, 32]) (b := sf) rfl rfl rfl rfl (by simp only [List.length_cons, List.length_nil]; omega) ?_
  refine WL.sCat (a := [40, 97, 108, 119, 97, 121, 115, 32] ++ sf) (b := [41]) rfl rfl rfl rfl (by simp only [List.length_append, List.length_cons, List.length_nil]; omega) ?_
  refine WL.pure rfl rfl rfl ?_
  refine WL.sCat (a := [40, 114, 101, 108, 101, 97, 115, 101, 32, 102, 97, 108, 115, 101, 32]) (b := sf) rfl rfl rfl rfl (by simp only [List.length_cons, List.length_nil]; omega) ?_
  refine WL.sCat (a := [40, 114, 101, 108, 101, 97, 115, 101, 32, 102, 97, 108, 115, 101, 32] ++ sf) (b := [41]) rfl rfl rfl rfl (by simp only [List.length_append, List.length_cons, List.length_nil]; omega) ?_
  refine WL.known (d := 98) (v := st (txS sf sg (.on_ wAlways .F))) (congrArg (fun z => some (st z)) (show [40, 97, 108, 119, 97, 121, 115, 32] ++ sf ++ [41] = txS sf sg (.on_ wAlways .F) by simp [txS, unS, wAlways])) ?_
  refine WL.known (d := 101) (v := st (txS sf sg (.tw_ wRelease (.at_ wFalse) .F))) (congrArg (fun z => some (st z)) (show [40, 114, 101, 108, 101, 97, 115, 101, 32, 102, 97, 108, 115, 101, 32] ++ sf ++ [41] = txS sf sg (.tw_ wRelease (.at_ wFalse) .F) by simp [txS, biS, wRelease, wFalse])) ?_
  refine WL.buildA (cs := [st (txS sf sg (.on_ wAlways .F)), st (txS sf sg (.tw_ wRelease (.at_ wFalse) .F))]) rfl rfl rfl rfl rfl rfl ?_
  refine WL.pure rfl rfl rfl ?_
  refine WL.sCat (a := [40, 102, 105, 110, 97, 108, 108, 121, 32]) (b := sf) rfl rfl rfl rfl (by simp only [List.length_cons, List.length_nil]; omega) ?_
  refine WL.sCat (a := [40, 102, 105, 110, 97, 108, 108, 121, 32] ++ sf) (b := [41]) rfl rfl rfl rfl (by simp only [List.length_append, List.length_cons, List.length_nil]; omega) ?_
  refine WL.pure rfl rfl rfl ?_
  refine WL.sCat (a := [40, 117, 110, 116, 105, 108, 32, 116, 114, 117, 101, 32]) (b := sf) rfl rfl rfl rfl (by simp only [List.length_cons, List.length_nil]; omega) ?_
  refine WL.sCat (a := [40, 117, 110, 116, 105, 108, 32, 116, 114, 117, 101, 32] ++ sf) (b := [41]) rfl rfl rfl rfl (by simp only [List.length_append, List.length_cons, List.length_nil]; omega) ?_
  refine WL.known (d := 105) (v := st (txS sf sg (.on_ wFinally .F))) (congrArg (fun z => some (st z)) (show [40, 102, 105, 110, 97, 108, 108, 121, 32] ++ sf ++ [41] = txS sf sg (.on_ wFinally .F) by simp [txS, unS, wFinally])) ?_
  refine WL.known (d := 108) (v := st (txS sf sg (.tw_ wUntil (.at_ wTrue) .F))) (congrArg (fun z => some (st z)) (show [40, 117, 110, 116, 105, 108, 32, 116, 114, 117, 101, 32] ++ sf ++ [41] = txS sf sg (.tw_ wUntil (.at_ wTrue) .F) by simp [txS, biS, wUntil, wTrue])) ?_
  refine WL.buildA (cs := [st (txS sf sg (.on_ wFinally .F)), st (txS sf sg (.tw_ wUntil (.at_ wTrue) .F))]) rfl rfl rfl rfl rfl rfl ?_
  refine WL.pure rfl rfl rfl ?_
  refine WL.sCat (a := [40, 110, 111, 116, 32, 40, 97, 108, 119, 97, 121, 115, 32]) (b := sf) rfl rfl rfl rfl (by simp only [List.length_cons, List.length_nil]; omega) ?_
  refine WL.sCat (a := [40, 110, 111, 116, 32, 40, 97, 108, 119, 97, 121, 115, 32] ++ sf) (b := [41, 41]) rfl rfl rfl rfl (by simp only [List.length_append, List.length_cons, List.length_nil]; omega) ?_
  refine WL.pure rfl rfl rfl ?_
  refine WL.sCat (a := [40, 102, 105, 110, 97, 108, 108, 121, 32, 40, 110, 111, 116, 32]) (b := sf) rfl rfl rfl rfl (by simp only [List.length_cons, List.length_nil]; omega) ?_
  refine WL.sCat (a := [40, 102, 105, 110, 97, 108, 108, 121, 32, 40, 110, 111, 116, 32] ++ sf) (b := [41, 41]) rfl rfl rfl rfl (by simp only [List.length_append, List.length_cons, List.length_nil]; omega) ?_
  refine WL.known (d := 112) (v := st (txS sf sg (.on_ wNot (.on_ wAlways .F)))) (congrArg (fun z => some (st z)) (show [40, 110, 111, 116, 32, 40, 97, 108, 119, 97, 121, 115, 32] ++ sf ++ [41, 41] = txS sf sg (.on_ wNot (.on_ wAlways .F)) by simp [txS, unS, wNot, wAlways])) ?_
  refine WL.known (d := 115) (v := st (txS sf sg (.on_ wFinally (.on_ wNot .F)))) (congrArg (fun z => some (st z)) (show [40, 102, 105, 110, 97, 108, 108, 121, 32, 40, 110, 111, 116, 32] ++ sf ++ [41, 41] = txS sf sg (.on_ wFinally (.on_ wNot .F)) by simp [txS, unS, wNot, wFinally])) ?_
  refine WL.buildA (cs := [st (txS sf sg (.on_ wNot (.on_ wAlways .F))), st (txS sf sg (.on_ wFinally (.on_ wNot .F)))]) rfl rfl rfl rfl rfl rfl ?_
  refine WL.pure rfl rfl rfl ?_
  refine WL.sCat (a := [40, 97, 108, 119, 97, 121, 115, 32]) (b := sf) rfl rfl rfl rfl (by simp only [List.length_cons, List.length_nil]; omega) ?_
  refine WL.sCat (a := [40, 97, 108, 119, 97, 121, 115, 32] ++ sf) (b := [41]) rfl rfl rfl rfl (by simp only [List.length_append, List.length_cons, List.length_nil]; omega) ?_
  refine WL.pure rfl rfl rfl ?_
  refine WL.sCat (a := [40, 97, 110, 100, 32]) (b := sf) rfl rfl rfl rfl (by simp only [List.length_cons, List.length_nil]; omega) ?_
  refine WL.sCat (a := [40, 97, 110, 100, 32] ++ sf) (b := [32, 40, 110, 101, 120, 116, 32, 40, 97, 108, 119, 97, 121, 115, 32]) rfl rfl rfl rfl (by simp only [List.length_append, List.length_cons, List.length_nil]; omega) ?_
  refine WL.pure rfl rfl rfl ?_
  refine WL.sCat (a := [40, 97, 110, 100, 32] ++ sf ++ [32, 40, 110, 101, 120, 116, 32, 40, 97, 108, 119, 97, 121, 115, 32]) (b := sf) rfl rfl rfl rfl (by simp only [List.length_append, List.length_cons, List.length_nil]; omega) ?_
  refine WL.sCat (a := [40, 97, 110, 100, 32] ++ sf ++ [32, 40, 110, 101, 120, 116, 32, 40, 97, 108, 119, 97, 121, 115, 32] ++ sf) (b := [41, 41, 41]) rfl rfl rfl rfl (by simp only [List.length_append, List.length_cons, List.length_nil]; omega) ?_
  refine WL.known (d := 119) (v := st (txS sf sg (.on_ wAlways .F))) (congrArg (fun z => some (st z)) (show [40, 97, 108, 119, 97, 121, 115, 32] ++ sf ++ [41] = txS sf sg (.on_ wAlways .F) by simp [txS, unS, wAlways])) ?_
  refine WL.known (d := 125) (v := st (txS sf sg (.tw_ wAnd .F (.on_ wNext (.on_ wAlways .F))))) (congrArg (fun z => some (st z)) (show [40, 97, 110, 100, 32] ++ sf ++ [32, 40, 110, 101, 120, 116, 32, 40, 97, 108, 119, 97, 121, 115, 32] ++ sf ++ [41, 41, 41] = txS sf sg (.tw_ wAnd .F (.on_ wNext (.on_ wAlways .F))) by simp [txS, unS, biS, wAnd, wNext, wAlways])) ?_
  refine WL.buildA (cs := [st (txS sf sg (.on_ wAlways .F)), st (txS sf sg (.tw_ wAnd .F (.on_ wNext (.on_ wAlways .F))))]) rfl rfl rfl rfl rfl rfl ?_
  refine WL.pure rfl rfl rfl ?_
  refine WL.sCat (a := [40, 110, 101, 120, 116, 32, 40, 97, 110, 100, 32]) (b := sf) rfl rfl rfl rfl (by simp only [List.length_cons, List.length_nil]; omega) ?_
  refine WL.sCat (a := [40, 110, 101, 120, 116, 32, 40, 97, 110, 100, 32] ++ sf) (b := [32]) rfl rfl rfl rfl (by simp only [List.length_append, List.length_cons, List.length_nil]; omega) ?_
  refine WL.pure rfl rfl rfl ?_
  refine WL.sCat (a := [40, 110, 101, 120, 116, 32, 40, 97, 110, 100, 32] ++ sf ++ [32]) (b := sg) rfl rfl rfl rfl (by simp only [List.length_append, List.length_cons, List.length_nil]; omega) ?_
  refine WL.sCat (a := [40, 110, 101, 120, 116, 32, 40, 97, 110, 100, 32] ++ sf ++ [32] ++ sg) (b := [41, 41]) rfl rfl rfl rfl (by simp only [List.length_append, List.length_cons, List.length_nil]; omega) ?_
  refine WL.pure rfl rfl rfl ?_
  refine WL.sCat (a := [40, 97, 110, 100, 32, 40, 110, 101, 120, 116, 32]) (b := sf) rfl rfl rfl rfl (by simp only [List.length_cons, List.length_nil]; omega) ?_
  refine WL.sCat (a := [40, 97, 110, 100, 32, 40, 110, 101, 120, 116, 32] ++ sf) (b := [41, 32, 40, 110, 101, 120, 116, 32]) rfl rfl rfl rfl (by simp only [List.length_append, List.length_cons, List.length_nil]; omega) ?_
  refine WL.pure rfl rfl rfl ?_
  refine WL.sCat (a := [40, 97, 110, 100, 32, 40, 110, 101, 120, 116, 32] ++ sf ++ [41, 32, 40, 110, 101, 120, 116, 32]) (b := sg) rfl rfl rfl rfl (by simp only [List.length_append, List.length_cons, List.length_nil]; omega) ?_
  refine WL.sCat (a := [40, 97, 110, 100, 32, 40, 110, 101, 120, 116, 32] ++ sf ++ [41, 32, 40, 110, 101, 120, 116, 32] ++ sg) (b := [41, 41]) rfl rfl rfl rfl (by simp only [List.length_append, List.length_cons, List.length_nil]; omega) ?_
  refine WL.known (d := 132) (v := st (txS sf sg (.on_ wNext (.tw_ wAnd .F .G)))) (congrArg (fun z => some (st z)) (show [40, 110, 101, 120, 116, 32, 40, 97, 110, 100, 32] ++ sf ++ [32] ++ sg ++ [41, 41] = txS sf sg (.on_ wNext (.tw_ wAnd .F .G)) by simp [txS, unS, biS, wAnd, wNext])) ?_
  refine WL.known (d := 138) (v := st (txS sf sg (.tw_ wAnd (.on_ wNext .F) (.on_ wNext .G)))) (congrArg (fun z => some (st z)) (show [40, 97, 110, 100, 32, 40, 110, 101, 120, 116, 32] ++ sf ++ [41, 32, 40, 110, 101, 120, 116, 32] ++ sg ++ [41, 41] = txS sf sg (.tw_ wAnd (.on_ wNext .F) (.on_ wNext .G)) by simp [txS, unS, biS, wAnd, wNext])) ?_
  refine WL.buildA (cs := [st (txS sf sg (.on_ wNext (.tw_ wAnd .F .G))), st (txS sf sg (.tw_ wAnd (.on_ wNext .F) (.on_ wNext .G)))]) rfl rfl rfl rfl rfl rfl ?_
  refine WL.pure rfl rfl rfl ?_
  refine WL.sCat (a := [40, 97, 108, 119, 97, 121, 115, 32, 40, 97, 110, 100, 32]) (b := sf) rfl rfl rfl rfl (by simp only [List.length_cons, List.length_nil]; omega) ?_
  refine WL.sCat (a := [40, 97, 108, 119, 97, 121, 115, 32, 40, 97, 110, 100, 32] ++ sf) (b := [32]) rfl rfl rfl rfl (by simp only [List.length_append, List.length_cons, List.length_nil]; omega) ?_
  refine WL.pure rfl rfl rfl ?_
  refine WL.sCat (a := [40, 97, 108, 119, 97, 121, 115, 32, 40, 97, 110, 100, 32] ++ sf ++ [32]) (b := sg) rfl rfl rfl rfl (by simp only [List.length_append, List.length_cons, List.length_nil]; omega) ?_
  refine WL.sCat (a := [40, 97, 108, 119, 97, 121, 115, 32, 40, 97, 110, 100, 32] ++ sf ++ [32] ++ sg) (b := [41, 41]) rfl rfl rfl rfl (by simp only [List.length_append, List.length_cons, List.length_nil]; omega) ?_
  refine WL.pure rfl rfl rfl ?_
  refine WL.sCat (a := [40, 97, 110, 100, 32, 40, 97, 108, 119, 97, 121, 115, 32]) (b := sf) rfl rfl rfl rfl (by simp only [List.length_cons, List.length_nil]; omega) ?_
  refine WL.sCat (a := [40, 97, 110, 100, 32, 40, 97, 108, 119, 97, 121, 115, 32] ++ sf) (b := [41, 32, 40, 97, 108, 119, 97, 121, 115, 32]) rfl rfl rfl rfl (by simp only [List.length_append, List.length_cons, List.length_nil]; omega) ?_
  refine WL.pure rfl rfl rfl ?_
  refine WL.sCat (a := [40, 97, 110, 100, 32, 40, 97, 108, 119, 97, 121, 115, 32] ++ sf ++ [41, 32, 40, 97, 108, 119, 97, 121, 115, 32]) (b := sg) rfl rfl rfl rfl (by simp only [List.length_append, List.length_cons, List.length_nil]; omega) ?_
  refine WL.sCat (a := [40, 97, 110, 100, 32, 40, 97, 108, 119, 97, 121, 115, 32] ++ sf ++ [41, 32, 40, 97, 108, 119, 97, 121, 115, 32] ++ sg) (b := [41, 41]) rfl rfl rfl rfl (by simp only [List.length_append, List.length_cons, List.length_nil]; omega) ?_
  refine WL.known (d := 145) (v := st (txS sf sg (.on_ wAlways (.tw_ wAnd .F .G)))) (congrArg (fun z => some (st z)) (show [40, 97, 108, 119, 97, 121, 115, 32, 40, 97, 110, 100, 32] ++ sf ++ [32] ++ sg ++ [41, 41] = txS sf sg (.on_ wAlways (.tw_ wAnd .F .G)) by simp [txS, unS, biS, wAnd, wAlways])) ?_
  refine WL.known (d := 151) (v := st (txS sf sg (.tw_ wAnd (.on_ wAlways .F) (.on_ wAlways .G)))) (congrArg (fun z => some (st z)) (show [40, 97, 110, 100, 32, 40, 97, 108, 119, 97, 121, 115, 32] ++ sf ++ [41, 32, 40, 97, 108, 119, 97, 121, 115, 32] ++ sg ++ [41, 41] = txS sf sg (.tw_ wAnd (.on_ wAlways .F) (.on_ wAlways .G)) by simp [txS, unS, biS, wAnd, wAlways])) ?_
  refine WL.buildA (cs := [st (txS sf sg (.on_ wAlways (.tw_ wAnd .F .G))), st (txS sf sg (.tw_ wAnd (.on_ wAlways .F) (.on_ wAlways .G)))]) rfl rfl rfl rfl rfl rfl ?_
  refine WL.pure rfl rfl rfl ?_
  refine WL.sCat (a := [40, 102, 105, 110, 97, 108, 108, 121, 32, 40, 111, 114, 32]) (b := sf) rfl rfl rfl rfl (by simp only [List.length_cons, List.length_nil]; omega) ?_
  refine WL.sCat (a := [40, 102, 105, 110, 97, 108, 108, 121, 32, 40, 111, 114, 32] ++ sf) (b := [32]) rfl rfl rfl rfl (by simp only [List.length_append, List.length_cons, List.length_nil]; omega) ?_
  refine WL.pure rfl rfl rfl ?_
  refine WL.sCat (a := [40, 102, 105, 110, 97, 108, 108, 121, 32, 40, 111, 114, 32] ++ sf ++ [32]) (b := sg) rfl rfl rfl rfl (by simp only [List.length_append, List.length_cons, List.length_nil]; omega) ?_
  refine WL.sCat (a := [40, 102, 105, 110, 97, 108, 108, 121, 32, 40, 111, 114, 32] ++ sf ++ [32] ++ sg) (b := [41, 41]) rfl rfl rfl rfl (by simp only [List.length_append, List.length_cons, List.length_nil]; omega) ?_
  refine WL.pure rfl rfl rfl ?_
  refine WL.sCat (a := [40, 111, 114, 32, 40, 102, 105, 110, 97, 108, 108, 121, 32]) (b := sf) rfl rfl rfl rfl (by simp only [List.length_cons, List.length_nil]; omega) ?_
  refine WL.sCat (a := [40, 111, 114, 32, 40, 102, 105, 110, 97, 108, 108, 121, 32] ++ sf) (b := [41, 32, 40, 102, 105, 110, 97, 108, 108, 121, 32]) rfl rfl rfl rfl (by simp only [List.length_append, List.length_cons, List.length_nil]; omega) ?_
  refine WL.pure rfl rfl rfl ?_
  refine WL.sCat (a := [40, 111, 114, 32, 40, 102, 105, 110, 97, 108, 108, 121, 32] ++ sf ++ [41, 32, 40, 102, 105, 110, 97, 108, 108, 121, 32]) (b := sg) rfl rfl rfl rfl (by simp only [List.length_append, List.length_cons, List.length_nil]; omega) ?_
  refine WL.sCat (a := [40, 111, 114, 32, 40, 102, 105, 110, 97, 108, 108, 121, 32] ++ sf ++ [41, 32, 40, 102, 105, 110, 97, 108, 108, 121, 32] ++ sg) (b := [41, 41]) rfl rfl rfl rfl (by simp only [List.length_append, List.length_cons, List.length_nil]; omega) ?_
  refine WL.known (d := 158) (v := st (txS sf sg (.on_ wFinally (.tw_ wOr .F .G)))) (congrArg (fun z => some (st z)) (show [40, 102, 105, 110, 97, 108, 108, 121, 32, 40, 111, 114, 32] ++ sf ++ [32] ++ sg ++ [41, 41] = txS sf sg (.on_ wFinally (.tw_ wOr .F .G)) by simp [txS, unS, biS, wOr, wFinally])) ?_
  refine WL.known (d := 164) (v := st (txS sf sg (.tw_ wOr (.on_ wFinally .F) (.on_ wFinally .G)))) (congrArg (fun z => some (st z)) (show [40, 111, 114, 32, 40, 102, 105, 110, 97, 108, 108, 121, 32] ++ sf ++ [41, 32, 40, 102, 105, 110, 97, 108, 108, 121, 32] ++ sg ++ [41, 41] = txS sf sg (.tw_ wOr (.on_ wFinally .F) (.on_ wFinally .G)) by simp [txS, unS, biS, wOr, wFinally])) ?_
  refine WL.buildA (cs := [st (txS sf sg (.on_ wFinally (.tw_ wOr .F .G))), st (txS sf sg (.tw_ wOr (.on_ wFinally .F) (.on_ wFinally .G)))]) rfl rfl rfl rfl rfl rfl ?_
  refine WL.pure rfl rfl rfl ?_
  refine WL.sCat (a := [40, 97, 108, 119, 97, 121, 115, 32, 40, 97, 108, 119, 97, 121, 115, 32]) (b := sf) rfl rfl rfl rfl (by simp only [List.length_cons, List.length_nil]; omega) ?_
  refine WL.sCat (a := [40, 97, 108, 119, 97, 121, 115, 32, 40, 97, 108, 119, 97, 121, 115, 32] ++ sf) (b := [41, 41]) rfl rfl rfl rfl (by simp only [List.length_append, List.length_cons, List.length_nil]; omega) ?_
  refine WL.pure rfl rfl rfl ?_
  refine WL.sCat (a := [40, 97, 108, 119, 97, 121, 115, 32]) (b := sf) rfl rfl rfl rfl (by simp only [List.length_cons, List.length_nil]; omega) ?_
  refine WL.sCat (a := [40, 97, 108, 119, 97, 121, 115, 32] ++ sf) (b := [41]) rfl rfl rfl rfl (by simp only [List.length_append, List.length_cons, List.length_nil]; omega) ?_
  refine WL.known (d := 168) (v := st (txS sf sg (.on_ wAlways (.on_ wAlways .F)))) (congrArg (fun z => some (st z)) (show [40, 97, 108, 119, 97, 121, 115, 32, 40, 97, 108, 119, 97, 121, 115, 32] ++ sf ++ [41, 41] = txS sf sg (.on_ wAlways (.on_ wAlways .F)) by simp [txS, unS, wAlways])) ?_
  refine WL.known (d := 171) (v := st (txS sf sg (.on_ wAlways .F))) (congrArg (fun z => some (st z)) (show [40, 97, 108, 119, 97, 121, 115, 32] ++ sf ++ [41] = txS sf sg (.on_ wAlways .F) by simp [txS, unS, wAlways])) ?_
  refine WL.buildA (cs := [st (txS sf sg (.on_ wAlways (.on_ wAlways .F))), st (txS sf sg (.on_ wAlways .F))]) rfl rfl rfl rfl rfl rfl ?_
  refine WL.pure rfl rfl rfl ?_
  refine WL.sCat (a := [40, 102, 105, 110, 97, 108, 108, 121, 32, 40, 97, 108, 119, 97, 121, 115, 32, 40, 102, 105, 110, 97, 108, 108, 121, 32]) (b := sf) rfl rfl rfl rfl (by simp only [List.length_cons, List.length_nil]; omega) ?_
  refine WL.sCat (a := [40, 102, 105, 110, 97, 108, 108, 121, 32, 40, 97, 108, 119, 97, 121, 115, 32, 40, 102, 105, 110, 97, 108, 108, 121, 32] ++ sf) (b := [41, 41, 41]) rfl rfl rfl rfl (by simp only [List.length_append, List.length_cons, List.length_nil]; omega) ?_
  refine WL.pure rfl rfl rfl ?_
  refine WL.sCat (a := [40, 97, 108, 119, 97, 121, 115, 32, 40, 102, 105, 110, 97, 108, 108, 121, 32]) (b := sf) rfl rfl rfl rfl (by simp only [List.length_cons, List.length_nil]; omega) ?_
  refine WL.sCat (a := [40, 97, 108, 119, 97, 121, 115, 32, 40, 102, 105, 110, 97, 108, 108, 121, 32] ++ sf) (b := [41, 41]) rfl rfl rfl rfl (by simp only [List.length_append, List.length_cons, List.length_nil]; omega) ?_
  refine WL.known (d := 175) (v := st (txS sf sg (.on_ wFinally (.on_ wAlways (.on_ wFinally .F))))) (congrArg (fun z => some (st z)) (show [40, 102, 105, 110, 97, 108, 108, 121, 32, 40, 97, 108, 119, 97, 121, 115, 32, 40, 102, 105, 110, 97, 108, 108, 121, 32] ++ sf ++ [41, 41, 41] = txS sf sg (.on_ wFinally (.on_ wAlways (.on_ wFinally .F))) by simp [txS, unS, wAlways, wFinally])) ?_
  refine WL.known (d := 178) (v := st (txS sf sg (.on_ wAlways (.on_ wFinally .F)))) (congrArg (fun z => some (st z)) (show [40, 97, 108, 119, 97, 121, 115, 32, 40, 102, 105, 110, 97, 108, 108, 121, 32] ++ sf ++ [41, 41] = txS sf sg (.on_ wAlways (.on_ wFinally .F)) by simp [txS, unS, wAlways, wFinally])) ?_
  refine WL.buildA (cs := [st (txS sf sg (.on_ wFinally (.on_ wAlways (.on_ wFinally .F)))), st (txS sf sg (.on_ wAlways (.on_ wFinally .F)))]) rfl rfl rfl rfl rfl rfl ?_
  refine WL.buildA (cs := lawC sf sg) rfl rfl rfl rfl rfl rfl ?_
  refine WL.alloc rfl rfl rfl (fun b11 w8 h8 => ?_)
  have hp8 := hp4.new h8
  refine WL.storeN rfl rfl rfl rfl rfl (by simp [Value.oneCell', lawC, lawL, st]) (hp8.obj 0 rfl) (Nat.le_refl _) rfl (fun w9 h9 => ?_)
  have hp9 : Hp w w9 [.blk b11 (.cells (lawC sf sg).toArray 69 (0, 0))] := hp8.set 0 rfl rfl h9
  clear hp8 h8 h9
  obtain ⟨j, hj⟩ : ∃ j, j = modN x 12 := ⟨_, rfl⟩
  have hj12 : j < 12 := by rw [hj]; exact modN_lt (by decide) x
  have hjl : j < lawL.length := hj12
  have hpm : lawL[j] ∈ lawL := List.getElem_mem hjl
  have hcell : ∀ q, q < 2 → (lawC sf sg)[j * 2 + q]? = [st (txS sf sg lawL[j].1), st (txS sf sg lawL[j].2)][q]? := fun q hq => flat_at (fun p : Tm × Tm => [st (txS sf sg p.1), st (txS sf sg p.2)]) lawL (fun _ _ => rfl) j q hjl hq
  obtain ⟨hl1, hl2⟩ := tx_len hsf hsg _ hpm
  repeat (first | refine zA ?_ | refine zB ?_ | refine zC rfl rfl rfl ?_ | refine zD ?_ | refine zE ?_ | refine zF ?_ | refine zG rfl ?_ | refine zH rfl ?_ | refine zI rfl rfl rfl ?_ | refine zJ rfl rfl ?_ | refine zK ?_ | refine zL ?_ | refine zM rfl ?_ | refine zN ?_)
  refine WL.call rfl rfl rfl rfl rfl ent29 (mod_any x 12 (by decide) (by decide) w9) ?_
  rintro _ w10 ⟨rfl, hw10⟩
  obtain rfl := hw10.symm
  rw [← hj]
  refine WL.ixA (j := j) rfl rfl rfl rfl rfl rfl hj12 ?_
  refine WL.loadN rfl rfl rfl rfl rfl (cs := [st (txS sf sg lawL[j].1), st (txS sf sg lawL[j].2)]) rfl (fun q v hq => cell_of_obj (hp9.obj 0 rfl) (by
    rw [Nat.zero_add, List.getElem?_toArray]
    have hq2 : q < 2 := (List.getElem?_eq_some_iff.1 hq).1
    exact (hcell q hq2).trans hq)) ?_
  refine WL.alloc rfl rfl rfl (fun b12 w11 h11 => ?_)
  have hp11 := hp9.new h11
  refine WL.storeN rfl rfl rfl rfl rfl (by simp [Value.oneCell', st]) (hp11.obj 0 rfl) (Nat.le_refl _) rfl (fun w12 h12 => ?_)
  have hp12 : Hp w w12 [.blk b12 (.cells #[st (txS sf sg lawL[j].1), st (txS sf sg lawL[j].2)] 68 (0, 0)), .blk b11 (.cells (lawC sf sg).toArray 69 (0, 0))] := hp11.set 0 rfl rfl h12
  clear hp9 hp11 h11 h12
  repeat (first | refine zA ?_ | refine zB ?_ | refine zC rfl rfl rfl ?_ | refine zD ?_ | refine zE ?_ | refine zF ?_ | refine zG rfl ?_ | refine zH rfl ?_ | refine zI rfl rfl rfl ?_ | refine zJ rfl rfl ?_ | refine zK ?_ | refine zL ?_ | refine zM rfl ?_ | refine zN ?_)
  refine WL.loadB rfl rfl rfl rfl rfl (hp12.obj 0 rfl) (j := 0) rfl ?_
  refine WL.pure rfl rfl rfl ?_
  refine WL.loadB rfl rfl rfl rfl rfl (hp12.obj 0 rfl) (j := 1) rfl ?_
  refine WL.call rfl rfl rfl rfl rfl ent30 (Same_any (txS sf sg lawL[j].1) (txS sf sg lawL[j].2) hl1 hl2 w12 (hG.hp hp12)) ?_
  rintro _ w13 ⟨hb, sa, sl, sc, qa, ql, qc, ec, E, rfl, hp13, hS⟩
  have hp13 := hp12.call hp13.below
  have key := law_same wa wb ta tb hpm hS
  clear hS hp12
  repeat (first | refine zA ?_ | refine zB ?_ | refine zC rfl rfl rfl ?_ | refine zD ?_ | refine zE ?_ | refine zF ?_ | refine zG rfl ?_ | refine zH rfl ?_ | refine zI rfl rfl rfl ?_ | refine zJ rfl rfl ?_ | refine zK ?_ | refine zL ?_ | refine zM rfl ?_ | refine zN ?_)
  refine WL.alloc rfl rfl rfl (fun b13 w14 h14 => ?_)
  have hp14 := hp13.new h14
  refine WL.storeN rfl rfl rfl rfl rfl (by simp [Value.oneCell']) (hp14.obj 0 rfl) (Nat.le_refl _) rfl (fun w15 h15 => ?_)
  have hp15 := hp14.set 0 rfl rfl h15
  rcases key with ⟨rfl | rfl, rfl⟩ | ⟨rfl, rfl⟩ <;>
  · repeat (first | refine zA ?_ | refine zB ?_ | refine zC rfl rfl rfl ?_ | refine zD ?_ | refine zE ?_ | refine zF ?_ | refine zG rfl ?_ | refine zH rfl ?_ | refine zI rfl rfl rfl ?_ | refine zJ rfl rfl ?_ | refine zK ?_ | refine zL ?_ | refine zM rfl ?_ | refine zN ?_)
    refine WL.loadB rfl rfl rfl rfl rfl (hp15.obj 0 rfl) (j := 0) rfl ?_
    repeat (first | refine zA ?_ | refine zB ?_ | refine zC rfl rfl rfl ?_ | refine zD ?_ | refine zE ?_ | refine zF ?_ | refine zG rfl ?_ | refine zH rfl ?_ | refine zI rfl rfl rfl ?_ | refine zJ rfl rfl ?_ | refine zK ?_ | refine zL ?_ | refine zM rfl ?_ | refine zN ?_)
    refine WL.call rfl rfl rfl rfl rfl ent20 (awake_any w15 (hG.hp hp15)) ?_
    rintro _ w16 ⟨rfl, hp16⟩
    repeat (first | refine zA ?_ | refine zB ?_ | refine zC rfl rfl rfl ?_ | refine zD ?_ | refine zE ?_ | refine zF ?_ | refine zG rfl ?_ | refine zH rfl ?_ | refine zI rfl rfl rfl ?_ | refine zJ rfl rfl ?_ | refine zK ?_ | refine zL ?_ | refine zM rfl ?_ | refine zN ?_)
    exact Res.one rfl rfl rfl ⟨rfl, (hp15.call hp16.below).nil'⟩
end Go.Proofs.YtpbbneclkhfgoaaDoor
end
section
/- The arguments of the laws on formulas, opened; what the package's variables hold. -/
namespace Go.Proofs.YtpbbneclkhfgoaaDoor
set_option maxRecDepth 100000
open Go.W Go.Ltl Go.RowKit Go.ChangeShapes Go.WideShapes Go.Deep

theorem own : ownKnob Tryd.prog.godebug = none := by kernel_rfl
theorem laidOut : laidOutB Tryd.prog = true := by kernel_rfl
theorem cellsStr : Tryd.prog.cellsOf 9 = 1 := by kernel_rfl
section
variable {H : Type} {enc : TypeId × Value → H} {w : World}
theorem sl_of_cells {a : Addr} {cs : List Value} (h : ∀ (i : Nat) (u : Value), cs[i]? = some u → w.cell? (a.add i) = some u) : Sl w (some a) cs := by
  intro i u hi
  have hc := h i u hi
  obtain ⟨b, o, s⟩ := a
  cases s with
  | none => exact ⟨b, o, rfl, by rw [Addr.add_lit] at hc; exact hc⟩
  | some q =>
    exfalso
    obtain ⟨hlt, _⟩ := List.getElem?_eq_some_iff.1 hi
    have h0 := h 0 cs[0] (by simp)
    have e0 : (⟨b, o, some q⟩ : Addr).add 0 = ⟨b, o, some q⟩ := by simp [Addr.add]
    rw [e0] at h0
    unfold World.cell? at h0
    simp at h0
    split at h0 <;> cases h0
/-- A string. -/
theorem open_str {fuel : Nat} {cs : List Value} {x : DataW H × List MemPlace} (h : DataW.trod enc Tryd.prog w 0 (fun _ => true) true fuel 9 cs = some x) : ∃ s : Str, cs = [st s] ∧ s.length ≤ 9223372036854775807 := by
  obtain ⟨s, hc, _, hl⟩ := DataW.trod_string Tryd.underlying9 h
  obtain ⟨l, rfl⟩ := sb_ex s
  unfold maxLen at hl
  rw [sb_size] at hl
  exact ⟨l, hc, hl⟩
end

/-! ### The package's variables -/
theorem var_cell {w : World} {n : String} {g : Nat} {cs : Array Value} {v : Value} (hg : Tryd.prog.globalNamed n = some g) (h : w.var? Tryd.prog n = some cs) (hv : cs[0]? = some v) : w.cell? ⟨g, 0, none⟩ = some v := by
  unfold World.var? at h
  rw [hg] at h
  simp only [Option.bind_some] at h
  split at h
  · rename_i cs' t fr hh
    simp only [Option.some.injEq] at h
    subst h
    exact cell_of_obj hh hv
  · cases h
/-- A variable that is a list of strings. -/
theorem laid_strs {w : World} {n : String} {g : Nat} (L : List Str) (hg : Tryd.prog.globalNamed n = some g) (ht : (Tryd.prog.globals[g]?).map (·.type) = some 92) (h : Lib.VarReads Tryd.prog w n (.slice (L.map fun s => .lit (.string s)) [])) (hL : 0 < L.length) :
    ∃ a c, w.cell? ⟨g, 0, none⟩ = some (.slice a L.length c) ∧ Sl w a (L.map st) := by
  obtain ⟨g', t', cs, fuel, p, h1, h2, h3, h4⟩ := h
  rw [hg] at h1
  simp only [Option.some.injEq] at h1
  subst h1
  rw [ht] at h2
  simp only [Option.some.injEq] at h2
  subst h2
  rcases open_slice1 Tryd.underlying92 cellsStr h4 with ⟨_, hx⟩ | ⟨a, len, cap, m, k, V, D, Pl, hcs, _, hl, hm, hmm, hx, hcell⟩
  · simp only [Prod.mk.injEq] at hx
    cases hx.1
  · simp only [Prod.mk.injEq, DataW.slice.injEq] at hx
    obtain ⟨⟨hD, hrest⟩, _⟩ := hx
    have hlen : len = L.length := by have := congrArg List.length hD; simpa using this.symm
    subst hlen
    have hv : cs[0]? = some (.slice (some a) L.length cap) := by
      have := congrArg (fun l : List Value => l[0]?) hcs
      simpa using this
    refine ⟨some a, cap, var_cell hg h3 hv, ?_⟩
    refine sl_of_cells ?_
    intro i u hi
    have hlt : i < L.length := by
      have := (List.getElem?_eq_some_iff.1 hi).1
      simpa using this
    have hlm : L.length ≤ m := by rw [hmm]; split <;> omega
    obtain ⟨c1, c2⟩ := hcell i (by omega)
    obtain ⟨s, e1, e2, _⟩ := DataW.trod_string Tryd.underlying9 c2
    obtain ⟨l, rfl⟩ := sb_ex s
    have hDi : D i = .lit (.string L[i]) := by
      have := congrArg (fun l => l[i]?) hD
      simpa [hlt] using this.symm
    simp only [Prod.mk.injEq] at e2
    rw [hDi] at e2
    have hll : L[i] = l := by
      have := e2.1
      simp only [DataW.lit.injEq, Lit.string.injEq] at this
      rw [this]; rfl
    simp only [List.cons.injEq, and_true] at e1
    rw [c1, e1, ← hi]
    simp [hlt, hll, st]
def dualS : List (Str × Str) := [(wAlways, wFinally), (wAnd, wOr), (wFalse, wTrue), (wFinally, wAlways), (wNext, wNext), (wOr, wAnd), (wRelease, wUntil), (wTrue, wFalse), (wUntil, wRelease)]
theorem laid_dual_is : (Rows.laid_olivette_ltl_dual : DataW Unit) = .map (dualS.map fun p => (.string p.1, .lit (.string p.2))) := rfl
theorem dualS_iff : ∀ p, p ∈ dualS ↔ p ∈ dualL := by
  intro p
  simp only [dualS, dualL, List.mem_cons, List.not_mem_nil, or_false]
  constructor <;> (intro h; rcases h with h | h | h | h | h | h | h | h | h <;> simp [h])
theorem dualL_key : ∀ p ∈ dualL, ∀ q ∈ dualL, p.1 = q.1 → p = q := by decide
theorem fndS_dual {P : List (Str × Str)} (h : ∀ p, p ∈ P ↔ p ∈ dualL) (s : Str) : fndS P s = dualM s := by
  unfold fndS dualM
  cases h1 : P.find? (fun p => decide (p.1 = s)) with
  | none =>
    cases h2 : dualL.find? (fun p => decide (p.1 = s)) with
    | none => rfl
    | some q =>
      exfalso
      have hq := List.mem_of_find?_eq_some h2
      have hs := List.find?_some h2
      exact absurd hs (List.find?_eq_none.1 h1 q ((h q).2 hq))
  | some p =>
    have hp := (h p).1 (List.mem_of_find?_eq_some h1)
    have hs : p.1 = s := by simpa using List.find?_some h1
    cases h2 : dualL.find? (fun p => decide (p.1 = s)) with
    | none => exact absurd (by simpa using hs) (List.find?_eq_none.1 h2 p hp)
    | some q =>
      have hq := List.mem_of_find?_eq_some h2
      have hs2 : q.1 = s := by simpa using List.find?_some h2
      rw [dualL_key p hp q hq (hs.trans hs2.symm)]
theorem se_of {es : List MapEntry} {rgf : MapEntry → Lit × DataW Unit} (h : ∀ y ∈ es, ∃ s t : Str, y.key = st s ∧ y.val = st t ∧ rgf y = (.string s, .lit (.string t))) : ∃ P, SE es P ∧ es.map rgf = P.map fun p => (.string p.1, .lit (.string p.2)) := by
  induction es with
  | nil => exact ⟨[], trivial, rfl⟩
  | cons y es ih =>
    obtain ⟨P, h1, h2⟩ := ih (fun z hz => h z (List.mem_cons_of_mem _ hz))
    obtain ⟨s, t, k1, k2, k3⟩ := h y (by simp)
    exact ⟨(s, t) :: P, ⟨k1, k2, h1⟩, by rw [List.map_cons, List.map_cons, k3, h2]⟩
theorem laid_map {w : World} {n : String} {g : Nat} (hg : Tryd.prog.globalNamed n = some g) (ht : (Tryd.prog.globals[g]?).map (·.type) = some 136) (h : Lib.VarReads Tryd.prog w n Rows.laid_olivette_ltl_dual) :
    ∃ mb es c P, w.cell? ⟨g, 0, none⟩ = some (.map (some mb)) ∧ mb < w.heap.size ∧ w.heap[mb]? = some (.map es c) ∧ SE es.toList P ∧ ∀ s, fndS P s = dualM s := by
  obtain ⟨g', t', cs, fuel, p, h1, h2, h3, h4⟩ := h
  rw [hg] at h1
  simp only [Option.some.injEq] at h1
  subst h1
  rw [ht] at h2
  simp only [Option.some.injEq] at h2
  subst h2
  rw [laid_dual_is] at h4
  rcases WideElems.open_map Tryd.underlying136 h4 with ⟨_, hx⟩ | ⟨b, es, clock, m, _, hcs, hb, _, hfit, hx⟩
  · simp only [Prod.mk.injEq] at hx
    cases hx.1
  · have hv : cs[0]? = some (.map (some b)) := by
      have := congrArg (fun l : List Value => l[0]?) hcs
      simpa using this
    have hread : ∀ y ∈ es.toList, ∃ s t : Str, y.key = st s ∧ y.val = st t ∧ WideElems.rg Tryd.prog 9 (WideElems.elemAt (fun _ => ()) Tryd.prog w 0 (fun _ => true) false m 9) y = (.string s, .lit (.string t)) := by
      intro y hy
      obtain ⟨z, hz⟩ := hfit.reads y hy
      have hk := WideElems.rd_key hz
      obtain ⟨q, hq, hq2⟩ := WideElems.rd_val hz
      have hk2 : ∃ s : Str, y.key = st s ∧ z.1 = .string s := by
        unfold keyOf at hk
        rw [Tryd.underlying9] at hk
        simp only at hk
        cases hkey : y.key <;> rw [hkey] at hk <;> simp only [mapKey, Tryd.underlying9] at hk <;> try (cases hk; done)
        rename_i s
        split at hk
        · obtain ⟨l, rfl⟩ := sb_ex s
          simp only [Option.some.injEq] at hk
          exact ⟨l, rfl, hk.symm⟩
        · cases hk
      obtain ⟨s, ks, zs1⟩ := hk2
      have hv2 : ∃ t : Str, y.val = st t ∧ z.2 = .lit (.string t) := by
        unfold WideElems.elemAt at hq
        split at hq
        · rename_i hform
          obtain ⟨s2, e1, e2, _⟩ := DataW.trod_string Tryd.underlying9 hq
          obtain ⟨l, rfl⟩ := sb_ex s2
          refine ⟨l, ?_, ?_⟩
          · cases hval : y.val <;> rw [hval] at e1 hform <;> simp [Value.cells] at e1
            · rw [e1]; rfl
            · rename_i vs
              exfalso
              unfold Value.formed at hform
              rw [Tryd.underlying9] at hform
              simp at hform
          · rw [hq2, e2]; rfl
        · cases hq
      obtain ⟨t, kt, zt⟩ := hv2
      exact ⟨s, t, ks, kt, by rw [WideElems.rg_of hz]; exact Prod.ext zs1 zt⟩
    obtain ⟨P, hSE, hP⟩ := se_of hread
    simp only [Prod.mk.injEq, DataW.map.injEq] at hx
    rw [hP] at hx
    have hperm := (sorted_perm (P.map fun p => ((Lit.string p.1, DataW.lit (Lit.string p.2)) : Lit × DataW Unit)))
    rw [← hx.1] at hperm
    have hmem : ∀ q, q ∈ P ↔ q ∈ dualL := by
      intro q
      rw [← dualS_iff]
      have h1 : ∀ (L : List (Str × Str)), q ∈ L ↔ ((Lit.string q.1, DataW.lit (Lit.string q.2)) : Lit × DataW Unit) ∈ L.map fun p => (Lit.string p.1, DataW.lit (Lit.string p.2)) := by
        intro L
        constructor
        · intro h; exact List.mem_map.2 ⟨q, h, rfl⟩
        · intro h
          obtain ⟨q2, h3, h4⟩ := List.mem_map.1 h
          simp only [Prod.mk.injEq, Lit.string.injEq, DataW.lit.injEq] at h4
          have : q2 = q := Prod.ext h4.1 h4.2
          rw [← this]; exact h3
      rw [h1 P, h1 dualS]
      exact hperm.mem_iff.symm
    exact ⟨b, es, clock, P, var_cell hg h3 hv, (Array.getElem?_eq_some_iff.1 hb).1, hb, hSE, fndS_dual hmem⟩
def laidAll : List (String × DataW Unit) := [("olivette/ltl.atoms", Rows.laid_olivette_ltl_atoms), ("olivette/ltl.ones", Rows.laid_olivette_ltl_ones), ("olivette/ltl.twos", Rows.laid_olivette_ltl_twos), ("olivette/ltl.dual", Rows.laid_olivette_ltl_dual)]
theorem gl_of {w : World} (h : laidMetH Tryd.prog laidAll w) : Gl w := by
  have h1 : laidMet Tryd.prog laidAll w := h
  refine ⟨?_, ?_, ?_, ?_⟩
  · exact laid_strs atomsL (n := "olivette/ltl.atoms") (by kernel_rfl) (by kernel_rfl) (Lib.laidMet.reads h1 (by simp [laidAll]; rfl)) (by decide)
  · exact laid_strs onesL (n := "olivette/ltl.ones") (by kernel_rfl) (by kernel_rfl) (Lib.laidMet.reads h1 (by simp [laidAll]; rfl)) (by decide)
  · exact laid_strs twosL (n := "olivette/ltl.twos") (by kernel_rfl) (by kernel_rfl) (Lib.laidMet.reads h1 (by simp [laidAll]; rfl)) (by decide)
  · exact laid_map (n := "olivette/ltl.dual") (by kernel_rfl) (by kernel_rfl) (Lib.laidMet.reads h1 (by simp [laidAll]))
end Go.Proofs.YtpbbneclkhfgoaaDoor
end
section
/- A world in which the package's variables hold what its text lays. -/
namespace Go.Proofs.YtpbbneclkhfgoaaDoor
set_option maxRecDepth 100000
open Go.W Go.Ltl Go.RowKit Go.ChangeShapes Go.WideShapes Go.Deep
def putV (v : Value) : Obj → Obj
  | .cells _ t fr => .cells #[v] t fr
  | o => o
def strBlk (l : List Str) : Obj := .cells (l.map st).toArray 9
def dualEs : List (Str × Str) → Nat → List MapEntry
  | [], _ => []
  | p :: r, i => { key := st p.1, val := st p.2, born := i } :: dualEs r (i + 1)
noncomputable def laidWorld (os : Os) : World :=
  { World.holding Tryd.prog os ⟨#[], #[], []⟩ with heap := (((((World.holding Tryd.prog os ⟨#[], #[], []⟩).heap.modify 0 (putV (.map (some 9)))).modify 1 (putV (.slice (some ⟨10, 0, none⟩) 6 6))).modify 2 (putV (.slice (some ⟨11, 0, none⟩) 4 4))).modify 3 (putV (.slice (some ⟨12, 0, none⟩) 4 4))) ++ #[.map (dualEs dualL 0).toArray 9, strBlk atomsL, strBlk onesL, strBlk twosL] }
theorem laid_met0 (os : Os) (args : Array Value) : laidMet Tryd.prog laidAll ((laidWorld os).forCall (fun _ _ => 0) ⟨#[], args, []⟩).memory :=
  laidMet_of_run' 8 (by kernel_rfl) (by kernel_rfl)
end Go.Proofs.YtpbbneclkhfgoaaDoor
end
section
/- Structures, results, pairs of formulas and of numbers as arguments, opened. -/
namespace Go.Proofs.YtpbbneclkhfgoaaDoor
set_option maxRecDepth 100000
open Go.W Go.Ltl Go.RowKit Go.ChangeShapes Go.WideShapes Go.Deep

section
variable {H : Type} {enc : TypeId × Value → H} {w : World}
theorem cellsTwo : Tryd.prog.cellsOf 67 = 2 := by kernel_rfl
/-- Two formulas. -/
theorem open_two {fuel : Nat} {cs : List Value} {x : DataW H × List MemPlace} (h : DataW.trod enc Tryd.prog w 0 (fun _ => true) true fuel 67 cs = some x) :
    ∃ s t : Str, cs = [st s, st t] ∧ s.length ≤ 9223372036854775807 ∧ t.length ≤ 9223372036854775807 := by
  obtain ⟨xs, k, _, _, hcl, hxl, hf⟩ := DataW.trod_struct Tryd.underlying67 h
  rw [cellsTwo] at hcl
  match cs, hcl with
  | [v0, v1], _ =>
    match xs, hxl with
    | [y0, y1], _ =>
      have g0 : DataW.trod enc Tryd.prog w 0 (fun _ => true) true k 9 (List.take (Tryd.prog.cellsOf 9) (List.drop 0 [v0, v1])) = some y0 := hf 0 _ rfl
      have g1 : DataW.trod enc Tryd.prog w 0 (fun _ => true) true k 9 (List.take (Tryd.prog.cellsOf 9) (List.drop 1 [v0, v1])) = some y1 := hf 1 _ rfl
      rw [cellsStr] at g0 g1
      obtain ⟨s0, e0, l0⟩ := open_str (show DataW.trod enc Tryd.prog w 0 (fun _ => true) true k 9 [v0] = some y0 from g0)
      obtain ⟨s1, e1, l1⟩ := open_str (show DataW.trod enc Tryd.prog w 0 (fun _ => true) true k 9 [v1] = some y1 from g1)
      simp only [List.cons.injEq, and_true] at e0 e1
      exact ⟨s0, s1, by rw [e0, e1], l0, l1⟩
end
end Go.Proofs.YtpbbneclkhfgoaaDoor
end
