/- Texts on the way to LtlLaws, one behind the other: U18 Yx Yy Yz Za U19 U20 Um Uq U21 U22 U23. -/
import Derived.Test.YtpbbneclkhfgoaaDoorG4
section
/- ltl, eighteenth: newSearch (printed by genu18.py). -/
namespace Go.Ltl
open Go.W
/-- The values for all guesses at a mark, and at all marks. -/
def gsM (f : Fm) (pairs : Nat) (m : Int) : List (Bool × Gs) := (List.range pairs).map fun b => gval m b f (0, 0, 0)
def newM (f : Fm) (pairs : Nat) (ms : List Int) : List (Bool × Gs) := ms.flatMap (gsM f pairs)
theorem newM_len (f : Fm) (pairs : Nat) (ms : List Int) : (newM f pairs ms).length = ms.length * pairs := by
  unfold newM
  induction ms with
  | nil => simp
  | cons m ms ih => rw [List.flatMap_cons, List.length_append, ih, gsM, List.length_map, List.length_range, List.length_cons, Nat.add_mul]; omega
theorem newM_take (f : Fm) (pairs : Nat) (ms : List Int) {i : Nat} (hi : i < ms.length) : newM f pairs (ms.take (i + 1)) = newM f pairs (ms.take i) ++ gsM f pairs ms[i] := by
  unfold newM
  rw [List.take_succ_eq_append_getElem hi, List.flatMap_append, List.flatMap_singleton]
end Go.Ltl
namespace Go.Proofs.YtpbbneclkhfgoaaDoor
open Go.W Go.Ltl Go.RowKit
set_option maxRecDepth 100000
attribute [local irreducible] WC WL WQ WS WH

/-- Rows of what is known of the states of the search. -/
def natL (l : List Nat) : List Value := l.map fun (n : Nat) => Value.int .i64 n
theorem natL_cells (l : List Nat) : Cells (natL l) := by
  intro v hv
  obtain ⟨x, _, rfl⟩ := List.mem_map.1 hv
  rfl
theorem bl_cells (l : List Bool) : Cells (bl l) := by
  intro v hv
  obtain ⟨x, _, rfl⟩ := List.mem_map.1 hv
  rfl
abbrev Rbo (v : Value) (n : Nat) (l : List Bool) : Ent := .row 4 1 v n (bl l)
abbrev Rna (v : Value) (n : Nat) (l : List Nat) : Ent := .row 3 1 v n (natL l)
/-- The search with all its rows. -/
abbrev Sall (xb : Nat) (nx mk : Value) (starts : Nat) (la : Option Addr) (lc : Nat) (lk : List Fm) (pairs : Nat) (wa : Option Addr) (wc : Nat) (ta : Option Addr) (tc : Nat) (fa : Option Addr) (fc : Nat) (E : List (Bool × Gs)) (L : List Ent) : List Ent :=
  Sx xb nx mk starts (.slice la lk.length lc) pairs (.slice wa E.length wc) (.slice ta E.length tc) (.slice fa E.length fc) :: Rbo (.slice ta E.length tc) E.length (E.map (·.1)) :: Rna (.slice wa E.length wc) E.length (E.map (·.2.2.1)) :: Rna (.slice fa E.length fc) E.length (E.map (·.2.2.2)) :: Rf (.slice la lk.length lc) lk :: L
theorem newSearch_any (an : Option Addr) (cn : Nat) (am : Option Addr) (cm : Nat) (vs : Vs) (ms : List Int) (hms : ms.length ≤ 16) (hm : ∀ m ∈ ms, 0 ≤ m ∧ m ≤ 15) (f : Fm) (hwf : wfF f) (hlk : looksN f ≤ 12) (starts : Nat) (w : World) (hst : Sl w am (zs ms)) :
    Ret Tryd.prog 60 [stV an cn am cm vs ms, fmV f, .int .i64 (starts : Nat)] w fun v w' => ∃ xb la lc wa wc ta tc fa fc, v = ptr xb ∧ Hp w w' (Sall xb (.slice an vs.length cn) (.slice am ms.length cm) starts la lc (findM f) (2 ^ looksN f) wa wc ta tc fa fc (newM f (2 ^ looksN f) ms) []) := by
  have hfl := findM_len f hwf
  have hpw : 2 ^ looksN f ≤ 4096 := Nat.pow_le_pow_right (n := 2) (by decide) hlk
  refine enter Tryd.func60 rfl rfl ⟨rfl, rfl⟩ rfl ?_
  repeat (first | refine zA ?_ | refine zB ?_ | refine zC rfl rfl rfl ?_ | refine zD ?_ | refine zE ?_ | refine zF ?_ | refine zG rfl ?_ | refine zH rfl ?_ | refine zI rfl rfl rfl ?_ | refine zJ rfl rfl ?_ | refine zK ?_ | refine zL ?_ | refine zM rfl ?_ | refine zN ?_)
  refine WL.box rfl rfl rfl (fun b w1 h1 => ?_)
  have hp1 : Hp w w1 [Sb b an cn am cm vs ms] := (Hp.start w).new h1
  repeat (first | refine zA ?_ | refine zB ?_ | refine zC rfl rfl rfl ?_ | refine zD ?_ | refine zE ?_ | refine zF ?_ | refine zG rfl ?_ | refine zH rfl ?_ | refine zI rfl rfl rfl ?_ | refine zJ rfl rfl ?_ | refine zK ?_ | refine zL ?_ | refine zM rfl ?_ | refine zN ?_)
  refine WL.loadN rfl rfl rfl rfl rfl (cs := [.slice an vs.length cn, .slice am ms.length cm]) rfl (fun q v hq => cell_of_obj (hp1.obj 0 rfl) (by rw [Nat.zero_add]; simpa using hq)) ?_
  repeat (first | refine zA ?_ | refine zB ?_ | refine zC rfl rfl rfl ?_ | refine zD ?_ | refine zE ?_ | refine zF ?_ | refine zG rfl ?_ | refine zH rfl ?_ | refine zI rfl rfl rfl ?_ | refine zJ rfl rfl ?_ | refine zK ?_ | refine zL ?_ | refine zM rfl ?_ | refine zN ?_)
  refine WL.buildT (cs := [.slice an vs.length cn, .slice am ms.length cm, .int .i64 (starts : Nat), .slice none 0 0, .int .i64 0, .slice none 0 0, .slice none 0 0, .slice none 0 0]) rfl rfl rfl rfl rfl rfl ?_
  refine WL.box rfl rfl rfl (fun xb w2 h2 => ?_)
  have hp2 : Hp w w2 (Sx xb (.slice an vs.length cn) (.slice am ms.length cm) starts (.slice none 0 0) 0 (.slice none 0 0) (.slice none 0 0) (.slice none 0 0) :: Rf (.slice none 0 0) [] :: [Sb b an cn am cm vs ms]) := ((hp1.new h2).nilrow 87 1).swap
  repeat (first | refine zA ?_ | refine zB ?_ | refine zC rfl rfl rfl ?_ | refine zD ?_ | refine zE ?_ | refine zF ?_ | refine zG rfl ?_ | refine zH rfl ?_ | refine zI rfl rfl rfl ?_ | refine zJ rfl rfl ?_ | refine zK ?_ | refine zL ?_ | refine zM rfl ?_ | refine zN ?_)
  refine WL.call rfl rfl rfl rfl rfl ent85 (find_any xb _ _ starts 0 _ _ _ _ f hwf [] none 0 w2 (by rw [List.length_nil]; omega) hp2) ?_
  rintro v w3 ⟨la, lc, hp3⟩
  rw [List.nil_append] at hp3
  have e1 : shl .i64 1 (findM f).length = ((2 ^ looksN f : Nat) : Int) := by rw [hfl]; exact shl_one (by omega)
  repeat (first | refine zA ?_ | refine zB ?_ | refine zC rfl rfl rfl ?_ | refine zD ?_ | refine zE ?_ | refine zF ?_ | refine zG rfl ?_ | refine zH rfl ?_ | refine zI rfl rfl rfl ?_ | refine zJ rfl rfl ?_ | refine zK ?_ | refine zL ?_ | refine zM rfl ?_ | refine zN ?_)
  refine WL.nilC rfl rfl rfl ?_
  repeat (first | refine zA ?_ | refine zB ?_ | refine zC rfl rfl rfl ?_ | refine zD ?_ | refine zE ?_ | refine zF ?_ | refine zG rfl ?_ | refine zH rfl ?_ | refine zI rfl rfl rfl ?_ | refine zJ rfl rfl ?_ | refine zK ?_ | refine zL ?_ | refine zM rfl ?_ | refine zN ?_)
  refine WL.loadB rfl rfl rfl rfl rfl (hp3.obj 0 rfl) (j := 3) rfl ?_
  refine WL.pure rfl rfl rfl ?_
  refine WL.pure rfl rfl rfl ?_
  refine WL.known (d := 26) (congrArg (fun z => some (Value.int .i64 z)) e1) ?_
  refine WL.nilC rfl rfl rfl ?_
  repeat (first | refine zA ?_ | refine zB ?_ | refine zC rfl rfl rfl ?_ | refine zD ?_ | refine zE ?_ | refine zF ?_ | refine zG rfl ?_ | refine zH rfl ?_ | refine zI rfl rfl rfl ?_ | refine zJ rfl rfl ?_ | refine zK ?_ | refine zL ?_ | refine zM rfl ?_ | refine zN ?_)
  refine WL.store rfl rfl rfl rfl rfl rfl (hp3.obj 0 rfl) (by show 4 < 8; decide) (fun w4 h4 => ?_)
  have hp4 := ((((hp3.set 0 rfl rfl h4).nilrow 4 1).nilrow 3 1).nilrow 3 1).pick [3, 2, 1, 0, 4, 5] (by decide)
  replace hp4 : Hp w w4 (Sall xb (.slice an vs.length cn) (.slice am ms.length cm) starts la lc (findM f) (2 ^ looksN f) none 0 none 0 none 0 (newM f (2 ^ looksN f) (ms.take 0)) [Sb b an cn am cm vs ms]) := hp4
  generalize 2 ^ looksN f = pairs at *
  generalize findM f = lk at *
  repeat (first | refine zA ?_ | refine zB ?_ | refine zC rfl rfl rfl ?_ | refine zD ?_ | refine zE ?_ | refine zF ?_ | refine zG rfl ?_ | refine zH rfl ?_ | refine zI rfl rfl rfl ?_ | refine zJ rfl rfl ?_ | refine zK ?_ | refine zL ?_ | refine zM rfl ?_ | refine zN ?_)
  refine WL.loadB rfl rfl rfl rfl rfl (hp4.obj 5 rfl) (j := 1) rfl ?_
  repeat (first | refine zA ?_ | refine zB ?_ | refine zC rfl rfl rfl ?_ | refine zD ?_ | refine zE ?_ | refine zF ?_ | refine zG rfl ?_ | refine zH rfl ?_ | refine zI rfl rfl rfl ?_ | refine zJ rfl rfl ?_ | refine zK ?_ | refine zL ?_ | refine zM rfl ?_ | refine zN ?_)
  refine WC.loop (Nat × Option Addr × Nat × Option Addr × Nat × Option Addr × Nat) (fun (i, _) => [(1, fmV f), (7, ptr xb), (30, .slice am ms.length cm), (31, .int .i64 (ms.length : Nat)), (32, .int .i64 (i : Nat))])
    (fun (i, wa, wc, ta, tc, fa, fc) w' => i ≤ ms.length ∧ Hp w w' (Sall xb (.slice an vs.length cn) (.slice am ms.length cm) starts la lc lk pairs wa wc ta tc fa fc (newM f pairs (ms.take i)) [Sb b an cn am cm vs ms])) (fun (i, _) => ms.length - i) (0, none, 0, none, 0, none, 0) ⟨rfl, rfl, rfl, rfl, rfl, rfl⟩ ⟨Nat.zero_le _, hp4⟩ ?_
  clear hp4
  rintro ⟨i, wa, wc, ta, tc, fa, fc⟩ w5 ⟨hi, hp5⟩
  replace hi : i ≤ ms.length := hi
  replace hp5 : Hp w w5 (Sall xb (.slice an vs.length cn) (.slice am ms.length cm) starts la lc lk pairs wa wc ta tc fa fc (newM f pairs (ms.take i)) [Sb b an cn am cm vs ms]) := hp5
  repeat (first | refine zA ?_ | refine zB ?_ | refine zC rfl rfl rfl ?_ | refine zD ?_ | refine zE ?_ | refine zF ?_ | refine zG rfl ?_ | refine zH rfl ?_ | refine zI rfl rfl rfl ?_ | refine zJ rfl rfl ?_ | refine zK ?_ | refine zL ?_ | refine zM rfl ?_ | refine zN ?_)
  refine WC.cond rfl (fun c1 => ?_) (fun c1 => ?_)
  · have hi : i < ms.length := by have := of_decide_eq_true c1; omega
    have step := wrap_succ (i := i) (n := i + 1) (by omega) (by omega)
    obtain ⟨hm0, hm1⟩ := hm ms[i] (List.getElem_mem hi)
    have htk := newM_take f pairs ms hi
    have hEl := newM_len f pairs (ms.take i)
    have hil : (ms.take i).length = i := by rw [List.length_take]; omega
    have hEb : (newM f pairs (ms.take i)).length ≤ 65536 := by rw [hEl, hil]; exact Nat.le_trans (Nat.mul_le_mul (show i ≤ 16 by omega) hpw) (by decide)
    repeat (first | refine zA ?_ | refine zB ?_ | refine zC rfl rfl rfl ?_ | refine zD ?_ | refine zE ?_ | refine zF ?_ | refine zG rfl ?_ | refine zH rfl ?_ | refine zI rfl rfl rfl ?_ | refine zJ rfl rfl ?_ | refine zK ?_ | refine zL ?_ | refine zM rfl ?_ | refine zN ?_)
    refine WL.ixload rfl (fun _ => rfl) rfl rfl rfl rfl rfl rfl rfl hi rfl rfl (hst.hp hp5) (zs_at hi) ?_
    intro q0
    obtain ⟨m, hmm⟩ : ∃ m, m = ms[i] := ⟨_, rfl⟩
    rw [← hmm] at hm0 hm1 htk ⊢
    repeat (first | refine zA ?_ | refine zB ?_ | refine zC rfl rfl rfl ?_ | refine zD ?_ | refine zE ?_ | refine zF ?_ | refine zG rfl ?_ | refine zH rfl ?_ | refine zI rfl rfl rfl ?_ | refine zJ rfl rfl ?_ | refine zK ?_ | refine zL ?_ | refine zM rfl ?_ | refine zN ?_)
    refine WL.nilC rfl rfl rfl ?_
    repeat (first | refine zA ?_ | refine zB ?_ | refine zC rfl rfl rfl ?_ | refine zD ?_ | refine zE ?_ | refine zF ?_ | refine zG rfl ?_ | refine zH rfl ?_ | refine zI rfl rfl rfl ?_ | refine zJ rfl rfl ?_ | refine zK ?_ | refine zL ?_ | refine zM rfl ?_ | refine zN ?_)
    refine WL.loadB rfl rfl rfl rfl rfl (hp5.obj 0 rfl) (j := 4) rfl ?_
    repeat (first | refine zA ?_ | refine zB ?_ | refine zC rfl rfl rfl ?_ | refine zD ?_ | refine zE ?_ | refine zF ?_ | refine zG rfl ?_ | refine zH rfl ?_ | refine zI rfl rfl rfl ?_ | refine zJ rfl rfl ?_ | refine zK ?_ | refine zL ?_ | refine zM rfl ?_ | refine zN ?_)
    refine WC.loop (Nat × Option Addr × Nat × Option Addr × Nat × Option Addr × Nat) (fun (j, _) => [(1, fmV f), (7, ptr xb), (9, .int .i64 m), (30, .slice am ms.length cm), (31, .int .i64 (ms.length : Nat)), (32, .int .i64 (i : Nat)), (39, .int .i64 (pairs : Nat)), (40, .int .i64 (j : Nat))])
      (fun (j, wa, wc, ta, tc, fa, fc) w' => j ≤ pairs ∧ Hp w w' (Sall xb (.slice an vs.length cn) (.slice am ms.length cm) starts la lc lk pairs wa wc ta tc fa fc (newM f pairs (ms.take i) ++ gsM f j m) [Sb b an cn am cm vs ms])) (fun (j, _) => pairs - j) (0, wa, wc, ta, tc, fa, fc) ⟨rfl, rfl, rfl, rfl, rfl, rfl, rfl, rfl, rfl⟩ ⟨Nat.zero_le _, (by
        have e0 : newM f pairs (ms.take i) ++ gsM f 0 m = newM f pairs (ms.take i) := List.append_nil _
        show Hp w w5 (Sall _ _ _ _ _ _ _ _ _ _ _ _ _ _ (newM f pairs (ms.take i) ++ gsM f 0 m) _)
        rw [e0]; exact hp5)⟩ ?_
    clear hp5
    rintro ⟨j, wa, wc, ta, tc, fa, fc⟩ w6 ⟨hj, hp6⟩
    replace hj : j ≤ pairs := hj
    obtain ⟨E, hE⟩ : ∃ E, E = newM f pairs (ms.take i) ++ gsM f j m := ⟨_, rfl⟩
    have hEj : E.length ≤ 65536 + 4096 := by
      rw [hE, List.length_append, gsM, List.length_map, List.length_range]; omega
    replace hp6 : Hp w w6 (Sall xb (.slice an vs.length cn) (.slice am ms.length cm) starts la lc lk pairs wa wc ta tc fa fc E [Sb b an cn am cm vs ms]) := by rw [hE]; exact hp6
    repeat (first | refine zA ?_ | refine zB ?_ | refine zC rfl rfl rfl ?_ | refine zD ?_ | refine zE ?_ | refine zF ?_ | refine zG rfl ?_ | refine zH rfl ?_ | refine zI rfl rfl rfl ?_ | refine zJ rfl rfl ?_ | refine zK ?_ | refine zL ?_ | refine zM rfl ?_ | refine zN ?_)
    refine WC.cond rfl (fun c2 => ?_) (fun c2 => ?_)
    · have hj : j < pairs := by have := of_decide_eq_true c2; omega
      have stepj := wrap_succ (i := j) (n := j + 1) (by omega) (by omega)
      have hEs : E ++ [gval m j f (0, 0, 0)] = newM f pairs (ms.take i) ++ gsM f (j + 1) m := by
        rw [hE, List.append_assoc]; unfold gsM; rw [List.range_succ, List.map_append]; rfl
      repeat (first | refine zA ?_ | refine zB ?_ | refine zC rfl rfl rfl ?_ | refine zD ?_ | refine zE ?_ | refine zF ?_ | refine zG rfl ?_ | refine zH rfl ?_ | refine zI rfl rfl rfl ?_ | refine zJ rfl rfl ?_ | refine zK ?_ | refine zL ?_ | refine zM rfl ?_ | refine zN ?_)
      refine WL.buildT (cs := [.int .i64 m, .int .i64 (j : Nat), .int .i64 0, .int .i64 0, .int .i64 0]) rfl rfl rfl rfl rfl rfl ?_
      refine WL.box rfl rfl rfl (fun gb w7 h7 => ?_)
      have hp7 : Hp w w7 (Gb gb m j (0, 0, 0) :: Sall xb (.slice an vs.length cn) (.slice am ms.length cm) starts la lc lk pairs wa wc ta tc fa fc E [Sb b an cn am cm vs ms]) := hp6.new h7
      repeat (first | refine zA ?_ | refine zB ?_ | refine zC rfl rfl rfl ?_ | refine zD ?_ | refine zE ?_ | refine zF ?_ | refine zG rfl ?_ | refine zH rfl ?_ | refine zI rfl rfl rfl ?_ | refine zJ rfl rfl ?_ | refine zK ?_ | refine zL ?_ | refine zM rfl ?_ | refine zN ?_)
      refine WL.call rfl rfl rfl rfl rfl ent86 (gvalue_any gb m j hm0 hm1 (Nat.lt_of_le_of_lt (show j ≤ 4096 by omega) (by decide)) f hwf (0, 0, 0) _ w7 (by show 0 + looksN f ≤ 30; omega) ⟨by decide, by decide⟩ hp7) ?_
      rintro v w8 ⟨rfl, hp8⟩
      obtain ⟨rv, rg, hrg⟩ : ∃ rv rg, gval m j f (0, 0, 0) = (rv, rg) := ⟨_, _, rfl⟩
      rw [hrg] at hp8 hEs
      rw [hrg]
      replace hp8 : Hp w w8 (Gb gb m j rg :: Sall xb (.slice an vs.length cn) (.slice am ms.length cm) starts la lc lk pairs wa wc ta tc fa fc E [Sb b an cn am cm vs ms]) := hp8
      clear hp7 hp6
      have e2 : (E ++ [(rv, rg)]).length = E.length + 1 := by rw [List.length_append]; rfl
      repeat (first | refine zA ?_ | refine zB ?_ | refine zC rfl rfl rfl ?_ | refine zD ?_ | refine zE ?_ | refine zF ?_ | refine zG rfl ?_ | refine zH rfl ?_ | refine zI rfl rfl rfl ?_ | refine zJ rfl rfl ?_ | refine zK ?_ | refine zL ?_ | refine zM rfl ?_ | refine zN ?_)
      refine WL.nilC rfl rfl rfl ?_
      repeat (first | refine zA ?_ | refine zB ?_ | refine zC rfl rfl rfl ?_ | refine zD ?_ | refine zE ?_ | refine zF ?_ | refine zG rfl ?_ | refine zH rfl ?_ | refine zI rfl rfl rfl ?_ | refine zJ rfl rfl ?_ | refine zK ?_ | refine zL ?_ | refine zM rfl ?_ | refine zN ?_)
      refine WL.loadB rfl rfl rfl rfl rfl (hp8.obj 1 rfl) (j := 6) rfl ?_
      repeat (first | refine zA ?_ | refine zB ?_ | refine zC rfl rfl rfl ?_ | refine zD ?_ | refine zE ?_ | refine zF ?_ | refine zG rfl ?_ | refine zH rfl ?_ | refine zI rfl rfl rfl ?_ | refine zJ rfl rfl ?_ | refine zK ?_ | refine zL ?_ | refine zM rfl ?_ | refine zN ?_)
      refine WL.buildS (cs := [.bool rv]) rfl rfl rfl rfl rfl rfl rfl rfl rfl (fun b9 w9 h9 => ?_)
      have hp9 := hp8.new h9
      refine WL.append 3 hp9 rfl rfl rfl rfl rfl (by decide) rfl rfl rfl (news := [.bool rv]) (Sl.of_obj (hp9.obj 0 rfl) (fun q u hq => by simpa using hq)) rfl (bl_cells [rv]) (by unfold maxLen; omega) (by show (E.length + 1) * 1 ≤ _; omega) ?_
      intro ta2 tc2 w10 hp10 hg10
      refine WL.nilC rfl rfl rfl ?_
      repeat (first | refine zA ?_ | refine zB ?_ | refine zC rfl rfl rfl ?_ | refine zD ?_ | refine zE ?_ | refine zF ?_ | refine zG rfl ?_ | refine zH rfl ?_ | refine zI rfl rfl rfl ?_ | refine zJ rfl rfl ?_ | refine zK ?_ | refine zL ?_ | refine zM rfl ?_ | refine zN ?_)
      refine WL.store rfl rfl rfl rfl rfl rfl (hp10.obj 2 rfl) (by show 6 < 8; decide) (fun w11 h11 => ?_)
      have hp11 := hp10.set 2 rfl rfl h11
      replace hp11 : Hp w w11 (Gb gb m j rg :: Sx xb (.slice an vs.length cn) (.slice am ms.length cm) starts (.slice la lk.length lc) pairs (.slice wa E.length wc) (.slice ta2 (E.length + 1) tc2) (.slice fa E.length fc) :: Rbo (.slice ta2 (E.length + 1) tc2) (E.length + 1) ((E ++ [(rv, rg)]).map (·.1)) :: Rna (.slice wa E.length wc) E.length (E.map (·.2.2.1)) :: Rna (.slice fa E.length fc) E.length (E.map (·.2.2.2)) :: Rf (.slice la lk.length lc) lk :: [Sb b an cn am cm vs ms]) := by
        unfold Rbo bl
        rw [List.map_append, List.map_append]
        exact hp11.tail
      clear hp8 hp9 hp10
      repeat (first | refine zA ?_ | refine zB ?_ | refine zC rfl rfl rfl ?_ | refine zD ?_ | refine zE ?_ | refine zF ?_ | refine zG rfl ?_ | refine zH rfl ?_ | refine zI rfl rfl rfl ?_ | refine zJ rfl rfl ?_ | refine zK ?_ | refine zL ?_ | refine zM rfl ?_ | refine zN ?_)
      refine WC.mid (Option Addr × Nat) (fun _ => [(1, fmV f), (7, ptr xb), (9, .int .i64 m), (11, ptr gb), (30, .slice am ms.length cm), (31, .int .i64 (ms.length : Nat)), (32, .int .i64 (i : Nat)), (39, .int .i64 (pairs : Nat)), (40, .int .i64 (j : Nat))]) (fun (wa2, wc2) w' => Hp w w' (Gb gb m j rg :: Sx xb (.slice an vs.length cn) (.slice am ms.length cm) starts (.slice la lk.length lc) pairs (.slice wa2 (E.length + 1) wc2) (.slice ta2 (E.length + 1) tc2) (.slice fa E.length fc) :: Rbo (.slice ta2 (E.length + 1) tc2) (E.length + 1) ((E ++ [(rv, rg)]).map (·.1)) :: Rna (.slice wa2 (E.length + 1) wc2) (E.length + 1) ((E ++ [(rv, rg)]).map (·.2.2.1)) :: Rna (.slice fa E.length fc) E.length (E.map (·.2.2.2)) :: Rf (.slice la lk.length lc) lk :: [Sb b an cn am cm vs ms])) ?_ ?_
      · refine WC.regH (fun w' => Hp w w' [Gb gb m j rg]) mixed (by kernel_rfl) (fun w11b hwb hhb => ?_)
        have hp11b := hp11.keep hwb
        have hS : Hp w w11b [Gb gb m j rg] := hp11b.pick [0] (by decide)
        refine WH.pure 0 (by kernel_rfl) rfl (by kernel_rfl) rfl rfl rfl (hS) ?_
        refine WH.pure 1 (by kernel_rfl) rfl (by kernel_rfl) rfl rfl rfl (hS) ?_
        refine WH.nilC 2 (by kernel_rfl) rfl (by kernel_rfl) rfl rfl rfl hS ?_
        refine WH.pure 3 (by kernel_rfl) rfl (by kernel_rfl) rfl rfl rfl (hS) ?_
        refine WH.pure 5 (by kernel_rfl) rfl (by kernel_rfl) rfl rfl rfl (hS) ?_
        refine WH.nilC 6 (by kernel_rfl) rfl (by kernel_rfl) rfl rfl rfl hS ?_
        refine WH.pure 7 (by kernel_rfl) rfl (by kernel_rfl) rfl rfl rfl (hS) ?_
        refine WH.load 8 (by kernel_rfl) rfl (by kernel_rfl) rfl rfl rfl rfl rfl (fun w' h => cell_of_obj (h.obj 0 rfl) (j := 3) rfl) hS ?_
        refine WH.two 4 9 rfl rfl (by kernel_rfl) ?_ ?_
        · refine WL.loadB rfl rfl rfl rfl rfl (hp11b.obj 1 rfl) (j := 5) rfl (WL.nil ⟨hS, ?_⟩)
          refine WH.one 9 rfl (by kernel_rfl) ?_
          refine WL.buildS (cs := [.int .i64 (rg.2.1 : Nat)]) rfl rfl rfl rfl rfl rfl rfl rfl rfl (fun bc w11c hbc => ?_)
          have hp11c := hp11b.new hbc
          refine WL.nil ⟨hp11c.pick [1] (by decide), ?_⟩
          refine WH.one 10 rfl (by kernel_rfl) ?_
          refine WL.append 4 hp11c rfl rfl rfl rfl rfl (by decide) rfl rfl rfl (news := [.int .i64 (rg.2.1 : Nat)]) (Sl.of_obj (hp11c.obj 0 rfl) (fun q u hq => by simpa using hq)) rfl (natL_cells [rg.2.1]) (by unfold maxLen; omega) (by show (E.length + 1) * 8 ≤ _; omega) ?_
          intro wa2 wc2 w11d hp11d hgd
          refine WL.nil ⟨hp11d.pick [1] (by decide), ?_⟩
          refine WH.nilC 11 (by kernel_rfl) rfl (by kernel_rfl) rfl rfl rfl (hp11d.pick [1] (by decide)) ?_
          refine WH.pure 12 (by kernel_rfl) rfl (by kernel_rfl) rfl rfl rfl (hp11d.pick [1] (by decide)) ?_
          refine WH.one 13 rfl (by kernel_rfl) ?_
          refine WL.store rfl rfl rfl rfl rfl rfl (hp11d.obj 2 rfl) (by show 5 < 8; decide) (fun w11e hse => ?_)
          have hp11e := (hp11d.set 2 rfl rfl hse).tail
          refine WL.nil ⟨hp11e.pick [0] (by decide), ?_⟩
          refine WH.done (by kernel_rfl) ?_
          refine ⟨(wa2, wc2), ⟨rfl, rfl, rfl, rfl, rfl, rfl, rfl, rfl, rfl, rfl⟩, ?_⟩
          show Hp w w11e (Gb gb m j rg :: Sx xb (.slice an vs.length cn) (.slice am ms.length cm) starts (.slice la lk.length lc) pairs (.slice wa2 (E.length + 1) wc2) (.slice ta2 (E.length + 1) tc2) (.slice fa E.length fc) :: Rbo (.slice ta2 (E.length + 1) tc2) (E.length + 1) ((E ++ [(rv, rg)]).map (·.1)) :: Rna (.slice wa2 (E.length + 1) wc2) (E.length + 1) ((E ++ [(rv, rg)]).map (·.2.2.1)) :: Rna (.slice fa E.length fc) E.length (E.map (·.2.2.2)) :: Rf (.slice la lk.length lc) lk :: [Sb b an cn am cm vs ms])
          unfold Rna
          rw [show natL ((E ++ [(rv, rg)]).map (·.2.2.1)) = natL (E.map (·.2.2.1)) ++ [.int .i64 (rg.2.1 : Nat)] from by simp [natL]]
          exact hp11e
        · refine WL.buildS (cs := [.int .i64 (rg.2.1 : Nat)]) rfl rfl rfl rfl rfl rfl rfl rfl rfl (fun bc w11c hbc => ?_)
          have hp11c := hp11b.new hbc
          refine WL.nil ⟨hp11c.pick [1] (by decide), ?_⟩
          refine WH.one 4 rfl (by kernel_rfl) ?_
          refine WL.loadB rfl rfl rfl rfl rfl (hp11c.obj 2 rfl) (j := 5) rfl (WL.nil ⟨hp11c.pick [1] (by decide), ?_⟩)
          refine WH.one 10 rfl (by kernel_rfl) ?_
          refine WL.append 4 hp11c rfl rfl rfl rfl rfl (by decide) rfl rfl rfl (news := [.int .i64 (rg.2.1 : Nat)]) (Sl.of_obj (hp11c.obj 0 rfl) (fun q u hq => by simpa using hq)) rfl (natL_cells [rg.2.1]) (by unfold maxLen; omega) (by show (E.length + 1) * 8 ≤ _; omega) ?_
          intro wa2 wc2 w11d hp11d hgd
          refine WL.nil ⟨hp11d.pick [1] (by decide), ?_⟩
          refine WH.nilC 11 (by kernel_rfl) rfl (by kernel_rfl) rfl rfl rfl (hp11d.pick [1] (by decide)) ?_
          refine WH.pure 12 (by kernel_rfl) rfl (by kernel_rfl) rfl rfl rfl (hp11d.pick [1] (by decide)) ?_
          refine WH.one 13 rfl (by kernel_rfl) ?_
          refine WL.store rfl rfl rfl rfl rfl rfl (hp11d.obj 2 rfl) (by show 5 < 8; decide) (fun w11e hse => ?_)
          have hp11e := (hp11d.set 2 rfl rfl hse).tail
          refine WL.nil ⟨hp11e.pick [0] (by decide), ?_⟩
          refine WH.done (by kernel_rfl) ?_
          refine ⟨(wa2, wc2), ⟨rfl, rfl, rfl, rfl, rfl, rfl, rfl, rfl, rfl, rfl⟩, ?_⟩
          show Hp w w11e (Gb gb m j rg :: Sx xb (.slice an vs.length cn) (.slice am ms.length cm) starts (.slice la lk.length lc) pairs (.slice wa2 (E.length + 1) wc2) (.slice ta2 (E.length + 1) tc2) (.slice fa E.length fc) :: Rbo (.slice ta2 (E.length + 1) tc2) (E.length + 1) ((E ++ [(rv, rg)]).map (·.1)) :: Rna (.slice wa2 (E.length + 1) wc2) (E.length + 1) ((E ++ [(rv, rg)]).map (·.2.2.1)) :: Rna (.slice fa E.length fc) E.length (E.map (·.2.2.2)) :: Rf (.slice la lk.length lc) lk :: [Sb b an cn am cm vs ms])
          unfold Rna
          rw [show natL ((E ++ [(rv, rg)]).map (·.2.2.1)) = natL (E.map (·.2.2.1)) ++ [.int .i64 (rg.2.1 : Nat)] from by simp [natL]]
          exact hp11e
      rintro ⟨wa2, wc2⟩ eq w12 hsub hp12
      replace hp12 : Hp w w12 (Gb gb m j rg :: Sx xb (.slice an vs.length cn) (.slice am ms.length cm) starts (.slice la lk.length lc) pairs (.slice wa2 (E.length + 1) wc2) (.slice ta2 (E.length + 1) tc2) (.slice fa E.length fc) :: Rbo (.slice ta2 (E.length + 1) tc2) (E.length + 1) ((E ++ [(rv, rg)]).map (·.1)) :: Rna (.slice wa2 (E.length + 1) wc2) (E.length + 1) ((E ++ [(rv, rg)]).map (·.2.2.1)) :: Rna (.slice fa E.length fc) E.length (E.map (·.2.2.2)) :: Rf (.slice la lk.length lc) lk :: [Sb b an cn am cm vs ms]) := hp12
      refine WC.sub hsub ?_
      clear hsub eq hp11
      refine WC.mid (Option Addr × Nat) (fun _ => [(1, fmV f), (7, ptr xb), (9, .int .i64 m), (11, ptr gb), (30, .slice am ms.length cm), (31, .int .i64 (ms.length : Nat)), (32, .int .i64 (i : Nat)), (39, .int .i64 (pairs : Nat)), (40, .int .i64 (j : Nat))]) (fun (fa2, fc2) w' => Hp w w' (Gb gb m j rg :: Sx xb (.slice an vs.length cn) (.slice am ms.length cm) starts (.slice la lk.length lc) pairs (.slice wa2 (E.length + 1) wc2) (.slice ta2 (E.length + 1) tc2) (.slice fa2 (E.length + 1) fc2) :: Rbo (.slice ta2 (E.length + 1) tc2) (E.length + 1) ((E ++ [(rv, rg)]).map (·.1)) :: Rna (.slice wa2 (E.length + 1) wc2) (E.length + 1) ((E ++ [(rv, rg)]).map (·.2.2.1)) :: Rna (.slice fa2 (E.length + 1) fc2) (E.length + 1) ((E ++ [(rv, rg)]).map (·.2.2.2)) :: Rf (.slice la lk.length lc) lk :: [Sb b an cn am cm vs ms])) ?_ ?_
      · refine WC.regH (fun w' => Hp w w' [Gb gb m j rg]) mixed (by kernel_rfl) (fun w12b hwb hhb => ?_)
        have hp12b := hp12.keep hwb
        have hS : Hp w w12b [Gb gb m j rg] := hp12b.pick [0] (by decide)
        refine WH.pure 0 (by kernel_rfl) rfl (by kernel_rfl) rfl rfl rfl (hS) ?_
        refine WH.pure 1 (by kernel_rfl) rfl (by kernel_rfl) rfl rfl rfl (hS) ?_
        refine WH.nilC 2 (by kernel_rfl) rfl (by kernel_rfl) rfl rfl rfl hS ?_
        refine WH.pure 3 (by kernel_rfl) rfl (by kernel_rfl) rfl rfl rfl (hS) ?_
        refine WH.pure 5 (by kernel_rfl) rfl (by kernel_rfl) rfl rfl rfl (hS) ?_
        refine WH.nilC 6 (by kernel_rfl) rfl (by kernel_rfl) rfl rfl rfl hS ?_
        refine WH.pure 7 (by kernel_rfl) rfl (by kernel_rfl) rfl rfl rfl (hS) ?_
        refine WH.load 8 (by kernel_rfl) rfl (by kernel_rfl) rfl rfl rfl rfl rfl (fun w' h => cell_of_obj (h.obj 0 rfl) (j := 4) rfl) hS ?_
        refine WH.two 4 9 rfl rfl (by kernel_rfl) ?_ ?_
        · refine WL.loadB rfl rfl rfl rfl rfl (hp12b.obj 1 rfl) (j := 7) rfl (WL.nil ⟨hS, ?_⟩)
          refine WH.one 9 rfl (by kernel_rfl) ?_
          refine WL.buildS (cs := [.int .i64 (rg.2.2 : Nat)]) rfl rfl rfl rfl rfl rfl rfl rfl rfl (fun bc w12c hbc => ?_)
          have hp12c := hp12b.new hbc
          refine WL.nil ⟨hp12c.pick [1] (by decide), ?_⟩
          refine WH.one 10 rfl (by kernel_rfl) ?_
          refine WL.append 5 hp12c rfl rfl rfl rfl rfl (by decide) rfl rfl rfl (news := [.int .i64 (rg.2.2 : Nat)]) (Sl.of_obj (hp12c.obj 0 rfl) (fun q u hq => by simpa using hq)) rfl (natL_cells [rg.2.2]) (by unfold maxLen; omega) (by show (E.length + 1) * 8 ≤ _; omega) ?_
          intro fa2 fc2 w12d hp12d hgd
          refine WL.nil ⟨hp12d.pick [1] (by decide), ?_⟩
          refine WH.nilC 11 (by kernel_rfl) rfl (by kernel_rfl) rfl rfl rfl (hp12d.pick [1] (by decide)) ?_
          refine WH.pure 12 (by kernel_rfl) rfl (by kernel_rfl) rfl rfl rfl (hp12d.pick [1] (by decide)) ?_
          refine WH.one 13 rfl (by kernel_rfl) ?_
          refine WL.store rfl rfl rfl rfl rfl rfl (hp12d.obj 2 rfl) (by show 7 < 8; decide) (fun w12e hse => ?_)
          have hp12e := (hp12d.set 2 rfl rfl hse).tail
          refine WL.nil ⟨hp12e.pick [0] (by decide), ?_⟩
          refine WH.done (by kernel_rfl) ?_
          refine ⟨(fa2, fc2), ⟨rfl, rfl, rfl, rfl, rfl, rfl, rfl, rfl, rfl, rfl⟩, ?_⟩
          show Hp w w12e (Gb gb m j rg :: Sx xb (.slice an vs.length cn) (.slice am ms.length cm) starts (.slice la lk.length lc) pairs (.slice wa2 (E.length + 1) wc2) (.slice ta2 (E.length + 1) tc2) (.slice fa2 (E.length + 1) fc2) :: Rbo (.slice ta2 (E.length + 1) tc2) (E.length + 1) ((E ++ [(rv, rg)]).map (·.1)) :: Rna (.slice wa2 (E.length + 1) wc2) (E.length + 1) ((E ++ [(rv, rg)]).map (·.2.2.1)) :: Rna (.slice fa2 (E.length + 1) fc2) (E.length + 1) ((E ++ [(rv, rg)]).map (·.2.2.2)) :: Rf (.slice la lk.length lc) lk :: [Sb b an cn am cm vs ms])
          unfold Rna
          rw [show natL ((E ++ [(rv, rg)]).map (·.2.2.2)) = natL (E.map (·.2.2.2)) ++ [.int .i64 (rg.2.2 : Nat)] from by simp [natL]]
          exact hp12e
        · refine WL.buildS (cs := [.int .i64 (rg.2.2 : Nat)]) rfl rfl rfl rfl rfl rfl rfl rfl rfl (fun bc w12c hbc => ?_)
          have hp12c := hp12b.new hbc
          refine WL.nil ⟨hp12c.pick [1] (by decide), ?_⟩
          refine WH.one 4 rfl (by kernel_rfl) ?_
          refine WL.loadB rfl rfl rfl rfl rfl (hp12c.obj 2 rfl) (j := 7) rfl (WL.nil ⟨hp12c.pick [1] (by decide), ?_⟩)
          refine WH.one 10 rfl (by kernel_rfl) ?_
          refine WL.append 5 hp12c rfl rfl rfl rfl rfl (by decide) rfl rfl rfl (news := [.int .i64 (rg.2.2 : Nat)]) (Sl.of_obj (hp12c.obj 0 rfl) (fun q u hq => by simpa using hq)) rfl (natL_cells [rg.2.2]) (by unfold maxLen; omega) (by show (E.length + 1) * 8 ≤ _; omega) ?_
          intro fa2 fc2 w12d hp12d hgd
          refine WL.nil ⟨hp12d.pick [1] (by decide), ?_⟩
          refine WH.nilC 11 (by kernel_rfl) rfl (by kernel_rfl) rfl rfl rfl (hp12d.pick [1] (by decide)) ?_
          refine WH.pure 12 (by kernel_rfl) rfl (by kernel_rfl) rfl rfl rfl (hp12d.pick [1] (by decide)) ?_
          refine WH.one 13 rfl (by kernel_rfl) ?_
          refine WL.store rfl rfl rfl rfl rfl rfl (hp12d.obj 2 rfl) (by show 7 < 8; decide) (fun w12e hse => ?_)
          have hp12e := (hp12d.set 2 rfl rfl hse).tail
          refine WL.nil ⟨hp12e.pick [0] (by decide), ?_⟩
          refine WH.done (by kernel_rfl) ?_
          refine ⟨(fa2, fc2), ⟨rfl, rfl, rfl, rfl, rfl, rfl, rfl, rfl, rfl, rfl⟩, ?_⟩
          show Hp w w12e (Gb gb m j rg :: Sx xb (.slice an vs.length cn) (.slice am ms.length cm) starts (.slice la lk.length lc) pairs (.slice wa2 (E.length + 1) wc2) (.slice ta2 (E.length + 1) tc2) (.slice fa2 (E.length + 1) fc2) :: Rbo (.slice ta2 (E.length + 1) tc2) (E.length + 1) ((E ++ [(rv, rg)]).map (·.1)) :: Rna (.slice wa2 (E.length + 1) wc2) (E.length + 1) ((E ++ [(rv, rg)]).map (·.2.2.1)) :: Rna (.slice fa2 (E.length + 1) fc2) (E.length + 1) ((E ++ [(rv, rg)]).map (·.2.2.2)) :: Rf (.slice la lk.length lc) lk :: [Sb b an cn am cm vs ms])
          unfold Rna
          rw [show natL ((E ++ [(rv, rg)]).map (·.2.2.2)) = natL (E.map (·.2.2.2)) ++ [.int .i64 (rg.2.2 : Nat)] from by simp [natL]]
          exact hp12e
      rintro ⟨fa2, fc2⟩ eq w13 hsub hp13
      replace hp13 : Hp w w13 (Gb gb m j rg :: Sx xb (.slice an vs.length cn) (.slice am ms.length cm) starts (.slice la lk.length lc) pairs (.slice wa2 (E.length + 1) wc2) (.slice ta2 (E.length + 1) tc2) (.slice fa2 (E.length + 1) fc2) :: Rbo (.slice ta2 (E.length + 1) tc2) (E.length + 1) ((E ++ [(rv, rg)]).map (·.1)) :: Rna (.slice wa2 (E.length + 1) wc2) (E.length + 1) ((E ++ [(rv, rg)]).map (·.2.2.1)) :: Rna (.slice fa2 (E.length + 1) fc2) (E.length + 1) ((E ++ [(rv, rg)]).map (·.2.2.2)) :: Rf (.slice la lk.length lc) lk :: [Sb b an cn am cm vs ms]) := hp13
      refine WC.sub hsub ?_
      clear hsub eq hp12
      repeat (first | refine zA ?_ | refine zB ?_ | refine zC rfl rfl rfl ?_ | refine zD ?_ | refine zE ?_ | refine zF ?_ | refine zG rfl ?_ | refine zH rfl ?_ | refine zI rfl rfl rfl ?_ | refine zJ rfl rfl ?_ | refine zK ?_ | refine zL ?_ | refine zM rfl ?_ | refine zN ?_)
      refine ⟨(j + 1, wa2, wc2, ta2, tc2, fa2, fc2), (by show pairs - (j + 1) < pairs - j; omega), ⟨rfl, rfl, rfl, rfl, rfl, rfl, rfl, congrArg (fun z => some (Value.int .i64 z)) stepj, rfl⟩, hj, ?_⟩
      show Hp w w13 (Sall xb (.slice an vs.length cn) (.slice am ms.length cm) starts la lc lk pairs wa2 wc2 ta2 tc2 fa2 fc2 (newM f pairs (ms.take i) ++ gsM f (j + 1) m) [Sb b an cn am cm vs ms])
      rw [← hEs]
      unfold Sall
      rw [e2]
      exact hp13.tail
    · have hj : j = pairs := by have := of_decide_eq_false c2; omega
      subst hj
      repeat (first | refine zA ?_ | refine zB ?_ | refine zC rfl rfl rfl ?_ | refine zD ?_ | refine zE ?_ | refine zF ?_ | refine zG rfl ?_ | refine zH rfl ?_ | refine zI rfl rfl rfl ?_ | refine zJ rfl rfl ?_ | refine zK ?_ | refine zL ?_ | refine zM rfl ?_ | refine zN ?_)
      refine ⟨(i + 1, wa, wc, ta, tc, fa, fc), (by show ms.length - (i + 1) < ms.length - i; omega), ⟨rfl, rfl, rfl, rfl, congrArg (fun z => some (Value.int .i64 z)) step, rfl⟩, hi, ?_⟩
      show Hp w w6 (Sall xb (.slice an vs.length cn) (.slice am ms.length cm) starts la lc lk j wa wc ta tc fa fc (newM f j (ms.take (i + 1))) [Sb b an cn am cm vs ms])
      rw [htk, ← hE]
      exact hp6
  · have hi : i = ms.length := by have := of_decide_eq_false c1; omega
    subst hi
    rw [List.take_length] at hp5
    repeat (first | refine zA ?_ | refine zB ?_ | refine zC rfl rfl rfl ?_ | refine zD ?_ | refine zE ?_ | refine zF ?_ | refine zG rfl ?_ | refine zH rfl ?_ | refine zI rfl rfl rfl ?_ | refine zJ rfl rfl ?_ | refine zK ?_ | refine zL ?_ | refine zM rfl ?_ | refine zN ?_)
    exact Res.one rfl rfl rfl ⟨xb, la, lc, wa, wc, ta, tc, fa, fc, rfl, hp5.pick [0, 1, 2, 3, 4] (by decide)⟩
end Go.Proofs.YtpbbneclkhfgoaaDoor
end
section
/- The states of the search: a state of the structure and a guess. -/
namespace Go.Ltl
open Go.W
theorem flat_at {α β : Type} (g : α → List β) {n : Nat} : ∀ (l : List α), (∀ x ∈ l, (g x).length = n) → ∀ (i j : Nat) (hi : i < l.length), j < n → (l.flatMap g)[i * n + j]? = (g l[i])[j]? := by
  intro l
  induction l with
  | nil => intro _ i j hi; cases hi
  | cons x l ih =>
    intro h i j hi hj
    rw [List.flatMap_cons]
    have hx := h x (by simp)
    cases i with
    | zero => rw [Nat.zero_mul, Nat.zero_add, List.getElem?_append_left (by omega)]; rfl
    | succ i =>
      rw [List.getElem?_append_right (by rw [hx, Nat.succ_mul]; omega), hx, show (i + 1) * n + j - n = i * n + j by rw [Nat.succ_mul]; omega]
      exact ih (fun y hy => h y (List.mem_cons_of_mem _ hy)) i j (by simpa using hi) hj
/-- What is known of a state of the search. -/
theorem newM_at (f : Fm) (pairs : Nat) (ms : List Int) {i j : Nat} (hi : i < ms.length) (hj : j < pairs) : (newM f pairs ms)[i * pairs + j]? = some (gval ms[i] j f (0, 0, 0)) := by
  unfold newM
  rw [flat_at (gsM f pairs) ms (fun x _ => by rw [gsM, List.length_map, List.length_range]) i j hi hj, gsM, List.getElem?_map, List.getElem?_range hj]
  rfl
/-- The edges of the search. -/
theorem graph_edge {nx : List (List Nat)} {pairs : Nat} {want : List Nat} {v u : Nat} (hv : v < want.length) : u ∈ (graphM nx pairs want).getD v [] ↔ u < want.length ∧ u / pairs ∈ nx.getD (v / pairs) [] ∧ want.getD u 0 = v % pairs := by
  have e : (graphM nx pairs want).getD v [] = (nx.getD (v / pairs) []).flatMap fun t => (List.range want.length).filter fun u => u / pairs = t ∧ want.getD u 0 = v % pairs := by
    unfold graphM
    rw [List.getD_eq_getElem?_getD, List.getElem?_map, List.getElem?_range hv]
    rfl
  rw [e, List.mem_flatMap]
  constructor
  · rintro ⟨t, ht, hu⟩
    rw [List.mem_filter, List.mem_range] at hu
    have := of_decide_eq_true hu.2
    exact ⟨hu.1, this.1 ▸ ht, this.2⟩
  · rintro ⟨h1, h2, h3⟩
    exact ⟨u / pairs, h2, by rw [List.mem_filter, List.mem_range]; exact ⟨h1, decide_eq_true ⟨rfl, h3⟩⟩⟩
/-- A state's numbers have bits of the formula only, and say what is looked for and what is fair. -/
theorem gval_say (m : Int) (bs : Nat) (f : Fm) : (gval m bs f (0, 0, 0)).1 = tvF m bs f 0 ∧ (∀ b, (gval m bs f (0, 0, 0)).2.2.1.testBit b = lkF m bs f 0 b) ∧ (∀ b, (gval m bs f (0, 0, 0)).2.2.2.testBit b = frF m bs f 0 b) ∧
    (∀ b, (gval m bs f (0, 0, 0)).2.2.1.testBit b = true → b < looksN f) ∧ ∀ b, (gval m bs f (0, 0, 0)).2.2.2.testBit b = true → b < looksN f := by
  obtain ⟨w1, f1, e, h1, h2⟩ := gval_bits m bs f 0 0 0
  rw [e]
  have k1 : ∀ b, w1.testBit b = lkF m bs f 0 b := fun b => by rw [h1, Nat.zero_testBit, Bool.false_or]
  have k2 : ∀ b, f1.testBit b = frF m bs f 0 b := fun b => by rw [h2, Nat.zero_testBit, Bool.false_or]
  refine ⟨rfl, k1, k2, fun b hb => ?_, fun b hb => ?_⟩
  · have hb : w1.testBit b = true := hb
    rw [k1] at hb
    exact Classical.byContradiction fun hn => by rw [(lkF_out m bs f 0 b (by omega)).1] at hb; cases hb
  · have hb : f1.testBit b = true := hb
    rw [k2] at hb
    exact Classical.byContradiction fun hn => by rw [(lkF_out m bs f 0 b (by omega)).2] at hb; cases hb
end Go.Ltl
end
section
/- A fair lasso of the search as a sequence. -/
namespace Go.Ltl
open Go.W
theorem pos_eq {n lp : Nat} (h : lp < n) : ∀ i, pos n lp i = if i < lp then i else lp + (i - lp) % (n - lp) := by
  intro i
  induction i with
  | zero =>
    show 0 = _
    split
    · rfl
    · rename_i h2
      have : lp = 0 := by omega
      subst this
      rw [Nat.zero_sub, Nat.zero_mod]
  | succ i ih =>
    show aft n lp (pos n lp i) = _
    rw [ih]
    unfold aft
    by_cases h1 : i < lp
    · rw [if_pos h1, if_pos (by omega)]
      split
      · rfl
      · have : i + 1 = lp := by omega
        rw [this, Nat.sub_self, Nat.zero_mod]; rfl
    · rw [if_neg h1, if_neg (show ¬ i + 1 < lp by omega)]
      have hm : 0 < n - lp := by omega
      obtain ⟨r, hr⟩ : ∃ r, r = i - lp := ⟨_, rfl⟩
      have hr2 : i + 1 - lp = r + 1 := by omega
      rw [← hr, hr2]
      have hd := Nat.div_add_mod r (n - lp)
      have hlt := Nat.mod_lt r hm
      obtain ⟨q, hq⟩ : ∃ q, q = r % (n - lp) := ⟨_, rfl⟩
      rw [← hq] at hd hlt ⊢
      have e : r + 1 = (n - lp) * (r / (n - lp)) + (q + 1) := by omega
      by_cases h2 : q + 1 < n - lp
      · rw [if_pos (by omega)]
        have : (r + 1) % (n - lp) = q + 1 := by rw [e, Nat.mul_add_mod, Nat.mod_eq_of_lt h2]
        omega
      · rw [if_neg (by omega)]
        have : (r + 1) % (n - lp) = 0 := by rw [e, Nat.mul_add_mod, show q + 1 = n - lp by omega, Nat.mod_self]
        omega
/-- Every place of the loop is met again and again. -/
theorem pos_again {n lp : Nat} (h : lp < n) {q : Nat} (h1 : lp ≤ q) (h2 : q < n) (i : Nat) : ∃ j, i ≤ j ∧ pos n lp j = q := by
  refine ⟨lp + ((n - lp) * i + (q - lp)), ?_, ?_⟩
  · have : i ≤ (n - lp) * i := Nat.le_mul_of_pos_left i (by omega)
    omega
  · rw [pos_eq h, if_neg (by omega), Nat.add_sub_cancel_left, Nat.mul_add_mod, Nat.mod_eq_of_lt (by omega)]
    omega
theorem linkL_get {next : List (List Nat)} : ∀ (l : List Nat) (a q : Nat) (h : q + 1 < (a :: l).length), linkL next a l → (a :: l)[q + 1] ∈ next.getD (a :: l)[q] [] := by
  intro l
  induction l with
  | nil => intro a q h; simp at h
  | cons x l ih =>
    rintro a q h ⟨h1, h2⟩
    cases q with
    | zero => exact h1
    | succ q => exact ih x q (by simpa using h) h2
theorem lastD_get (l : List Nat) (x d : Nat) : (x :: l).getLastD d = (x :: l)[l.length] := by
  induction l generalizing x d with
  | nil => rfl
  | cons y l ih => rw [List.getLastD_cons]; exact ih y x
/-- The sequence of a fair lasso: linked, from a start, every bit again and again. -/
theorem lasso_seq {next : List (List Nat)} {start fair : List Nat} {nl : Nat} {stem loop : List Nat} (h : FairLasso next start fair nl stem loop) :
    stem ≠ [] ∧ loop ≠ [] ∧ (stem ++ loop).getD (pos (stem ++ loop).length stem.length 0) 0 ∈ start ∧
    (∀ i, (stem ++ loop).getD (pos (stem ++ loop).length stem.length (i + 1)) 0 ∈ next.getD ((stem ++ loop).getD (pos (stem ++ loop).length stem.length i) 0) []) ∧
    ∀ b, b < nl → ∀ i, ∃ j, i ≤ j ∧ (fair.getD ((stem ++ loop).getD (pos (stem ++ loop).length stem.length j) 0) 0).testBit b = true := by
  obtain ⟨x, r, y, p, rfl, rfl, hx, hl, hl2, hlast, hb⟩ := h
  have hlen : ((x :: r) ++ (y :: p)).length = r.length + 1 + (p.length + 1) := by rw [List.length_append]; rfl
  have hlk : linkL next x (r ++ y :: p) := by
    rw [linkL_app]
    exact ⟨hl, by rw [List.getLastD_cons] at hl2; exact hl2⟩
  have hg : ∀ q (hq : q < ((x :: r) ++ (y :: p)).length), ((x :: r) ++ (y :: p)).getD q 0 = ((x :: r) ++ (y :: p))[q] := fun q hq => by
    rw [List.getD_eq_getElem?_getD, List.getElem?_eq_getElem hq]; rfl
  have hlt : (x :: r).length < ((x :: r) ++ (y :: p)).length := by rw [hlen]; show r.length + 1 < _; omega
  refine ⟨by simp, by simp, hx, fun i => ?_, fun b hbl i => ?_⟩
  · have hq := pos_lt hlt i
    show ((x :: r) ++ (y :: p)).getD (aft _ _ (pos _ _ i)) 0 ∈ _
    obtain ⟨q, hqe⟩ : ∃ q, q = pos ((x :: r) ++ (y :: p)).length (x :: r).length i := ⟨_, rfl⟩
    rw [← hqe] at hq ⊢
    unfold aft
    by_cases h1 : q + 1 < ((x :: r) ++ (y :: p)).length
    · rw [if_pos h1, hg _ h1, hg _ hq]
      exact linkL_get (r ++ y :: p) x q h1 hlk
    · rw [if_neg h1, hg _ hlt, hg _ hq]
      have e1 : ((x :: r) ++ (y :: p))[(x :: r).length]'hlt = y := by rw [List.getElem_append_right (Nat.le_refl _)]; simp
      have e2 : ((x :: r) ++ (y :: p))[q] = (y :: p).getLastD 0 := by
        have hq2 : q = (x :: r).length + p.length := by rw [hlen] at h1 hq; show q = r.length + 1 + p.length; omega
        subst hq2
        rw [List.getElem_append_right (by omega), lastD_get]
        simp
      rw [e1, e2, hlast]
      exact hl2.1
  · obtain ⟨v, hv, hvb⟩ := hb b hbl
    obtain ⟨q, hq, hqe⟩ := List.getElem_of_mem hv
    have hq2 : (x :: r).length + q < ((x :: r) ++ (y :: p)).length := by rw [List.length_append]; omega
    obtain ⟨j, hj, hje⟩ := pos_again hlt (Nat.le_add_right _ q) hq2 i
    refine ⟨j, hj, ?_⟩
    rw [hje, hg _ hq2, List.getElem_append_right (by omega)]
    simp only [Nat.add_sub_cancel_left]
    rw [hqe]
    exact hvb
end Go.Ltl
end
section
/- The search is sound: a lasso found satisfies the formula. -/
namespace Go.Ltl
open Go.W
theorem map_at {α : Type} {g : α → Nat} {l : List α} {v : Nat} {x : α} (h : l[v]? = some x) : (l.map g).getD v 0 = g x := by
  rw [List.getD_eq_getElem?_getD, List.getElem?_map, h]; rfl
theorem div_mod_at {v n : Nat} : v / n * n + v % n = v := by rw [Nat.mul_comm]; exact Nat.div_add_mod v n
/-- What is known of a state of the search, by its number. -/
theorem newM_num (f : Fm) {pairs : Nat} (ms : List Int) (hp : 0 < pairs) {v : Nat} (hv : v < ms.length * pairs) : (newM f pairs ms)[v]? = some (gval (ms.getD (v / pairs) 0) (v % pairs) f (0, 0, 0)) := by
  have h1 : v / pairs < ms.length := (Nat.div_lt_iff_lt_mul hp).2 hv
  have := newM_at f pairs ms h1 (Nat.mod_lt v hp)
  rw [div_mod_at] at this
  rw [this, List.getD_eq_getElem?_getD, List.getElem?_eq_getElem h1]; rfl
/-- A sequence of states of the search that is linked and fair makes the formula's truth the truth of its marks. -/
theorem seq_truth {nx : List (List Nat)} {f : Fm} {ms : List Int} {τ : Nat → Nat} (hlt : ∀ i, τ i < ms.length * 2 ^ looksN f)
    (hstep : ∀ i, τ (i + 1) ∈ (graphM nx (2 ^ looksN f) ((newM f (2 ^ looksN f) ms).map fun q : Bool × Gs => q.2.2.1)).getD (τ i) [])
    (hfair : ∀ b, b < looksN f → ∀ i, ∃ j, i ≤ j ∧ (((newM f (2 ^ looksN f) ms).map fun q : Bool × Gs => q.2.2.2).getD (τ j) 0).testBit b = true) :
    (∀ i, τ (i + 1) / 2 ^ looksN f ∈ nx.getD (τ i / 2 ^ looksN f) []) ∧ ∀ i, (((newM f (2 ^ looksN f) ms).map fun q : Bool × Gs => q.1).getD (τ i) false = true ↔ satS (fun i => ms.getD (τ i / 2 ^ looksN f) 0) f i) := by
  have hp : 0 < 2 ^ looksN f := Nat.pow_pos (by decide)
  obtain ⟨pr, hpr⟩ : ∃ pr, pr = 2 ^ looksN f := ⟨_, rfl⟩
  rw [← hpr] at hlt hstep hfair hp ⊢
  have hat := fun i => newM_num f ms hp (hlt i)
  have hlen : ((newM f pr ms).map fun q : Bool × Gs => q.2.2.1).length = ms.length * pr := by rw [List.length_map, newM_len]
  have hedge := fun i => (graph_edge (nx := nx) (pairs := pr) (by rw [hlen]; exact hlt i)).1 (hstep i)
  have hA : AgreeF (fun i => ms.getD (τ i / pr) 0) (fun i => τ i % pr) f 0 := fun i b _ _ => by
    have h3 := (hedge i).2.2
    rw [map_at (hat (i + 1))] at h3
    show (τ i % pr).testBit b = _
    rw [← h3]
    exact (gval_say _ _ f).2.1 b
  have hF : FairF (fun i => ms.getD (τ i / pr) 0) (fun i => τ i % pr) f 0 := fun b _ h2 i => by
    obtain ⟨j, hj, h3⟩ := hfair b (by omega) i
    rw [map_at (hat j), (gval_say _ _ f).2.2.1 b] at h3
    exact ⟨j, hj, h3⟩
  refine ⟨fun i => (hedge i).2.1, fun i => ?_⟩
  have := sound f 0 hA hF i
  rw [← this, List.getD_eq_getElem?_getD, List.getElem?_map, hat i]
  show (gval _ _ f (0, 0, 0)).1 = true ↔ _
  rw [(gval_say _ _ f).1]
end Go.Ltl
end
section
/- The bounds of the search: within a component the bits of always and finally are all the same. -/
namespace Go.Ltl
open Go.W
/-- The words of the operations that look ahead, in the order of their bits. -/
def kinds : Fm → List Str
  | .at_ _ => []
  | .on_ w f => kinds f ++ (if w = wNot then [] else [w])
  | .tw_ w f g => kinds f ++ kinds g ++ (if w = wAnd ∨ w = wOr then [] else [w])
theorem kinds_len : ∀ f, (kinds f).length = looksN f := by
  intro f
  induction f with
  | at_ w => rfl
  | on_ w f ih => unfold kinds; rw [looks_on, List.length_append, ih]; split <;> rfl
  | tw_ w f g ihf ihg => unfold kinds; rw [looks_tw, List.length_append, List.length_append, ihf, ihg]; split <;> rfl
theorem kinds_on {w u : Str} {f : Fm} {b : Nat} (h : (kinds (.on_ w f))[b]? = some u) : (kinds f)[b]? = some u ∨ (w ≠ wNot ∧ b = looksN f ∧ w = u) := by
  have hl := kinds_len f
  unfold kinds at h
  by_cases hb : b < looksN f
  · rw [List.getElem?_append_left (by omega)] at h; exact .inl h
  · rw [List.getElem?_append_right (by omega), hl] at h
    by_cases c : w = wNot
    · rw [if_pos c] at h; simp at h
    · rw [if_neg c] at h
      have hlt := (List.getElem?_eq_some_iff.1 h).1
      simp only [List.length_cons, List.length_nil] at hlt
      have e : b - looksN f = 0 := by omega
      rw [e] at h
      simp only [List.getElem?_cons_zero, Option.some.injEq] at h
      exact .inr ⟨c, by omega, h⟩
theorem kinds_tw {w u : Str} {f g : Fm} {b : Nat} (h : (kinds (.tw_ w f g))[b]? = some u) : (kinds f)[b]? = some u ∨ (looksN f ≤ b ∧ (kinds g)[b - looksN f]? = some u) ∨ (¬ (w = wAnd ∨ w = wOr) ∧ b = looksN f + looksN g ∧ w = u) := by
  have hl := kinds_len f
  have hg := kinds_len g
  unfold kinds at h
  by_cases hb : b < looksN f + looksN g
  · rw [List.getElem?_append_left (by rw [List.length_append]; omega)] at h
    by_cases hb1 : b < looksN f
    · rw [List.getElem?_append_left (by omega)] at h; exact .inl h
    · rw [List.getElem?_append_right (by omega), hl] at h; exact .inr (.inl ⟨by omega, h⟩)
  · rw [List.getElem?_append_right (by rw [List.length_append]; omega), List.length_append, hl, hg] at h
    by_cases c : w = wAnd ∨ w = wOr
    · rw [if_pos c] at h; simp at h
    · rw [if_neg c] at h
      have hlt := (List.getElem?_eq_some_iff.1 h).1
      simp only [List.length_cons, List.length_nil] at hlt
      have e : b - (looksN f + looksN g) = 0 := by omega
      rw [e] at h
      simp only [List.getElem?_cons_zero, Option.some.injEq] at h
      exact .inr (.inr ⟨c, by omega, h⟩)
theorem kinds_lt {u : Str} {f : Fm} {b : Nat} (h : (kinds f)[b]? = some u) : b < looksN f := by rw [← kinds_len]; exact (List.getElem?_eq_some_iff.1 h).1
/-- What always and finally want, and what is always fair. -/
theorem kinds_say (m : Int) (bs : Nat) : ∀ (f : Fm) (k b : Nat), wfF f → ((kinds f)[b]? = some wAlways → lkF m bs f k (k + b) = true → bs.testBit (k + b) = true) ∧ ((kinds f)[b]? = some wFinally → bs.testBit (k + b) = true → lkF m bs f k (k + b) = true) ∧ ((kinds f)[b]? = some wNext → frF m bs f k (k + b) = true) := by
  intro f
  induction f with
  | at_ w => intro k b _; simp [kinds]
  | on_ w f ih =>
    rintro k b ⟨hw, hf⟩
    obtain ⟨i1, i2, i3⟩ := ih k b hf
    have out := (lkF_out m bs f k (k + looksN f) (.inr (Nat.le_refl _))).1
    by_cases c : w = wNot
    · subst c
      unfold kinds lkF frF
      simp only [if_true, List.append_nil]
      exact ⟨i1, i2, i3⟩
    · refine ⟨fun h hl => ?_, fun h hl => ?_, fun h => ?_⟩
      · rcases kinds_on h with h | ⟨_, rfl, rfl⟩
        · have := kinds_lt h
          unfold lkF at hl
          rw [if_neg c, decide_eq_false (by omega), Bool.false_and, Bool.or_false] at hl
          exact i1 h hl
        · unfold lkF tvF at hl
          rw [if_neg c, out, Bool.false_or, if_neg c, if_neg (by decide), if_neg (by decide), if_pos rfl] at hl
          simp only [Bool.and_eq_true] at hl
          exact hl.2.2
      · rcases kinds_on h with h | ⟨_, rfl, rfl⟩
        · unfold lkF
          rw [if_neg c, i2 h hl, Bool.true_or]
        · unfold lkF tvF
          rw [if_neg c, if_neg c, if_neg (by decide), if_neg (by decide), if_neg (by decide), hl]
          simp
      · rcases kinds_on h with h | ⟨_, rfl, rfl⟩
        · unfold frF
          rw [if_neg c, i3 h, Bool.true_or]
        · unfold frF
          rw [if_neg c, if_pos rfl]
          simp
  | tw_ w f g ihf ihg =>
    rintro k b ⟨hw, hf, hg⟩
    obtain ⟨i1, i2, i3⟩ := ihf k b hf
    have hs : w = wAnd ∨ w = wOr ∨ w = wUntil ∨ w = wRelease := by simpa [twosL] using hw
    have hne : w ≠ wAlways ∧ w ≠ wFinally ∧ w ≠ wNext := by rcases hs with rfl | rfl | rfl | rfl <;> decide
    refine ⟨fun h hl => ?_, fun h hl => ?_, fun h => ?_⟩
    · rcases kinds_tw h with h | ⟨h0, h⟩ | ⟨_, _, rfl⟩
      · have hb := kinds_lt h
        refine i1 h ?_
        have o := (lkF_out m bs g (k + looksN f) (k + b) (.inl (by omega))).1
        unfold lkF at hl
        split at hl
        · rw [o, Bool.or_false] at hl; exact hl
        · rw [o, decide_eq_false (by omega), Bool.false_and, Bool.or_false, Bool.or_false] at hl; exact hl
      · have hb := kinds_lt h
        have j1 := (ihg (k + looksN f) (b - looksN f) hg).1 h
        rw [show k + looksN f + (b - looksN f) = k + b by omega] at j1
        refine j1 ?_
        have o := (lkF_out m bs f k (k + b) (.inr (by omega))).1
        unfold lkF at hl
        split at hl
        · rw [o, Bool.false_or] at hl; exact hl
        · rw [o, decide_eq_false (by omega), Bool.false_and, Bool.or_false, Bool.false_or] at hl; exact hl
      · exact absurd rfl hne.1
    · rcases kinds_tw h with h | ⟨h0, h⟩ | ⟨_, _, rfl⟩
      · unfold lkF
        split <;> rw [i2 h hl] <;> simp
      · have j1 := (ihg (k + looksN f) (b - looksN f) hg).2.1 h
        rw [show k + looksN f + (b - looksN f) = k + b by omega] at j1
        unfold lkF
        split <;> rw [j1 hl] <;> simp
      · exact absurd rfl hne.2.1
    · rcases kinds_tw h with h | ⟨h0, h⟩ | ⟨_, _, rfl⟩
      · unfold frF
        split <;> rw [i3 h] <;> simp
      · have j1 := (ihg (k + looksN f) (b - looksN f) hg).2.2 h
        rw [show k + looksN f + (b - looksN f) = k + b by omega] at j1
        unfold frF
        split <;> rw [j1] <;> simp
      · exact absurd rfl hne.2.2
/-- How many bits below t are free. -/
def cntF (A : Nat → Bool) : Nat → Nat
  | 0 => 0
  | t + 1 => cntF A t + if A t then 0 else 1
theorem nodup_mod {t : Nat} : ∀ {l : List Nat}, l.Nodup → (∀ x ∈ l, ∀ y ∈ l, x % 2 ^ t = y % 2 ^ t → x = y) → (l.map (· % 2 ^ t)).Nodup := by
  intro l
  induction l with
  | nil => intro _ _; exact List.nodup_nil
  | cons a l ih =>
    intro hn hi
    obtain ⟨h1, h2⟩ := List.nodup_cons.1 hn
    rw [List.map_cons, List.nodup_cons]
    refine ⟨fun hm => ?_, ih h2 (fun x hx y hy => hi x (List.mem_cons_of_mem _ hx) y (List.mem_cons_of_mem _ hy))⟩
    obtain ⟨x, hx, he⟩ := List.mem_map.1 hm
    have := hi a (by simp) x (List.mem_cons_of_mem _ hx) he.symm
    exact h1 (this ▸ hx)
theorem mod_top {t x y : Nat} (hx : x < 2 ^ (t + 1)) (hy : y < 2 ^ (t + 1)) (hb : x.testBit t = y.testBit t) (hm : x % 2 ^ t = y % 2 ^ t) : x = y := by
  refine Nat.eq_of_testBit_eq fun b => ?_
  rcases Nat.lt_trichotomy b t with h | h | h
  · have := congrArg (fun z => z.testBit b) hm
    simp only [Nat.testBit_mod_two_pow, decide_eq_true h, Bool.true_and] at this
    exact this
  · rw [h]; exact hb
  · rw [Nat.testBit_lt_two_pow (Nat.lt_of_lt_of_le hx (Nat.pow_le_pow_right (by decide) h)), Nat.testBit_lt_two_pow (Nat.lt_of_lt_of_le hy (Nat.pow_le_pow_right (by decide) h))]
theorem filter_two {α : Type} (p : α → Bool) : ∀ l : List α, l.length = (l.filter p).length + (l.filter fun x => !p x).length := by
  intro l
  induction l with
  | nil => rfl
  | cons a l ih =>
    rw [List.filter_cons, List.filter_cons, List.length_cons, ih]
    cases p a
    · simp only [Bool.not_false, if_true, List.length_cons]; simp; omega
    · simp only [Bool.not_true, if_true, List.length_cons]; simp; omega
theorem agree_len (A : Nat → Bool) : ∀ (t : Nat) (l : List Nat), l.Nodup → (∀ x ∈ l, x < 2 ^ t) → (∀ x ∈ l, ∀ y ∈ l, ∀ b, b < t → A b = true → x.testBit b = y.testBit b) → l.length ≤ 2 ^ cntF A t := by
  intro t
  induction t with
  | zero => intro l hn hl _; exact nd_lt hn hl
  | succ t ih =>
    intro l hn hl ha
    have hsub : ∀ l2 : List Nat, l2.Nodup → (∀ x ∈ l2, x ∈ l) → (∀ x ∈ l2, ∀ y ∈ l2, x.testBit t = y.testBit t) → l2.length ≤ 2 ^ cntF A t := by
      intro l2 h1 h2 h3
      have := ih (l2.map (· % 2 ^ t)) (nodup_mod h1 (fun x hx y hy he => mod_top (hl x (h2 x hx)) (hl y (h2 y hy)) (h3 x hx y hy) he)) (fun z hz => by
        obtain ⟨x, _, rfl⟩ := List.mem_map.1 hz
        exact Nat.mod_lt _ (Nat.two_pow_pos t)) (fun z hz z2 hz2 b hb hA => by
        obtain ⟨x, hx, rfl⟩ := List.mem_map.1 hz
        obtain ⟨y, hy, rfl⟩ := List.mem_map.1 hz2
        rw [Nat.testBit_mod_two_pow, Nat.testBit_mod_two_pow, ha x (h2 x hx) y (h2 y hy) b (by omega) hA])
      rwa [List.length_map] at this
    unfold cntF
    by_cases hA : A t = true
    · rw [if_pos hA, Nat.add_zero]
      exact hsub l hn (fun x hx => hx) (fun x hx y hy => ha x hx y hy t (Nat.lt_succ_self t) hA)
    · rw [if_neg hA, filter_two (fun x => x.testBit t) l, Nat.pow_succ]
      have h1 := hsub (l.filter fun x => x.testBit t) (hn.filter _) (fun x hx => (List.mem_filter.1 hx).1) (fun x hx y hy => by rw [(List.mem_filter.1 hx).2, (List.mem_filter.1 hy).2])
      have h2 := hsub (l.filter fun x => !x.testBit t) (hn.filter _) (fun x hx => (List.mem_filter.1 hx).1) (fun x hx y hy => by
        have e1 := (List.mem_filter.1 hx).2
        have e2 := (List.mem_filter.1 hy).2
        simp only [Bool.not_eq_true'] at e1 e2
        rw [e1, e2])
      omega
/-- Whether a word's bit is the same all over a component. -/
def isAF (w : Str) : Bool := decide (w = wAlways) || decide (w = wFinally)
theorem cntF_list (ks : List Str) (p : Str → Bool) : ∀ t, t ≤ ks.length → cntF (fun b => (ks[b]?.map p).getD false) t = ((ks.take t).filter fun w => !p w).length := by
  intro t
  induction t with
  | zero => intro _; rfl
  | succ t ih =>
    intro ht
    have hlt : t < ks.length := by omega
    unfold cntF
    rw [ih (by omega), List.take_add_one, List.filter_append, List.length_append, List.getElem?_eq_getElem hlt]
    simp only [Option.map_some, Option.getD_some, Option.toList_some, List.filter_cons, List.filter_nil]
    by_cases h : p ks[t] = true <;> simp [h]
theorem cntF_more (A : Nat → Bool) (t : Nat) : ∀ s, cntF A (t + s) ≤ cntF A t + s := by
  intro s
  induction s with
  | zero => exact Nat.le_refl _
  | succ s ih =>
    show cntF A (t + s) + (if A (t + s) then 0 else 1) ≤ _
    split <;> omega
/-- What a word weighs. -/
def wg (w : Str) : Nat := (if w = wNext then 0 else 1) + (if isAF w then 0 else 1)
def wgt (l : List Str) : Nat := (l.map wg).sum
theorem wgt_app (a b : List Str) : wgt (a ++ b) = wgt a + wgt b := by unfold wgt; rw [List.map_append, List.sum_append]
theorem wgt_split (l : List Str) : wgt l = (l.filter fun w => decide (w ≠ wNext)).length + (l.filter fun w => !isAF w).length := by
  induction l with
  | nil => rfl
  | cons a l ih =>
    show wg a + wgt l = _
    rw [ih, List.filter_cons, List.filter_cons]
    unfold wg
    by_cases h1 : a = wNext
    · subst h1
      rw [if_pos rfl, if_neg (by decide)]
      simp [show isAF wNext = false from by decide]; omega
    · rw [if_neg h1]
      cases h2 : isAF a <;> simp [h1] <;> omega
theorem push_wgt : ∀ (f : Fm) (c : Bool), wfF f → wgt (kinds (pushM f c)) + 1 ≤ sizeF f := by
  intro f
  induction f with
  | at_ w =>
    intro c _
    unfold pushM sizeF
    split
    · exact Nat.le_refl _
    · split
      · exact Nat.le_refl _
      · exact Nat.le_refl _
  | on_ w f ih =>
    rintro c ⟨hw, hf⟩
    have hs2 : w = wNot ∨ w = wNext ∨ w = wAlways ∨ w = wFinally := by simpa [onesL] using hw
    unfold pushM sizeF
    by_cases h : w = wNot
    · rw [if_pos h]; have := ih (!c) hf; omega
    · rw [if_neg h]
      have := ih c hf
      unfold kinds
      rw [wgt_app]
      have h1 : wgt (if nameM c w = wNot then [] else [nameM c w]) ≤ 1 := by
        rcases hs2 with rfl | rfl | rfl | rfl
        · exact absurd rfl h
        all_goals (cases c <;> decide)
      omega
  | tw_ w f g ihf ihg =>
    rintro c ⟨hw, hf, hg⟩
    have hs2 : w = wAnd ∨ w = wOr ∨ w = wUntil ∨ w = wRelease := by simpa [twosL] using hw
    have h1 := ihf c hf
    have h2 := ihg c hg
    unfold pushM sizeF kinds
    rw [wgt_app, wgt_app]
    have h3 : wgt (if nameM c w = wAnd ∨ nameM c w = wOr then [] else [nameM c w]) ≤ 2 := by
      rcases hs2 with rfl | rfl | rfl | rfl <;> cases c <;> decide
    omega
theorem looks_wgt (f : Fm) : looksN f ≤ wgt (kinds f) := by
  rw [← kinds_len]
  unfold wgt
  induction kinds f with
  | nil => exact Nat.le_refl _
  | cons a l ih =>
    rw [List.map_cons, List.sum_cons, List.length_cons]
    have : 1 ≤ wg a := by
      unfold wg
      by_cases h1 : a = wNext
      · subst h1; decide
      · rw [if_neg h1]; omega
    omega
end Go.Ltl
end
section
/- ltl, nineteenth: states. -/
namespace Go.Proofs.YtpbbneclkhfgoaaDoor
open Go.W Go.Ltl Go.RowKit
set_option maxRecDepth 100000
attribute [local irreducible] WC WL WQ WS WH

theorem natL_len (l : List Nat) : (natL l).length = l.length := by simp [natL]
theorem natL_at {l : List Nat} {i : Nat} (h : i < l.length) : (natL l)[i]? = some (.int .i64 (l[i] : Nat)) := by simp [natL, h]
theorem wrap_div {a b : Nat} (ha : a < 9223372036854775808) : IntKind.i64.wrap (((a : Nat) : Int).tdiv ((b : Nat) : Int)) = ((a / b : Nat) : Int) := by
  have h1 : ((a : Nat) : Int).tdiv ((b : Nat) : Int) = ((a / b : Nat) : Int) := rfl
  have h2 : a / b ≤ a := Nat.div_le_self a b
  rw [h1]
  generalize a / b = q at *
  exact wrap_mid (by omega) (by omega)
end Go.Proofs.YtpbbneclkhfgoaaDoor
end
section
/- ltl, twentieth: the tests of run. -/
namespace Go.Proofs.YtpbbneclkhfgoaaDoor
open Go.W Go.Ltl Go.RowKit
set_option maxRecDepth 100000
attribute [local irreducible] WC WL WQ WS WH

theorem run1_any (z : Int) (w : World) : Ret Tryd.prog 89 [.int .i64 z] w fun v w' => v = .bool true ∧ w' = w := by
  refine enter Tryd.func89 rfl rfl ⟨rfl, rfl⟩ rfl ?_
  repeat (first | refine zA ?_ | refine zB ?_ | refine zC rfl rfl rfl ?_ | refine zD ?_ | refine zE ?_ | refine zF ?_ | refine zG rfl ?_ | refine zH rfl ?_ | refine zI rfl rfl rfl ?_ | refine zJ rfl rfl ?_ | refine zK ?_ | refine zL ?_ | refine zM rfl ?_ | refine zN ?_)
  exact Res.one rfl rfl rfl ⟨rfl, rfl⟩
theorem run3_any {w : World} {vb hb ab n c : Nat} {l : List Nat} (home : Nat) (h1 : w.cell? ⟨vb, 0, none⟩ = some (.slice (some ⟨ab, 0, none⟩) n c)) (h2 : w.cell? ⟨hb, 0, none⟩ = some (.int .i64 (home : Nat)))
    (hn : n = l.length) (h3 : ∀ i (h : i < l.length), w.cell? ⟨ab, 0 + i, none⟩ = some (.int .i64 (l[i] : Nat))) (v : Nat) (hv : v < l.length) (hh : home < l.length) :
    Ret Tryd.prog 92 [.int .i64 (v : Nat), ptr vb, ptr hb] w fun u w' => u = .bool (decide (l[v] = l[home])) ∧ Hp w w' [] := by
  have hcell : ∀ i (h : i < l.length), w.cell? ⟨ab, 0 + i * ti3.size, none⟩ = some (.int .i64 (l[i] : Nat)) := fun i h => by rw [show ti3.size = 1 from rfl, Nat.mul_one]; exact h3 i h
  refine enter Tryd.func92 rfl rfl ⟨rfl, rfl⟩ rfl ?_
  repeat (first | refine zA ?_ | refine zB ?_ | refine zC rfl rfl rfl ?_ | refine zD ?_ | refine zE ?_ | refine zF ?_ | refine zG rfl ?_ | refine zH rfl ?_ | refine zI rfl rfl rfl ?_ | refine zJ rfl rfl ?_ | refine zK ?_ | refine zL ?_ | refine zM rfl ?_ | refine zN ?_)
  refine WC.regQ (fun w' => Hp w w' []) mixed (by kernel_rfl) (fun w' hw' => (Hp.start w).keep hw') ?_
  refine WQ.load rfl rfl rfl rfl rfl (fun w' h => cell_below h.below h1) ?_
  repeat (first | refine WQ.pure rfl rfl rfl ?_ | refine WQ.off rfl rfl rfl ?_ | refine WQ.nil ?_)
  refine WQ.ix rfl rfl rfl rfl rfl rfl (by omega) ?_
  refine WQ.load rfl rfl rfl rfl rfl (fun w' h => cell_below h.below (hcell v hv)) ?_
  refine WQ.load rfl rfl rfl rfl rfl (fun w' h => cell_below h.below h1) ?_
  refine WQ.load rfl rfl rfl rfl rfl (fun w' h => cell_below h.below h2) ?_
  refine WQ.ix rfl rfl rfl rfl rfl rfl (by omega) ?_
  refine WQ.load rfl rfl rfl rfl rfl (fun w' h => cell_below h.below (hcell home hh)) ?_
  repeat (first | refine WQ.pure rfl rfl rfl ?_ | refine WQ.off rfl rfl rfl ?_ | refine WQ.nil ?_)
  intro w4 hp4
  repeat (first | refine zA ?_ | refine zB ?_ | refine zC rfl rfl rfl ?_ | refine zD ?_ | refine zE ?_ | refine zF ?_ | refine zG rfl ?_ | refine zH rfl ?_ | refine zI rfl rfl rfl ?_ | refine zJ rfl rfl ?_ | refine zK ?_ | refine zL ?_ | refine zM rfl ?_ | refine zN ?_)
  refine Res.one rfl rfl rfl ⟨?_, hp4⟩
  congr 1
  rw [Bool.eq_iff_iff, beq_iff_eq, decide_eq_true_iff]
  omega
end Go.Proofs.YtpbbneclkhfgoaaDoor
end
section
/- Maps as lists of keys and values, in the order of their making; nothing is deleted. -/
set_option linter.unusedSectionVars false
namespace Go.W
open Go.RowKit

/-- The entries of a map. -/
def mEs {K : Type} (kv : K → Value) : List (K × Value) → Nat → List MapEntry
  | [], _ => []
  | p :: r, i => { key := kv p.1, val := p.2, born := i } :: mEs kv r (i + 1)
def kGet {K V : Type} [DecidableEq K] : List (K × V) → K → Option V
  | [], _ => none
  | p :: r, k => if k = p.1 then some p.2 else kGet r k
def kPos {K V : Type} [DecidableEq K] : List (K × V) → K → Nat
  | [], _ => 0
  | p :: r, k => if k = p.1 then 0 else kPos r k + 1
def kPut {K V : Type} [DecidableEq K] : List (K × V) → K → V → List (K × V)
  | [], k, v => [(k, v)]
  | p :: r, k, v => if k = p.1 then (p.1, v) :: r else p :: kPut r k v
def kTouch {K V : Type} [DecidableEq K] (l : List (K × V)) (k : K) (z : V) : List (K × V) := if (kGet l k).isSome then l else l ++ [(k, z)]
def mapO {K : Type} (kv : K → Value) (l : List (K × Value)) : Obj := .map (mEs kv l 0).toArray l.length
section
variable {K V : Type} [DecidableEq K]
theorem mEs_at (kv : K → Value) : ∀ (l : List (K × Value)) (i j : Nat), (mEs kv l i)[j]? = l[j]?.map fun p => { key := kv p.1, val := p.2, born := i + j }
  | [], _, _ => by simp [mEs]
  | p :: r, i, 0 => by simp [mEs]
  | p :: r, i, j + 1 => by simp only [mEs, List.getElem?_cons_succ, mEs_at kv r]; congr 1; funext q; simp; omega
theorem mEs_snoc (kv : K → Value) : ∀ (l : List (K × Value)) (i : Nat) (k : K) (v : Value), mEs kv (l ++ [(k, v)]) i = mEs kv l i ++ [{ key := kv k, val := v, born := i + l.length }]
  | [], _, _, _ => by simp [mEs]
  | p :: r, i, k, v => by simp only [List.cons_append, mEs, mEs_snoc kv r, List.length_cons]; congr 4; omega
theorem kGet_pos : ∀ (l : List (K × V)) (k : K), (kGet l k = none ∧ kPos l k = l.length) ∨ ∃ v, kGet l k = some v ∧ kPos l k < l.length ∧ l[kPos l k]? = some (k, v)
  | [], k => .inl ⟨rfl, rfl⟩
  | p :: r, k => by
    unfold kGet kPos
    by_cases h : k = p.1
    · subst h
      simp only [if_true]
      exact .inr ⟨p.2, rfl, Nat.succ_pos _, rfl⟩
    · simp only [if_neg h]
      rcases kGet_pos r k with ⟨h1, h2⟩ | ⟨v, h1, h2, h3⟩
      · exact .inl ⟨h1, by rw [h2]; rfl⟩
      · exact .inr ⟨v, h1, by rw [List.length_cons]; omega, by rw [List.getElem?_cons_succ]; exact h3⟩
theorem kPut_none : ∀ (l : List (K × V)) (k : K) (v : V), kGet l k = none → kPut l k v = l ++ [(k, v)]
  | [], k, v, _ => rfl
  | p :: r, k, v, h => by
    unfold kGet at h
    unfold kPut
    split at h
    · cases h
    · rename_i hk
      rw [if_neg hk, kPut_none r k v h]; rfl
theorem kPut_some : ∀ (l : List (K × V)) (k : K) (v u : V), kGet l k = some u → kPut l k v = l.set (kPos l k) (k, v)
  | [], k, v, u, h => by cases h
  | p :: r, k, v, u, h => by
    unfold kGet at h
    unfold kPut kPos
    by_cases hk : k = p.1
    · simp only [if_pos hk, List.set_cons_zero]; rw [hk]
    · rw [if_neg hk] at h
      simp only [if_neg hk, List.set_cons_succ, kPut_some r k v u h]
theorem kGet_put : ∀ (l : List (K × V)) (k q : K) (v : V), kGet (kPut l k v) q = if q = k then some v else kGet l q
  | [], k, q, v => by simp [kPut, kGet]
  | p :: r, k, q, v => by
    unfold kPut
    by_cases hk : k = p.1
    · rw [if_pos hk]
      unfold kGet
      by_cases hq : q = k
      · rw [if_pos (hq.trans hk), if_pos hq]
      · rw [if_neg (fun h => hq (h.trans hk.symm)), if_neg hq]
        rw [if_neg (fun h => hq (h.trans hk.symm))]
    · rw [if_neg hk]
      unfold kGet
      by_cases hq : q = p.1
      · rw [if_pos hq, if_pos hq, if_neg (fun h => hk (h.symm.trans hq))]
      · rw [if_neg hq, if_neg hq, kGet_put r k q v]
theorem kTouch_put (l : List (K × V)) (k : K) (z v : V) : (kTouch l k z).set (kPos l k) (k, v) = kPut l k v := by
  unfold kTouch
  rcases kGet_pos l k with ⟨h1, h2⟩ | ⟨u, h1, h2, h3⟩
  · rw [h1, kPut_none l k v h1, h2]; simp
  · rw [h1, kPut_some l k v u h1]; simp
theorem kTouch_lt (l : List (K × V)) (k : K) (z : V) : kPos l k < (kTouch l k z).length := by
  unfold kTouch
  rcases kGet_pos l k with ⟨h1, h2⟩ | ⟨u, h1, h2, h3⟩
  · rw [h1, h2]; simp
  · rw [h1]; exact h2
theorem kTouch_at (l : List (K × V)) (k : K) (z : V) : ∃ u, (kTouch l k z)[kPos l k]? = some (k, u) := by
  unfold kTouch
  rcases kGet_pos l k with ⟨h1, h2⟩ | ⟨u, h1, h2, h3⟩
  · exact ⟨z, by rw [h1, h2]; simp⟩
  · exact ⟨u, by rw [h1]; exact h3⟩
theorem kGet_map {J U : Type} [DecidableEq J] (g : K → J) (f : V → U) (hg : ∀ a b, g a = g b → a = b) : ∀ (l : List (K × V)) (k : K), kGet (l.map fun p => (g p.1, f p.2)) (g k) = (kGet l k).map f
  | [], k => rfl
  | p :: r, k => by
    simp only [List.map_cons, kGet]
    by_cases h : k = p.1
    · rw [if_pos h, if_pos (by rw [h])]; rfl
    · rw [if_neg h, if_neg (fun e => h (hg _ _ e)), kGet_map g f hg r k]
theorem kPos_map {J U : Type} [DecidableEq J] (g : K → J) (f : V → U) (hg : ∀ a b, g a = g b → a = b) : ∀ (l : List (K × V)) (k : K), kPos (l.map fun p => (g p.1, f p.2)) (g k) = kPos l k
  | [], k => rfl
  | p :: r, k => by
    simp only [List.map_cons, kPos]
    by_cases h : k = p.1
    · rw [if_pos h, if_pos (by rw [h])]
    · rw [if_neg h, if_neg (fun e => h (hg _ _ e)), kPos_map g f hg r k]
theorem kPut_map {J U : Type} [DecidableEq J] (g : K → J) (f : V → U) (hg : ∀ a b, g a = g b → a = b) : ∀ (l : List (K × V)) (k : K) (v : V), kPut (l.map fun p => (g p.1, f p.2)) (g k) (f v) = (kPut l k v).map fun p => (g p.1, f p.2)
  | [], k, v => rfl
  | p :: r, k, v => by
    simp only [List.map_cons, kPut]
    by_cases h : k = p.1
    · rw [if_pos h, if_pos (by rw [h])]; rfl
    · rw [if_neg h, if_neg (fun e => h (hg _ _ e)), kPut_map g f hg r k v]; rfl
theorem kTouch_map {J U : Type} [DecidableEq J] (g : K → J) (f : V → U) (hg : ∀ a b, g a = g b → a = b) (l : List (K × V)) (k : K) (v : V) : kTouch (l.map fun p => (g p.1, f p.2)) (g k) (f v) = (kTouch l k v).map fun p => (g p.1, f p.2) := by
  unfold kTouch
  rw [kGet_map g f hg]
  cases kGet l k <;> simp
theorem kTouch_get (l : List (K × V)) (k : K) (z : V) : (kTouch l k z)[kPos l k]? = some (k, (kGet l k).getD z) := by
  unfold kTouch
  rcases kGet_pos l k with ⟨h1, h2⟩ | ⟨u, h1, h2, h3⟩
  · rw [h1, h2]; simp
  · rw [h1]; exact h3
/-- A type of keys. -/
structure KeyT (P : Program) (kt : TypeId) (kv : K → Value) : Prop where
  check : ∀ (b : Bool) (k : K) (w : World), (Instr.checkKey b 10000 kt (kv k)).run P w = .ok () w
  find : ∀ (l : List (K × Value)) (k : K) (w : World), (Instr.findKey kt (kv k) (mEs kv l 0)).run P w = .ok ((kGet l k).map fun v => (kPos l k, v)) w
  stays : ∀ (k : K), Instr.sameBits 10000 (kv k) (kv k) = true

variable {P : Program} [T : TT P] {e : Env} {ty : TypeId} {w : World} {kt vt t : TypeId} {kv : K → Value} {z : Value} {s0 b0 b : Nat} {iv : TI} {l : List (K × Value)} {k : K}
theorem get_mapO (hb : w.heap[b]? = some (mapO kv l)) : (getObj b).run P w = .ok (.map (mEs kv l 0).toArray l.length) w := by
  unfold mapO at hb; simp [getObj, Sem.run, hb]
theorem set_mapO {o : Obj} (hb : w.heap[b]? = some (mapO kv l)) : (setObj b o).run P w = .ok () (w.putObj b o) := by unfold mapO at hb; simp [setObj, Sem.run, hb, World.putObj]
/-- What a lookup gives. -/
def lkM (l : List (K × Value)) (k : K) (z : Value) : Bool → Value
  | true => .tuple #[(kGet l k).getD z, .bool (kGet l k).isSome]
  | false => (kGet l k).getD z
theorem yLookM {c : Bool} {x ix : Operand} (hK : KeyT P kt kv) (ht : T.ti t = some ⟨.map kt vt, z, s0, b0⟩) (hv : T.ti vt = some iv)
    (hx : opv e x = some (.map (some b))) (hix : opv e ix = some (kv k)) (hb : w.heap[b]? = some (mapO kv l)) : Yv P e (.lookup t x ix c) ty w (lkM l k iv.zero c) w := by
  have hu : P.underlying t = some (.map kt vt) := (T.ok t _ ht).k
  have hz := (T.ok vt iv hv).zeroValue w
  have hobj := get_mapO (P := P) hb
  have hc := hK.check (mEs kv l 0).toArray.isEmpty k w
  have hf := hK.find l k w
  intro ρ hρ d' pos' aft' g'
  cases hq : kGet l k with
  | none =>
    rw [hq] at hf
    cases c <;> simp_all [execOp, hρ _ _ hx, hρ _ _ hix, Instr.lookup, run_underlying hu, lkM]
  | some q =>
    rw [hq] at hf
    cases c <;> simp_all [execOp, hρ _ _ hx, hρ _ _ hix, Instr.lookup, run_underlying hu, lkM]
theorem mod_same (l : List (K × Value)) (k : K) (u : Value) (h : l[kPos l k]? = some (k, u)) : (mEs kv l 0).toArray.modify (kPos l k) (fun e => { e with key := kv k }) = (mEs kv l 0).toArray := by
  apply Array.ext'
  rw [Array.toList_modify]
  apply List.ext_getElem?
  intro j
  rw [List.getElem?_modify, List.toList_toArray, mEs_at]
  by_cases hj : kPos l k = j
  · subst hj
    rw [h]; simp
  · simp [hj]
theorem mod_put (l : List (K × Value)) (k : K) (u v : Value) (h : l[kPos l k]? = some (k, u)) : (mEs kv l 0).toArray.modify (kPos l k) (fun e => { e with key := kv k, val := v }) = (mEs kv (l.set (kPos l k) (k, v)) 0).toArray := by
  apply Array.ext'
  rw [Array.toList_modify]
  apply List.ext_getElem?
  intro j
  rw [List.getElem?_modify, List.toList_toArray, List.toList_toArray, mEs_at, mEs_at, List.getElem?_set]
  by_cases hj : kPos l k = j
  · subst hj
    have hlt := (List.getElem?_eq_some_iff.1 h).1
    rw [h]; simp [hlt]
  · simp [hj]
theorem mod_val (l : List (K × Value)) (k : K) (i : Nat) (u v : Value) (h : l[i]? = some (k, u)) : (mEs kv l 0).toArray.modify i (fun e => { e with val := v }) = (mEs kv (l.set i (k, v)) 0).toArray := by
  apply Array.ext'
  rw [Array.toList_modify]
  apply List.ext_getElem?
  intro j
  rw [List.getElem?_modify, List.toList_toArray, List.toList_toArray, mEs_at, mEs_at, List.getElem?_set]
  by_cases hj : i = j
  · subst hj
    have hlt := (List.getElem?_eq_some_iff.1 h).1
    rw [h]; simp [hlt]
  · simp [hj]
theorem push_mEs (l : List (K × Value)) (k : K) (v : Value) : (mEs kv l 0).toArray.push { key := kv k, val := v, born := l.length } = (mEs kv (l ++ [(k, v)]) 0).toArray := by
  apply Array.ext'
  rw [Array.toList_push, List.toList_toArray, List.toList_toArray, mEs_snoc, Nat.zero_add]
theorem upM {v : Value} (hK : KeyT P kt kv) (ht : T.ti t = some ⟨.map kt vt, z, s0, b0⟩) (hb : w.heap[b]? = some (mapO kv l)) :
    (Instr.mapUpdate t (.map (some b)) (kv k) v).run P w = .ok () (w.putObj b (mapO kv (kPut l k v))) := by
  have hu : P.underlying t = some (.map kt vt) := (T.ok t _ ht).k
  have hobj := get_mapO (P := P) hb
  have hset : ∀ o, (setObj b o).run P w = .ok () (w.putObj b o) := fun o => set_mapO hb
  have hc := hK.check false k w
  have hf := hK.find l k w
  rcases kGet_pos l k with ⟨h1, h2⟩ | ⟨u, h1, h2, h3⟩
  · rw [h1] at hf
    rw [kPut_none l k v h1]
    unfold mapO
    rw [← push_mEs]
    simp [Instr.mapUpdate, run_underlying hu, hobj, hc, hf, hset]
  · rw [h1] at hf
    rw [kPut_some l k v u h1]
    unfold mapO
    rw [← mod_put l k u v h3]
    have he : (mEs kv l 0)[kPos l k]? = some { key := kv k, val := u, born := kPos l k } := by rw [mEs_at, h3]; simp
    have hs := hK.stays k
    simp [Instr.mapUpdate, run_underlying hu, hobj, hc, hf, hset, he, Instr.keyThatStays, hs]
theorem yMapSet {m q x : Operand} {v : Value} (hK : KeyT P kt kv) (ht : T.ti t = some ⟨.map kt vt, z, s0, b0⟩) (hm : opv e m = some (.map (some b))) (hk : opv e q = some (kv k)) (hx : opv e x = some v) (hb : w.heap[b]? = some (mapO kv l)) :
    Ys P e (.mapUpdate t m q x) ty w (w.putObj b (mapO kv (kPut l k v))) := by
  intro ρ hρ d' pos' aft' g'
  have := upM (v := v) (k := k) hK ht hb
  simp [execOp, hρ _ _ hm, hρ _ _ hk, hρ _ _ hx, this]
theorem yMapEnt {m q : Operand} (hK : KeyT P kt kv) (ht : T.ti t = some ⟨.map kt vt, z, s0, b0⟩) (hv : T.ti vt = some iv) (hm : opv e m = some (.map (some b))) (hk : opv e q = some (kv k)) (hb : w.heap[b]? = some (mapO kv l)) :
    Yv P e (.mapEntry t m q) ty w (.tuple #[(kGet l k).getD iv.zero, .int .i64 (kPos l k : Nat)]) (w.putObj b (mapO kv (kTouch l k iv.zero))) := by
  have hu : P.underlying t = some (.map kt vt) := (T.ok t _ ht).k
  have hz := (T.ok vt iv hv).zeroValue w
  have hobj := get_mapO (P := P) hb
  have hset : ∀ o, (setObj b o).run P w = .ok () (w.putObj b o) := fun o => set_mapO hb
  have hc := hK.check false k w
  have hf := hK.find l k w
  intro ρ hρ d' pos' aft' g'
  unfold kTouch
  rcases kGet_pos l k with ⟨h1, h2⟩ | ⟨u, h1, h2, h3⟩
  · rw [h1] at hf ⊢
    unfold mapO
    rw [h2]
    simp only [Option.isSome_none, Bool.false_eq_true, if_false]
    rw [← push_mEs]
    simp [execOp, hρ _ _ hm, hρ _ _ hk, Instr.mapEntry, run_underlying hu, hobj, hc, hf, hset, hz, goInt]
  · rw [h1] at hf ⊢
    unfold mapO
    have he : (mEs kv l 0)[kPos l k]? = some { key := kv k, val := u, born := kPos l k } := by rw [mEs_at, h3]; simp
    have hs := hK.stays k
    have hmod := mod_same (kv := kv) l k u h3
    simp [execOp, hρ _ _ hm, hρ _ _ hk, Instr.mapEntry, run_underlying hu, hobj, hc, hf, hset, he, Instr.keyThatStays, hs, goInt]
    have hmod' : ((mEs kv l 0).modify (kPos l k) fun e => { e with key := kv k }) = mEs kv l 0 := by simpa using hmod
    rw [hmod']
theorem findIdx_mEs (kv : K → Value) : ∀ (l : List (K × Value)) (i j : Nat), j < l.length → (mEs kv l i).findIdx? (fun e => ((e.born : Nat) : Int) == ((i + j : Nat) : Int)) = some j := by
  intro l
  induction l with
  | nil => intro i j h; exact absurd h (Nat.not_lt_zero _)
  | cons p r ih =>
    intro i j h
    cases j with
    | zero => simp [mEs, List.findIdx?_cons]
    | succ j =>
      have := ih (i + 1) j (by simpa using h)
      rw [mEs, List.findIdx?_cons]
      have h1 : (((i : Nat) : Int) == ((i + (j + 1) : Nat) : Int)) = false := by simp; omega
      simp only [h1, Bool.false_eq_true, if_false]
      rw [show i + (j + 1) = i + 1 + j by omega, this]
      rfl
theorem yEntSt {m s x : Operand} {v zz : Value} (hm : opv e m = some (.map (some b))) (hs : opv e s = some (.int .i64 (kPos l k : Nat))) (hx : opv e x = some v) (hb : w.heap[b]? = some (mapO kv (kTouch l k zz))) :
    Ys P e (.entryStore t m s x) ty w (w.putObj b (mapO kv (kPut l k v))) := by
  have hobj := get_mapO (P := P) hb
  have hset : ∀ o, (setObj b o).run P w = .ok () (w.putObj b o) := fun o => set_mapO hb
  have hlt := kTouch_lt l k zz
  obtain ⟨u, hu⟩ := kTouch_at l k zz
  have hi := findIdx_mEs kv (kTouch l k zz) 0 (kPos l k) hlt
  rw [Nat.zero_add] at hi
  have hi' : (mEs kv (kTouch l k zz) 0).toArray.findIdx? (fun e => ((e.born : Nat) : Int) == ((kPos l k : Nat) : Int)) = some (kPos l k) := by rw [List.findIdx?_toArray]; exact hi
  have hmod := mod_val (kv := kv) (kTouch l k zz) k (kPos l k) u v hu
  rw [kTouch_put] at hmod
  have hlen : (kTouch l k zz).length = (kPut l k v).length := by rw [← kTouch_put l k zz v, List.length_set]
  intro ρ hρ d' pos' aft' g'
  simp only [execOp, hρ _ _ hm, hρ _ _ hs, hρ _ _ hx, Instr.entryStore, Sem.run_bind, hobj, Result.andThen_ok, asInt, asIntOf, Sem.run_pure]
  simp only [hi', hset, hmod, Result.andThen_ok, Sem.run_pure]
  unfold mapO
  rw [hlen]
end
/-! ### Keys -/
def iKey (i : Int) : Value := .int .i64 i
def pKey (p : Int × Int) : Value := .agg #[.int .i64 p.1, .int .i64 p.2]
section
variable {P : Program} [T : TT P]
theorem findNow_i (k : Int) : ∀ (l : List (Int × Value)) (i j : Nat), Instr.findNow (.int .i64) (iKey k) (mEs iKey l i) j = some ((kGet l k).map fun v => (j + kPos l k, v)) := by
  intro l
  induction l with
  | nil => intro i j; rfl
  | cons p r ih =>
    intro i j
    unfold mEs kGet kPos
    by_cases h : k = p.1
    · simp [Instr.findNow, Instr.sameNow, iKey, h]
    · have e1 : (k == p.1) = false := by simpa using h
      simp only [Instr.findNow, Instr.sameNow, iKey, e1, if_true, if_neg h]
      have := ih (i + 1) (j + 1)
      simp only [iKey] at this
      rw [this]
      congr 2
      funext v
      congr 1
      omega
theorem check_i {E : TypeId} {z : Value} {s0 b0 : Nat} (hk : T.ti E = some ⟨.int .i64, z, s0, b0⟩) (b : Bool) (m : Nat) (x : Int) (w : World) : (Instr.checkKey b (m + 1) E (.int .i64 x)).run P w = .ok () w := by
  have hu : P.underlying E = some (.int .i64) := (T.ok E _ hk).k
  simp [Instr.checkKey, run_underlying hu]
theorem same_i (m : Nat) (x : Int) : Instr.sameBits m (.int .i64 x) (.int .i64 x) = true := by cases m <;> simp [Instr.sameBits]
theorem same_p (m : Nat) (x y : Int) : Instr.sameBits (m + 1) (.agg #[.int .i64 x, .int .i64 y]) (.agg #[.int .i64 x, .int .i64 y]) = true := by simp [Instr.sameBits, same_i]
theorem keyT_int {kt : TypeId} {z : Value} {s0 b0 : Nat} (hk : T.ti kt = some ⟨.int .i64, z, s0, b0⟩) : KeyT P kt iKey where
  check b k w := check_i hk b 9999 k w
  find l k w := by
    have hu : P.underlying kt = some (.int .i64) := (T.ok kt _ hk).k
    have := findNow_i k l 0 0
    simp only [Nat.zero_add] at this
    simp [Instr.findKey, run_underlying hu, this]
  stays k := same_i 10000 k
theorem findA_p {kt E : TypeId} {z z2 : Value} {s0 b0 b2 : Nat} (hk : T.ti kt = some ⟨.array 2 E, z, s0, b0⟩) (hE : T.ti E = some ⟨.int .i64, z2, 1, b2⟩) (k : Int × Int) (w : World) : ∀ (l : List ((Int × Int) × Value)) (i j : Nat),
    (Instr.findAsking kt (pKey k) (mEs pKey l i) j).run P w = .ok ((kGet l k).map fun v => (j + kPos l k, v)) w := by
  intro l
  induction l with
  | nil => intro i j; rfl
  | cons p r ih =>
    intro i j
    have h1 := run_eq2 (w := w) hk hE k.1 k.2 p.1.1 p.1.2 9998
    have h1' : (Op.equal kt (pKey k) (pKey p.1)).run P w = .ok (k.1 == p.1.1 && k.2 == p.1.2) w := h1
    unfold mEs kGet kPos
    simp only [Instr.findAsking, Sem.run_bind, h1', Result.andThen_ok]
    by_cases h : k = p.1
    · have e1 : (k.1 == p.1.1 && k.2 == p.1.2) = true := by rw [h]; simp
      simp only [e1, if_true, if_pos h, Sem.run_pure, Option.map_some, Nat.add_zero]
    · have e1 : (k.1 == p.1.1 && k.2 == p.1.2) = false := by
        rw [Bool.eq_false_iff]
        intro h2
        simp only [Bool.and_eq_true, beq_iff_eq] at h2
        exact h (Prod.ext h2.1 h2.2)
      simp only [e1, Bool.false_eq_true, if_false, if_neg h]
      rw [ih (i + 1) (j + 1)]
      congr 2
      funext v
      congr 1
      omega
theorem keyT_pair {kt E : TypeId} {z z2 : Value} {s0 b0 b2 : Nat} (hk : T.ti kt = some ⟨.array 2 E, z, s0, b0⟩) (hE : T.ti E = some ⟨.int .i64, z2, 1, b2⟩) : KeyT P kt pKey where
  check b k w := by
    have hu : P.underlying kt = some (.array 2 E) := (T.ok kt _ hk).k
    have hi : P.underlying E = some (.int .i64) := (T.ok E _ hE).k
    have hs := (T.ok E _ hE).sizeOf w
    have hag := (T.ok E _ hE).isAgg w
    simp only [TK.isAgg] at hag hs
    have hq : ∀ x : Int, (Instr.checkKey b 9999 E (.int .i64 x)).run P w = .ok () w := fun x => check_i hE b 9998 x w
    rw [pKey, Instr.checkKey]
    simp only [Sem.run_bind, run_underlying hu, Result.andThen_ok]
    simp [List.range', hs, part, hag, hq]
  find l k w := by
    have hu : P.underlying kt = some (.array 2 E) := (T.ok kt _ hk).k
    have h0 := findA_p hk hE k w l 0 0
    simp only [Nat.zero_add] at h0
    have h1 : Instr.findNow (.array 2 E) (pKey k) (mEs pKey l 0) 0 = none ∨ (l = [] ∧ Instr.findNow (.array 2 E) (pKey k) (mEs pKey l 0) 0 = some none) := by
      cases l with
      | nil => exact .inr ⟨rfl, rfl⟩
      | cons p r => exact .inl (by simp [mEs, Instr.findNow, Instr.sameNow])
    rcases h1 with h1 | ⟨rfl, h1⟩
    · simp only [Instr.findKey, Sem.run_bind, run_underlying hu, Result.andThen_ok, h1]
      exact h0
    · simp [Instr.findKey, run_underlying hu, h1, kGet]
  stays k := same_p 9999 k.1 k.2
end
end Go.W
end
section
/- Queues: slices of one's own that lose their first element and grow at the end. -/
set_option linter.unusedSectionVars false
namespace Go.W
open Go.RowKit
/-- A queue: the slice's value, what it holds, and the block behind it. -/
def Quo (E : TypeId) (v : Value) (xs : List Value) (Q : List Ent) : Prop :=
  (v = .slice none 0 0 ∧ xs = [] ∧ Q = []) ∨ ∃ b off cap cur, v = .slice (some ⟨b, off, none⟩) xs.length cap ∧ Q = [.blk b (.cells cur E (0, 0))] ∧ off + cap ≤ cur.size ∧ xs.length ≤ cap ∧ (cur.toList.drop off).take xs.length = xs ∧ cap ≤ maxLen
theorem Quo.nil (E : TypeId) : Quo E (.slice none 0 0) [] [] := .inl ⟨rfl, rfl, rfl⟩
theorem Quo.shape {E : TypeId} {v : Value} {xs : List Value} {Q : List Ent} (h : Quo E v xs Q) : ∃ a cap, v = .slice a xs.length cap ∧ xs.length ≤ cap := by
  rcases h with ⟨rfl, rfl, rfl⟩ | ⟨b, off, cap, cur, rfl, rfl, _, h, _⟩
  · exact ⟨none, 0, rfl, Nat.le_refl _⟩
  · exact ⟨_, cap, rfl, h⟩
theorem Hp.atR {w0 w : World} {A : List Ent} {x : Ent} (h : Hp w0 w (A ++ [x])) : x.sat w0.heap.size w := h.sat x (by simp)
theorem Quo.sl {E : TypeId} {a : Option Addr} {n c : Nat} {xs : List Value} {Q A : List Ent} {w0 w : World} (h : Quo E (.slice a n c) xs Q) (hp : Hp w0 w (A ++ Q)) : Sl w a xs := by
  rcases h with ⟨_, rfl, _⟩ | ⟨b, off, cap, cur, hv, rfl, h1, h2, h3, h4⟩
  · exact Sl.nil
  · have hh := hp.atR.2
    simp only [Value.slice.injEq] at hv
    obtain ⟨rfl, rfl, rfl⟩ := hv
    intro i u hi
    refine ⟨b, off, rfl, cell_of_obj hh ?_⟩
    rw [← h3, List.getElem?_take] at hi
    split at hi
    · rw [List.getElem?_drop] at hi; simpa using hi
    · cases hi
/-- The first one goes. -/
theorem Quo.tail {E : TypeId} {b off n c : Nat} {x : Value} {xs : List Value} {Q : List Ent} (h : Quo E (.slice (some ⟨b, off, none⟩) n c) (x :: xs) Q) : Quo E (.slice (if c = 1 then some ⟨b, off, none⟩ else some ⟨b, off + 1, none⟩) (n - 1) (c - 1)) xs Q := by
  rcases h with ⟨h, _⟩ | ⟨b', off', cap, cur, hv, rfl, h1, h2, h3, h4⟩
  · cases h
  · simp only [Value.slice.injEq, Option.some.injEq, Addr.mk.injEq] at hv
    obtain ⟨⟨rfl, rfl, _⟩, rfl, rfl⟩ := hv
    rw [List.length_cons] at h2 h3
    by_cases hc : c = 1
    · have hx : xs = [] := List.eq_nil_of_length_eq_zero (by omega)
      subst hx
      subst hc
      rw [if_pos rfl]
      exact .inr ⟨b, off, 0, cur, rfl, rfl, by omega, Nat.le_refl _, by simp, by omega⟩
    · rw [if_neg hc]
      refine .inr ⟨b, off + 1, c - 1, cur, by rw [List.length_cons]; rfl, rfl, by omega, by omega, ?_, by omega⟩
      have hd : cur.toList.drop off = x :: cur.toList.drop (off + 1) := by
        have hlt : off < cur.toList.length := by rw [Array.length_toList]; omega
        rw [List.drop_eq_getElem_cons hlt] at h3 ⊢
        rw [List.take_succ_cons] at h3
        simp only [List.cons.injEq] at h3
        rw [h3.1]
      rw [hd, List.take_succ_cons] at h3
      simp only [List.cons.injEq, true_and] at h3
      exact h3
section
variable {P : Program} [T : TT P] {ro : Option Nat} {n : Nat} {l0 rest : List Oper} {N : Nor} {Z : Pan} {e : Env} {w : World} {ty : TypeId} {pos : String} {aft : Array Edge} {g : Option (Nat × Bool)}
theorem run_append_roomO (t ty e : TypeId) (i : TypeInfo) (ht : P.underlying t = some (.slice e)) (hi : P.info? e = some i) (hs : i.size = 1)
    (g off sLen sCap : Nat) (cur : Array Value) (hg : w.heap[g]? = some (.cells cur e (0, 0)))
    (a : Addr) (c : Nat) (x : Value) (hx : w.cell? a = some x) (h1 : x.oneCell' = true)
    (hroom : sLen + 1 ≤ sCap) (hfit : off + sLen + 1 ≤ cur.size) :
    (Builtin.append_ #[t, t] ty #[.slice (some ⟨g, off, none⟩) sLen sCap, .slice (some a) 1 c]).run P w =
      .ok (.slice (some ⟨g, off, none⟩) (sLen + 1) sCap) (w.setRow g (cur.toList.take (off + sLen) ++ [x] ++ cur.toList.drop (off + sLen + 1)).toArray) := by
  have hf := run_firstCells_some (P := P) w i.size 1 a 1 c [x] (by rw [hs]; rfl) (fun j u hu => by
    cases j with
    | zero => simp only [List.getElem?_cons_zero, Option.some.injEq] at hu; subst hu; rw [Addr.add_zero']; exact hx
    | succ j => simp at hu)
  have hst := run_storeCells_at P g (off + sLen) e [x] 0 cur w hg (by simpa using hfit) (by simpa using h1)
  simp only [Nat.add_zero] at hst
  rw [hs] at hf
  simp [Builtin.append_, run_underlying ht, sizeOf, typeInfo, hi, Builtin.lenOf, hroom, hf, Addr.add_lit, hs, hst]
theorem run_appQ {t ty' E : TypeId} {i : TI} {z : Value} {s0 b0 : Nat} {w0 : World} {A Q : List Ent} {v x : Value} {xs : List Value} {a : Addr} {c : Nat} (ht : T.ti t = some ⟨.slice E, z, s0, b0⟩) (hi : T.ti E = some i)
    (hzs : i.zero.cells.size = 1) (hsz : i.size = 1) (hp : Hp w0 w (A ++ Q)) (hq : Quo E v xs Q) (hx : w.cell? a = some x) (h1 : x.oneCell' = true) (hn : xs.length ≤ 1000000000) (hb : i.bytes ≤ 16) :
    ∃ v' w' Q', (Builtin.append_ #[t, t] ty' #[v, .slice (some a) 1 c]).run P w = .ok v' w' ∧ Hp w0 w' (A ++ Q') ∧ Quo E v' (xs ++ [x]) Q' := by
  have hu : P.underlying t = some (.slice E) := (T.ok t _ ht).k
  obtain ⟨j, hj, hjj⟩ := Option.map_eq_some_iff.1 (T.ok E i hi).info
  simp only [Prod.mk.injEq] at hjj
  obtain ⟨hj1, hj2, hj3⟩ := hjj
  rw [hsz] at hj2
  have hnew : ∀ (q : Nat) (u : Value), [x][q]? = some u → w.cell? (a.add q) = some u := fun q u hu => by
    cases q with
    | zero => simp only [List.getElem?_cons_zero, Option.some.injEq] at hu; subst hu; rw [Addr.add_zero']; exact hx
    | succ q => simp at hu
  have hby : ∀ m, m ≤ 1000000001 → m * j.bytes ≤ 140737488355328 := fun m hm => by rw [hj3]; exact Nat.le_trans (Nat.mul_le_mul hm hb) (by decide)
  rcases hq with ⟨rfl, rfl, rfl⟩ | ⟨b, off, cap, cur, rfl, rfl, k1, k2, k3, k4⟩
  · obtain ⟨v', w', hr, ho, hg, _⟩ := run_append_own (P := P) w w.heap.size t ty' E j i.zero 1 j.bytes hu hj hj1 hj2 rfl hzs (by decide) (.slice none 0 0) 0 [] (World.ownsRow_nil w _ _ _) a 1 c [x] rfl hnew (by simpa using h1) (by unfold maxLen; omega) (by have := hby 1 (by omega); omega) (Nat.le_refl _)
    obtain ⟨hl, ⟨hv, hn0⟩ | ⟨g', cap, cur, hv, hb', hgg, hnc, hcm, hcs, htk⟩⟩ := ho
    · exact absurd hn0 (by decide)
    · refine ⟨v', w', [.blk g' (.cells cur E (0, 0))], hr, ?_, .inr ⟨g', 0, cap, cur, hv, rfl, by omega, hnc, by simpa using htk, hcm⟩⟩
      have hp' : Hp w0 w A := by simpa using hp
      have := hp'.push hg (.blk g' (.cells cur E (0, 0))) ⟨Nat.le_trans hp.below.size hb', hgg⟩ (fun k hk => by simp only [Ent.owns] at hk; omega)
      have h2 := Hp.rot [_] A [] (by simpa using this)
      simpa using h2
  · have hp' : Hp w0 w ([.blk b (.cells cur E (0, 0))] ++ A) := by have := Hp.rot A [_] [] (by simpa using hp); simpa using this
    have hh := hp'.obj 0 rfl
    by_cases hroom : xs.length + 1 ≤ cap
    · have hr := run_append_roomO (P := P) (w := w) t ty' E j hu hj hj2 b off xs.length cap cur hh a c x hx h1 hroom (by omega)
      have hp2 := hp'.set 0 rfl rfl (setB_row hh (cur.toList.take (off + xs.length) ++ [x] ++ cur.toList.drop (off + xs.length + 1)).toArray)
      refine ⟨_, _, [.blk b (.cells (cur.toList.take (off + xs.length) ++ [x] ++ cur.toList.drop (off + xs.length + 1)).toArray E (0, 0))], hr, ?_, .inr ⟨b, off, cap, _, by rw [List.length_append]; rfl, rfl, ?_, by rw [List.length_append]; exact hroom, ?_, k4⟩⟩
      · have := Hp.rot [_] A [] (by simpa using hp2)
        simpa using this
      · simp only [List.size_toArray, List.length_append, List.length_take, List.length_drop, Array.length_toList, List.length_cons, List.length_nil]
        omega
      · simp only [List.length_append, List.length_cons, List.length_nil]
        have e1 : (cur.toList.take (off + xs.length) ++ [x] ++ cur.toList.drop (off + xs.length + 1)).drop off = xs ++ [x] ++ cur.toList.drop (off + xs.length + 1) := by
          have hlen : off ≤ (cur.toList.take (off + xs.length)).length := by simp only [List.length_take, Array.length_toList]; omega
          rw [List.append_assoc, List.drop_append_of_le_length hlen, List.drop_take, show off + xs.length - off = xs.length by omega, k3, ← List.append_assoc]
        rw [e1, show xs.length + (0 + 1) = (xs ++ [x]).length by simp, List.take_left]
    · have holds : ∀ (q : Nat) (u : Value), xs[q]? = some u → w.cell? ((⟨b, off, none⟩ : Addr).add q) = some u := by
        intro q u hq
        rw [Addr.add_lit]
        refine cell_of_obj hh ?_
        rw [← k3, List.getElem?_take] at hq
        split at hq
        · rw [List.getElem?_drop] at hq; simpa using hq
        · cases hq
      have hr := run_append_grow (P := P) w t ty' E j i.zero hu hj hj1 ⟨b, off, none⟩ xs.length cap xs (by rw [hj2, Nat.mul_one]) holds a 1 c [x] (by rw [hj2]; rfl) hnew (by omega) (by omega) (growslice_fits (by omega) (hby _ (by omega)))
      have hge := grownCap_ge w (xs.length + 1) cap E
      have hcm := grownCap_le_maxLen w (xs.length + 1) cap E (by unfold maxLen; omega)
      generalize grownCap w (xs.length + 1) cap E = gc at *
      have hp2 := (hp'.tail.keep (drewB w)).new (newB w.drew (.cells (xs.toArray ++ [x].toArray ++ Builtin.zeroCells i.zero.cells (gc - (xs.length + 1))) E))
      refine ⟨_, _, [.blk w.heap.size (.cells (xs.toArray ++ [x].toArray ++ Builtin.zeroCells i.zero.cells (gc - (xs.length + 1))) E (0, 0))], hr, ?_, .inr ⟨w.heap.size, 0, gc, _, by rw [List.length_append]; rfl, rfl, ?_, by rw [List.length_append]; exact hge, ?_, hcm⟩⟩
      · have := Hp.rot [_] A [] (by simpa using hp2)
        simpa using this
      · simp only [Array.size_append, List.size_toArray, size_zeroCells, hzs, List.length_cons, List.length_nil]
        omega
      · simp only [Array.toList_append, List.drop_zero, List.toList_toArray]
        exact List.take_left
/-- append of one value, to a queue. -/
theorem WL.appQ {d : Nat} {s y : Operand} {t E : TypeId} {i : TI} {z : Value} {s0 b0 : Nat} {w0 : World} {A Q : List Ent} {v x : Value} {xs : List Value} {a : Addr} {c : Nat}
    (hg : grd l0 e g = some true) (hd : Nat.blt d n = true) (ht : T.ti t = some ⟨.slice E, z, s0, b0⟩) (hi : T.ti E = some i) (hzs : i.zero.cells.size = 1) (hsz : i.size = 1)
    (hsv : opv e s = some v) (hyv : opv e y = some (.slice (some a) 1 c)) (hp : Hp w0 w (A ++ Q)) (hq : Quo E v xs Q) (hx : w.cell? a = some x) (h1 : x.oneCell' = true) (hn : xs.length ≤ 1000000000) (hb : i.bytes ≤ 16)
    (h : ∀ v' w' Q', Hp w0 w' (A ++ Q') → Quo E v' (xs ++ [x]) Q' → WL P ro n l0 N Z rest ((d, v') :: e) w') :
    WL P ro n l0 N Z (⟨some d, .call ⟨.builtin .append, #[s, y], #[t, t]⟩, ty, pos, aft, g⟩ :: rest) e w := by
  obtain ⟨v', w', Q', hr, hp', hq'⟩ := run_appQ (c := c) (ty' := ty) ht hi hzs hsz hp hq hx h1 hn hb
  refine WL.val (w' := w') hg rfl hd ?_ (h v' w' Q' hp' hq')
  intro ρ hρ d' pos' aft' g'
  simp [execOp, resolve, invoke, builtin, hρ _ _ hsv, hρ _ _ hyv, hr]
/-- 'x[1:]' of a queue. -/
theorem WL.tailQ {d : Nat} {t E : TypeId} {i : TI} {z : Value} {s0 b0 : Nat} {q y : Operand} {v x : Value} {xs : List Value} {Q : List Ent} {k : IntKind}
    (hg : grd l0 e g = some true) (hd : Nat.blt d n = true) (ht : T.ti t = some ⟨.slice E, z, s0, b0⟩) (hi : T.ti E = some i) (hs : i.size = 1)
    (hx : opv e q = some v) (hy : opv e y = some (.int k (1 : Nat))) (hq : Quo E v (x :: xs) Q)
    (h : ∀ v', Quo E v' xs Q → WL P ro n l0 N Z rest ((d, v') :: e) w) :
    WL P ro n l0 N Z (⟨some d, .slice t q (some y) none none, ty, pos, aft, g⟩ :: rest) e w := by
  have hu : P.underlying t = some (.slice E) := (T.ok t _ ht).k
  have hel : P.elem t = E := by simp [Program.elem, hu]
  have hu' : P.underlying t = some (.slice (P.elem t)) := by rw [hel]; exact hu
  have hsz := (T.ok E i hi).sizeOf w
  obtain ⟨b, off, cap, cur, rfl, _, _, hle, _⟩ : ∃ b off cap cur, v = .slice (some ⟨b, off, none⟩) (x :: xs).length cap ∧ Q = [.blk b (.cells cur E (0, 0))] ∧ off + cap ≤ cur.size ∧ (x :: xs).length ≤ cap ∧ True := by
    rcases hq with ⟨_, h, _⟩ | ⟨b, off, cap, cur, h1, h2, h3, h4, _⟩
    · cases h
    · exact ⟨b, off, cap, cur, h1, h2, h3, h4, trivial⟩
  have h1 : 1 ≤ (x :: xs).length := by simp
  have hr := run_slice_l (P := P) w t (some ⟨b, off, none⟩) (x :: xs).length cap hu' k 1 (by omega) (by omega)
  rw [hel, hsz, hs] at hr
  refine WL.val hg rfl hd ?_ (h _ hq.tail)
  intro ρ hρ d' pos' aft' g'
  simp only [execOp, hρ _ _ hx, Option.map_none, Option.map_some, hρ _ _ hy, Sem.run_bind]
  rw [run_sliceAt_slice w t _ _ _ _ hu']
  rw [show (((1 : Nat) : Int)) = (1 : Int) from rfl, hr]
  by_cases hc : cap = 1
  · simp [sliced, hc]
  · simp [sliced, hc, Addr.add_lit]
end
end Go.W
end
section
/- ltl, twenty-first: next. -/
set_option linter.unusedSectionVars false
namespace Go.W
open Go.RowKit
section
variable {P : Program} [T : TT P] {e : Env} {w : World} {ty : TypeId}
theorem yRem {t t2 : TypeId} {x y : Operand} {k : IntKind} {a b : Int} (hx : opv e x = some (.int k a)) (hy : opv e y = some (.int k b)) (hb : b ≠ 0) : Yv P e (.binOp .rem t x y t2) ty w (.int k (a.tmod b)) w := by
  intro ρ hρ d' pos' aft' g'
  simp [execOp, hρ _ _ hx, hρ _ _ hy, eqGuard_at_int, binOp_rem, Op.intDiv, hb]
theorem yQuo {t t2 : TypeId} {x y : Operand} {k : IntKind} {a b : Int} (hx : opv e x = some (.int k a)) (hy : opv e y = some (.int k b)) (hb : b ≠ 0) : Yv P e (.binOp .quo t x y t2) ty w (.int k (k.wrap (a.tdiv b))) w := by
  intro ρ hρ d' pos' aft' g'
  simp [execOp, hρ _ _ hx, hρ _ _ hy, eqGuard_at_int, binOp_quo, Op.intDiv, hb]
end
end Go.W
namespace Go.Proofs.YtpbbneclkhfgoaaDoor
open Go.W Go.Ltl Go.RowKit
set_option maxRecDepth 100000
attribute [local irreducible] WC WL WQ WS WH

/-- A table of rows of numbers that is read. -/
abbrev Nrs := List (Option Addr × Nat × List Nat)
def rsV (rs : Nrs) : List Value := rs.map fun x => .slice x.1 x.2.2.length x.2.1
def rsN (rs : Nrs) : List (List Nat) := rs.map (·.2.2)
structure Tbl (w : World) (a : Option Addr) (rs : Nrs) : Prop where
  tab : Sl w a (rsV rs)
  rows : ∀ x ∈ rs, Sl w x.1 (natL x.2.2)
theorem Tbl.below {w w' : World} {a : Option Addr} {rs : Nrs} (h : Tbl w a rs) (hb : Below w.heap.size w w') : Tbl w' a rs := ⟨h.tab.below hb, fun x hx => (h.rows x hx).below hb⟩
theorem Tbl.hp {w0 w : World} {L : List Ent} {a : Option Addr} {rs : Nrs} (h : Tbl w0 a rs) (hp : Hp w0 w L) : Tbl w a rs := h.below hp.below
theorem rsV_at {rs : Nrs} {i : Nat} (hi : i < rs.length) : (rsV rs)[i]? = some (.slice rs[i].1 rs[i].2.2.length rs[i].2.1) := by
  unfold rsV
  rw [List.getElem?_map, List.getElem?_eq_getElem hi]
  rfl
theorem rsN_at {rs : Nrs} {i : Nat} (hi : i < rs.length) : (rsN rs).getD i [] = rs[i].2.2 := by
  unfold rsN
  rw [List.getD_eq_getElem?_getD, List.getElem?_map, List.getElem?_eq_getElem hi]
  rfl
theorem rsN_len (rs : Nrs) : (rsN rs).length = rs.length := by simp [rsN]
/-- The map of the states by their structure's state and what is wanted. -/
abbrev By := List ((Int × Int) × (Option Addr × Nat × List Nat))
def byR (x : Option Addr × Nat × List Nat) : Value := .slice x.1 x.2.2.length x.2.1
def byV (B : By) : List ((Int × Int) × Value) := B.map fun p => (p.1, byR p.2)
def byG (B : By) (k : Int × Int) : List Nat := ((kGet B k).map (·.2.2)).getD []
def nxF (B : By) (m : Nat) (l : List Nat) : List Nat := l.flatMap fun (t : Nat) => byG B ((t : Int), (m : Int))
theorem byV_get (B : By) (k : Int × Int) : kGet (byV B) k = (kGet B k).map byR := kGet_map (g := id) byR (fun _ _ h => h) B k
/-- The search, read. -/
abbrev Sxo (nx mk : Value) (starts : Nat) (lv : Value) (pairs : Nat) (wv tv fv : Value) : Obj := .cells #[nx, mk, .int .i64 (starts : Nat), lv, .int .i64 (pairs : Nat), wv, tv, fv] 140 (0, 0)
theorem next_any (xb : Nat) (an : Option Addr) (cn : Nat) (rs : Nrs) (mk : Value) (starts : Nat) (lv : Value) (pairs : Nat) (wv tv fv : Value) (mb : Nat) (B : By) (w : World) (v : Nat)
    (hx : w.heap[xb]? = some (Sxo (.slice an rs.length cn) mk starts lv pairs wv tv fv)) (hT : Tbl w an rs) (hb : w.heap[mb]? = some (mapO pKey (byV B))) (hR : ∀ p ∈ B, Sl w p.2.1 (natL p.2.2.2))
    (hp0 : 0 < pairs) (hv : v < rs.length * pairs) (hrs : ∀ x ∈ rs, x.2.2.length ≤ 16) (hB : ∀ k, (byG B k).length ≤ 65536) (hn : rs.length ≤ 16) (hpp : pairs ≤ 4096) :
    Ret Tryd.prog 103 [ptr xb, .map (some mb), .int .i64 (v : Nat)] w fun u w' => ∃ ra rc, u = .slice ra (nxF B (v % pairs) ((rsN rs).getD (v / pairs) [])).length rc ∧
      Hp w w' [Rna (.slice ra (nxF B (v % pairs) ((rsN rs).getD (v / pairs) [])).length rc) (nxF B (v % pairs) ((rsN rs).getD (v / pairs) [])).length (nxF B (v % pairs) ((rsN rs).getD (v / pairs) []))] := by
  have hne : ((pairs : Nat) : Int) ≠ 0 := by omega
  have hvb : v < 65536 := Nat.lt_of_lt_of_le hv (Nat.le_trans (Nat.mul_le_mul hn hpp) (by decide))
  have hq : v / pairs < rs.length := (Nat.div_lt_iff_lt_mul hp0).2 hv
  have e1 := wrap_div (a := v) (b := pairs) (by omega)
  have hc0 : w.cell? ⟨xb, 0, none⟩ = some (.slice an rs.length cn) := cell_of_obj (j := 0) hx rfl
  have hc4 : w.cell? ⟨xb, 4, none⟩ = some (.int .i64 (pairs : Nat)) := cell_of_obj (j := 4) hx rfl
  have hlb : mb < w.heap.size := (Array.getElem?_eq_some_iff.1 hb).1
  rw [rsN_at hq]
  obtain ⟨ta, to, rfl, htc⟩ := hT.tab _ _ (rsV_at hq)
  have hrow := hT.rows _ (List.getElem_mem hq)
  have hrl := hrs _ (List.getElem_mem hq)
  generalize rs[v / pairs] = r at *
  obtain ⟨ra0, rc0, row⟩ := r
  simp only at hrow hrl htc
  refine enter Tryd.func103 rfl rfl ⟨rfl, rfl⟩ rfl ?_
  repeat (first | refine WC.seq ?_ | refine WC.skip ?_ | refine WC.block ?_)
  refine WC.reg ?_
  repeat (first | refine zA ?_ | refine zB ?_ | refine zC rfl rfl rfl ?_ | refine zD ?_ | refine zE ?_ | refine zF ?_ | refine zG rfl ?_ | refine zH rfl ?_ | refine zI rfl rfl rfl ?_ | refine zJ rfl rfl ?_ | refine zK ?_ | refine zL ?_ | refine zM rfl ?_ | refine zN ?_)
  refine WC.mid Unit (fun _ => [(0, ptr xb), (1, .map (some mb)), (2, .int .i64 (v : Nat)), (7, .slice none 0 0), (22, .slice ra0 row.length rc0), (23, .int .i64 (row.length : Nat)), (24, .int .i64 (0 : Nat))]) (fun _ w' => Hp w w' []) ?_ ?_
  · refine WC.regQ (fun w' => Hp w w' []) mixed (by kernel_rfl) (fun w' hw' => (Hp.start w).keep hw') ?_
    repeat (first | refine WQ.pure rfl rfl rfl ?_ | refine WQ.off rfl rfl rfl ?_ | refine WQ.nil ?_)
    refine WQ.nilC rfl rfl rfl ?_
    repeat (first | refine WQ.pure rfl rfl rfl ?_ | refine WQ.off rfl rfl rfl ?_ | refine WQ.nil ?_)
    refine WQ.load rfl rfl rfl rfl rfl (fun w' h => cell_below h.below hc0) ?_
    repeat (first | refine WQ.pure rfl rfl rfl ?_ | refine WQ.off rfl rfl rfl ?_ | refine WQ.nil ?_)
    refine WQ.nilC rfl rfl rfl ?_
    repeat (first | refine WQ.pure rfl rfl rfl ?_ | refine WQ.off rfl rfl rfl ?_ | refine WQ.nil ?_)
    refine WQ.load rfl rfl rfl rfl rfl (fun w' h => cell_below h.below hc4) ?_
    refine WQ.val rfl rfl (fun w' _ => yQuo rfl rfl hne) ?_
    refine WQ.known (d := 20) (congrArg (fun z => some (Value.int .i64 z)) e1) ?_
    refine WQ.ixload rfl (fun _ => rfl) rfl rfl rfl rfl rfl rfl rfl hq rfl rfl (fun w' h => cell_below h.below htc) ?_
    repeat (first | refine WQ.pure rfl rfl rfl ?_ | refine WQ.off rfl rfl rfl ?_ | refine WQ.nil ?_)
    intro w' hw'
    exact ⟨(), ⟨rfl, rfl, rfl, rfl, rfl, rfl, rfl, rfl⟩, hw'⟩
  rintro ⟨⟩ e2 w2 hsub hp2
  refine WC.sub hsub ?_
  clear hsub e2
  have e3 : ((v : Nat) : Int).tmod ((pairs : Nat) : Int) = ((v % pairs : Nat) : Int) := rfl
  repeat (first | refine zA ?_ | refine zB ?_ | refine zC rfl rfl rfl ?_ | refine zD ?_ | refine zE ?_ | refine zF ?_ | refine zG rfl ?_ | refine zH rfl ?_ | refine zI rfl rfl rfl ?_ | refine zJ rfl rfl ?_ | refine zK ?_ | refine zL ?_ | refine zM rfl ?_ | refine zN ?_)
  refine WC.loop (Nat × Option Addr × Nat) (fun (i, ra, rc) => [(0, ptr xb), (1, .map (some mb)), (2, .int .i64 (v : Nat)), (7, .slice ra (nxF B (v % pairs) (row.take i)).length rc), (22, .slice ra0 row.length rc0), (23, .int .i64 (row.length : Nat)), (24, .int .i64 (i : Nat))])
    (fun (i, ra, rc) w' => i ≤ row.length ∧ Hp w w' [Rna (.slice ra (nxF B (v % pairs) (row.take i)).length rc) (nxF B (v % pairs) (row.take i)).length (nxF B (v % pairs) (row.take i))]) (fun (i, _, _) => row.length - i) (0, none, 0) ⟨rfl, rfl, rfl, rfl, rfl, rfl, rfl, rfl⟩ ⟨Nat.zero_le _, hp2.nilrow _ _⟩ ?_
  clear hp2
  rintro ⟨i, ra, rc⟩ w3 ⟨hi, hp3⟩
  replace hi : i ≤ row.length := hi
  obtain ⟨acc, hacc⟩ : ∃ acc, acc = nxF B (v % pairs) (row.take i) := ⟨_, rfl⟩
  have hal : acc.length ≤ i * 65536 := by
    have h1 : ∀ l : List Nat, (nxF B (v % pairs) l).length ≤ l.length * 65536 := by
      intro l
      induction l with
      | nil => simp [nxF]
      | cons t l ih => rw [nxF, List.flatMap_cons, List.length_append, List.length_cons, Nat.add_mul, ← nxF]; have := hB ((t : Int), ((v % pairs : Nat) : Int)); omega
    have := h1 (row.take i)
    rw [List.length_take, Nat.min_eq_left hi] at this
    rw [hacc]; exact this
  replace hp3 : Hp w w3 [Rna (.slice ra acc.length rc) acc.length acc] := by rw [hacc]; exact hp3
  have hi16 : i * 65536 ≤ 16 * 65536 := Nat.mul_le_mul_right _ (Nat.le_trans hi hrl)
  simp only [← hacc]
  repeat (first | refine zA ?_ | refine zB ?_ | refine zC rfl rfl rfl ?_ | refine zD ?_ | refine zE ?_ | refine zF ?_ | refine zG rfl ?_ | refine zH rfl ?_ | refine zI rfl rfl rfl ?_ | refine zJ rfl rfl ?_ | refine zK ?_ | refine zL ?_ | refine zM rfl ?_ | refine zN ?_)
  refine WC.cond rfl (fun h1 => ?_) (fun h1 => ?_)
  · have hi : i < row.length := by have := of_decide_eq_true h1; omega
    have step := wrap_succ (i := i) (n := i + 1) (by omega) (by omega)
    obtain ⟨t, ht⟩ : ∃ t, t = row[i] := ⟨_, rfl⟩
    have htk : nxF B (v % pairs) (row.take (i + 1)) = acc ++ byG B ((t : Int), ((v % pairs : Nat) : Int)) := by
      rw [nxF, List.take_succ_eq_append_getElem hi, List.flatMap_append, List.flatMap_singleton, ← nxF, ← hacc, ← ht]
    have hbt := hB ((t : Int), ((v % pairs : Nat) : Int))
    repeat (first | refine zA ?_ | refine zB ?_ | refine zC rfl rfl rfl ?_ | refine zD ?_ | refine zE ?_ | refine zF ?_ | refine zG rfl ?_ | refine zH rfl ?_ | refine zI rfl rfl rfl ?_ | refine zJ rfl rfl ?_ | refine zK ?_ | refine zL ?_ | refine zM rfl ?_ | refine zN ?_)
    refine WL.ixload rfl (fun _ => rfl) rfl rfl rfl rfl rfl rfl rfl hi rfl rfl (hrow.hp hp3) (natL_at hi) ?_
    intro q
    rw [← ht]
    repeat (first | refine zA ?_ | refine zB ?_ | refine zC rfl rfl rfl ?_ | refine zD ?_ | refine zE ?_ | refine zF ?_ | refine zG rfl ?_ | refine zH rfl ?_ | refine zI rfl rfl rfl ?_ | refine zJ rfl rfl ?_ | refine zK ?_ | refine zL ?_ | refine zM rfl ?_ | refine zN ?_)
    refine WL.nilC rfl rfl rfl ?_
    repeat (first | refine zA ?_ | refine zB ?_ | refine zC rfl rfl rfl ?_ | refine zD ?_ | refine zE ?_ | refine zF ?_ | refine zG rfl ?_ | refine zH rfl ?_ | refine zI rfl rfl rfl ?_ | refine zJ rfl rfl ?_ | refine zK ?_ | refine zL ?_ | refine zM rfl ?_ | refine zN ?_)
    refine WL.load rfl rfl rfl rfl rfl (cell_below hp3.below hc4) ?_
    refine WL.val rfl rfl rfl (yRem rfl rfl hne) ?_
    rw [e3]
    refine WL.buildA (cs := [.int .i64 (t : Nat), .int .i64 (v % pairs : Nat)]) rfl rfl rfl rfl rfl rfl ?_
    refine WL.val rfl rfl rfl (yLookM (k := ((t : Int), ((v % pairs : Nat) : Int))) (keyT_pair rfl rfl) rfl rfl rfl rfl (by rw [hp3.below.block mb hlb]; exact hb)) ?_
    have hlk : ∃ sa sc, lkM (byV B) ((t : Int), ((v % pairs : Nat) : Int)) (Value.slice none 0 0) false = .slice sa (byG B ((t : Int), ((v % pairs : Nat) : Int))).length sc ∧ Sl w sa (natL (byG B ((t : Int), ((v % pairs : Nat) : Int)))) := by
      unfold lkM
      rw [byV_get]
      unfold byG
      rcases kGet_pos B ((t : Int), ((v % pairs : Nat) : Int)) with ⟨h1, _⟩ | ⟨x, h1, _, h3⟩
      · rw [h1]; exact ⟨none, 0, rfl, Sl.nil⟩
      · rw [h1]; exact ⟨x.1, x.2.1, rfl, hR _ (List.mem_of_getElem? h3)⟩
    obtain ⟨sa, sc, hlk1, hlk2⟩ := hlk
    rw [show ti22.zero = Value.slice none 0 0 from rfl, hlk1]
    refine WL.append 0 hp3 rfl rfl rfl rfl rfl (by decide) rfl rfl rfl (hlk2.hp hp3) (by rw [natL_len]; exact (Nat.mul_one _).symm) (natL_cells _) (by unfold maxLen; omega) (by show (_ + _) * 8 ≤ _; omega) ?_
    intro ra2 rc2 w4 hp4 _
    repeat (first | refine zA ?_ | refine zB ?_ | refine zC rfl rfl rfl ?_ | refine zD ?_ | refine zE ?_ | refine zF ?_ | refine zG rfl ?_ | refine zH rfl ?_ | refine zI rfl rfl rfl ?_ | refine zJ rfl rfl ?_ | refine zK ?_ | refine zL ?_ | refine zM rfl ?_ | refine zN ?_)
    refine ⟨(i + 1, ra2, rc2), (by show row.length - (i + 1) < row.length - i; omega), ?_, hi, ?_⟩
    · simp only [htk]
      rw [List.length_append]
      exact ⟨rfl, rfl, rfl, rfl, rfl, rfl, congrArg (fun z => some (Value.int .i64 z)) step, rfl⟩
    · simp only [htk]
      unfold Rna
      rw [List.length_append, show natL (acc ++ byG B ((t : Int), ((v % pairs : Nat) : Int))) = natL acc ++ natL (byG B ((t : Int), ((v % pairs : Nat) : Int))) from List.map_append]
      exact hp4
  · have hi : i = row.length := by have := of_decide_eq_false h1; omega
    subst hi
    rw [List.take_length] at hacc
    repeat (first | refine zA ?_ | refine zB ?_ | refine zC rfl rfl rfl ?_ | refine zD ?_ | refine zE ?_ | refine zF ?_ | refine zG rfl ?_ | refine zH rfl ?_ | refine zI rfl rfl rfl ?_ | refine zJ rfl rfl ?_ | refine zK ?_ | refine zL ?_ | refine zM rfl ?_ | refine zN ?_)
    refine Res.one rfl rfl rfl ⟨ra, rc, ?_, ?_⟩
    · rw [← hacc]
    · rw [← hacc]; exact hp3
end Go.Proofs.YtpbbneclkhfgoaaDoor
end
section
/- ltl, twenty-second: graph. -/
namespace Go.Proofs.YtpbbneclkhfgoaaDoor
open Go.W Go.Ltl Go.RowKit
set_option maxRecDepth 100000
attribute [local irreducible] WC WL WQ WS WH

def rowE (x : Option Addr × Nat × List Nat) : Ent := Rna (byR x) x.2.2.length x.2.2
def byE (B : By) : List Ent := B.map fun p => rowE p.2
theorem rowE_sl {w0 w : World} {L : List Ent} (hp : Hp w0 w L) {x : Option Addr × Nat × List Nat} (hx : rowE x ∈ L) : Sl w x.1 (natL x.2.2) := Sl.of_row (hp.sat _ hx)
theorem byE_sl {w0 w : World} {A C : List Ent} {B : By} (hp : Hp w0 w (A ++ (byE B ++ C))) : ∀ p ∈ B, Sl w p.2.1 (natL p.2.2.2) := fun p h => rowE_sl hp (by
  have : rowE p.2 ∈ byE B := List.mem_map.2 ⟨p, h, rfl⟩
  simp [this])
def byF (pairs : Nat) (want : List Nat) (i : Nat) (k : Int × Int) : List Nat := (List.range i).filter fun u => ((u / pairs : Nat) : Int) = k.1 ∧ ((want.getD u 0 : Nat) : Int) = k.2
theorem byF_len (pairs : Nat) (want : List Nat) (i : Nat) (k : Int × Int) : (byF pairs want i k).length ≤ i := by
  have := List.length_filter_le (fun u => decide (((u / pairs : Nat) : Int) = k.1 ∧ ((want.getD u 0 : Nat) : Int) = k.2)) (List.range i)
  rw [List.length_range] at this
  exact this
theorem byF_succ (pairs : Nat) (want : List Nat) (i : Nat) (k : Int × Int) : byF pairs want (i + 1) k = byF pairs want i k ++ if k = (((i / pairs : Nat) : Int), ((want.getD i 0 : Nat) : Int)) then [i] else [] := by
  unfold byF
  rw [List.range_succ, List.filter_append]
  congr 1
  by_cases h : k = (((i / pairs : Nat) : Int), ((want.getD i 0 : Nat) : Int))
  · subst h; simp
  · rw [if_neg h]
    have : ¬ (((i / pairs : Nat) : Int) = k.1 ∧ ((want.getD i 0 : Nat) : Int) = k.2) := fun h2 => h (Prod.ext h2.1.symm h2.2.symm)
    rw [List.filter_cons_of_neg (by simpa using this)]; rfl
theorem byG_put (B : By) (k q : Int × Int) (x : Option Addr × Nat × List Nat) : byG (kPut B k x) q = if q = k then x.2.2 else byG B q := by
  unfold byG
  rw [kGet_put]
  split <;> rfl
theorem set_nil (R : Nrs) (m : Nat) (x : Option Addr × Nat × List Nat) : (rsV R ++ List.replicate (m + 1) (Value.slice none 0 0)).toArray.setIfInBounds R.length (byR x) = (rsV (R ++ [x]) ++ List.replicate m (Value.slice none 0 0)).toArray := by
  apply Array.ext'
  rw [Array.toList_setIfInBounds, List.toList_toArray, List.toList_toArray]
  have hl : R.length = (rsV R).length := by simp [rsV]
  rw [List.replicate_succ, hl, List.set_append_right _ _ (Nat.le_refl _), Nat.sub_self, List.set_cons_zero]
  simp [rsV, byR]
theorem natL_get {l : List Nat} {i : Nat} (h : i < l.length) : (natL l)[i]? = some (.int .i64 (l.getD i 0 : Nat)) := by rw [natL_at h]; simp [h]

theorem graph_any (xb : Nat) (an : Option Addr) (cn : Nat) (rs : Nrs) (mk : Value) (starts : Nat) (lv : Value) (pairs : Nat) (wa : Option Addr) (wc : Nat) (want : List Nat) (tv fv : Value) (w : World)
    (hx : w.heap[xb]? = some (Sxo (.slice an rs.length cn) mk starts lv pairs (.slice wa want.length wc) tv fv)) (hT : Tbl w an rs) (hW : Sl w wa (natL want))
    (hp0 : 0 < pairs) (hN : want.length = rs.length * pairs) (hrs : ∀ x ∈ rs, x.2.2.length ≤ 16) (hn : rs.length ≤ 16) (hpp : pairs ≤ 4096) (hwb : ∀ x ∈ want, x < 2 ^ 40) :
    Ret Tryd.prog 87 [ptr xb] w fun u w' => ∃ ob R, u = .slice (some ⟨ob, 0, none⟩) R.length R.length ∧ R.length = want.length ∧ rsN R = graphM (rsN rs) pairs want ∧ Hp w w' [] ∧ Tbl w' (some ⟨ob, 0, none⟩) R := by
  have hne : ((pairs : Nat) : Int) ≠ 0 := by omega
  have hNb : want.length ≤ 65536 := by rw [hN]; exact Nat.le_trans (Nat.mul_le_mul hn hpp) (by decide)
  have hxl : xb < w.heap.size := (Array.getElem?_eq_some_iff.1 hx).1
  have hc4 : w.cell? ⟨xb, 4, none⟩ = some (.int .i64 (pairs : Nat)) := cell_of_obj (j := 4) hx rfl
  have hc5 : w.cell? ⟨xb, 5, none⟩ = some (.slice wa want.length wc) := cell_of_obj (j := 5) hx rfl
  refine enter Tryd.func87 rfl rfl ⟨rfl, rfl⟩ rfl ?_
  repeat (first | refine zA ?_ | refine zB ?_ | refine zC rfl rfl rfl ?_ | refine zD ?_ | refine zE ?_ | refine zF ?_ | refine zG rfl ?_ | refine zH rfl ?_ | refine zI rfl rfl rfl ?_ | refine zJ rfl rfl ?_ | refine zK ?_ | refine zL ?_ | refine zM rfl ?_ | refine zN ?_)
  refine WL.makeMap rfl rfl ?_
  intro mb w1 h1
  have hp1 : Hp w w1 ([] ++ (.blk mb (mapO pKey (byV [])) :: (byE [] ++ []))) := (Hp.start w).new h1
  repeat (first | refine zA ?_ | refine zB ?_ | refine zC rfl rfl rfl ?_ | refine zD ?_ | refine zE ?_ | refine zF ?_ | refine zG rfl ?_ | refine zH rfl ?_ | refine zI rfl rfl rfl ?_ | refine zJ rfl rfl ?_ | refine zK ?_ | refine zL ?_ | refine zM rfl ?_ | refine zN ?_)
  refine WL.nilC rfl rfl rfl ?_
  repeat (first | refine zA ?_ | refine zB ?_ | refine zC rfl rfl rfl ?_ | refine zD ?_ | refine zE ?_ | refine zF ?_ | refine zG rfl ?_ | refine zH rfl ?_ | refine zI rfl rfl rfl ?_ | refine zJ rfl rfl ?_ | refine zK ?_ | refine zL ?_ | refine zM rfl ?_ | refine zN ?_)
  refine WL.load rfl rfl rfl rfl rfl (cell_below hp1.below hc5) ?_
  repeat (first | refine zA ?_ | refine zB ?_ | refine zC rfl rfl rfl ?_ | refine zD ?_ | refine zE ?_ | refine zF ?_ | refine zG rfl ?_ | refine zH rfl ?_ | refine zI rfl rfl rfl ?_ | refine zJ rfl rfl ?_ | refine zK ?_ | refine zL ?_ | refine zM rfl ?_ | refine zN ?_)
  refine WC.loop (Nat × By) (fun (i, _) => [(0, ptr xb), (3, .map (some mb)), (13, .slice wa want.length wc), (14, .int .i64 (want.length : Nat)), (15, .int .i64 (i : Nat))])
    (fun (i, B) w' => i ≤ want.length ∧ (∀ k, byG B k = byF pairs want i k) ∧ Hp w w' (.blk mb (mapO pKey (byV B)) :: (byE B ++ []))) (fun (i, _) => want.length - i) (0, []) ⟨rfl, rfl, rfl, rfl, rfl, rfl⟩ ⟨Nat.zero_le _, fun k => rfl, hp1⟩ ?_
  clear hp1
  rintro ⟨i, B⟩ w2 ⟨hi, hG, hp2⟩
  replace hi : i ≤ want.length := hi
  replace hG : ∀ k, byG B k = byF pairs want i k := hG
  replace hp2 : Hp w w2 (.blk mb (mapO pKey (byV B)) :: (byE B ++ [])) := hp2
  repeat (first | refine zA ?_ | refine zB ?_ | refine zC rfl rfl rfl ?_ | refine zD ?_ | refine zE ?_ | refine zF ?_ | refine zG rfl ?_ | refine zH rfl ?_ | refine zI rfl rfl rfl ?_ | refine zJ rfl rfl ?_ | refine zK ?_ | refine zL ?_ | refine zM rfl ?_ | refine zN ?_)
  refine WC.cond rfl (fun c1 => ?_) (fun c1 => ?_)
  · have hi : i < want.length := by have := of_decide_eq_true c1; omega
    have step := wrap_succ (i := i) (n := i + 1) (by omega) (by omega)
    have e1 := wrap_div (a := i) (b := pairs) (by omega)
    have e0 : want.getD i 0 = want[i] := by simp [hi]
    obtain ⟨wt, hwt⟩ : ∃ wt, wt = want.getD i 0 := ⟨_, rfl⟩
    have hwtb : wt < 2 ^ 40 := by rw [hwt, e0]; exact hwb _ (List.getElem_mem hi)
    repeat (first | refine zA ?_ | refine zB ?_ | refine zC rfl rfl rfl ?_ | refine zD ?_ | refine zE ?_ | refine zF ?_ | refine zG rfl ?_ | refine zH rfl ?_ | refine zI rfl rfl rfl ?_ | refine zJ rfl rfl ?_ | refine zK ?_ | refine zL ?_ | refine zM rfl ?_ | refine zN ?_)
    refine WL.ixload rfl (fun _ => rfl) rfl rfl rfl rfl rfl rfl rfl hi rfl rfl (hW.hp hp2) (natL_get hi) ?_
    intro q
    rw [← hwt]
    repeat (first | refine zA ?_ | refine zB ?_ | refine zC rfl rfl rfl ?_ | refine zD ?_ | refine zE ?_ | refine zF ?_ | refine zG rfl ?_ | refine zH rfl ?_ | refine zI rfl rfl rfl ?_ | refine zJ rfl rfl ?_ | refine zK ?_ | refine zL ?_ | refine zM rfl ?_ | refine zN ?_)
    refine WL.nilC rfl rfl rfl ?_
    repeat (first | refine zA ?_ | refine zB ?_ | refine zC rfl rfl rfl ?_ | refine zD ?_ | refine zE ?_ | refine zF ?_ | refine zG rfl ?_ | refine zH rfl ?_ | refine zI rfl rfl rfl ?_ | refine zJ rfl rfl ?_ | refine zK ?_ | refine zL ?_ | refine zM rfl ?_ | refine zN ?_)
    refine WL.load rfl rfl rfl rfl rfl (cell_below hp2.below hc4) ?_
    refine WL.quo rfl rfl rfl rfl hne ?_
    refine WL.known (d := 25) (congrArg (fun z => some (Value.int .i64 z)) e1) ?_
    refine WL.pure rfl rfl rfl ?_
    refine WL.buildA (cs := [.int .i64 (i / pairs : Nat), .int .i64 (wt : Nat)]) rfl rfl rfl rfl rfl rfl ?_
    refine WL.alloc rfl rfl rfl (fun b6 w3 h3 => ?_)
    have hp3 := hp2.new h3
    refine WL.storeN rfl rfl rfl rfl rfl (by simp [Value.oneCell']) (hp3.obj 0 rfl) (Nat.le_refl _) rfl (fun w4 h4 => ?_)
    have hp4 : Hp w w4 (.blk b6 (.cells #[.int .i64 (i / pairs : Nat), .int .i64 (wt : Nat)] 79 (0, 0)) :: .blk mb (mapO pKey (byV B)) :: (byE B ++ [])) := hp3.set 0 rfl rfl h4
    repeat (first | refine zA ?_ | refine zB ?_ | refine zC rfl rfl rfl ?_ | refine zD ?_ | refine zE ?_ | refine zF ?_ | refine zG rfl ?_ | refine zH rfl ?_ | refine zI rfl rfl rfl ?_ | refine zJ rfl rfl ?_ | refine zK ?_ | refine zL ?_ | refine zM rfl ?_ | refine zN ?_)
    refine WL.loadN rfl rfl rfl rfl rfl (cs := [.int .i64 (i / pairs : Nat), .int .i64 (wt : Nat)]) rfl (fun q v hq => cell_of_obj (hp4.obj 0 rfl) (by rw [Nat.zero_add]; simpa using hq)) ?_
    repeat (first | refine zA ?_ | refine zB ?_ | refine zC rfl rfl rfl ?_ | refine zD ?_ | refine zE ?_ | refine zF ?_ | refine zG rfl ?_ | refine zH rfl ?_ | refine zI rfl rfl rfl ?_ | refine zJ rfl rfl ?_ | refine zK ?_ | refine zL ?_ | refine zM rfl ?_ | refine zN ?_)
    refine WL.buildS (cs := [.int .i64 (i : Nat)]) rfl rfl rfl rfl rfl rfl rfl rfl rfl (fun b7 w5 h5 => ?_)
    have hp5 := hp4.new h5
    obtain ⟨k, hk⟩ : ∃ k : Int × Int, k = (((i / pairs : Nat) : Int), ((wt : Nat) : Int)) := ⟨_, rfl⟩
    have hkv : Value.agg #[.int .i64 (i / pairs : Nat), .int .i64 (wt : Nat)] = pKey k := by rw [hk]; rfl
    refine WL.val rfl rfl rfl (yMapEnt (k := k) (l := byV B) (keyT_pair rfl rfl) rfl rfl rfl (congrArg some hkv) (hp5.obj 2 rfl)) ?_
    have hp6 := hp5.set 2 rfl rfl (setB_put (hp5.obj 2 rfl) (o' := mapO pKey (kTouch (byV B) k ti22.zero)))
    generalize (w5.putObj mb (mapO pKey (kTouch (byV B) k ti22.zero))) = w6 at *
    have htch : kTouch (byV B) k ti22.zero = byV (kTouch B k (none, 0, [])) := kTouch_map (g := id) byR (fun _ _ h => h) B k (none, 0, [])
    obtain ⟨x, hxx⟩ : ∃ x, x = (kGet B k).getD (none, 0, []) := ⟨_, rfl⟩
    have hgx : byG B k = x.2.2 := by rw [hxx]; unfold byG; cases kGet B k <;> rfl
    have hgv : (kGet (byV B) k).getD ti22.zero = byR x := by rw [byV_get, hxx]; cases kGet B k <;> rfl
    have hpos : kPos (byV B) k = kPos B k := kPos_map (g := id) byR (fun _ _ h => h) B k
    have hxl2 : x.2.2.length ≤ 65536 := by rw [← hgx, hG]; exact Nat.le_trans (byF_len _ _ _ _) (by omega)
    rw [htch] at hp6
    rw [hgv, hpos]
    have hat := kTouch_get B k (none, 0, [])
    rw [← hxx] at hat
    have hput := kTouch_put B k (none, 0, [])
    obtain ⟨xa, xc, xl⟩ := x
    replace hxl2 : xl.length ≤ 65536 := hxl2
    generalize hB' : kTouch B k (none, 0, []) = B' at *
    have hp7 : Hp w w6 (.blk b7 (.cells #[.int .i64 (i : Nat)] 3 (0, 0)) :: .blk b6 (.cells #[.int .i64 (i / pairs : Nat), .int .i64 (wt : Nat)] 79 (0, 0)) :: .blk mb (mapO pKey (byV B')) :: (byE B' ++ [])) := by
      subst hB'
      unfold kTouch at hp6 ⊢
      split at hp6
      · rename_i h; rw [if_pos h]; exact hp6
      · rename_i h; rw [if_neg h]
        unfold byE
        rw [List.map_append]
        have := Hp.rot [rowE (none, 0, [])] (.blk b7 (.cells #[.int .i64 (i : Nat)] 3 (0, 0)) :: .blk b6 (.cells #[.int .i64 (i / pairs : Nat), .int .i64 (wt : Nat)] 79 (0, 0)) :: .blk mb (mapO pKey (byV (B ++ [(k, (none, 0, []))]))) :: byE B) [] (hp6.nilrow 3 1)
        simpa [byE] using this
    have hnth : nth (byE B' ++ []) (kPos B k) = some (rowE (xa, xc, xl)) := by
      rw [nth_eq, List.append_nil, byE, List.getElem?_map, hat]; rfl
    repeat (first | refine zA ?_ | refine zB ?_ | refine zC rfl rfl rfl ?_ | refine zD ?_ | refine zE ?_ | refine zF ?_ | refine zG rfl ?_ | refine zH rfl ?_ | refine zI rfl rfl rfl ?_ | refine zJ rfl rfl ?_ | refine zK ?_ | refine zL ?_ | refine zM rfl ?_ | refine zN ?_)
    refine WL.append (kPos B k + 3) hp7 rfl rfl rfl rfl rfl (by decide) rfl rfl hnth (news := [.int .i64 (i : Nat)]) (Sl.of_obj (hp7.obj 0 rfl) (fun q u hq => by simpa using hq)) rfl (natL_cells [i]) (by unfold maxLen; show xl.length + 1 ≤ _; omega) (by show (xl.length + 1) * 8 ≤ _; omega) ?_
    intro ra rc w7 hp8 _
    obtain ⟨y, hy⟩ : ∃ y : Option Addr × Nat × List Nat, y = (ra, rc, xl ++ [i]) := ⟨_, rfl⟩
    have hyr : byR y = .slice ra (xl.length + 1) rc := by rw [hy]; unfold byR; rw [List.length_append]; rfl
    have hp9 : Hp w w7 (.blk b7 (.cells #[.int .i64 (i : Nat)] 3 (0, 0)) :: .blk b6 (.cells #[.int .i64 (i / pairs : Nat), .int .i64 (wt : Nat)] 79 (0, 0)) :: .blk mb (mapO pKey (byV B')) :: (byE (kPut B k y) ++ [])) := by
      rw [← hput y]
      have e9 : byE (B'.set (kPos B k) (k, y)) ++ [] = (byE B' ++ []).set (kPos B k) (rowE y) := by
        rw [List.append_nil, List.append_nil]; unfold byE; rw [List.map_set]
      rw [e9]
      have e10 : rowE y = .row 3 1 (.slice ra (xl.length + 1) rc) (xl.length + 1) (natL xl ++ [.int .i64 (i : Nat)]) := by
        unfold rowE; rw [hyr, hy]; simp [Rna, natL]
      rw [e10]
      exact hp8
    repeat (first | refine zA ?_ | refine zB ?_ | refine zC rfl rfl rfl ?_ | refine zD ?_ | refine zE ?_ | refine zF ?_ | refine zG rfl ?_ | refine zH rfl ?_ | refine zI rfl rfl rfl ?_ | refine zJ rfl rfl ?_ | refine zK ?_ | refine zL ?_ | refine zM rfl ?_ | refine zN ?_)
    refine WL.skip rfl rfl (yEntSt (k := k) (l := byV B) (v := byR y) (zz := ti22.zero) (kv := pKey) rfl (congrArg (fun z => some (Value.int .i64 (z : Nat))) hpos.symm) (congrArg some hyr.symm) (by rw [htch]; exact hp9.obj 2 rfl)) ?_
    have hp10 := hp9.set 2 rfl rfl (setB_put (hp9.obj 2 rfl) (o' := mapO pKey (kPut (byV B) k (byR y))))
    generalize (w7.putObj mb (mapO pKey (kPut (byV B) k (byR y)))) = w8 at *
    rw [show kPut (byV B) k (byR y) = byV (kPut B k y) from kPut_map (g := id) byR (fun _ _ h => h) B k y] at hp10
    repeat (first | refine zA ?_ | refine zB ?_ | refine zC rfl rfl rfl ?_ | refine zD ?_ | refine zE ?_ | refine zF ?_ | refine zG rfl ?_ | refine zH rfl ?_ | refine zI rfl rfl rfl ?_ | refine zJ rfl rfl ?_ | refine zK ?_ | refine zL ?_ | refine zM rfl ?_ | refine zN ?_)
    refine ⟨(i + 1, kPut B k y), (by show want.length - (i + 1) < want.length - i; omega), ⟨rfl, rfl, rfl, rfl, congrArg (fun z => some (Value.int .i64 z)) step, rfl⟩, hi, ?_, hp10.tail.tail⟩
    intro q
    rw [byG_put, byF_succ, ← hwt, ← hk, ← hG]
    by_cases hq : q = k
    · rw [if_pos hq, if_pos hq, hq, hgx, hy]
    · rw [if_neg hq, if_neg hq, List.append_nil]
  · have hi : i = want.length := by have := of_decide_eq_false c1; omega
    subst hi
    repeat (first | refine zA ?_ | refine zB ?_ | refine zC rfl rfl rfl ?_ | refine zD ?_ | refine zE ?_ | refine zF ?_ | refine zG rfl ?_ | refine zH rfl ?_ | refine zI rfl rfl rfl ?_ | refine zJ rfl rfl ?_ | refine zK ?_ | refine zL ?_ | refine zM rfl ?_ | refine zN ?_)
    refine WL.nilC rfl rfl rfl ?_
    repeat (first | refine zA ?_ | refine zB ?_ | refine zC rfl rfl rfl ?_ | refine zD ?_ | refine zE ?_ | refine zF ?_ | refine zG rfl ?_ | refine zH rfl ?_ | refine zI rfl rfl rfl ?_ | refine zJ rfl rfl ?_ | refine zK ?_ | refine zL ?_ | refine zM rfl ?_ | refine zN ?_)
    refine WL.load rfl rfl rfl rfl rfl (cell_below hp2.below hc5) ?_
    repeat (first | refine zA ?_ | refine zB ?_ | refine zC rfl rfl rfl ?_ | refine zD ?_ | refine zE ?_ | refine zF ?_ | refine zG rfl ?_ | refine zH rfl ?_ | refine zI rfl rfl rfl ?_ | refine zJ rfl rfl ?_ | refine zK ?_ | refine zL ?_ | refine zM rfl ?_ | refine zN ?_)
    refine WL.make (m := want.length) rfl rfl rfl rfl rfl rfl rfl rfl (by show 24 * want.length ≤ _; omega) (by unfold maxLen; omega) (fun ob w3 h3 => ?_)
    have hp3 := hp2.new h3
    repeat (first | refine zA ?_ | refine zB ?_ | refine zC rfl rfl rfl ?_ | refine zD ?_ | refine zE ?_ | refine zF ?_ | refine zG rfl ?_ | refine zH rfl ?_ | refine zI rfl rfl rfl ?_ | refine zJ rfl rfl ?_ | refine zK ?_ | refine zL ?_ | refine zM rfl ?_ | refine zN ?_)
    refine WC.loop (Nat × Nrs) (fun (j, _) => [(0, ptr xb), (3, .map (some mb)), (7, .slice (some ⟨ob, 0, none⟩) want.length want.length), (44, .int .i64 (want.length : Nat)), (45, .int .i64 (j : Nat))])
      (fun (j, R) w' => j ≤ want.length ∧ R.length = j ∧ rsN R = (graphM (rsN rs) pairs want).take j ∧ Hp w w' (.blk ob (.cells (rsV R ++ List.replicate (want.length - j) (Value.slice none 0 0)).toArray 22 (0, 0)) :: .blk mb (mapO pKey (byV B)) :: (R.reverse.map rowE ++ (byE B ++ [])))) (fun (j, _) => want.length - j) (0, []) ⟨rfl, rfl, rfl, rfl, rfl, rfl⟩ ⟨Nat.zero_le _, rfl, rfl, hp3⟩ ?_
    clear hp3 hp2
    rintro ⟨j, R⟩ w4 ⟨hj, hRl, hRn, hp4⟩
    replace hj : j ≤ want.length := hj
    replace hRl : R.length = j := hRl
    replace hRn : rsN R = (graphM (rsN rs) pairs want).take j := hRn
    replace hp4 : Hp w w4 (.blk ob (.cells (rsV R ++ List.replicate (want.length - j) (Value.slice none 0 0)).toArray 22 (0, 0)) :: .blk mb (mapO pKey (byV B)) :: (R.reverse.map rowE ++ (byE B ++ []))) := hp4
    repeat (first | refine zA ?_ | refine zB ?_ | refine zC rfl rfl rfl ?_ | refine zD ?_ | refine zE ?_ | refine zF ?_ | refine zG rfl ?_ | refine zH rfl ?_ | refine zI rfl rfl rfl ?_ | refine zJ rfl rfl ?_ | refine zK ?_ | refine zL ?_ | refine zM rfl ?_ | refine zN ?_)
    refine WC.cond rfl (fun c2 => ?_) (fun c2 => ?_)
    · have hj : j < want.length := by have := of_decide_eq_true c2; omega
      have step := wrap_succ (i := j) (n := j + 1) (by omega) (by omega)
      repeat (first | refine zA ?_ | refine zB ?_ | refine zC rfl rfl rfl ?_ | refine zD ?_ | refine zE ?_ | refine zF ?_ | refine zG rfl ?_ | refine zH rfl ?_ | refine zI rfl rfl rfl ?_ | refine zJ rfl rfl ?_ | refine zK ?_ | refine zL ?_ | refine zM rfl ?_ | refine zN ?_)
      refine WL.call rfl rfl rfl rfl rfl ent103 (next_any xb an cn rs mk starts lv pairs _ tv fv mb B w4 j (by rw [hp4.below.block xb hxl]; exact hx) (hT.hp hp4) (hp4.obj 1 rfl) (byE_sl (A := .blk ob (.cells (rsV R ++ List.replicate (want.length - j) (Value.slice none 0 0)).toArray 22 (0, 0)) :: .blk mb (mapO pKey (byV B)) :: R.reverse.map rowE) hp4) hp0 (by omega) hrs (fun k => by rw [hG]; exact Nat.le_trans (byF_len _ _ _ _) hNb) hn hpp) ?_
      rintro _ w5 ⟨ra, rc, rfl, hp5⟩
      have hp6 := hp4.comb hp5
      obtain ⟨out, hout⟩ : ∃ out, out = nxF B (j % pairs) ((rsN rs).getD (j / pairs) []) := ⟨_, rfl⟩
      simp only [← hout] at hp6 ⊢
      have hsz : j < (rsV R ++ List.replicate (want.length - j) (Value.slice none 0 0)).toArray.size := by
        simp [rsV]; omega
      repeat (first | refine zA ?_ | refine zB ?_ | refine zC rfl rfl rfl ?_ | refine zD ?_ | refine zE ?_ | refine zF ?_ | refine zG rfl ?_ | refine zH rfl ?_ | refine zI rfl rfl rfl ?_ | refine zJ rfl rfl ?_ | refine zK ?_ | refine zL ?_ | refine zM rfl ?_ | refine zN ?_)
      refine WL.ix1 rfl rfl rfl rfl rfl rfl rfl hj ?_
      rw [Nat.zero_add]
      refine WL.store rfl rfl rfl rfl rfl rfl (hp6.obj 1 rfl) hsz (fun w6 h6 => ?_)
      have hp7 := hp6.set 1 rfl rfl h6
      have e7 : (rsV R ++ List.replicate (want.length - j) (Value.slice none 0 0)).toArray.setIfInBounds j (.slice ra out.length rc) = (rsV (R ++ [(ra, rc, out)]) ++ List.replicate (want.length - (j + 1)) (Value.slice none 0 0)).toArray := by
        have := set_nil R (want.length - (j + 1)) (ra, rc, out)
        rw [show want.length - (j + 1) + 1 = want.length - j by omega, hRl] at this
        exact this
      rw [e7] at hp7
      repeat (first | refine zA ?_ | refine zB ?_ | refine zC rfl rfl rfl ?_ | refine zD ?_ | refine zE ?_ | refine zF ?_ | refine zG rfl ?_ | refine zH rfl ?_ | refine zI rfl rfl rfl ?_ | refine zJ rfl rfl ?_ | refine zK ?_ | refine zL ?_ | refine zM rfl ?_ | refine zN ?_)
      refine ⟨(j + 1, R ++ [(ra, rc, out)]), (by show want.length - (j + 1) < want.length - j; omega), ⟨rfl, rfl, rfl, rfl, congrArg (fun z => some (Value.int .i64 z)) step, rfl⟩, hj, by simp [hRl], ?_, ?_⟩
      · have hgl : (graphM (rsN rs) pairs want).length = want.length := by simp [graphM]
        show rsN (R ++ [(ra, rc, out)]) = (graphM (rsN rs) pairs want).take (j + 1)
        rw [List.take_succ_eq_append_getElem (by rw [hgl]; exact hj), ← hRn]
        unfold rsN
        rw [List.map_append]
        congr 1
        simp only [List.map_cons, List.map_nil, graphM, List.getElem_map, List.getElem_range, hout, nxF]
        congr 1
        show List.flatMap _ ((rsN rs).getD (j / pairs) []) = List.flatMap _ ((rsN rs).getD (j / pairs) [])
        congr 1
        funext t
        rw [hG, byF]
        congr 1
        funext u
        exact decide_eq_decide.2 (and_congr Int.ofNat_inj Int.ofNat_inj)
      · show Hp w w6 (.blk ob (.cells (rsV (R ++ [(ra, rc, out)]) ++ List.replicate (want.length - (j + 1)) (Value.slice none 0 0)).toArray 22 (0, 0)) :: .blk mb (mapO pKey (byV B)) :: ((R ++ [(ra, rc, out)]).reverse.map rowE ++ (byE B ++ [])))
        rw [List.reverse_append, List.reverse_singleton, List.singleton_append, List.map_cons]
        exact Hp.rot [rowE (ra, rc, out)] [_, _] _ hp7
    · have hj : j = want.length := by have := of_decide_eq_false c2; omega
      subst hj
      rw [Nat.sub_self, List.replicate_zero, List.append_nil] at hp4
      have hgl : (graphM (rsN rs) pairs want).length = want.length := by simp [graphM]
      repeat (first | refine zA ?_ | refine zB ?_ | refine zC rfl rfl rfl ?_ | refine zD ?_ | refine zE ?_ | refine zF ?_ | refine zG rfl ?_ | refine zH rfl ?_ | refine zI rfl rfl rfl ?_ | refine zJ rfl rfl ?_ | refine zK ?_ | refine zL ?_ | refine zM rfl ?_ | refine zN ?_)
      refine Res.one rfl rfl rfl ⟨ob, R, by rw [hRl], hRl, by rw [hRn, List.take_of_length_le (by rw [hgl]; omega)], hp4.nil', Sl.of_obj (hp4.obj 0 rfl) (fun i u h => by simpa using h), fun x hx => rowE_sl hp4 ?_⟩
      have : rowE x ∈ R.reverse.map rowE := List.mem_map.2 ⟨x, List.mem_reverse.2 hx, rfl⟩
      simp only [List.mem_cons, List.mem_append]
      exact .inr (.inr (.inl this))
end Go.Proofs.YtpbbneclkhfgoaaDoor
end
section
/- ltl, twenty-third: components (printed by genu23.py). -/
namespace Go.W
open Go.RowKit
theorem Hp.rowCut {w0 w : World} {L L' : List Ent} {E s n m c : Nat} {a : Option Addr} {xs : List Value} (h : Hp w0 w L) (i : Nat) (hi : nth L i = some (.row E s (.slice a n c) n xs)) (hm : m ≤ n) (hL : L.set i (.row E s (.slice a m c) m (xs.take (m * s))) = L') : Hp w0 w L' := by
  have hs := h.at i hi
  refine h.repl (row := none) i hi hL (World.grownBy.refl w _) (fun k hk => by cases hk) ?_ (fun k hk => .inl ?_)
  · obtain ⟨hl, ⟨hv, hn⟩ | ⟨b, cap, cur, hv, hb, hg, hnc, hcm, hcs, ht⟩⟩ := hs
    · subst hn
      have : m = 0 := by omega
      subst this
      exact ⟨by simp, .inl ⟨hv, rfl⟩⟩
    · simp only [Value.slice.injEq] at hv
      obtain ⟨rfl, _, rfl⟩ := hv
      refine ⟨?_, .inr ⟨b, c, cur, rfl, hb, hg, Nat.le_trans hm hnc, hcm, hcs, ?_⟩⟩
      · rw [List.length_take, hl]
        exact Nat.min_eq_left (Nat.mul_le_mul_right _ hm)
      · rw [← ht, List.take_take, Nat.min_eq_left (Nat.mul_le_mul_right _ hm)]
  · cases a with
    | none => cases hk
    | some a => exact hk
theorem Sl.cell {w : World} {b o i : Nat} {cs : List Value} {u : Value} (h : Sl w (Option.some ⟨b, o, none⟩) cs) (hi : cs[i]? = Option.some u) : w.cell? ⟨b, o + i, none⟩ = Option.some u := by
  obtain ⟨b', o', ha, hc⟩ := h i u hi
  simp only [Option.some.injEq, Addr.mk.injEq] at ha
  rw [ha.1, ha.2.1]; exact hc
theorem Hp.capR {w0 w : World} {L : List Ent} {E s n c : Nat} {a : Option Addr} {xs : List Value} (h : Hp w0 w L) (i : Nat) (hi : nth L i = some (.row E s (.slice a n c) n xs)) : n ≤ c := row_cap (h.at i hi)
end Go.W
namespace Go.Ltl
open Go.W
theorem cast_min (a b : Nat) : min (a : Int) (b : Int) = ((min a b : Nat) : Int) := by
  rcases Nat.le_total a b with h | h
  · rw [Nat.min_eq_left h, Int.min_eq_left (by omega)]
  · rw [Nat.min_eq_right h, Int.min_eq_right (by omega)]
theorem getD_some {l : List Nat} {j : Nat} (h : j < l.length) : l[j]? = some (l.getD j 0) := by simp [h]
theorem tjEnter_path (s : Tj) (v : Nat) : (tjEnter s v).path = s.path := by unfold tjEnter; split <;> rfl
theorem tjRun_nil {next : List (List Nat)} {f : Nat} {s : Tj} (h : s.path = []) : tjRun next f s = some (f, s) := by
  cases f <;> (unfold tjRun; rw [if_pos h])
theorem tjRun_step {next : List (List Nat)} {f : Nat} {s : Tj} {v : Nat} {rest : List Nat} {r : Nat × Tj} (h : tjRun next f s = some r) (hp : s.path = v :: rest) :
    ∃ f0 s', f = f0 + 1 ∧ tjTurn next (tjEnter s v) v rest = some s' ∧ tjRun next f0 s' = some r := by
  have hne : s.path ≠ [] := by rw [hp]; exact List.cons_ne_nil _ _
  cases f with
  | zero => unfold tjRun at h; rw [if_neg hne] at h; cases h
  | succ f =>
    unfold tjRun at h
    rw [if_neg hne] at h
    unfold tjStep at h
    rw [hp] at h
    simp only at h
    cases hq : tjTurn next (tjEnter s v) v rest with
    | none => rw [hq] at h; cases h
    | some s' => rw [hq] at h; exact ⟨f, s', rfl, rfl, h⟩
/-- Within bounds: B more than the fuel. -/
structure TjOk (n B : Nat) (s : Tj) (f : Nat) : Prop where
  i : s.index.length = n
  l : s.low.length = n
  o : s.of_.length = n
  a : s.at_.length = n
  p : ∀ x ∈ s.path, x < n
  k : ∀ x ∈ s.stk, x < n
  c : s.count + f ≤ B
  m : s.number + f ≤ B
  kl : s.stk.length + f ≤ B
  pl : s.path.length + f ≤ B + 1
end Go.Ltl
namespace Go.Proofs.YtpbbneclkhfgoaaDoor
open Go.W Go.Ltl Go.RowKit
set_option maxRecDepth 100000
attribute [local irreducible] WC WL WQ WS WH

/-- A list of numbers of one's own. -/
abbrev cE (b : Nat) (l : List Nat) : Ent := .blk b (.cells (natL l).toArray 3 (0, 0))
theorem cE_sl {w0 w : World} {L : List Ent} {b : Nat} {l : List Nat} (h : Hp w0 w L) (q : Nat) (hq : nth L q = some (cE b l)) : Sl w (some ⟨b, 0, none⟩) (natL l) := Sl.of_obj (h.obj q hq) (fun i u hu => by simpa using hu)
theorem cE_set {w0 w w' : World} {L L' : List Ent} {b j x : Nat} {l : List Nat} (h : Hp w0 w L) (q : Nat) (hq : nth L q = some (cE b l)) (hL : L.set q (cE b (l.set j x)) = L') (hs : SetB w b (.cells ((natL l).toArray.setIfInBounds j (.int .i64 (x : Nat))) 3 (0, 0)) w') : Hp w0 w' L' := by
  have e1 : (natL l).toArray.setIfInBounds j (.int .i64 (x : Nat)) = (natL (l.set j x)).toArray := by simp [natL, List.map_set]
  rw [e1] at hs
  exact h.set q hq hL hs
theorem cE_room {l : List Nat} {j n : Nat} (hl : l.length = n) (h : j < n) : j < (natL l).toArray.size := by simp [natL]; omega
theorem nd {l : List Nat} {i n : Nat} (hl : l.length = n) (h : i < n) : (natL l)[i]? = some (.int .i64 (l.getD i 0 : Nat)) := natL_get (by omega)
theorem natL_zero (n : Nat) : (List.replicate n (Value.int .i64 0)).toArray = (natL (List.replicate n 0)).toArray := by simp [natL]
/-- The top of a row. -/
theorem top_at (v : Nat) (rest : List Nat) : (natL (v :: rest).reverse)[rest.length]? = some (.int .i64 (v : Nat)) := by simp [natL]
theorem top_take (v : Nat) (rest : List Nat) : (natL (v :: rest).reverse).take (rest.length * 1) = natL rest.reverse := by
  simp only [natL, List.reverse_cons, List.map_append, Nat.mul_one]
  have : rest.length = (List.map (fun (n : Nat) => Value.int .i64 n) rest.reverse).length := by simp
  rw [this, List.take_left]
theorem top_push (v : Nat) (rest : List Nat) : natL (v :: rest).reverse = natL rest.reverse ++ [.int .i64 (v : Nat)] := by simp [natL]
/-- A row with its top first. -/
abbrev stE (a : Option Addr) (c : Nat) (l : List Nat) : Ent := Rna (.slice a l.length c) l.length l.reverse
theorem stE_push (a : Option Addr) (c v : Nat) (l : List Nat) : stE a c (v :: l) = .row 3 1 (.slice a (l.length + 1) c) (l.length + 1) (natL l.reverse ++ [.int .i64 (v : Nat)]) := by
  show Ent.row _ _ _ _ (natL (v :: l).reverse) = _
  rw [top_push]; rfl
theorem stE_sl {w0 w : World} {L : List Ent} {a : Option Addr} {c : Nat} {l : List Nat} (h : Hp w0 w L) (q : Nat) (hq : nth L q = some (stE a c l)) : Sl w a (natL l.reverse) := Sl.of_row (h.at q hq)
abbrev sN (b N : Nat) : Value := .slice (some ⟨b, 0, none⟩) N N
abbrev cpE (an : Option Addr) (cn N ib lb ob ab root : Nat) (s : Tj) (sa : Option Addr) (sc : Nat) (pa : Option Addr) (pc : Nat) : Env :=
  [(0, .slice an N cn), (3, .int .i64 (N : Nat)), (4, sN ib N), (5, sN lb N), (6, sN ob N), (7, sN ab N), (8, .slice sa s.stk.length sc), (9, .slice pa s.path.length pc), (10, .int .i64 (s.count : Nat)), (11, .int .i64 (s.number : Nat)), (26, .int .i64 (N : Nat)), (27, .int .i64 (root : Nat))]
abbrev cpL (ib lb ob ab : Nat) (s : Tj) (sa : Option Addr) (sc : Nat) (pa : Option Addr) (pc : Nat) : List Ent := [cE ib s.index, cE lb s.low, cE ob s.of_, cE ab s.at_, stE sa sc s.stk, stE pa pc s.path]
theorem mem_set {l : List Nat} {p : Nat → Prop} (h : ∀ x ∈ l, p x) {a : Nat} (ha : p a) : ∀ x ∈ a :: l, p x := fun x hx => by
  rcases List.mem_cons.1 hx with h1 | h1
  · rw [h1]; exact ha
  · exact h x h1

theorem components_any (an : Option Addr) (cn N : Nat) (rs : Nrs) (w : World) (hN : rs.length = N) (hT : Tbl w an rs) (hn : N ≤ 65536) (hrow : ∀ x ∈ rs, x.2.2.length ≤ 1048576) (hin : ∀ x ∈ rs, ∀ u ∈ x.2.2, u < N) (F : Nat) (hF : F ≤ 1099511627776) (of_ : List Nat)
    (hM : compM F (rsN rs) = some of_) : Ret Tryd.prog 88 [.slice an N cn] w fun u w' => ∃ ob, u = sN ob N ∧ of_.length = N ∧ Hp w w' [cE ob of_] := by
  refine enter Tryd.func88 rfl rfl ⟨rfl, rfl⟩ rfl ?_
  repeat (first | refine zA ?_ | refine zB ?_ | refine zC rfl rfl rfl ?_ | refine zD ?_ | refine zE ?_ | refine zF ?_ | refine zG rfl ?_ | refine zH rfl ?_ | refine zI rfl rfl rfl ?_ | refine zJ rfl rfl ?_ | refine zK ?_ | refine zL ?_ | refine zM rfl ?_ | refine zN ?_)
  refine WC.mid (Nat × Nat × Nat) (fun (ib, lb, ob) => [(0, .slice an N cn), (3, .int .i64 (N : Nat)), (4, sN ib N), (5, sN lb N), (6, sN ob N)]) (fun (ib, lb, ob) w' => Hp w w' [cE ib (List.replicate N 0), cE lb (List.replicate N 0), cE ob (List.replicate N 0)]) ?_ ?_
  · unfold cE
    simp only [← natL_zero]
    refine WC.regH (fun _ => True) mixed (by kernel_rfl) (fun wm0 hw hh => ?_)
    have hm0 := (Hp.start w).keep hw
    refine WH.pure 0 (by kernel_rfl) rfl (by kernel_rfl) rfl rfl rfl (trivial) ?_
    refine WH.pure 2 (by kernel_rfl) rfl (by kernel_rfl) rfl rfl rfl (trivial) ?_
    refine WH.pure 4 (by kernel_rfl) rfl (by kernel_rfl) rfl rfl rfl (trivial) ?_
    refine WH.many [1, 3, 5] (by kernel_rfl) (by decide) ?_
    intro i hi
    simp only [List.mem_cons, List.not_mem_nil, or_false] at hi
    rcases hi with rfl | rfl | rfl
    · refine ⟨_, rfl, ?_⟩
      refine WL.make (m := N) rfl rfl rfl rfl rfl rfl rfl rfl (by show 8 * N ≤ _; omega) (by unfold maxLen; omega) (fun ib wm1 hb0 => ?_)
      have hm1 := hm0.new hb0
      refine WL.nil ⟨trivial, ?_⟩
      refine WH.pure 6 (by kernel_rfl) rfl (by kernel_rfl) rfl rfl rfl trivial ?_
      refine WH.many [3, 5] (by kernel_rfl) (by decide) ?_
      intro i hi
      simp only [List.mem_cons, List.not_mem_nil, or_false] at hi
      rcases hi with rfl | rfl
      · refine ⟨_, rfl, ?_⟩
        refine WL.make (m := N) rfl rfl rfl rfl rfl rfl rfl rfl (by show 8 * N ≤ _; omega) (by unfold maxLen; omega) (fun lb wm2 hb1 => ?_)
        have hm2 := hm1.new hb1
        refine WL.nil ⟨trivial, ?_⟩
        refine WH.pure 7 (by kernel_rfl) rfl (by kernel_rfl) rfl rfl rfl trivial ?_
        refine WH.one 5 rfl (by kernel_rfl) ?_
        refine WL.make (m := N) rfl rfl rfl rfl rfl rfl rfl rfl (by show 8 * N ≤ _; omega) (by unfold maxLen; omega) (fun ob wm3 hb2 => ?_)
        have hm3 := hm2.new hb2
        refine WL.nil ⟨trivial, ?_⟩
        refine WH.pure 8 (by kernel_rfl) rfl (by kernel_rfl) rfl rfl rfl trivial ?_
        refine WH.done (by kernel_rfl) ?_
        exact ⟨(ib, lb, ob), ⟨rfl, rfl, rfl, rfl, rfl, rfl⟩, hm3.pick [2, 1, 0] (by decide)⟩
      · refine ⟨_, rfl, ?_⟩
        refine WL.make (m := N) rfl rfl rfl rfl rfl rfl rfl rfl (by show 8 * N ≤ _; omega) (by unfold maxLen; omega) (fun ob wm2 hb1 => ?_)
        have hm2 := hm1.new hb1
        refine WL.nil ⟨trivial, ?_⟩
        refine WH.one 3 rfl (by kernel_rfl) ?_
        refine WL.make (m := N) rfl rfl rfl rfl rfl rfl rfl rfl (by show 8 * N ≤ _; omega) (by unfold maxLen; omega) (fun lb wm3 hb2 => ?_)
        have hm3 := hm2.new hb2
        refine WL.nil ⟨trivial, ?_⟩
        refine WH.pure 7 (by kernel_rfl) rfl (by kernel_rfl) rfl rfl rfl trivial ?_
        refine WH.pure 8 (by kernel_rfl) rfl (by kernel_rfl) rfl rfl rfl trivial ?_
        refine WH.done (by kernel_rfl) ?_
        exact ⟨(ib, lb, ob), ⟨rfl, rfl, rfl, rfl, rfl, rfl⟩, hm3.pick [2, 0, 1] (by decide)⟩
    · refine ⟨_, rfl, ?_⟩
      refine WL.make (m := N) rfl rfl rfl rfl rfl rfl rfl rfl (by show 8 * N ≤ _; omega) (by unfold maxLen; omega) (fun lb wm1 hb0 => ?_)
      have hm1 := hm0.new hb0
      refine WL.nil ⟨trivial, ?_⟩
      refine WH.many [1, 5] (by kernel_rfl) (by decide) ?_
      intro i hi
      simp only [List.mem_cons, List.not_mem_nil, or_false] at hi
      rcases hi with rfl | rfl
      · refine ⟨_, rfl, ?_⟩
        refine WL.make (m := N) rfl rfl rfl rfl rfl rfl rfl rfl (by show 8 * N ≤ _; omega) (by unfold maxLen; omega) (fun ib wm2 hb1 => ?_)
        have hm2 := hm1.new hb1
        refine WL.nil ⟨trivial, ?_⟩
        refine WH.pure 6 (by kernel_rfl) rfl (by kernel_rfl) rfl rfl rfl trivial ?_
        refine WH.pure 7 (by kernel_rfl) rfl (by kernel_rfl) rfl rfl rfl trivial ?_
        refine WH.one 5 rfl (by kernel_rfl) ?_
        refine WL.make (m := N) rfl rfl rfl rfl rfl rfl rfl rfl (by show 8 * N ≤ _; omega) (by unfold maxLen; omega) (fun ob wm3 hb2 => ?_)
        have hm3 := hm2.new hb2
        refine WL.nil ⟨trivial, ?_⟩
        refine WH.pure 8 (by kernel_rfl) rfl (by kernel_rfl) rfl rfl rfl trivial ?_
        refine WH.done (by kernel_rfl) ?_
        exact ⟨(ib, lb, ob), ⟨rfl, rfl, rfl, rfl, rfl, rfl⟩, hm3.pick [1, 2, 0] (by decide)⟩
      · refine ⟨_, rfl, ?_⟩
        refine WL.make (m := N) rfl rfl rfl rfl rfl rfl rfl rfl (by show 8 * N ≤ _; omega) (by unfold maxLen; omega) (fun ob wm2 hb1 => ?_)
        have hm2 := hm1.new hb1
        refine WL.nil ⟨trivial, ?_⟩
        refine WH.one 1 rfl (by kernel_rfl) ?_
        refine WL.make (m := N) rfl rfl rfl rfl rfl rfl rfl rfl (by show 8 * N ≤ _; omega) (by unfold maxLen; omega) (fun ib wm3 hb2 => ?_)
        have hm3 := hm2.new hb2
        refine WL.nil ⟨trivial, ?_⟩
        refine WH.pure 6 (by kernel_rfl) rfl (by kernel_rfl) rfl rfl rfl trivial ?_
        refine WH.pure 7 (by kernel_rfl) rfl (by kernel_rfl) rfl rfl rfl trivial ?_
        refine WH.pure 8 (by kernel_rfl) rfl (by kernel_rfl) rfl rfl rfl trivial ?_
        refine WH.done (by kernel_rfl) ?_
        exact ⟨(ib, lb, ob), ⟨rfl, rfl, rfl, rfl, rfl, rfl⟩, hm3.pick [0, 2, 1] (by decide)⟩
    · refine ⟨_, rfl, ?_⟩
      refine WL.make (m := N) rfl rfl rfl rfl rfl rfl rfl rfl (by show 8 * N ≤ _; omega) (by unfold maxLen; omega) (fun ob wm1 hb0 => ?_)
      have hm1 := hm0.new hb0
      refine WL.nil ⟨trivial, ?_⟩
      refine WH.many [1, 3] (by kernel_rfl) (by decide) ?_
      intro i hi
      simp only [List.mem_cons, List.not_mem_nil, or_false] at hi
      rcases hi with rfl | rfl
      · refine ⟨_, rfl, ?_⟩
        refine WL.make (m := N) rfl rfl rfl rfl rfl rfl rfl rfl (by show 8 * N ≤ _; omega) (by unfold maxLen; omega) (fun ib wm2 hb1 => ?_)
        have hm2 := hm1.new hb1
        refine WL.nil ⟨trivial, ?_⟩
        refine WH.pure 6 (by kernel_rfl) rfl (by kernel_rfl) rfl rfl rfl trivial ?_
        refine WH.one 3 rfl (by kernel_rfl) ?_
        refine WL.make (m := N) rfl rfl rfl rfl rfl rfl rfl rfl (by show 8 * N ≤ _; omega) (by unfold maxLen; omega) (fun lb wm3 hb2 => ?_)
        have hm3 := hm2.new hb2
        refine WL.nil ⟨trivial, ?_⟩
        refine WH.pure 7 (by kernel_rfl) rfl (by kernel_rfl) rfl rfl rfl trivial ?_
        refine WH.pure 8 (by kernel_rfl) rfl (by kernel_rfl) rfl rfl rfl trivial ?_
        refine WH.done (by kernel_rfl) ?_
        exact ⟨(ib, lb, ob), ⟨rfl, rfl, rfl, rfl, rfl, rfl⟩, hm3.pick [1, 0, 2] (by decide)⟩
      · refine ⟨_, rfl, ?_⟩
        refine WL.make (m := N) rfl rfl rfl rfl rfl rfl rfl rfl (by show 8 * N ≤ _; omega) (by unfold maxLen; omega) (fun lb wm2 hb1 => ?_)
        have hm2 := hm1.new hb1
        refine WL.nil ⟨trivial, ?_⟩
        refine WH.one 1 rfl (by kernel_rfl) ?_
        refine WL.make (m := N) rfl rfl rfl rfl rfl rfl rfl rfl (by show 8 * N ≤ _; omega) (by unfold maxLen; omega) (fun ib wm3 hb2 => ?_)
        have hm3 := hm2.new hb2
        refine WL.nil ⟨trivial, ?_⟩
        refine WH.pure 6 (by kernel_rfl) rfl (by kernel_rfl) rfl rfl rfl trivial ?_
        refine WH.pure 7 (by kernel_rfl) rfl (by kernel_rfl) rfl rfl rfl trivial ?_
        refine WH.pure 8 (by kernel_rfl) rfl (by kernel_rfl) rfl rfl rfl trivial ?_
        refine WH.done (by kernel_rfl) ?_
        exact ⟨(ib, lb, ob), ⟨rfl, rfl, rfl, rfl, rfl, rfl⟩, hm3.pick [0, 1, 2] (by decide)⟩
  rintro ⟨ib, lb, ob⟩ e1 w1 hsub hp1
  replace hp1 : Hp w w1 [cE ib (List.replicate N 0), cE lb (List.replicate N 0), cE ob (List.replicate N 0)] := hp1
  refine WC.sub hsub ?_
  clear hsub e1
  repeat (first | refine zA ?_ | refine zB ?_ | refine zC rfl rfl rfl ?_ | refine zD ?_ | refine zE ?_ | refine zF ?_ | refine zG rfl ?_ | refine zH rfl ?_ | refine zI rfl rfl rfl ?_ | refine zJ rfl rfl ?_ | refine zK ?_ | refine zL ?_ | refine zM rfl ?_ | refine zN ?_)
  refine WL.make (m := N) rfl rfl rfl rfl rfl rfl rfl rfl (by show 8 * N ≤ _; omega) (by unfold maxLen; omega) (fun ab w2 h2 => ?_)
  have hp2 := hp1.new h2
  rw [show ti3.zero = Value.int .i64 0 from rfl, natL_zero] at hp2
  have hp3 := ((hp2.nilrow 3 1).nilrow 3 1).pick [3, 4, 5, 2, 0, 1] (by decide)
  replace hp3 : Hp w w2 (cpL ib lb ob ab (tj0 N) none 0 none 0) := hp3
  clear hp2 hp1
  unfold compM at hM
  rw [rsN_len, hN] at hM
  obtain ⟨sF, hC, hsF⟩ := Option.map_eq_some_iff.1 hM
  have hok0 : TjOk N F (tj0 N) F := ⟨by simp [tj0], by simp [tj0], by simp [tj0], by simp [tj0], fun x hx => by simp [tj0] at hx, fun x hx => by simp [tj0] at hx, by simp [tj0], by simp [tj0], by simp [tj0], by simp [tj0]⟩
  repeat (first | refine zA ?_ | refine zB ?_ | refine zC rfl rfl rfl ?_ | refine zD ?_ | refine zE ?_ | refine zF ?_ | refine zG rfl ?_ | refine zH rfl ?_ | refine zI rfl rfl rfl ?_ | refine zJ rfl rfl ?_ | refine zK ?_ | refine zL ?_ | refine zM rfl ?_ | refine zN ?_)
  refine WC.loop (Nat × Nat × Tj × Option Addr × Nat × Option Addr × Nat) (fun (root, f, s, sa, sc, pa, pc) => cpE an cn N ib lb ob ab root s sa sc pa pc)
    (fun (root, f, s, sa, sc, pa, pc) w' => root ≤ N ∧ compRoots (rsN rs) (N - root) root f s = some sF ∧ s.path = [] ∧ TjOk N F s f ∧ Hp w w' (cpL ib lb ob ab s sa sc pa pc)) (fun (root, _) => N - root) (0, F, tj0 N, none, 0, none, 0) ⟨rfl, rfl, rfl, rfl, rfl, rfl, rfl, rfl, rfl, rfl, rfl, rfl, rfl⟩ ⟨Nat.zero_le _, by rw [Nat.sub_zero]; exact hC, rfl, hok0, hp3⟩ ?_
  clear hp3 hok0 hC hM
  rintro ⟨root, f, s, sa, sc, pa, pc⟩ w3 ⟨hr, hC, hpn, hok, hp3⟩
  replace hr : root ≤ N := hr
  replace hC : compRoots (rsN rs) (N - root) root f s = some sF := hC
  replace hpn : s.path = [] := hpn
  replace hok : TjOk N F s f := hok
  replace hp3 : Hp w w3 (cpL ib lb ob ab s sa sc pa pc) := hp3
  repeat (first | refine zA ?_ | refine zB ?_ | refine zC rfl rfl rfl ?_ | refine zD ?_ | refine zE ?_ | refine zF ?_ | refine zG rfl ?_ | refine zH rfl ?_ | refine zI rfl rfl rfl ?_ | refine zJ rfl rfl ?_ | refine zK ?_ | refine zL ?_ | refine zM rfl ?_ | refine zN ?_)
  refine WC.cond rfl (fun c1 => ?_) (fun c1 => ?_)
  · have hr : root < N := by have := of_decide_eq_true c1; omega
    have step := wrap_succ (i := root) (n := root + 1) (by omega) (by omega)
    rw [show N - root = N - (root + 1) + 1 by omega] at hC
    unfold compRoots at hC
    refine WC.skip ?_
    refine WC.seq ?_
    refine WC.mid (Nat × Tj × Option Addr × Nat × Option Addr × Nat) (fun (f, s, sa, sc, pa, pc) => cpE an cn N ib lb ob ab root s sa sc pa pc)
      (fun (f, s, sa, sc, pa, pc) w' => compRoots (rsN rs) (N - (root + 1)) (root + 1) f s = some sF ∧ s.path = [] ∧ TjOk N F s f ∧ Hp w w' (cpL ib lb ob ab s sa sc pa pc)) ?_ ?_
    · repeat (first | refine zA ?_ | refine zB ?_ | refine zC rfl rfl rfl ?_ | refine zD ?_ | refine zE ?_ | refine zF ?_ | refine zG rfl ?_ | refine zH rfl ?_ | refine zI rfl rfl rfl ?_ | refine zJ rfl rfl ?_ | refine zK ?_ | refine zL ?_ | refine zM rfl ?_ | refine zN ?_)
      refine WL.ixload rfl (fun _ => rfl) rfl rfl rfl rfl rfl rfl rfl hr rfl rfl (cE_sl hp3 0 rfl) (nd hok.i hr) ?_
      intro q
      repeat (first | refine zA ?_ | refine zB ?_ | refine zC rfl rfl rfl ?_ | refine zD ?_ | refine zE ?_ | refine zF ?_ | refine zG rfl ?_ | refine zH rfl ?_ | refine zI rfl rfl rfl ?_ | refine zJ rfl rfl ?_ | refine zK ?_ | refine zL ?_ | refine zM rfl ?_ | refine zN ?_)
      refine WC.cond rfl (fun c2 => ?_) (fun c2 => ?_)
      · have c2 : s.index.getD root 0 ≠ 0 := by simpa using c2
        rw [if_pos c2] at hC
        repeat (first | refine zA ?_ | refine zB ?_ | refine zC rfl rfl rfl ?_ | refine zD ?_ | refine zE ?_ | refine zF ?_ | refine zG rfl ?_ | refine zH rfl ?_ | refine zI rfl rfl rfl ?_ | refine zJ rfl rfl ?_ | refine zK ?_ | refine zL ?_ | refine zM rfl ?_ | refine zN ?_)
        exact ⟨(f, s, sa, sc, pa, pc), ⟨rfl, rfl, rfl, rfl, rfl, rfl, rfl, rfl, rfl, rfl, rfl, rfl, rfl⟩, hC, hpn, hok, hp3⟩
      · have c2 : ¬ s.index.getD root 0 ≠ 0 := by simpa using c2
        rw [if_neg c2] at hC
        cases hR : tjRun (rsN rs) f { s with path := [root] } with
        | none => rw [hR] at hC; cases hC
        | some fs' =>
        obtain ⟨f', s'⟩ := fs'
        rw [hR] at hC
        simp only at hC
        obtain ⟨ix, lw, of0, at0, sk, pth, ct, nm⟩ := s
        simp only at hpn
        subst hpn
        obtain ⟨ki, kl, ko, ka, kp, kk, kc, km, kkl, kpl⟩ := hok
        simp only at ki kl ko ka kp kk kc km kkl kpl
        repeat (first | refine zA ?_ | refine zB ?_ | refine zC rfl rfl rfl ?_ | refine zD ?_ | refine zE ?_ | refine zF ?_ | refine zG rfl ?_ | refine zH rfl ?_ | refine zI rfl rfl rfl ?_ | refine zJ rfl rfl ?_ | refine zK ?_ | refine zL ?_ | refine zM rfl ?_ | refine zN ?_)
        refine WL.buildS (cs := [.int .i64 (root : Nat)]) rfl rfl rfl rfl rfl rfl rfl rfl rfl (fun b4 w4 h4 => ?_)
        have hp4 := hp3.new h4
        refine WL.append 6 hp4 rfl rfl rfl rfl rfl (by decide) rfl rfl rfl (news := [.int .i64 (root : Nat)]) (Sl.of_obj (hp4.obj 0 rfl) (fun q u hq => by simpa using hq)) rfl (natL_cells [root]) (by show 0 + 1 ≤ maxLen; decide) (by show (0 + 1) * 8 ≤ 140737488355328; decide) ?_
        intro pa2 pc2 w5 hp5 _
        replace hp5 : Hp w w5 (cpL ib lb ob ab ⟨ix, lw, of0, at0, sk, [root], ct, nm⟩ sa sc pa2 pc2) := hp5.tail
        repeat (first | refine zA ?_ | refine zB ?_ | refine zC rfl rfl rfl ?_ | refine zD ?_ | refine zE ?_ | refine zF ?_ | refine zG rfl ?_ | refine zH rfl ?_ | refine zI rfl rfl rfl ?_ | refine zJ rfl rfl ?_ | refine zK ?_ | refine zL ?_ | refine zM rfl ?_ | refine zN ?_)
        refine WC.loop (Nat × Tj × Option Addr × Nat × Option Addr × Nat) (fun (f, s, sa, sc, pa, pc) => cpE an cn N ib lb ob ab root s sa sc pa pc)
          (fun (f, s, sa, sc, pa, pc) w' => tjRun (rsN rs) f s = some (f', s') ∧ TjOk N F s f ∧ Hp w w' (cpL ib lb ob ab s sa sc pa pc)) (fun (f, _) => f) (f, ⟨ix, lw, of0, at0, sk, [root], ct, nm⟩, sa, sc, pa2, pc2) ⟨rfl, rfl, rfl, rfl, rfl, rfl, rfl, rfl, rfl, rfl, rfl, rfl, rfl⟩
          ⟨hR, ⟨ki, kl, ko, ka, mem_set (fun x hx => by cases hx) hr, kk, kc, km, kkl, by show 1 + f ≤ F + 1; omega⟩, hp5⟩ ?_
        clear hp5 hp4 hp3 hR ki kl ko ka kp kk kc km kkl kpl
        rintro ⟨f, ⟨ix, lw, of0, at0, sk, pth, ct, nm⟩, sa, sc, pa, pc⟩ w6 ⟨hR, hok, hp6⟩
        replace hR : tjRun (rsN rs) f ⟨ix, lw, of0, at0, sk, pth, ct, nm⟩ = some (f', s') := hR
        replace hok : TjOk N F ⟨ix, lw, of0, at0, sk, pth, ct, nm⟩ f := hok
        replace hp6 : Hp w w6 (cpL ib lb ob ab ⟨ix, lw, of0, at0, sk, pth, ct, nm⟩ sa sc pa pc) := hp6
        repeat (first | refine zA ?_ | refine zB ?_ | refine zC rfl rfl rfl ?_ | refine zD ?_ | refine zE ?_ | refine zF ?_ | refine zG rfl ?_ | refine zH rfl ?_ | refine zI rfl rfl rfl ?_ | refine zJ rfl rfl ?_ | refine zK ?_ | refine zL ?_ | refine zM rfl ?_ | refine zN ?_)
        refine WC.cond rfl (fun c3 => ?_) (fun c3 => ?_)
        · have c3 : 0 < pth.length := by have h : (0 : Int) < ((pth.length : Nat) : Int) := of_decide_eq_true c3; omega
          obtain ⟨v, rest, rfl⟩ : ∃ v rest, pth = v :: rest := by
            cases pth with
            | nil => exact absurd c3 (Nat.lt_irrefl _)
            | cons v rest => exact ⟨v, rest, rfl⟩
          obtain ⟨f0, s2, rfl, hturn, hR2⟩ := tjRun_step hR rfl
          clear hR
          have hv : v < N := hok.p v (by simp)
          have hpl0 : rest.length + 1 + (f0 + 1) ≤ F + 1 := hok.pl
          have e45 : IntKind.i64.wrap (((v :: rest).length : Nat) - 1 : Int) = ((rest.length : Nat) : Int) := by
            have := hok.pl
            simp only [List.length_cons] at this ⊢
            rw [wrap_mid (by omega) (by omega)]; omega
          refine WC.skip ?_
          refine WC.block ?_
          refine WC.seq ?_
          refine WC.reg ?_
          refine WL.pure rfl rfl rfl ?_
          refine WL.pure rfl rfl rfl ?_
          refine WL.pure rfl rfl rfl ?_
          refine WL.pure rfl rfl rfl ?_
          refine WL.known (d := 45) (congrArg (fun z => some (Value.int .i64 z)) e45) ?_
          refine WL.ixload (j := rest.length) rfl (fun _ => rfl) rfl rfl rfl rfl rfl rfl rfl (Nat.lt_succ_self _) rfl rfl (stE_sl hp6 5 rfl) (top_at v rest) ?_
          intro q
          refine WL.pure rfl rfl rfl ?_
          refine WL.nil ?_
          refine WC.seq ?_
          refine WC.mid (Tj × Option Addr × Nat) (fun (s, sa, sc) => (13, .int .i64 (v : Nat)) :: cpE an cn N ib lb ob ab root s sa sc pa pc)
            (fun (s, sa, sc) w' => s = tjEnter ⟨ix, lw, of0, at0, sk, v :: rest, ct, nm⟩ v ∧ TjOk N F s f0 ∧ s.number + (f0 + 1) ≤ F ∧ Hp w w' (cpL ib lb ob ab s sa sc pa pc)) ?_ ?_
          · repeat (first | refine zA ?_ | refine zB ?_ | refine zC rfl rfl rfl ?_ | refine zD ?_ | refine zE ?_ | refine zF ?_ | refine zG rfl ?_ | refine zH rfl ?_ | refine zI rfl rfl rfl ?_ | refine zJ rfl rfl ?_ | refine zK ?_ | refine zL ?_ | refine zM rfl ?_ | refine zN ?_)
            refine WL.ixload rfl (fun _ => rfl) rfl rfl rfl rfl rfl rfl rfl hv rfl rfl (cE_sl hp6 0 rfl) (nd hok.i hv) ?_
            intro q
            obtain ⟨ki, kl, ko, ka, kp, kk, kc, km, kkl, kpl⟩ := hok
            simp only at ki kl ko ka kp kk kc km kkl kpl
            repeat (first | refine zA ?_ | refine zB ?_ | refine zC rfl rfl rfl ?_ | refine zD ?_ | refine zE ?_ | refine zF ?_ | refine zG rfl ?_ | refine zH rfl ?_ | refine zI rfl rfl rfl ?_ | refine zJ rfl rfl ?_ | refine zK ?_ | refine zL ?_ | refine zM rfl ?_ | refine zN ?_)
            refine WC.cond rfl (fun c4 => ?_) (fun c4 => ?_)
            · have c4 : ix.getD v 0 = 0 := by simpa using c4
              have stc := wrap_succ (i := ct) (n := ct + 1) (by omega) (by omega)
              refine WC.seq ?_
              refine WC.reg ?_
              refine WL.pure rfl rfl rfl ?_
              refine WL.pure rfl rfl rfl ?_
              refine WL.known (d := 54) (congrArg (fun z => some (Value.int .i64 z)) stc) ?_
              repeat (first | refine zA ?_ | refine zB ?_ | refine zC rfl rfl rfl ?_ | refine zD ?_ | refine zE ?_ | refine zF ?_ | refine zG rfl ?_ | refine zH rfl ?_ | refine zI rfl rfl rfl ?_ | refine zJ rfl rfl ?_ | refine zK ?_ | refine zL ?_ | refine zM rfl ?_ | refine zN ?_)
              refine WL.ix1 rfl rfl rfl rfl rfl rfl rfl hv ?_
              rw [Nat.zero_add]
              refine WL.store rfl rfl rfl rfl rfl rfl (hp6.obj 0 rfl) (cE_room ki hv) (fun w7 h7 => ?_)
              have hp7 := cE_set hp6 0 rfl rfl h7
              refine WL.ix1 rfl rfl rfl rfl rfl rfl rfl hv ?_
              rw [Nat.zero_add]
              refine WL.store rfl rfl rfl rfl rfl rfl (hp7.obj 1 rfl) (cE_room kl hv) (fun w8 h8 => ?_)
              have hp8 := cE_set hp7 1 rfl rfl h8
              repeat (first | refine zA ?_ | refine zB ?_ | refine zC rfl rfl rfl ?_ | refine zD ?_ | refine zE ?_ | refine zF ?_ | refine zG rfl ?_ | refine zH rfl ?_ | refine zI rfl rfl rfl ?_ | refine zJ rfl rfl ?_ | refine zK ?_ | refine zL ?_ | refine zM rfl ?_ | refine zN ?_)
              refine WL.buildS (cs := [.int .i64 (v : Nat)]) rfl rfl rfl rfl rfl rfl rfl rfl rfl (fun b9 w9 h9 => ?_)
              have hp9 := hp8.new h9
              refine WL.append 5 hp9 rfl rfl rfl rfl rfl (by decide) rfl rfl rfl (news := [.int .i64 (v : Nat)]) (Sl.of_obj (hp9.obj 0 rfl) (fun q u hq => by simpa using hq)) rfl (natL_cells [v]) (by unfold maxLen; show sk.length + 1 ≤ _; omega) (by show (sk.length + 1) * 8 ≤ _; omega) ?_
              intro sa2 sc2 w10 hp10 _
              repeat (first | refine zA ?_ | refine zB ?_ | refine zC rfl rfl rfl ?_ | refine zD ?_ | refine zE ?_ | refine zF ?_ | refine zG rfl ?_ | refine zH rfl ?_ | refine zI rfl rfl rfl ?_ | refine zJ rfl rfl ?_ | refine zK ?_ | refine zL ?_ | refine zM rfl ?_ | refine zN ?_)
              refine ⟨(⟨ix.set v (ct + 1), lw.set v (ct + 1), of0, at0, v :: sk, v :: rest, ct + 1, nm⟩, sa2, sc2), ⟨rfl, rfl, rfl, rfl, rfl, rfl, rfl, rfl, rfl, rfl, rfl, rfl, rfl, rfl⟩, ?_, ?_, km, ?_⟩
              · show _ = tjEnter _ _
                unfold tjEnter
                rw [if_pos c4]
              · exact ⟨by simpa using ki, by simpa using kl, ko, ka, kp, mem_set kk hv, by show ct + 1 + f0 ≤ F; omega, by show nm + f0 ≤ F; omega, by show sk.length + 1 + f0 ≤ F; omega, by show (v :: rest).length + f0 ≤ F + 1; omega⟩
              · show Hp w w10 [_, _, _, _, stE sa2 sc2 (v :: sk), _]
                rw [stE_push]
                exact hp10.tail
            · have c4 : ¬ ix.getD v 0 = 0 := by simpa using c4
              repeat (first | refine zA ?_ | refine zB ?_ | refine zC rfl rfl rfl ?_ | refine zD ?_ | refine zE ?_ | refine zF ?_ | refine zG rfl ?_ | refine zH rfl ?_ | refine zI rfl rfl rfl ?_ | refine zJ rfl rfl ?_ | refine zK ?_ | refine zL ?_ | refine zM rfl ?_ | refine zN ?_)
              refine ⟨(⟨ix, lw, of0, at0, sk, v :: rest, ct, nm⟩, sa, sc), ⟨rfl, rfl, rfl, rfl, rfl, rfl, rfl, rfl, rfl, rfl, rfl, rfl, rfl, rfl⟩, ?_, ?_, km, hp6⟩
              · show _ = tjEnter _ _
                unfold tjEnter
                rw [if_neg c4]
              · exact ⟨ki, kl, ko, ka, kp, kk, by show ct + f0 ≤ F; omega, by show nm + f0 ≤ F; omega, by show sk.length + f0 ≤ F; omega, by show (v :: rest).length + f0 ≤ F + 1; omega⟩
          rintro ⟨s1, sa, sc⟩ e7 w7 hsub ⟨hs1, hok, hnm, hp7⟩
          replace hnm : s1.number + (f0 + 1) ≤ F := hnm
          replace hs1 : s1 = tjEnter ⟨ix, lw, of0, at0, sk, v :: rest, ct, nm⟩ v := hs1
          replace hok : TjOk N F s1 f0 := hok
          replace hp7 : Hp w w7 (cpL ib lb ob ab s1 sa sc pa pc) := hp7
          refine WC.sub hsub ?_
          clear hsub e7 hp6
          rw [← hs1] at hturn
          have hpth : s1.path = v :: rest := by rw [hs1, tjEnter_path]
          clear hs1 e45
          obtain ⟨ix, lw, of0, at0, sk, pth, ct, nm⟩ := s1
          simp only at hpth
          subst hpth
          simp only at hnm
          obtain ⟨ki, kl, ko, ka, kp, kk, kc, km, kkl, kpl⟩ := hok
          simp only at ki kl ko ka kp kk kc km kkl kpl
          have e45 : IntKind.i64.wrap (((v :: rest).length : Nat) - 1 : Int) = ((rest.length : Nat) : Int) := by
            simp only [List.length_cons] at kpl ⊢
            rw [wrap_mid (by omega) (by omega)]; omega
          have hvr : v < rs.length := by omega
          have hrb := hrow _ (List.getElem_mem hvr)
          have hrin := hin _ (List.getElem_mem hvr)
          have hrs := hT.rows _ (List.getElem_mem hvr)
          obtain ⟨ta, to, hta, htc⟩ := hT.tab _ _ (rsV_at hvr)
          unfold tjTurn at hturn
          rw [rsN_at hvr] at hturn
          generalize rs[v] = r at *
          obtain ⟨ra, rc, row⟩ := r
          simp only at hrb hrin hrs htc hturn
          subst hta
          refine WC.seq ?_
          refine WC.seq ?_
          refine WC.regQ (fun w' => Hp w w' (cpL ib lb ob ab ⟨ix, lw, of0, at0, sk, v :: rest, ct, nm⟩ sa sc pa pc)) mixed (by kernel_rfl) (fun w' hw' => hp7.keep hw') ?_
          repeat (first | refine WQ.pure rfl rfl rfl ?_ | refine WQ.off rfl rfl rfl ?_ | refine WQ.nil ?_)
          refine WQ.ixload rfl (fun _ => rfl) rfl rfl rfl rfl rfl rfl rfl hv rfl rfl (fun w' h => Sl.cell (cE_sl h 3 rfl) (nd ka hv)) ?_
          repeat (first | refine WQ.pure rfl rfl rfl ?_ | refine WQ.off rfl rfl rfl ?_ | refine WQ.nil ?_)
          refine WQ.ixload rfl (fun _ => rfl) rfl rfl rfl rfl rfl rfl rfl hv rfl rfl (fun w' h => cell_below h.below htc) ?_
          repeat (first | refine WQ.pure rfl rfl rfl ?_ | refine WQ.off rfl rfl rfl ?_ | refine WQ.nil ?_)
          intro w8 hp8
          clear hp7
          refine WC.cond rfl (fun c5 => ?_) (fun c5 => ?_)
          · have c5 : at0.getD v 0 < row.length := by have h : ((at0.getD v 0 : Nat) : Int) < ((row.length : Nat) : Int) := of_decide_eq_true c5; omega
            rw [if_pos c5] at hturn
            obtain ⟨u, hu⟩ : ∃ u, u = row.getD (at0.getD v 0) 0 := ⟨_, rfl⟩
            rw [← hu] at hturn
            have hu1 : row[at0.getD v 0]? = some u := by rw [hu]; exact getD_some c5
            have huN : u < N := hrin u (List.mem_of_getElem? hu1)
            have hun : (natL row)[at0.getD v 0]? = some (.int .i64 (u : Nat)) := by rw [natL_get c5, hu]
            obtain ⟨rb, ro, rfl, hrcell⟩ := hrs _ _ hun
            have sta := wrap_succ (i := at0.getD v 0) (n := at0.getD v 0 + 1) (by omega) (by omega)
            simp only [Option.some.injEq] at hturn
            repeat (first | refine WC.seq ?_ | refine WC.skip ?_ | refine WC.block ?_)
            refine WC.regQ (fun w' => Hp w w' (cpL ib lb ob ab ⟨ix, lw, of0, at0, sk, v :: rest, ct, nm⟩ sa sc pa pc)) mixed (by kernel_rfl) (fun w' hw' => hp8.keep hw') ?_
            repeat (first | refine WQ.pure rfl rfl rfl ?_ | refine WQ.off rfl rfl rfl ?_ | refine WQ.nil ?_)
            refine WQ.ixload rfl (fun _ => rfl) rfl rfl rfl rfl rfl rfl rfl hv rfl rfl (fun w' h => cell_below h.below htc) ?_
            repeat (first | refine WQ.pure rfl rfl rfl ?_ | refine WQ.off rfl rfl rfl ?_ | refine WQ.nil ?_)
            refine WQ.ixload rfl (fun _ => rfl) rfl rfl rfl rfl rfl rfl rfl hv rfl rfl (fun w' h => Sl.cell (cE_sl h 3 rfl) (nd ka hv)) ?_
            refine WQ.ixload rfl (fun _ => rfl) rfl rfl rfl rfl rfl rfl rfl c5 rfl rfl (fun w' h => cell_below h.below hrcell) ?_
            repeat (first | refine WQ.pure rfl rfl rfl ?_ | refine WQ.off rfl rfl rfl ?_ | refine WQ.nil ?_)
            intro w9 hp9
            clear hp8
            repeat (first | refine zA ?_ | refine zB ?_ | refine zC rfl rfl rfl ?_ | refine zD ?_ | refine zE ?_ | refine zF ?_ | refine zG rfl ?_ | refine zH rfl ?_ | refine zI rfl rfl rfl ?_ | refine zJ rfl rfl ?_ | refine zK ?_ | refine zL ?_ | refine zM rfl ?_ | refine zN ?_)
            refine WL.ixload rfl (fun _ => rfl) rfl rfl rfl rfl rfl rfl rfl hv rfl rfl (cE_sl hp9 3 rfl) (nd ka hv) ?_
            intro q
            refine WL.pure rfl rfl rfl ?_
            refine WL.known (d := 91) (congrArg (fun z => some (Value.int .i64 z)) sta) ?_
            refine WL.ix1 rfl rfl rfl rfl rfl rfl rfl hv ?_
            rw [Nat.zero_add]
            refine WL.store rfl rfl rfl rfl rfl rfl (hp9.obj 3 rfl) (cE_room ka hv) (fun w10 h10 => ?_)
            have hp10 : Hp w w10 (cpL ib lb ob ab ⟨ix, lw, of0, at0.set v (at0.getD v 0 + 1), sk, v :: rest, ct, nm⟩ sa sc pa pc) := cE_set hp9 3 rfl rfl h10
            repeat (first | refine zA ?_ | refine zB ?_ | refine zC rfl rfl rfl ?_ | refine zD ?_ | refine zE ?_ | refine zF ?_ | refine zG rfl ?_ | refine zH rfl ?_ | refine zI rfl rfl rfl ?_ | refine zJ rfl rfl ?_ | refine zK ?_ | refine zL ?_ | refine zM rfl ?_ | refine zN ?_)
            refine WL.ixload rfl (fun _ => rfl) rfl rfl rfl rfl rfl rfl rfl huN rfl rfl (cE_sl hp10 0 rfl) (nd ki huN) ?_
            intro q
            repeat (first | refine zA ?_ | refine zB ?_ | refine zC rfl rfl rfl ?_ | refine zD ?_ | refine zE ?_ | refine zF ?_ | refine zG rfl ?_ | refine zH rfl ?_ | refine zI rfl rfl rfl ?_ | refine zJ rfl rfl ?_ | refine zK ?_ | refine zL ?_ | refine zM rfl ?_ | refine zN ?_)
            unfold tjGo tjNext at hturn
            simp only at hturn
            refine WC.cond rfl (fun c6 => ?_) (fun c6 => ?_)
            · have c6 : ix.getD u 0 = 0 := by simpa using c6
              rw [if_pos c6] at hturn
              subst hturn
              repeat (first | refine zA ?_ | refine zB ?_ | refine zC rfl rfl rfl ?_ | refine zD ?_ | refine zE ?_ | refine zF ?_ | refine zG rfl ?_ | refine zH rfl ?_ | refine zI rfl rfl rfl ?_ | refine zJ rfl rfl ?_ | refine zK ?_ | refine zL ?_ | refine zM rfl ?_ | refine zN ?_)
              refine WL.buildS (cs := [.int .i64 (u : Nat)]) rfl rfl rfl rfl rfl rfl rfl rfl rfl (fun b11 w11 h11 => ?_)
              have hp11 := hp10.new h11
              refine WL.append 6 hp11 rfl rfl rfl rfl rfl (by decide) rfl rfl rfl (news := [.int .i64 (u : Nat)]) (Sl.of_obj (hp11.obj 0 rfl) (fun q u hq => by simpa using hq)) rfl (natL_cells [u]) (by unfold maxLen; show (v :: rest).length + 1 ≤ _; omega) (by show ((v :: rest).length + 1) * 8 ≤ _; omega) ?_
              intro pa2 pc2 w12 hp12 _
              repeat (first | refine zA ?_ | refine zB ?_ | refine zC rfl rfl rfl ?_ | refine zD ?_ | refine zE ?_ | refine zF ?_ | refine zG rfl ?_ | refine zH rfl ?_ | refine zI rfl rfl rfl ?_ | refine zJ rfl rfl ?_ | refine zK ?_ | refine zL ?_ | refine zM rfl ?_ | refine zN ?_)
              refine ⟨(f0, ⟨ix, lw, of0, at0.set v (at0.getD v 0 + 1), sk, u :: v :: rest, ct, nm⟩, sa, sc, pa2, pc2), Nat.lt_succ_self f0, ⟨rfl, rfl, rfl, rfl, rfl, rfl, rfl, rfl, rfl, rfl, rfl, rfl, rfl⟩, hR2, ?_, ?_⟩
              · exact ⟨ki, kl, ko, by simpa using ka, mem_set kp huN, kk, kc, km, kkl, by show rest.length + 1 + 1 + f0 ≤ F + 1; omega⟩
              · show Hp w w12 [_, _, _, _, _, stE pa2 pc2 (u :: v :: rest)]
                rw [stE_push]
                exact hp12.tail
            · have c6 : ¬ ix.getD u 0 = 0 := by simpa using c6
              rw [if_neg c6] at hturn
              repeat (first | refine zA ?_ | refine zB ?_ | refine zC rfl rfl rfl ?_ | refine zD ?_ | refine zE ?_ | refine zF ?_ | refine zG rfl ?_ | refine zH rfl ?_ | refine zI rfl rfl rfl ?_ | refine zJ rfl rfl ?_ | refine zK ?_ | refine zL ?_ | refine zM rfl ?_ | refine zN ?_)
              refine WL.ixload rfl (fun _ => rfl) rfl rfl rfl rfl rfl rfl rfl huN rfl rfl (cE_sl hp10 2 rfl) (nd ko huN) ?_
              intro q
              repeat (first | refine zA ?_ | refine zB ?_ | refine zC rfl rfl rfl ?_ | refine zD ?_ | refine zE ?_ | refine zF ?_ | refine zG rfl ?_ | refine zH rfl ?_ | refine zI rfl rfl rfl ?_ | refine zJ rfl rfl ?_ | refine zK ?_ | refine zL ?_ | refine zM rfl ?_ | refine zN ?_)
              refine WC.cond rfl (fun c7 => ?_) (fun c7 => ?_)
              · have c7 : of0.getD u 0 = 0 := by simpa using c7
                rw [if_pos c7] at hturn
                subst hturn
                refine WC.regS 12 mixed (by kernel_rfl) rfl rfl (fun w11 hw11 hh11 => ?_)
                have hp11 := hp10.keep hw11
                repeat (first | refine WS.pure rfl rfl rfl ?_ | refine WS.off rfl rfl rfl ?_ | refine WS.nil ?_)
                refine WS.ix1 rfl rfl rfl rfl rfl rfl rfl hv ?_
                refine WS.load rfl rfl rfl rfl rfl (Sl.cell (cE_sl hp11 1 rfl) (nd kl hv)) ?_
                repeat (first | refine WS.pure rfl rfl rfl ?_ | refine WS.off rfl rfl rfl ?_ | refine WS.nil ?_)
                refine WS.ix1 rfl rfl rfl rfl rfl rfl rfl huN ?_
                refine WS.load rfl rfl rfl rfl rfl (Sl.cell (cE_sl hp11 0 rfl) (nd ki huN)) ?_
                repeat (first | refine WS.pure rfl rfl rfl ?_ | refine WS.off rfl rfl rfl ?_ | refine WS.nil ?_)
                refine WS.known (d := 117) (congrArg (fun z => some (Value.int .i64 z)) (cast_min (lw.getD v 0) (ix.getD u 0))) ?_
                refine WS.ix1 rfl rfl rfl rfl rfl rfl rfl hv ?_
                rw [Nat.zero_add]
                repeat (first | refine WS.pure rfl rfl rfl ?_ | refine WS.off rfl rfl rfl ?_ | refine WS.nil ?_)
                refine WL.store rfl rfl rfl rfl rfl rfl (hp11.obj 1 rfl) (cE_room kl hv) (fun w12 h12 => ?_)
                have hp12 : Hp w w12 (cpL ib lb ob ab ⟨ix, lw.set v (min (lw.getD v 0) (ix.getD u 0)), of0, at0.set v (at0.getD v 0 + 1), sk, v :: rest, ct, nm⟩ sa sc pa pc) := cE_set hp11 1 rfl rfl h12
                repeat (first | refine zA ?_ | refine zB ?_ | refine zC rfl rfl rfl ?_ | refine zD ?_ | refine zE ?_ | refine zF ?_ | refine zG rfl ?_ | refine zH rfl ?_ | refine zI rfl rfl rfl ?_ | refine zJ rfl rfl ?_ | refine zK ?_ | refine zL ?_ | refine zM rfl ?_ | refine zN ?_)
                exact ⟨(f0, ⟨ix, lw.set v (min (lw.getD v 0) (ix.getD u 0)), of0, at0.set v (at0.getD v 0 + 1), sk, v :: rest, ct, nm⟩, sa, sc, pa, pc), Nat.lt_succ_self f0, ⟨rfl, rfl, rfl, rfl, rfl, rfl, rfl, rfl, rfl, rfl, rfl, rfl, rfl⟩, hR2, ⟨ki, by simpa using kl, ko, by simpa using ka, kp, kk, kc, km, kkl, kpl⟩, hp12⟩
              · have c7 : ¬ of0.getD u 0 = 0 := by simpa using c7
                rw [if_neg c7] at hturn
                subst hturn
                repeat (first | refine zA ?_ | refine zB ?_ | refine zC rfl rfl rfl ?_ | refine zD ?_ | refine zE ?_ | refine zF ?_ | refine zG rfl ?_ | refine zH rfl ?_ | refine zI rfl rfl rfl ?_ | refine zJ rfl rfl ?_ | refine zK ?_ | refine zL ?_ | refine zM rfl ?_ | refine zN ?_)
                exact ⟨(f0, ⟨ix, lw, of0, at0.set v (at0.getD v 0 + 1), sk, v :: rest, ct, nm⟩, sa, sc, pa, pc), Nat.lt_succ_self f0, ⟨rfl, rfl, rfl, rfl, rfl, rfl, rfl, rfl, rfl, rfl, rfl, rfl, rfl⟩, hR2, ⟨ki, kl, ko, by simpa using ka, kp, kk, kc, km, kkl, kpl⟩, hp10⟩
          · have c5 : ¬ at0.getD v 0 < row.length := by have h : ¬ ((at0.getD v 0 : Nat) : Int) < ((row.length : Nat) : Int) := of_decide_eq_false c5; omega
            rw [if_neg c5] at hturn
            have hpc := hp8.capR 5 rfl
            repeat (first | refine zA ?_ | refine zB ?_ | refine zC rfl rfl rfl ?_ | refine zD ?_ | refine zE ?_ | refine zF ?_ | refine zG rfl ?_ | refine zH rfl ?_ | refine zI rfl rfl rfl ?_ | refine zJ rfl rfl ?_ | refine zK ?_ | refine zL ?_ | refine zM rfl ?_ | refine zN ?_)
            refine WL.known (d := 122) (congrArg (fun z => some (Value.int .i64 z)) e45) ?_
            refine WL.sliceHi (h := rest.length) rfl rfl rfl rfl rfl rfl (by have : rest.length + 1 ≤ pc := hpc; omega) ?_
            have hp9 : Hp w w8 [cE ib ix, cE lb lw, cE ob of0, cE ab at0, stE sa sc sk, stE pa pc rest] := hp8.rowCut 5 rfl (m := rest.length) (Nat.le_succ _) (by rw [top_take]; rfl)
            clear hp8
            refine WL.pure rfl rfl rfl ?_
            refine WL.nil ?_
            refine WC.seq ?_
            refine WC.mid Tj (fun s => (13, .int .i64 (v : Nat)) :: cpE (some ⟨ta, to, none⟩) cn N ib lb ob ab root s sa sc pa pc)
              (fun s w' => s = tjUp ⟨ix, lw, of0, at0, sk, v :: rest, ct, nm⟩ v rest ∧ TjOk N F s f0 ∧ s.number + (f0 + 1) ≤ F ∧ Hp w w' (cpL ib lb ob ab s sa sc pa pc)) ?_ ?_
            · repeat (first | refine zA ?_ | refine zB ?_ | refine zC rfl rfl rfl ?_ | refine zD ?_ | refine zE ?_ | refine zF ?_ | refine zG rfl ?_ | refine zH rfl ?_ | refine zI rfl rfl rfl ?_ | refine zJ rfl rfl ?_ | refine zK ?_ | refine zL ?_ | refine zM rfl ?_ | refine zN ?_)
              refine WC.cond rfl (fun c6 => ?_) (fun c6 => ?_)
              · obtain ⟨up, rest2, rfl⟩ : ∃ up rest2, rest = up :: rest2 := by
                  cases rest with
                  | nil => have := of_decide_eq_true c6; simp at this
                  | cons up rest2 => exact ⟨up, rest2, rfl⟩
                have hup : up < N := kp up (by simp)
                have e130 : IntKind.i64.wrap (((up :: rest2).length : Nat) - 1 : Int) = ((rest2.length : Nat) : Int) := by
                  simp only [List.length_cons] at kpl ⊢
                  rw [wrap_mid (by omega) (by omega)]; omega
                repeat (first | refine zA ?_ | refine zB ?_ | refine zC rfl rfl rfl ?_ | refine zD ?_ | refine zE ?_ | refine zF ?_ | refine zG rfl ?_ | refine zH rfl ?_ | refine zI rfl rfl rfl ?_ | refine zJ rfl rfl ?_ | refine zK ?_ | refine zL ?_ | refine zM rfl ?_ | refine zN ?_)
                refine WL.known (d := 130) (congrArg (fun z => some (Value.int .i64 z)) e130) ?_
                refine WL.ixload (j := rest2.length) rfl (fun _ => rfl) rfl rfl rfl rfl rfl rfl rfl (Nat.lt_succ_self _) rfl rfl (stE_sl hp9 5 rfl) (top_at up rest2) ?_
                intro q
                repeat (first | refine zA ?_ | refine zB ?_ | refine zC rfl rfl rfl ?_ | refine zD ?_ | refine zE ?_ | refine zF ?_ | refine zG rfl ?_ | refine zH rfl ?_ | refine zI rfl rfl rfl ?_ | refine zJ rfl rfl ?_ | refine zK ?_ | refine zL ?_ | refine zM rfl ?_ | refine zN ?_)
                refine WC.regS 12 mixed (by kernel_rfl) rfl rfl (fun w11 hw11 hh11 => ?_)
                have hp11 := hp9.keep hw11
                repeat (first | refine WS.pure rfl rfl rfl ?_ | refine WS.off rfl rfl rfl ?_ | refine WS.nil ?_)
                refine WS.ix1 rfl rfl rfl rfl rfl rfl rfl hup ?_
                refine WS.load rfl rfl rfl rfl rfl (Sl.cell (cE_sl hp11 1 rfl) (nd kl hup)) ?_
                repeat (first | refine WS.pure rfl rfl rfl ?_ | refine WS.off rfl rfl rfl ?_ | refine WS.nil ?_)
                refine WS.ix1 rfl rfl rfl rfl rfl rfl rfl hv ?_
                refine WS.load rfl rfl rfl rfl rfl (Sl.cell (cE_sl hp11 1 rfl) (nd kl hv)) ?_
                repeat (first | refine WS.pure rfl rfl rfl ?_ | refine WS.off rfl rfl rfl ?_ | refine WS.nil ?_)
                refine WS.known (d := 143) (congrArg (fun z => some (Value.int .i64 z)) (cast_min (lw.getD up 0) (lw.getD v 0))) ?_
                refine WS.ix1 rfl rfl rfl rfl rfl rfl rfl hup ?_
                rw [Nat.zero_add]
                repeat (first | refine WS.pure rfl rfl rfl ?_ | refine WS.off rfl rfl rfl ?_ | refine WS.nil ?_)
                refine WL.store rfl rfl rfl rfl rfl rfl (hp11.obj 1 rfl) (cE_room kl hup) (fun w12 h12 => ?_)
                have hp12 := cE_set hp11 1 rfl rfl h12
                repeat (first | refine zA ?_ | refine zB ?_ | refine zC rfl rfl rfl ?_ | refine zD ?_ | refine zE ?_ | refine zF ?_ | refine zG rfl ?_ | refine zH rfl ?_ | refine zI rfl rfl rfl ?_ | refine zJ rfl rfl ?_ | refine zK ?_ | refine zL ?_ | refine zM rfl ?_ | refine zN ?_)
                exact ⟨⟨ix, lw.set up (min (lw.getD up 0) (lw.getD v 0)), of0, at0, sk, up :: rest2, ct, nm⟩, ⟨rfl, rfl, rfl, rfl, rfl, rfl, rfl, rfl, rfl, rfl, rfl, rfl, rfl, rfl⟩, rfl, ⟨ki, by simpa using kl, ko, ka, fun x hx => kp x (List.mem_cons_of_mem _ hx), kk, kc, km, kkl, by simp only [List.length_cons] at kpl ⊢; omega⟩, hnm, hp12⟩
              · obtain rfl : rest = [] := by
                  cases rest with
                  | nil => rfl
                  | cons up rest2 => have := of_decide_eq_false c6; simp at this
                repeat (first | refine zA ?_ | refine zB ?_ | refine zC rfl rfl rfl ?_ | refine zD ?_ | refine zE ?_ | refine zF ?_ | refine zG rfl ?_ | refine zH rfl ?_ | refine zI rfl rfl rfl ?_ | refine zJ rfl rfl ?_ | refine zK ?_ | refine zL ?_ | refine zM rfl ?_ | refine zN ?_)
                exact ⟨⟨ix, lw, of0, at0, sk, [], ct, nm⟩, ⟨rfl, rfl, rfl, rfl, rfl, rfl, rfl, rfl, rfl, rfl, rfl, rfl, rfl, rfl⟩, rfl, ⟨ki, kl, ko, ka, fun x hx => (by cases hx), kk, kc, km, kkl, by simp only [List.length_cons, List.length_nil] at kpl ⊢; omega⟩, hnm, hp9⟩
            rintro s3 e9 w9 hsub ⟨hs3, hok, hnm, hp10⟩
            rw [← hs3] at hturn
            refine WC.sub hsub ?_
            clear hsub e9 hs3 hp9 ki kl ko ka kp kk kc km kkl kpl e45 hpc
            obtain ⟨ix, lw, of0, at0, sk, pth, ct, nm⟩ := s3
            obtain ⟨ki, kl, ko, ka, kp, kk, kc, km, kkl, kpl⟩ := hok
            simp only at ki kl ko ka kp kk kc km kkl kpl hnm
            replace hp10 : Hp w w9 (cpL ib lb ob ab ⟨ix, lw, of0, at0, sk, pth, ct, nm⟩ sa sc pa pc) := hp10
            unfold tjDone at hturn
            simp only at hturn
            refine WC.seq ?_
            refine WC.regQ (fun w' => Hp w w' (cpL ib lb ob ab ⟨ix, lw, of0, at0, sk, pth, ct, nm⟩ sa sc pa pc)) mixed (by kernel_rfl) (fun w' hw' => hp10.keep hw') ?_
            repeat (first | refine WQ.pure rfl rfl rfl ?_ | refine WQ.off rfl rfl rfl ?_ | refine WQ.nil ?_)
            refine WQ.ixload rfl (fun _ => rfl) rfl rfl rfl rfl rfl rfl rfl hv rfl rfl (fun w' h => Sl.cell (cE_sl h 1 rfl) (nd kl hv)) ?_
            repeat (first | refine WQ.pure rfl rfl rfl ?_ | refine WQ.off rfl rfl rfl ?_ | refine WQ.nil ?_)
            refine WQ.ixload rfl (fun _ => rfl) rfl rfl rfl rfl rfl rfl rfl hv rfl rfl (fun w' h => Sl.cell (cE_sl h 0 rfl) (nd ki hv)) ?_
            repeat (first | refine WQ.pure rfl rfl rfl ?_ | refine WQ.off rfl rfl rfl ?_ | refine WQ.nil ?_)
            intro w11 hp11
            clear hp10
            refine WC.cond rfl (fun c6 => ?_) (fun c6 => ?_)
            · have c6 : lw.getD v 0 = ix.getD v 0 := Int.ofNat_inj.1 (beq_iff_eq.1 c6)
              rw [if_pos c6] at hturn
              have stn := wrap_succ (i := nm) (n := nm + 1) (by omega) (by omega)
              cases hpop : popM v (nm + 1) sk of0 with
              | none => rw [hpop] at hturn; cases hturn
              | some ko2 =>
              obtain ⟨k2, o2⟩ := ko2
              rw [hpop] at hturn
              simp only [Option.some.injEq] at hturn
              subst hturn
              refine WC.seq ?_
              refine WC.reg ?_
              refine WL.pure rfl rfl rfl ?_
              refine WL.pure rfl rfl rfl ?_
              refine WL.known (d := 155) (congrArg (fun z => some (Value.int .i64 z)) stn) ?_
              repeat (first | refine zA ?_ | refine zB ?_ | refine zC rfl rfl rfl ?_ | refine zD ?_ | refine zE ?_ | refine zF ?_ | refine zG rfl ?_ | refine zH rfl ?_ | refine zI rfl rfl rfl ?_ | refine zJ rfl rfl ?_ | refine zK ?_ | refine zL ?_ | refine zM rfl ?_ | refine zN ?_)
              refine WC.loop (List Nat × List Nat × Option Addr × Nat) (fun (sk, o, sa, sc) => (13, .int .i64 (v : Nat)) :: cpE (some ⟨ta, to, none⟩) cn N ib lb ob ab root ⟨ix, lw, o, at0, sk, pth, ct, nm + 1⟩ sa sc pa pc)
                (fun (sk, o, sa, sc) w' => popM v (nm + 1) sk o = some (k2, o2) ∧ o.length = N ∧ (∀ x ∈ sk, x < N) ∧ sk.length + f0 ≤ F ∧ Hp w w' (cpL ib lb ob ab ⟨ix, lw, o, at0, sk, pth, ct, nm + 1⟩ sa sc pa pc)) (fun (sk, _) => sk.length) (sk, of0, sa, sc) ⟨rfl, rfl, rfl, rfl, rfl, rfl, rfl, rfl, rfl, rfl, rfl, rfl, rfl, rfl⟩ ⟨hpop, ko, kk, kkl, hp11⟩ ?_
              clear hp11 hpop kk kkl ko
              rintro ⟨sk, o, sa, sc⟩ w12 ⟨hpop, ko, kk, kkl, hp12⟩
              replace hpop : popM v (nm + 1) sk o = some (k2, o2) := hpop
              replace ko : o.length = N := ko
              replace kk : ∀ x ∈ sk, x < N := kk
              replace kkl : sk.length + f0 ≤ F := kkl
              replace hp12 : Hp w w12 (cpL ib lb ob ab ⟨ix, lw, o, at0, sk, pth, ct, nm + 1⟩ sa sc pa pc) := hp12
              repeat (first | refine zA ?_ | refine zB ?_ | refine zC rfl rfl rfl ?_ | refine zD ?_ | refine zE ?_ | refine zF ?_ | refine zG rfl ?_ | refine zH rfl ?_ | refine zI rfl rfl rfl ?_ | refine zJ rfl rfl ?_ | refine zK ?_ | refine zL ?_ | refine zM rfl ?_ | refine zN ?_)
              refine WL.ixload rfl (fun _ => rfl) rfl rfl rfl rfl rfl rfl rfl hv rfl rfl (cE_sl hp12 2 rfl) (nd ko hv) ?_
              intro q
              repeat (first | refine zA ?_ | refine zB ?_ | refine zC rfl rfl rfl ?_ | refine zD ?_ | refine zE ?_ | refine zF ?_ | refine zG rfl ?_ | refine zH rfl ?_ | refine zI rfl rfl rfl ?_ | refine zJ rfl rfl ?_ | refine zK ?_ | refine zL ?_ | refine zM rfl ?_ | refine zN ?_)
              refine WC.cond rfl (fun c7 => ?_) (fun c7 => ?_)
              · have d7 : o.getD v 0 = 0 := by simpa using c7
                obtain ⟨x, sk2, rfl⟩ : ∃ x sk2, sk = x :: sk2 := by
                  cases sk with
                  | nil => unfold popM at hpop; rw [if_pos d7] at hpop; cases hpop
                  | cons x sk2 => exact ⟨x, sk2, rfl⟩
                unfold popM at hpop
                rw [if_pos d7] at hpop
                have hxN : x < N := kk x (by simp)
                have hsc := hp12.capR 4 rfl
                have e165 : IntKind.i64.wrap (((x :: sk2).length : Nat) - 1 : Int) = ((sk2.length : Nat) : Int) := by
                  simp only [List.length_cons] at kkl ⊢
                  rw [wrap_mid (by omega) (by omega)]; omega
                repeat (first | refine zA ?_ | refine zB ?_ | refine zC rfl rfl rfl ?_ | refine zD ?_ | refine zE ?_ | refine zF ?_ | refine zG rfl ?_ | refine zH rfl ?_ | refine zI rfl rfl rfl ?_ | refine zJ rfl rfl ?_ | refine zK ?_ | refine zL ?_ | refine zM rfl ?_ | refine zN ?_)
                refine WL.known (d := 165) (congrArg (fun z => some (Value.int .i64 z)) e165) ?_
                refine WL.ixload (j := sk2.length) rfl (fun _ => rfl) rfl rfl rfl rfl rfl rfl rfl (Nat.lt_succ_self _) rfl rfl (stE_sl hp12 4 rfl) (top_at x sk2) ?_
                intro q
                refine WL.pure rfl rfl rfl ?_
                refine WL.ix1 rfl rfl rfl rfl rfl rfl rfl hxN ?_
                rw [Nat.zero_add]
                refine WL.store rfl rfl rfl rfl rfl rfl (hp12.obj 2 rfl) (cE_room ko hxN) (fun w13 h13 => ?_)
                have hp13 : Hp w w13 (cpL ib lb ob ab ⟨ix, lw, o.set x (nm + 1), at0, x :: sk2, pth, ct, nm + 1⟩ sa sc pa pc) := cE_set hp12 2 rfl rfl h13
                repeat (first | refine zA ?_ | refine zB ?_ | refine zC rfl rfl rfl ?_ | refine zD ?_ | refine zE ?_ | refine zF ?_ | refine zG rfl ?_ | refine zH rfl ?_ | refine zI rfl rfl rfl ?_ | refine zJ rfl rfl ?_ | refine zK ?_ | refine zL ?_ | refine zM rfl ?_ | refine zN ?_)
                refine WL.known (d := 173) (congrArg (fun z => some (Value.int .i64 z)) e165) ?_
                refine WL.sliceHi (h := sk2.length) rfl rfl rfl rfl rfl rfl (by have : sk2.length + 1 ≤ sc := hsc; omega) ?_
                have hp14 : Hp w w13 (cpL ib lb ob ab ⟨ix, lw, o.set x (nm + 1), at0, sk2, pth, ct, nm + 1⟩ sa sc pa pc) := hp13.rowCut 4 rfl (m := sk2.length) (Nat.le_succ _) (by rw [top_take]; rfl)
                repeat (first | refine zA ?_ | refine zB ?_ | refine zC rfl rfl rfl ?_ | refine zD ?_ | refine zE ?_ | refine zF ?_ | refine zG rfl ?_ | refine zH rfl ?_ | refine zI rfl rfl rfl ?_ | refine zJ rfl rfl ?_ | refine zK ?_ | refine zL ?_ | refine zM rfl ?_ | refine zN ?_)
                exact ⟨(sk2, o.set x (nm + 1), sa, sc), Nat.lt_succ_self sk2.length, ⟨rfl, rfl, rfl, rfl, rfl, rfl, rfl, rfl, rfl, rfl, rfl, rfl, rfl, rfl⟩, hpop, by simpa using ko, fun y hy => kk y (List.mem_cons_of_mem _ hy), by simp only [List.length_cons] at kkl; omega, hp14⟩
              · have d7 : ¬ o.getD v 0 = 0 := by simpa using c7
                have hpe : (sk, o) = (k2, o2) := by
                  cases sk with
                  | nil => unfold popM at hpop; rw [if_neg d7] at hpop; simpa using hpop
                  | cons x sk2 => unfold popM at hpop; rw [if_neg d7] at hpop; simpa using hpop
                simp only [Prod.mk.injEq] at hpe
                obtain ⟨rfl, rfl⟩ := hpe
                repeat (first | refine zA ?_ | refine zB ?_ | refine zC rfl rfl rfl ?_ | refine zD ?_ | refine zE ?_ | refine zF ?_ | refine zG rfl ?_ | refine zH rfl ?_ | refine zI rfl rfl rfl ?_ | refine zJ rfl rfl ?_ | refine zK ?_ | refine zL ?_ | refine zM rfl ?_ | refine zN ?_)
                exact ⟨(f0, ⟨ix, lw, o, at0, sk, pth, ct, nm + 1⟩, sa, sc, pa, pc), Nat.lt_succ_self f0, ⟨rfl, rfl, rfl, rfl, rfl, rfl, rfl, rfl, rfl, rfl, rfl, rfl, rfl⟩, hR2, ⟨ki, kl, ko, ka, kp, kk, kc, by show nm + 1 + f0 ≤ F; omega, kkl, kpl⟩, hp12⟩
            · have c6 : ¬ lw.getD v 0 = ix.getD v 0 := fun h => by rw [h] at c6; simp at c6
              rw [if_neg c6] at hturn
              simp only [Option.some.injEq] at hturn
              subst hturn
              repeat (first | refine zA ?_ | refine zB ?_ | refine zC rfl rfl rfl ?_ | refine zD ?_ | refine zE ?_ | refine zF ?_ | refine zG rfl ?_ | refine zH rfl ?_ | refine zI rfl rfl rfl ?_ | refine zJ rfl rfl ?_ | refine zK ?_ | refine zL ?_ | refine zM rfl ?_ | refine zN ?_)
              exact ⟨(f0, ⟨ix, lw, of0, at0, sk, pth, ct, nm⟩, sa, sc, pa, pc), Nat.lt_succ_self f0, ⟨rfl, rfl, rfl, rfl, rfl, rfl, rfl, rfl, rfl, rfl, rfl, rfl, rfl⟩, hR2, ⟨ki, kl, ko, ka, kp, kk, kc, km, kkl, kpl⟩, hp11⟩
        · have c3 : pth = [] := List.eq_nil_of_length_eq_zero (by have h : ¬ (0 : Int) < ((pth.length : Nat) : Int) := of_decide_eq_false c3; omega)
          subst c3
          rw [tjRun_nil rfl] at hR
          simp only [Option.some.injEq, Prod.mk.injEq] at hR
          obtain ⟨rfl, rfl⟩ := hR
          repeat (first | refine zA ?_ | refine zB ?_ | refine zC rfl rfl rfl ?_ | refine zD ?_ | refine zE ?_ | refine zF ?_ | refine zG rfl ?_ | refine zH rfl ?_ | refine zI rfl rfl rfl ?_ | refine zJ rfl rfl ?_ | refine zK ?_ | refine zL ?_ | refine zM rfl ?_ | refine zN ?_)
          exact ⟨(f, ⟨ix, lw, of0, at0, sk, [], ct, nm⟩, sa, sc, pa, pc), ⟨rfl, rfl, rfl, rfl, rfl, rfl, rfl, rfl, rfl, rfl, rfl, rfl, rfl⟩, hC, rfl, hok, hp6⟩
    rintro ⟨f, s, sa, sc, pa, pc⟩ e4 w4 hsub ⟨hC, hpn, hok, hp4⟩
    refine WC.sub hsub ?_
    repeat (first | refine zA ?_ | refine zB ?_ | refine zC rfl rfl rfl ?_ | refine zD ?_ | refine zE ?_ | refine zF ?_ | refine zG rfl ?_ | refine zH rfl ?_ | refine zI rfl rfl rfl ?_ | refine zJ rfl rfl ?_ | refine zK ?_ | refine zL ?_ | refine zM rfl ?_ | refine zN ?_)
    exact ⟨(root + 1, f, s, sa, sc, pa, pc), (by show N - (root + 1) < N - root; omega), ⟨rfl, rfl, rfl, rfl, rfl, rfl, rfl, rfl, rfl, rfl, rfl, congrArg (fun z => some (Value.int .i64 z)) step, rfl⟩, hr, hC, hpn, hok, hp4⟩
  · have hr : root = N := by have := of_decide_eq_false c1; omega
    subst hr
    rw [Nat.sub_self] at hC
    unfold compRoots at hC
    simp only [Option.some.injEq] at hC
    subst hC
    subst hsF
    repeat (first | refine zA ?_ | refine zB ?_ | refine zC rfl rfl rfl ?_ | refine zD ?_ | refine zE ?_ | refine zF ?_ | refine zG rfl ?_ | refine zH rfl ?_ | refine zI rfl rfl rfl ?_ | refine zJ rfl rfl ?_ | refine zK ?_ | refine zL ?_ | refine zM rfl ?_ | refine zN ?_)
    exact Res.one rfl rfl rfl ⟨ob, rfl, hok.o, hp3.pick [2] (by decide)⟩
end Go.Proofs.YtpbbneclkhfgoaaDoor
end
