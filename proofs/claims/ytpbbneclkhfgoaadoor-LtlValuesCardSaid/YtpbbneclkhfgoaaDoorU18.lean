/- ltl, eighteenth: newSearch (printed by genu18.py). -/
import Derived.Test.YtpbbneclkhfgoaaDoorU17
namespace Go.Ltl
open Go.W
/-- The values for all guesses at a mark, and at all marks. -/
def gsM (f : Fm) (pairs : Nat) (m : Int) : List (Bool × Gs) := (List.range pairs).map fun b => gval m b f (0, 0, 0)
def newM (f : Fm) (pairs : Nat) (ms : List Int) : List (Bool × Gs) := ms.flatMap (gsM f pairs)
theorem newM_len (f : Fm) (pairs : Nat) (ms : List Int) : (newM f pairs ms).length = ms.length * pairs := by
  unfold newM
  induction ms with
  | nil => simp
  | cons m ms ih => rw [List.flatMap_cons, List.length_append, ih, gsM, List.length_map, List.length_range, List.length_cons, Nat.add_mul]; omega
theorem newM_take (f : Fm) (pairs : Nat) (ms : List Int) {i : Nat} (hi : i < ms.length) : newM f pairs (ms.take (i + 1)) = newM f pairs (ms.take i) ++ gsM f pairs ms[i] := by
  unfold newM
  rw [List.take_succ_eq_append_getElem hi, List.flatMap_append, List.flatMap_singleton]
end Go.Ltl
namespace Go.Proofs.YtpbbneclkhfgoaaDoor
open Go.W Go.Ltl Go.RowKit
set_option maxRecDepth 100000
attribute [local irreducible] WC WL WQ WS WH

/-- Rows of what is known of the states of the search. -/
def natL (l : List Nat) : List Value := l.map fun (n : Nat) => Value.int .i64 n
theorem natL_cells (l : List Nat) : Cells (natL l) := by
  intro v hv
  obtain ⟨x, _, rfl⟩ := List.mem_map.1 hv
  rfl
theorem bl_cells (l : List Bool) : Cells (bl l) := by
  intro v hv
  obtain ⟨x, _, rfl⟩ := List.mem_map.1 hv
  rfl
abbrev Rbo (v : Value) (n : Nat) (l : List Bool) : Ent := .row 4 1 v n (bl l)
abbrev Rna (v : Value) (n : Nat) (l : List Nat) : Ent := .row 3 1 v n (natL l)
/-- The search with all its rows. -/
abbrev Sall (xb : Nat) (nx mk : Value) (starts : Nat) (la : Option Addr) (lc : Nat) (lk : List Fm) (pairs : Nat) (wa : Option Addr) (wc : Nat) (ta : Option Addr) (tc : Nat) (fa : Option Addr) (fc : Nat) (E : List (Bool × Gs)) (L : List Ent) : List Ent :=
  Sx xb nx mk starts (.slice la lk.length lc) pairs (.slice wa E.length wc) (.slice ta E.length tc) (.slice fa E.length fc) :: Rbo (.slice ta E.length tc) E.length (E.map (·.1)) :: Rna (.slice wa E.length wc) E.length (E.map (·.2.2.1)) :: Rna (.slice fa E.length fc) E.length (E.map (·.2.2.2)) :: Rf (.slice la lk.length lc) lk :: L
theorem newSearch_any (an : Option Addr) (cn : Nat) (am : Option Addr) (cm : Nat) (vs : Vs) (ms : List Int) (hms : ms.length ≤ 16) (hm : ∀ m ∈ ms, 0 ≤ m ∧ m ≤ 15) (f : Fm) (hwf : wfF f) (hlk : looksN f ≤ 12) (starts : Nat) (w : World) (hst : Sl w am (zs ms)) :
    Ret Tryd.prog 60 [stV an cn am cm vs ms, fmV f, .int .i64 (starts : Nat)] w fun v w' => ∃ xb la lc wa wc ta tc fa fc, v = ptr xb ∧ Hp w w' (Sall xb (.slice an vs.length cn) (.slice am ms.length cm) starts la lc (findM f) (2 ^ looksN f) wa wc ta tc fa fc (newM f (2 ^ looksN f) ms) []) := by
  have hfl := findM_len f hwf
  have hpw : 2 ^ looksN f ≤ 4096 := Nat.pow_le_pow_right (n := 2) (by decide) hlk
  refine enter Tryd.func60 rfl rfl ⟨rfl, rfl⟩ rfl ?_
  repeat (first | refine WC.seq ?_ | refine WC.reg ?_ | refine WL.pure rfl rfl rfl ?_ | refine WL.nil ?_ | refine WC.skip ?_ | refine WC.block ?_ | refine WC.condT rfl ?_ | refine WC.condF rfl ?_ | refine WL.off rfl rfl rfl ?_ | refine WL.off0 rfl rfl ?_ | refine WC.exit ?_ | refine blk_hit ?_ | refine blk_miss rfl ?_ | refine WC.ret ?_)
  refine WL.box rfl rfl rfl (fun b w1 h1 => ?_)
  have hp1 : Hp w w1 [Sb b an cn am cm vs ms] := (Hp.start w).new h1
  repeat (first | refine WC.seq ?_ | refine WC.reg ?_ | refine WL.pure rfl rfl rfl ?_ | refine WL.nil ?_ | refine WC.skip ?_ | refine WC.block ?_ | refine WC.condT rfl ?_ | refine WC.condF rfl ?_ | refine WL.off rfl rfl rfl ?_ | refine WL.off0 rfl rfl ?_ | refine WC.exit ?_ | refine blk_hit ?_ | refine blk_miss rfl ?_ | refine WC.ret ?_)
  refine WL.loadN rfl rfl rfl rfl rfl (cs := [.slice an vs.length cn, .slice am ms.length cm]) rfl (fun q v hq => cell_of_obj (hp1.obj 0 rfl) (by rw [Nat.zero_add]; simpa using hq)) ?_
  repeat (first | refine WC.seq ?_ | refine WC.reg ?_ | refine WL.pure rfl rfl rfl ?_ | refine WL.nil ?_ | refine WC.skip ?_ | refine WC.block ?_ | refine WC.condT rfl ?_ | refine WC.condF rfl ?_ | refine WL.off rfl rfl rfl ?_ | refine WL.off0 rfl rfl ?_ | refine WC.exit ?_ | refine blk_hit ?_ | refine blk_miss rfl ?_ | refine WC.ret ?_)
  refine WL.buildT (cs := [.slice an vs.length cn, .slice am ms.length cm, .int .i64 (starts : Nat), .slice none 0 0, .int .i64 0, .slice none 0 0, .slice none 0 0, .slice none 0 0]) rfl rfl rfl rfl rfl rfl ?_
  refine WL.box rfl rfl rfl (fun xb w2 h2 => ?_)
  have hp2 : Hp w w2 (Sx xb (.slice an vs.length cn) (.slice am ms.length cm) starts (.slice none 0 0) 0 (.slice none 0 0) (.slice none 0 0) (.slice none 0 0) :: Rf (.slice none 0 0) [] :: [Sb b an cn am cm vs ms]) := ((hp1.new h2).nilrow 87 1).swap
  repeat (first | refine WC.seq ?_ | refine WC.reg ?_ | refine WL.pure rfl rfl rfl ?_ | refine WL.nil ?_ | refine WC.skip ?_ | refine WC.block ?_ | refine WC.condT rfl ?_ | refine WC.condF rfl ?_ | refine WL.off rfl rfl rfl ?_ | refine WL.off0 rfl rfl ?_ | refine WC.exit ?_ | refine blk_hit ?_ | refine blk_miss rfl ?_ | refine WC.ret ?_)
  refine WL.call rfl rfl rfl rfl rfl ent85 (find_any xb _ _ starts 0 _ _ _ _ f hwf [] none 0 w2 (by rw [List.length_nil]; omega) hp2) ?_
  rintro v w3 ⟨la, lc, hp3⟩
  rw [List.nil_append] at hp3
  have e1 : shl .i64 1 (findM f).length = ((2 ^ looksN f : Nat) : Int) := by rw [hfl]; exact shl_one (by omega)
  repeat (first | refine WC.seq ?_ | refine WC.reg ?_ | refine WL.pure rfl rfl rfl ?_ | refine WL.nil ?_ | refine WC.skip ?_ | refine WC.block ?_ | refine WC.condT rfl ?_ | refine WC.condF rfl ?_ | refine WL.off rfl rfl rfl ?_ | refine WL.off0 rfl rfl ?_ | refine WC.exit ?_ | refine blk_hit ?_ | refine blk_miss rfl ?_ | refine WC.ret ?_)
  refine WL.nilC rfl rfl rfl ?_
  repeat (first | refine WC.seq ?_ | refine WC.reg ?_ | refine WL.pure rfl rfl rfl ?_ | refine WL.nil ?_ | refine WC.skip ?_ | refine WC.block ?_ | refine WC.condT rfl ?_ | refine WC.condF rfl ?_ | refine WL.off rfl rfl rfl ?_ | refine WL.off0 rfl rfl ?_ | refine WC.exit ?_ | refine blk_hit ?_ | refine blk_miss rfl ?_ | refine WC.ret ?_)
  refine WL.loadB rfl rfl rfl rfl rfl (hp3.obj 0 rfl) (j := 3) rfl ?_
  refine WL.pure rfl rfl rfl ?_
  refine WL.pure rfl rfl rfl ?_
  refine WL.known (d := 26) (congrArg (fun z => some (Value.int .i64 z)) e1) ?_
  refine WL.nilC rfl rfl rfl ?_
  repeat (first | refine WC.seq ?_ | refine WC.reg ?_ | refine WL.pure rfl rfl rfl ?_ | refine WL.nil ?_ | refine WC.skip ?_ | refine WC.block ?_ | refine WC.condT rfl ?_ | refine WC.condF rfl ?_ | refine WL.off rfl rfl rfl ?_ | refine WL.off0 rfl rfl ?_ | refine WC.exit ?_ | refine blk_hit ?_ | refine blk_miss rfl ?_ | refine WC.ret ?_)
  refine WL.store rfl rfl rfl rfl rfl rfl (hp3.obj 0 rfl) (by show 4 < 8; decide) (fun w4 h4 => ?_)
  have hp4 := ((((hp3.set 0 rfl rfl h4).nilrow 4 1).nilrow 3 1).nilrow 3 1).pick [3, 2, 1, 0, 4, 5] (by decide)
  replace hp4 : Hp w w4 (Sall xb (.slice an vs.length cn) (.slice am ms.length cm) starts la lc (findM f) (2 ^ looksN f) none 0 none 0 none 0 (newM f (2 ^ looksN f) (ms.take 0)) [Sb b an cn am cm vs ms]) := hp4
  generalize 2 ^ looksN f = pairs at *
  generalize findM f = lk at *
  repeat (first | refine WC.seq ?_ | refine WC.reg ?_ | refine WL.pure rfl rfl rfl ?_ | refine WL.nil ?_ | refine WC.skip ?_ | refine WC.block ?_ | refine WC.condT rfl ?_ | refine WC.condF rfl ?_ | refine WL.off rfl rfl rfl ?_ | refine WL.off0 rfl rfl ?_ | refine WC.exit ?_ | refine blk_hit ?_ | refine blk_miss rfl ?_ | refine WC.ret ?_)
  refine WL.loadB rfl rfl rfl rfl rfl (hp4.obj 5 rfl) (j := 1) rfl ?_
  repeat (first | refine WC.seq ?_ | refine WC.reg ?_ | refine WL.pure rfl rfl rfl ?_ | refine WL.nil ?_ | refine WC.skip ?_ | refine WC.block ?_ | refine WC.condT rfl ?_ | refine WC.condF rfl ?_ | refine WL.off rfl rfl rfl ?_ | refine WL.off0 rfl rfl ?_ | refine WC.exit ?_ | refine blk_hit ?_ | refine blk_miss rfl ?_ | refine WC.ret ?_)
  refine WC.loop (Nat × Option Addr × Nat × Option Addr × Nat × Option Addr × Nat) (fun (i, _) => [(1, fmV f), (7, ptr xb), (30, .slice am ms.length cm), (31, .int .i64 (ms.length : Nat)), (32, .int .i64 (i : Nat))])
    (fun (i, wa, wc, ta, tc, fa, fc) w' => i ≤ ms.length ∧ Hp w w' (Sall xb (.slice an vs.length cn) (.slice am ms.length cm) starts la lc lk pairs wa wc ta tc fa fc (newM f pairs (ms.take i)) [Sb b an cn am cm vs ms])) (fun (i, _) => ms.length - i) (0, none, 0, none, 0, none, 0) ⟨rfl, rfl, rfl, rfl, rfl, rfl⟩ ⟨Nat.zero_le _, hp4⟩ ?_
  clear hp4
  rintro ⟨i, wa, wc, ta, tc, fa, fc⟩ w5 ⟨hi, hp5⟩
  replace hi : i ≤ ms.length := hi
  replace hp5 : Hp w w5 (Sall xb (.slice an vs.length cn) (.slice am ms.length cm) starts la lc lk pairs wa wc ta tc fa fc (newM f pairs (ms.take i)) [Sb b an cn am cm vs ms]) := hp5
  repeat (first | refine WC.seq ?_ | refine WC.reg ?_ | refine WL.pure rfl rfl rfl ?_ | refine WL.nil ?_ | refine WC.skip ?_ | refine WC.block ?_ | refine WC.condT rfl ?_ | refine WC.condF rfl ?_ | refine WL.off rfl rfl rfl ?_ | refine WL.off0 rfl rfl ?_ | refine WC.exit ?_ | refine blk_hit ?_ | refine blk_miss rfl ?_ | refine WC.ret ?_)
  refine WC.cond rfl (fun c1 => ?_) (fun c1 => ?_)
  · have hi : i < ms.length := by have := of_decide_eq_true c1; omega
    have step := wrap_succ (i := i) (n := i + 1) (by omega) (by omega)
    obtain ⟨hm0, hm1⟩ := hm ms[i] (List.getElem_mem hi)
    have htk := newM_take f pairs ms hi
    have hEl := newM_len f pairs (ms.take i)
    have hil : (ms.take i).length = i := by rw [List.length_take]; omega
    have hEb : (newM f pairs (ms.take i)).length ≤ 65536 := by rw [hEl, hil]; exact Nat.le_trans (Nat.mul_le_mul (show i ≤ 16 by omega) hpw) (by decide)
    repeat (first | refine WC.seq ?_ | refine WC.reg ?_ | refine WL.pure rfl rfl rfl ?_ | refine WL.nil ?_ | refine WC.skip ?_ | refine WC.block ?_ | refine WC.condT rfl ?_ | refine WC.condF rfl ?_ | refine WL.off rfl rfl rfl ?_ | refine WL.off0 rfl rfl ?_ | refine WC.exit ?_ | refine blk_hit ?_ | refine blk_miss rfl ?_ | refine WC.ret ?_)
    refine WL.ixload rfl (fun _ => rfl) rfl rfl rfl rfl rfl rfl rfl hi rfl rfl (hst.hp hp5) (zs_at hi) ?_
    intro q0
    obtain ⟨m, hmm⟩ : ∃ m, m = ms[i] := ⟨_, rfl⟩
    rw [← hmm] at hm0 hm1 htk ⊢
    repeat (first | refine WC.seq ?_ | refine WC.reg ?_ | refine WL.pure rfl rfl rfl ?_ | refine WL.nil ?_ | refine WC.skip ?_ | refine WC.block ?_ | refine WC.condT rfl ?_ | refine WC.condF rfl ?_ | refine WL.off rfl rfl rfl ?_ | refine WL.off0 rfl rfl ?_ | refine WC.exit ?_ | refine blk_hit ?_ | refine blk_miss rfl ?_ | refine WC.ret ?_)
    refine WL.nilC rfl rfl rfl ?_
    repeat (first | refine WC.seq ?_ | refine WC.reg ?_ | refine WL.pure rfl rfl rfl ?_ | refine WL.nil ?_ | refine WC.skip ?_ | refine WC.block ?_ | refine WC.condT rfl ?_ | refine WC.condF rfl ?_ | refine WL.off rfl rfl rfl ?_ | refine WL.off0 rfl rfl ?_ | refine WC.exit ?_ | refine blk_hit ?_ | refine blk_miss rfl ?_ | refine WC.ret ?_)
    refine WL.loadB rfl rfl rfl rfl rfl (hp5.obj 0 rfl) (j := 4) rfl ?_
    repeat (first | refine WC.seq ?_ | refine WC.reg ?_ | refine WL.pure rfl rfl rfl ?_ | refine WL.nil ?_ | refine WC.skip ?_ | refine WC.block ?_ | refine WC.condT rfl ?_ | refine WC.condF rfl ?_ | refine WL.off rfl rfl rfl ?_ | refine WL.off0 rfl rfl ?_ | refine WC.exit ?_ | refine blk_hit ?_ | refine blk_miss rfl ?_ | refine WC.ret ?_)
    refine WC.loop (Nat × Option Addr × Nat × Option Addr × Nat × Option Addr × Nat) (fun (j, _) => [(1, fmV f), (7, ptr xb), (9, .int .i64 m), (30, .slice am ms.length cm), (31, .int .i64 (ms.length : Nat)), (32, .int .i64 (i : Nat)), (39, .int .i64 (pairs : Nat)), (40, .int .i64 (j : Nat))])
      (fun (j, wa, wc, ta, tc, fa, fc) w' => j ≤ pairs ∧ Hp w w' (Sall xb (.slice an vs.length cn) (.slice am ms.length cm) starts la lc lk pairs wa wc ta tc fa fc (newM f pairs (ms.take i) ++ gsM f j m) [Sb b an cn am cm vs ms])) (fun (j, _) => pairs - j) (0, wa, wc, ta, tc, fa, fc) ⟨rfl, rfl, rfl, rfl, rfl, rfl, rfl, rfl, rfl⟩ ⟨Nat.zero_le _, (by
        have e0 : newM f pairs (ms.take i) ++ gsM f 0 m = newM f pairs (ms.take i) := List.append_nil _
        show Hp w w5 (Sall _ _ _ _ _ _ _ _ _ _ _ _ _ _ (newM f pairs (ms.take i) ++ gsM f 0 m) _)
        rw [e0]; exact hp5)⟩ ?_
    clear hp5
    rintro ⟨j, wa, wc, ta, tc, fa, fc⟩ w6 ⟨hj, hp6⟩
    replace hj : j ≤ pairs := hj
    obtain ⟨E, hE⟩ : ∃ E, E = newM f pairs (ms.take i) ++ gsM f j m := ⟨_, rfl⟩
    have hEj : E.length ≤ 65536 + 4096 := by
      rw [hE, List.length_append, gsM, List.length_map, List.length_range]; omega
    replace hp6 : Hp w w6 (Sall xb (.slice an vs.length cn) (.slice am ms.length cm) starts la lc lk pairs wa wc ta tc fa fc E [Sb b an cn am cm vs ms]) := by rw [hE]; exact hp6
    repeat (first | refine WC.seq ?_ | refine WC.reg ?_ | refine WL.pure rfl rfl rfl ?_ | refine WL.nil ?_ | refine WC.skip ?_ | refine WC.block ?_ | refine WC.condT rfl ?_ | refine WC.condF rfl ?_ | refine WL.off rfl rfl rfl ?_ | refine WL.off0 rfl rfl ?_ | refine WC.exit ?_ | refine blk_hit ?_ | refine blk_miss rfl ?_ | refine WC.ret ?_)
    refine WC.cond rfl (fun c2 => ?_) (fun c2 => ?_)
    · have hj : j < pairs := by have := of_decide_eq_true c2; omega
      have stepj := wrap_succ (i := j) (n := j + 1) (by omega) (by omega)
      have hEs : E ++ [gval m j f (0, 0, 0)] = newM f pairs (ms.take i) ++ gsM f (j + 1) m := by
        rw [hE, List.append_assoc]; unfold gsM; rw [List.range_succ, List.map_append]; rfl
      repeat (first | refine WC.seq ?_ | refine WC.reg ?_ | refine WL.pure rfl rfl rfl ?_ | refine WL.nil ?_ | refine WC.skip ?_ | refine WC.block ?_ | refine WC.condT rfl ?_ | refine WC.condF rfl ?_ | refine WL.off rfl rfl rfl ?_ | refine WL.off0 rfl rfl ?_ | refine WC.exit ?_ | refine blk_hit ?_ | refine blk_miss rfl ?_ | refine WC.ret ?_)
      refine WL.buildT (cs := [.int .i64 m, .int .i64 (j : Nat), .int .i64 0, .int .i64 0, .int .i64 0]) rfl rfl rfl rfl rfl rfl ?_
      refine WL.box rfl rfl rfl (fun gb w7 h7 => ?_)
      have hp7 : Hp w w7 (Gb gb m j (0, 0, 0) :: Sall xb (.slice an vs.length cn) (.slice am ms.length cm) starts la lc lk pairs wa wc ta tc fa fc E [Sb b an cn am cm vs ms]) := hp6.new h7
      repeat (first | refine WC.seq ?_ | refine WC.reg ?_ | refine WL.pure rfl rfl rfl ?_ | refine WL.nil ?_ | refine WC.skip ?_ | refine WC.block ?_ | refine WC.condT rfl ?_ | refine WC.condF rfl ?_ | refine WL.off rfl rfl rfl ?_ | refine WL.off0 rfl rfl ?_ | refine WC.exit ?_ | refine blk_hit ?_ | refine blk_miss rfl ?_ | refine WC.ret ?_)
      refine WL.call rfl rfl rfl rfl rfl ent86 (gvalue_any gb m j hm0 hm1 (Nat.lt_of_le_of_lt (show j ≤ 4096 by omega) (by decide)) f hwf (0, 0, 0) _ w7 (by show 0 + looksN f ≤ 30; omega) ⟨by decide, by decide⟩ hp7) ?_
      rintro v w8 ⟨rfl, hp8⟩
      obtain ⟨rv, rg, hrg⟩ : ∃ rv rg, gval m j f (0, 0, 0) = (rv, rg) := ⟨_, _, rfl⟩
      rw [hrg] at hp8 hEs
      rw [hrg]
      replace hp8 : Hp w w8 (Gb gb m j rg :: Sall xb (.slice an vs.length cn) (.slice am ms.length cm) starts la lc lk pairs wa wc ta tc fa fc E [Sb b an cn am cm vs ms]) := hp8
      clear hp7 hp6
      have e2 : (E ++ [(rv, rg)]).length = E.length + 1 := by rw [List.length_append]; rfl
      repeat (first | refine WC.seq ?_ | refine WC.reg ?_ | refine WL.pure rfl rfl rfl ?_ | refine WL.nil ?_ | refine WC.skip ?_ | refine WC.block ?_ | refine WC.condT rfl ?_ | refine WC.condF rfl ?_ | refine WL.off rfl rfl rfl ?_ | refine WL.off0 rfl rfl ?_ | refine WC.exit ?_ | refine blk_hit ?_ | refine blk_miss rfl ?_ | refine WC.ret ?_)
      refine WL.nilC rfl rfl rfl ?_
      repeat (first | refine WC.seq ?_ | refine WC.reg ?_ | refine WL.pure rfl rfl rfl ?_ | refine WL.nil ?_ | refine WC.skip ?_ | refine WC.block ?_ | refine WC.condT rfl ?_ | refine WC.condF rfl ?_ | refine WL.off rfl rfl rfl ?_ | refine WL.off0 rfl rfl ?_ | refine WC.exit ?_ | refine blk_hit ?_ | refine blk_miss rfl ?_ | refine WC.ret ?_)
      refine WL.loadB rfl rfl rfl rfl rfl (hp8.obj 1 rfl) (j := 6) rfl ?_
      repeat (first | refine WC.seq ?_ | refine WC.reg ?_ | refine WL.pure rfl rfl rfl ?_ | refine WL.nil ?_ | refine WC.skip ?_ | refine WC.block ?_ | refine WC.condT rfl ?_ | refine WC.condF rfl ?_ | refine WL.off rfl rfl rfl ?_ | refine WL.off0 rfl rfl ?_ | refine WC.exit ?_ | refine blk_hit ?_ | refine blk_miss rfl ?_ | refine WC.ret ?_)
      refine WL.buildS (cs := [.bool rv]) rfl rfl rfl rfl rfl rfl rfl rfl rfl (fun b9 w9 h9 => ?_)
      have hp9 := hp8.new h9
      refine WL.append 3 hp9 rfl rfl rfl rfl rfl (by decide) rfl rfl rfl (news := [.bool rv]) (Sl.of_obj (hp9.obj 0 rfl) (fun q u hq => by simpa using hq)) rfl (bl_cells [rv]) (by unfold maxLen; omega) (by show (E.length + 1) * 1 ≤ _; omega) ?_
      intro ta2 tc2 w10 hp10 hg10
      refine WL.nilC rfl rfl rfl ?_
      repeat (first | refine WC.seq ?_ | refine WC.reg ?_ | refine WL.pure rfl rfl rfl ?_ | refine WL.nil ?_ | refine WC.skip ?_ | refine WC.block ?_ | refine WC.condT rfl ?_ | refine WC.condF rfl ?_ | refine WL.off rfl rfl rfl ?_ | refine WL.off0 rfl rfl ?_ | refine WC.exit ?_ | refine blk_hit ?_ | refine blk_miss rfl ?_ | refine WC.ret ?_)
      refine WL.store rfl rfl rfl rfl rfl rfl (hp10.obj 2 rfl) (by show 6 < 8; decide) (fun w11 h11 => ?_)
      have hp11 := hp10.set 2 rfl rfl h11
      replace hp11 : Hp w w11 (Gb gb m j rg :: Sx xb (.slice an vs.length cn) (.slice am ms.length cm) starts (.slice la lk.length lc) pairs (.slice wa E.length wc) (.slice ta2 (E.length + 1) tc2) (.slice fa E.length fc) :: Rbo (.slice ta2 (E.length + 1) tc2) (E.length + 1) ((E ++ [(rv, rg)]).map (·.1)) :: Rna (.slice wa E.length wc) E.length (E.map (·.2.2.1)) :: Rna (.slice fa E.length fc) E.length (E.map (·.2.2.2)) :: Rf (.slice la lk.length lc) lk :: [Sb b an cn am cm vs ms]) := by
        unfold Rbo bl
        rw [List.map_append, List.map_append]
        exact hp11.tail
      clear hp8 hp9 hp10
      repeat (first | refine WC.seq ?_ | refine WC.reg ?_ | refine WL.pure rfl rfl rfl ?_ | refine WL.nil ?_ | refine WC.skip ?_ | refine WC.block ?_ | refine WC.condT rfl ?_ | refine WC.condF rfl ?_ | refine WL.off rfl rfl rfl ?_ | refine WL.off0 rfl rfl ?_ | refine WC.exit ?_ | refine blk_hit ?_ | refine blk_miss rfl ?_ | refine WC.ret ?_)
      refine WC.mid (Option Addr × Nat) (fun _ => [(1, fmV f), (7, ptr xb), (9, .int .i64 m), (11, ptr gb), (30, .slice am ms.length cm), (31, .int .i64 (ms.length : Nat)), (32, .int .i64 (i : Nat)), (39, .int .i64 (pairs : Nat)), (40, .int .i64 (j : Nat))]) (fun (wa2, wc2) w' => Hp w w' (Gb gb m j rg :: Sx xb (.slice an vs.length cn) (.slice am ms.length cm) starts (.slice la lk.length lc) pairs (.slice wa2 (E.length + 1) wc2) (.slice ta2 (E.length + 1) tc2) (.slice fa E.length fc) :: Rbo (.slice ta2 (E.length + 1) tc2) (E.length + 1) ((E ++ [(rv, rg)]).map (·.1)) :: Rna (.slice wa2 (E.length + 1) wc2) (E.length + 1) ((E ++ [(rv, rg)]).map (·.2.2.1)) :: Rna (.slice fa E.length fc) E.length (E.map (·.2.2.2)) :: Rf (.slice la lk.length lc) lk :: [Sb b an cn am cm vs ms])) ?_ ?_
      · refine WC.regH (fun w' => Hp w w' [Gb gb m j rg]) mixed (by kernel_rfl) (fun w11b hwb hhb => ?_)
        have hp11b := hp11.keep hwb
        have hS : Hp w w11b [Gb gb m j rg] := hp11b.pick [0] (by decide)
        refine WH.pure 0 (by kernel_rfl) rfl (by kernel_rfl) rfl rfl rfl (hS) ?_
        refine WH.pure 1 (by kernel_rfl) rfl (by kernel_rfl) rfl rfl rfl (hS) ?_
        refine WH.nilC 2 (by kernel_rfl) rfl (by kernel_rfl) rfl rfl rfl hS ?_
        refine WH.pure 3 (by kernel_rfl) rfl (by kernel_rfl) rfl rfl rfl (hS) ?_
        refine WH.pure 5 (by kernel_rfl) rfl (by kernel_rfl) rfl rfl rfl (hS) ?_
        refine WH.nilC 6 (by kernel_rfl) rfl (by kernel_rfl) rfl rfl rfl hS ?_
        refine WH.pure 7 (by kernel_rfl) rfl (by kernel_rfl) rfl rfl rfl (hS) ?_
        refine WH.load 8 (by kernel_rfl) rfl (by kernel_rfl) rfl rfl rfl rfl rfl (fun w' h => cell_of_obj (h.obj 0 rfl) (j := 3) rfl) hS ?_
        refine WH.two 4 9 rfl rfl (by kernel_rfl) ?_ ?_
        · refine WL.loadB rfl rfl rfl rfl rfl (hp11b.obj 1 rfl) (j := 5) rfl (WL.nil ⟨hS, ?_⟩)
          refine WH.one 9 rfl (by kernel_rfl) ?_
          refine WL.buildS (cs := [.int .i64 (rg.2.1 : Nat)]) rfl rfl rfl rfl rfl rfl rfl rfl rfl (fun bc w11c hbc => ?_)
          have hp11c := hp11b.new hbc
          refine WL.nil ⟨hp11c.pick [1] (by decide), ?_⟩
          refine WH.one 10 rfl (by kernel_rfl) ?_
          refine WL.append 4 hp11c rfl rfl rfl rfl rfl (by decide) rfl rfl rfl (news := [.int .i64 (rg.2.1 : Nat)]) (Sl.of_obj (hp11c.obj 0 rfl) (fun q u hq => by simpa using hq)) rfl (natL_cells [rg.2.1]) (by unfold maxLen; omega) (by show (E.length + 1) * 8 ≤ _; omega) ?_
          intro wa2 wc2 w11d hp11d hgd
          refine WL.nil ⟨hp11d.pick [1] (by decide), ?_⟩
          refine WH.nilC 11 (by kernel_rfl) rfl (by kernel_rfl) rfl rfl rfl (hp11d.pick [1] (by decide)) ?_
          refine WH.pure 12 (by kernel_rfl) rfl (by kernel_rfl) rfl rfl rfl (hp11d.pick [1] (by decide)) ?_
          refine WH.one 13 rfl (by kernel_rfl) ?_
          refine WL.store rfl rfl rfl rfl rfl rfl (hp11d.obj 2 rfl) (by show 5 < 8; decide) (fun w11e hse => ?_)
          have hp11e := (hp11d.set 2 rfl rfl hse).tail
          refine WL.nil ⟨hp11e.pick [0] (by decide), ?_⟩
          refine WH.done (by kernel_rfl) ?_
          refine ⟨(wa2, wc2), ⟨rfl, rfl, rfl, rfl, rfl, rfl, rfl, rfl, rfl, rfl⟩, ?_⟩
          show Hp w w11e (Gb gb m j rg :: Sx xb (.slice an vs.length cn) (.slice am ms.length cm) starts (.slice la lk.length lc) pairs (.slice wa2 (E.length + 1) wc2) (.slice ta2 (E.length + 1) tc2) (.slice fa E.length fc) :: Rbo (.slice ta2 (E.length + 1) tc2) (E.length + 1) ((E ++ [(rv, rg)]).map (·.1)) :: Rna (.slice wa2 (E.length + 1) wc2) (E.length + 1) ((E ++ [(rv, rg)]).map (·.2.2.1)) :: Rna (.slice fa E.length fc) E.length (E.map (·.2.2.2)) :: Rf (.slice la lk.length lc) lk :: [Sb b an cn am cm vs ms])
          unfold Rna
          rw [show natL ((E ++ [(rv, rg)]).map (·.2.2.1)) = natL (E.map (·.2.2.1)) ++ [.int .i64 (rg.2.1 : Nat)] from by simp [natL]]
          exact hp11e
        · refine WL.buildS (cs := [.int .i64 (rg.2.1 : Nat)]) rfl rfl rfl rfl rfl rfl rfl rfl rfl (fun bc w11c hbc => ?_)
          have hp11c := hp11b.new hbc
          refine WL.nil ⟨hp11c.pick [1] (by decide), ?_⟩
          refine WH.one 4 rfl (by kernel_rfl) ?_
          refine WL.loadB rfl rfl rfl rfl rfl (hp11c.obj 2 rfl) (j := 5) rfl (WL.nil ⟨hp11c.pick [1] (by decide), ?_⟩)
          refine WH.one 10 rfl (by kernel_rfl) ?_
          refine WL.append 4 hp11c rfl rfl rfl rfl rfl (by decide) rfl rfl rfl (news := [.int .i64 (rg.2.1 : Nat)]) (Sl.of_obj (hp11c.obj 0 rfl) (fun q u hq => by simpa using hq)) rfl (natL_cells [rg.2.1]) (by unfold maxLen; omega) (by show (E.length + 1) * 8 ≤ _; omega) ?_
          intro wa2 wc2 w11d hp11d hgd
          refine WL.nil ⟨hp11d.pick [1] (by decide), ?_⟩
          refine WH.nilC 11 (by kernel_rfl) rfl (by kernel_rfl) rfl rfl rfl (hp11d.pick [1] (by decide)) ?_
          refine WH.pure 12 (by kernel_rfl) rfl (by kernel_rfl) rfl rfl rfl (hp11d.pick [1] (by decide)) ?_
          refine WH.one 13 rfl (by kernel_rfl) ?_
          refine WL.store rfl rfl rfl rfl rfl rfl (hp11d.obj 2 rfl) (by show 5 < 8; decide) (fun w11e hse => ?_)
          have hp11e := (hp11d.set 2 rfl rfl hse).tail
          refine WL.nil ⟨hp11e.pick [0] (by decide), ?_⟩
          refine WH.done (by kernel_rfl) ?_
          refine ⟨(wa2, wc2), ⟨rfl, rfl, rfl, rfl, rfl, rfl, rfl, rfl, rfl, rfl⟩, ?_⟩
          show Hp w w11e (Gb gb m j rg :: Sx xb (.slice an vs.length cn) (.slice am ms.length cm) starts (.slice la lk.length lc) pairs (.slice wa2 (E.length + 1) wc2) (.slice ta2 (E.length + 1) tc2) (.slice fa E.length fc) :: Rbo (.slice ta2 (E.length + 1) tc2) (E.length + 1) ((E ++ [(rv, rg)]).map (·.1)) :: Rna (.slice wa2 (E.length + 1) wc2) (E.length + 1) ((E ++ [(rv, rg)]).map (·.2.2.1)) :: Rna (.slice fa E.length fc) E.length (E.map (·.2.2.2)) :: Rf (.slice la lk.length lc) lk :: [Sb b an cn am cm vs ms])
          unfold Rna
          rw [show natL ((E ++ [(rv, rg)]).map (·.2.2.1)) = natL (E.map (·.2.2.1)) ++ [.int .i64 (rg.2.1 : Nat)] from by simp [natL]]
          exact hp11e
      rintro ⟨wa2, wc2⟩ eq w12 hsub hp12
      replace hp12 : Hp w w12 (Gb gb m j rg :: Sx xb (.slice an vs.length cn) (.slice am ms.length cm) starts (.slice la lk.length lc) pairs (.slice wa2 (E.length + 1) wc2) (.slice ta2 (E.length + 1) tc2) (.slice fa E.length fc) :: Rbo (.slice ta2 (E.length + 1) tc2) (E.length + 1) ((E ++ [(rv, rg)]).map (·.1)) :: Rna (.slice wa2 (E.length + 1) wc2) (E.length + 1) ((E ++ [(rv, rg)]).map (·.2.2.1)) :: Rna (.slice fa E.length fc) E.length (E.map (·.2.2.2)) :: Rf (.slice la lk.length lc) lk :: [Sb b an cn am cm vs ms]) := hp12
      refine WC.sub hsub ?_
      clear hsub eq hp11
      refine WC.mid (Option Addr × Nat) (fun _ => [(1, fmV f), (7, ptr xb), (9, .int .i64 m), (11, ptr gb), (30, .slice am ms.length cm), (31, .int .i64 (ms.length : Nat)), (32, .int .i64 (i : Nat)), (39, .int .i64 (pairs : Nat)), (40, .int .i64 (j : Nat))]) (fun (fa2, fc2) w' => Hp w w' (Gb gb m j rg :: Sx xb (.slice an vs.length cn) (.slice am ms.length cm) starts (.slice la lk.length lc) pairs (.slice wa2 (E.length + 1) wc2) (.slice ta2 (E.length + 1) tc2) (.slice fa2 (E.length + 1) fc2) :: Rbo (.slice ta2 (E.length + 1) tc2) (E.length + 1) ((E ++ [(rv, rg)]).map (·.1)) :: Rna (.slice wa2 (E.length + 1) wc2) (E.length + 1) ((E ++ [(rv, rg)]).map (·.2.2.1)) :: Rna (.slice fa2 (E.length + 1) fc2) (E.length + 1) ((E ++ [(rv, rg)]).map (·.2.2.2)) :: Rf (.slice la lk.length lc) lk :: [Sb b an cn am cm vs ms])) ?_ ?_
      · refine WC.regH (fun w' => Hp w w' [Gb gb m j rg]) mixed (by kernel_rfl) (fun w12b hwb hhb => ?_)
        have hp12b := hp12.keep hwb
        have hS : Hp w w12b [Gb gb m j rg] := hp12b.pick [0] (by decide)
        refine WH.pure 0 (by kernel_rfl) rfl (by kernel_rfl) rfl rfl rfl (hS) ?_
        refine WH.pure 1 (by kernel_rfl) rfl (by kernel_rfl) rfl rfl rfl (hS) ?_
        refine WH.nilC 2 (by kernel_rfl) rfl (by kernel_rfl) rfl rfl rfl hS ?_
        refine WH.pure 3 (by kernel_rfl) rfl (by kernel_rfl) rfl rfl rfl (hS) ?_
        refine WH.pure 5 (by kernel_rfl) rfl (by kernel_rfl) rfl rfl rfl (hS) ?_
        refine WH.nilC 6 (by kernel_rfl) rfl (by kernel_rfl) rfl rfl rfl hS ?_
        refine WH.pure 7 (by kernel_rfl) rfl (by kernel_rfl) rfl rfl rfl (hS) ?_
        refine WH.load 8 (by kernel_rfl) rfl (by kernel_rfl) rfl rfl rfl rfl rfl (fun w' h => cell_of_obj (h.obj 0 rfl) (j := 4) rfl) hS ?_
        refine WH.two 4 9 rfl rfl (by kernel_rfl) ?_ ?_
        · refine WL.loadB rfl rfl rfl rfl rfl (hp12b.obj 1 rfl) (j := 7) rfl (WL.nil ⟨hS, ?_⟩)
          refine WH.one 9 rfl (by kernel_rfl) ?_
          refine WL.buildS (cs := [.int .i64 (rg.2.2 : Nat)]) rfl rfl rfl rfl rfl rfl rfl rfl rfl (fun bc w12c hbc => ?_)
          have hp12c := hp12b.new hbc
          refine WL.nil ⟨hp12c.pick [1] (by decide), ?_⟩
          refine WH.one 10 rfl (by kernel_rfl) ?_
          refine WL.append 5 hp12c rfl rfl rfl rfl rfl (by decide) rfl rfl rfl (news := [.int .i64 (rg.2.2 : Nat)]) (Sl.of_obj (hp12c.obj 0 rfl) (fun q u hq => by simpa using hq)) rfl (natL_cells [rg.2.2]) (by unfold maxLen; omega) (by show (E.length + 1) * 8 ≤ _; omega) ?_
          intro fa2 fc2 w12d hp12d hgd
          refine WL.nil ⟨hp12d.pick [1] (by decide), ?_⟩
          refine WH.nilC 11 (by kernel_rfl) rfl (by kernel_rfl) rfl rfl rfl (hp12d.pick [1] (by decide)) ?_
          refine WH.pure 12 (by kernel_rfl) rfl (by kernel_rfl) rfl rfl rfl (hp12d.pick [1] (by decide)) ?_
          refine WH.one 13 rfl (by kernel_rfl) ?_
          refine WL.store rfl rfl rfl rfl rfl rfl (hp12d.obj 2 rfl) (by show 7 < 8; decide) (fun w12e hse => ?_)
          have hp12e := (hp12d.set 2 rfl rfl hse).tail
          refine WL.nil ⟨hp12e.pick [0] (by decide), ?_⟩
          refine WH.done (by kernel_rfl) ?_
          refine ⟨(fa2, fc2), ⟨rfl, rfl, rfl, rfl, rfl, rfl, rfl, rfl, rfl, rfl⟩, ?_⟩
          show Hp w w12e (Gb gb m j rg :: Sx xb (.slice an vs.length cn) (.slice am ms.length cm) starts (.slice la lk.length lc) pairs (.slice wa2 (E.length + 1) wc2) (.slice ta2 (E.length + 1) tc2) (.slice fa2 (E.length + 1) fc2) :: Rbo (.slice ta2 (E.length + 1) tc2) (E.length + 1) ((E ++ [(rv, rg)]).map (·.1)) :: Rna (.slice wa2 (E.length + 1) wc2) (E.length + 1) ((E ++ [(rv, rg)]).map (·.2.2.1)) :: Rna (.slice fa2 (E.length + 1) fc2) (E.length + 1) ((E ++ [(rv, rg)]).map (·.2.2.2)) :: Rf (.slice la lk.length lc) lk :: [Sb b an cn am cm vs ms])
          unfold Rna
          rw [show natL ((E ++ [(rv, rg)]).map (·.2.2.2)) = natL (E.map (·.2.2.2)) ++ [.int .i64 (rg.2.2 : Nat)] from by simp [natL]]
          exact hp12e
        · refine WL.buildS (cs := [.int .i64 (rg.2.2 : Nat)]) rfl rfl rfl rfl rfl rfl rfl rfl rfl (fun bc w12c hbc => ?_)
          have hp12c := hp12b.new hbc
          refine WL.nil ⟨hp12c.pick [1] (by decide), ?_⟩
          refine WH.one 4 rfl (by kernel_rfl) ?_
          refine WL.loadB rfl rfl rfl rfl rfl (hp12c.obj 2 rfl) (j := 7) rfl (WL.nil ⟨hp12c.pick [1] (by decide), ?_⟩)
          refine WH.one 10 rfl (by kernel_rfl) ?_
          refine WL.append 5 hp12c rfl rfl rfl rfl rfl (by decide) rfl rfl rfl (news := [.int .i64 (rg.2.2 : Nat)]) (Sl.of_obj (hp12c.obj 0 rfl) (fun q u hq => by simpa using hq)) rfl (natL_cells [rg.2.2]) (by unfold maxLen; omega) (by show (E.length + 1) * 8 ≤ _; omega) ?_
          intro fa2 fc2 w12d hp12d hgd
          refine WL.nil ⟨hp12d.pick [1] (by decide), ?_⟩
          refine WH.nilC 11 (by kernel_rfl) rfl (by kernel_rfl) rfl rfl rfl (hp12d.pick [1] (by decide)) ?_
          refine WH.pure 12 (by kernel_rfl) rfl (by kernel_rfl) rfl rfl rfl (hp12d.pick [1] (by decide)) ?_
          refine WH.one 13 rfl (by kernel_rfl) ?_
          refine WL.store rfl rfl rfl rfl rfl rfl (hp12d.obj 2 rfl) (by show 7 < 8; decide) (fun w12e hse => ?_)
          have hp12e := (hp12d.set 2 rfl rfl hse).tail
          refine WL.nil ⟨hp12e.pick [0] (by decide), ?_⟩
          refine WH.done (by kernel_rfl) ?_
          refine ⟨(fa2, fc2), ⟨rfl, rfl, rfl, rfl, rfl, rfl, rfl, rfl, rfl, rfl⟩, ?_⟩
          show Hp w w12e (Gb gb m j rg :: Sx xb (.slice an vs.length cn) (.slice am ms.length cm) starts (.slice la lk.length lc) pairs (.slice wa2 (E.length + 1) wc2) (.slice ta2 (E.length + 1) tc2) (.slice fa2 (E.length + 1) fc2) :: Rbo (.slice ta2 (E.length + 1) tc2) (E.length + 1) ((E ++ [(rv, rg)]).map (·.1)) :: Rna (.slice wa2 (E.length + 1) wc2) (E.length + 1) ((E ++ [(rv, rg)]).map (·.2.2.1)) :: Rna (.slice fa2 (E.length + 1) fc2) (E.length + 1) ((E ++ [(rv, rg)]).map (·.2.2.2)) :: Rf (.slice la lk.length lc) lk :: [Sb b an cn am cm vs ms])
          unfold Rna
          rw [show natL ((E ++ [(rv, rg)]).map (·.2.2.2)) = natL (E.map (·.2.2.2)) ++ [.int .i64 (rg.2.2 : Nat)] from by simp [natL]]
          exact hp12e
      rintro ⟨fa2, fc2⟩ eq w13 hsub hp13
      replace hp13 : Hp w w13 (Gb gb m j rg :: Sx xb (.slice an vs.length cn) (.slice am ms.length cm) starts (.slice la lk.length lc) pairs (.slice wa2 (E.length + 1) wc2) (.slice ta2 (E.length + 1) tc2) (.slice fa2 (E.length + 1) fc2) :: Rbo (.slice ta2 (E.length + 1) tc2) (E.length + 1) ((E ++ [(rv, rg)]).map (·.1)) :: Rna (.slice wa2 (E.length + 1) wc2) (E.length + 1) ((E ++ [(rv, rg)]).map (·.2.2.1)) :: Rna (.slice fa2 (E.length + 1) fc2) (E.length + 1) ((E ++ [(rv, rg)]).map (·.2.2.2)) :: Rf (.slice la lk.length lc) lk :: [Sb b an cn am cm vs ms]) := hp13
      refine WC.sub hsub ?_
      clear hsub eq hp12
      repeat (first | refine WC.seq ?_ | refine WC.reg ?_ | refine WL.pure rfl rfl rfl ?_ | refine WL.nil ?_ | refine WC.skip ?_ | refine WC.block ?_ | refine WC.condT rfl ?_ | refine WC.condF rfl ?_ | refine WL.off rfl rfl rfl ?_ | refine WL.off0 rfl rfl ?_ | refine WC.exit ?_ | refine blk_hit ?_ | refine blk_miss rfl ?_ | refine WC.ret ?_)
      refine ⟨(j + 1, wa2, wc2, ta2, tc2, fa2, fc2), (by show pairs - (j + 1) < pairs - j; omega), ⟨rfl, rfl, rfl, rfl, rfl, rfl, rfl, congrArg (fun z => some (Value.int .i64 z)) stepj, rfl⟩, hj, ?_⟩
      show Hp w w13 (Sall xb (.slice an vs.length cn) (.slice am ms.length cm) starts la lc lk pairs wa2 wc2 ta2 tc2 fa2 fc2 (newM f pairs (ms.take i) ++ gsM f (j + 1) m) [Sb b an cn am cm vs ms])
      rw [← hEs]
      unfold Sall
      rw [e2]
      exact hp13.tail
    · have hj : j = pairs := by have := of_decide_eq_false c2; omega
      subst hj
      repeat (first | refine WC.seq ?_ | refine WC.reg ?_ | refine WL.pure rfl rfl rfl ?_ | refine WL.nil ?_ | refine WC.skip ?_ | refine WC.block ?_ | refine WC.condT rfl ?_ | refine WC.condF rfl ?_ | refine WL.off rfl rfl rfl ?_ | refine WL.off0 rfl rfl ?_ | refine WC.exit ?_ | refine blk_hit ?_ | refine blk_miss rfl ?_ | refine WC.ret ?_)
      refine ⟨(i + 1, wa, wc, ta, tc, fa, fc), (by show ms.length - (i + 1) < ms.length - i; omega), ⟨rfl, rfl, rfl, rfl, congrArg (fun z => some (Value.int .i64 z)) step, rfl⟩, hi, ?_⟩
      show Hp w w6 (Sall xb (.slice an vs.length cn) (.slice am ms.length cm) starts la lc lk j wa wc ta tc fa fc (newM f j (ms.take (i + 1))) [Sb b an cn am cm vs ms])
      rw [htk, ← hE]
      exact hp6
  · have hi : i = ms.length := by have := of_decide_eq_false c1; omega
    subst hi
    rw [List.take_length] at hp5
    repeat (first | refine WC.seq ?_ | refine WC.reg ?_ | refine WL.pure rfl rfl rfl ?_ | refine WL.nil ?_ | refine WC.skip ?_ | refine WC.block ?_ | refine WC.condT rfl ?_ | refine WC.condF rfl ?_ | refine WL.off rfl rfl rfl ?_ | refine WL.off0 rfl rfl ?_ | refine WC.exit ?_ | refine blk_hit ?_ | refine blk_miss rfl ?_ | refine WC.ret ?_)
    exact Res.one rfl rfl rfl ⟨xb, la, lc, wa, wc, ta, tc, fa, fc, rfl, hp5.pick [0, 1, 2, 3, 4] (by decide)⟩
end Go.Proofs.YtpbbneclkhfgoaaDoor
