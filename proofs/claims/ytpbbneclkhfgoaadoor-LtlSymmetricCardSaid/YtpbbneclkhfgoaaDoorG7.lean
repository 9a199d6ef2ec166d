/- Texts on the way to LtlSymmetric, one behind the other: U44 U45 U46 U47 U48 U49 Yk Zc U52 U58 U59 U60 ClL ClLw ClLwC. -/
import Derived.Test.YtpbbneclkhfgoaaDoorG6
import Derived.Test.YtpbbneclkhfgoaaDoorCards
import Derived.Test.YtpbbneclkhfgoaaDoorTie
import Derived.WalkKit
import Derived.ProofKit
import Derived.OpenShut
import Derived.Carry
import Derived.Deep.Slices
import Derived.Deep.DeepHandedRow
import Derived.Lib.LaidTab
import Derived.Lib.LaidU8
import Derived.Stop.LaidErr
import Derived.WideKeyElems2
import Derived.Deep.DeepWitnessRowRef
section
/- ltl, forty-fourth: machine, the reference's Structure. -/
namespace Go.Proofs.YtpbbneclkhfgoaaDoor
open Go.W Go.Ltl Go.RowKit
set_option maxRecDepth 100000
set_option linter.unusedSectionVars false
attribute [local irreducible] WC WL WQ WS WH

abbrev rowsOf (vs : Vs) : List (List Int) := vs.map fun x => x.2.2
def takeV (rows : List (List Int)) : List (List Int) := (rows.take 20).map (·.take 20)
theorem takeV_succ {rows : List (List Int)} {i : Nat} (h : i < rows.length) : (rows.take (i + 1)).map (·.take 20) = (rows.take i).map (·.take 20) ++ [(rows[i]).take 20] := by
  rw [List.take_succ_eq_append_getElem h, List.map_append]; rfl
/-- Structures that are read, with their bounds. -/
structure StcB (an : Option Addr) (cn : Nat) (am : Option Addr) (cm : Nat) (vs : Vs) (ms : List Int) : Prop where
  nl : vs.length ≤ 9223372036854775807
  rl : ∀ x ∈ vs, x.2.2.length ≤ 9223372036854775807
  rc : ∀ x ∈ vs, x.2.2.length ≤ x.2.1
  ml : ms.length ≤ 9223372036854775807
  mc : ms.length ≤ cm
theorem machine_any (an : Option Addr) (cn : Nat) (am : Option Addr) (cm : Nat) (vs : Vs) (ms : List Int) (hB : StcB an cn am cm vs ms) (w : World) (hst : Stc w an am vs ms) :
    Ret Tryd.prog 37 [stV an cn am cm vs ms] w fun u w' => ∃ na nc ma mc vs2, u = .agg #[.slice na vs2.length nc, .slice ma (ms.take 20).length mc] ∧ rowsOf vs2 = takeV (rowsOf vs) ∧
      Hp w w' (Rvs (.slice na vs2.length nc) vs2 :: Ri (.slice ma (ms.take 20).length mc) (ms.take 20) :: vsE vs2) := by
  have hnl := hB.nl
  have hml := hB.ml
  have hmc := hB.mc
  refine enter Tryd.func37 rfl rfl ⟨rfl, rfl⟩ rfl ?_
  repeat (first | refine zA ?_ | refine zB ?_ | refine zC rfl rfl rfl ?_ | refine zD ?_ | refine zE ?_ | refine zF ?_ | refine zG rfl ?_ | refine zH rfl ?_ | refine zI rfl rfl rfl ?_ | refine zJ rfl rfl ?_ | refine zK ?_ | refine zL ?_ | refine zM rfl ?_ | refine zN ?_)
  refine WL.box rfl rfl rfl (fun b1 w1 hb1 => ?_)
  have hp1 : Hp w w1 [Sb b1 an cn am cm vs ms] := (Hp.start w).new hb1
  refine WL.alloc rfl rfl rfl (fun b2 w2 hb2 => ?_)
  have hp2 : Hp w w2 [Stb b2 none 0 0 none 0 0, Sb b1 an cn am cm vs ms] := hp1.new hb2
  repeat (first | refine zA ?_ | refine zB ?_ | refine zC rfl rfl rfl ?_ | refine zD ?_ | refine zE ?_ | refine zF ?_ | refine zG rfl ?_ | refine zH rfl ?_ | refine zI rfl rfl rfl ?_ | refine zJ rfl rfl ?_ | refine zK ?_ | refine zL ?_ | refine zM rfl ?_ | refine zN ?_)
  refine WL.alloc rfl rfl rfl (fun b3 w3 hb3 => ?_)
  have hp3 : Hp w w3 [Stb b3 none 0 0 none 0 0, Stb b2 none 0 0 none 0 0, Sb b1 an cn am cm vs ms] := hp2.new hb3
  refine WL.nil ?_
  refine WC.seq ?_
  refine WC.mid (Option Addr × Nat × Vs) (fun (na, nc, vs2) => [(1, ptr b1), (2, ptr b2), (3, ptr b3)])
    (fun (na, nc, vs2) w' => rowsOf vs2 = takeV (rowsOf vs) ∧ Hp w w' (Stb b3 na vs2.length nc none 0 0 :: Rvs (.slice na vs2.length nc) vs2 :: Sb b1 an cn am cm vs ms :: Stb b2 none 0 0 none 0 0 :: vsE vs2)) ?_ ?_
  · repeat (first | refine zA ?_ | refine zB ?_ | refine zC rfl rfl rfl ?_ | refine zD ?_ | refine zE ?_ | refine zF ?_ | refine zG rfl ?_ | refine zH rfl ?_ | refine zI rfl rfl rfl ?_ | refine zJ rfl rfl ?_ | refine zK ?_ | refine zL ?_ | refine zM rfl ?_ | refine zN ?_)
    refine WC.loop (Nat × Option Addr × Nat × Vs) (fun (i, na, nc, vs2) => [(1, ptr b1), (2, ptr b2), (3, ptr b3), (4, .int .i64 (i : Nat))])
      (fun (i, na, nc, vs2) w' => i ≤ vs.length ∧ i ≤ 20 ∧ rowsOf vs2 = ((rowsOf vs).take i).map (·.take 20) ∧ Hp w w' (Stb b3 na vs2.length nc none 0 0 :: Rvs (.slice na vs2.length nc) vs2 :: Sb b1 an cn am cm vs ms :: Stb b2 none 0 0 none 0 0 :: vsE vs2)) (fun (i, _) => 20 - i) (0, none, 0, []) ⟨rfl, rfl, rfl, rfl, rfl⟩
      ⟨Nat.zero_le _, Nat.zero_le _, rfl, (hp3.nilrow 22 1).pick [1, 0, 3, 2] (by decide)⟩ ?_
    clear hp1 hp2 hp3 hb1 hb2 hb3
    rintro ⟨i, na, nc, vs2⟩ w4 ⟨hi, hi20, hvs, hp4⟩
    replace hi : i ≤ vs.length := hi
    replace hi20 : i ≤ 20 := hi20
    replace hvs : rowsOf vs2 = ((rowsOf vs).take i).map (·.take 20) := hvs
    replace hp4 : Hp w w4 (Stb b3 na vs2.length nc none 0 0 :: Rvs (.slice na vs2.length nc) vs2 :: Sb b1 an cn am cm vs ms :: Stb b2 none 0 0 none 0 0 :: vsE vs2) := hp4
    have hl2 : vs2.length = i := by
      have := congrArg List.length hvs
      rw [List.length_map, List.length_map, List.length_take, List.length_map] at this
      omega
    have fin : (¬ i < vs.length ∨ ¬ i < 20) → rowsOf vs2 = takeV (rowsOf vs) := by
      intro h
      rw [hvs]
      unfold takeV
      rcases h with h | h
      · rw [List.take_of_length_le (by rw [List.length_map]; omega), List.take_of_length_le (by rw [List.length_map]; omega)]
      · rw [show i = 20 by omega]
    repeat (first | refine zA ?_ | refine zB ?_ | refine zC rfl rfl rfl ?_ | refine zD ?_ | refine zE ?_ | refine zF ?_ | refine zG rfl ?_ | refine zH rfl ?_ | refine zI rfl rfl rfl ?_ | refine zJ rfl rfl ?_ | refine zK ?_ | refine zL ?_ | refine zM rfl ?_ | refine zN ?_)
    refine WL.loadB rfl rfl rfl rfl rfl (hp4.obj 2 rfl) (j := 0) rfl ?_
    repeat (first | refine zA ?_ | refine zB ?_ | refine zC rfl rfl rfl ?_ | refine zD ?_ | refine zE ?_ | refine zF ?_ | refine zG rfl ?_ | refine zH rfl ?_ | refine zI rfl rfl rfl ?_ | refine zJ rfl rfl ?_ | refine zK ?_ | refine zL ?_ | refine zM rfl ?_ | refine zN ?_)
    refine WL.split 11 rfl (fun c1 => ?_) (fun c1 => ?_)
    · have c1 : i < vs.length := by have := of_decide_eq_true c1; omega
      repeat (first | refine zA ?_ | refine zB ?_ | refine zC rfl rfl rfl ?_ | refine zD ?_ | refine zE ?_ | refine zF ?_ | refine zG rfl ?_ | refine zH rfl ?_ | refine zI rfl rfl rfl ?_ | refine zJ rfl rfl ?_ | refine zK ?_ | refine zL ?_ | refine zM rfl ?_ | refine zN ?_)
      refine WC.cond rfl (fun c2 => ?_) (fun c2 => ?_)
      · have c2 : i < 20 := by have h : ((i : Nat) : Int) < 20 := of_decide_eq_true c2; omega
        have step := wrap_succ (i := i) (n := i + 1) (by omega) (by omega)
        have hx := List.getElem_mem c1
        have hxr := hB.rl _ hx
        have hxc := hB.rc _ hx
        obtain ⟨ba, oa, hae, hac⟩ := hst.nx i _ (catV_at c1)
        subst hae
        obtain ⟨m, hm⟩ : ∃ m, m = min vs[i].2.2.length 20 := ⟨_, rfl⟩
        have hm2 : (vs[i].2.2.take 20).length = m := by rw [List.length_take, hm, Nat.min_comm]
        have e14 : min ((vs[i].2.2.length : Nat) : Int) 20 = ((m : Nat) : Int) := by rw [hm]; omega
        repeat (first | refine zA ?_ | refine zB ?_ | refine zC rfl rfl rfl ?_ | refine zD ?_ | refine zE ?_ | refine zF ?_ | refine zG rfl ?_ | refine zH rfl ?_ | refine zI rfl rfl rfl ?_ | refine zJ rfl rfl ?_ | refine zK ?_ | refine zL ?_ | refine zM rfl ?_ | refine zN ?_)
        refine WC.mid (Option Addr × Nat × Vs) (fun (_, _, _) => [(1, ptr b1), (2, ptr b2), (3, ptr b3), (4, .int .i64 (i : Nat))])
          (fun (pa, pc, vs3) w' => rowsOf vs3 = ((rowsOf vs).take (i + 1)).map (·.take 20) ∧ Hp w w' (Stb b3 pa vs3.length pc none 0 0 :: Rvs (.slice pa vs3.length pc) vs3 :: Sb b1 (some ⟨ba, oa, none⟩) cn am cm vs ms :: Stb b2 none 0 0 none 0 0 :: vsE vs3)) ?_ ?_
        · refine WC.regH (fun w' => Hp w w' [Sb b1 (some ⟨ba, oa, none⟩) cn am cm vs ms]) mixed (by kernel_rfl) (fun w5 hw5 hh5 => ?_)
          have hp5 := hp4.keep hw5
          have hS := hp5.pick [2] (by decide)
          refine WH.pure 0 (by kernel_rfl) rfl (by kernel_rfl) rfl rfl rfl (hS) ?_
          refine WH.pure 2 (by kernel_rfl) rfl (by kernel_rfl) rfl rfl rfl (hS) ?_
          refine WH.pure 3 (by kernel_rfl) rfl (by kernel_rfl) rfl rfl rfl (hS) ?_
          refine WH.load 4 (by kernel_rfl) rfl (by kernel_rfl) rfl rfl rfl rfl rfl (fun w' h => cell_of_obj (h.obj 0 rfl) (j := 0) rfl) hS ?_
          refine WH.pure 5 (by kernel_rfl) rfl (by kernel_rfl) rfl rfl rfl (hS) ?_
          refine WH.ix1 6 (by kernel_rfl) rfl (by kernel_rfl) rfl rfl rfl rfl rfl rfl rfl c1 hS ?_
          refine WH.load 7 (by kernel_rfl) rfl (by kernel_rfl) rfl rfl rfl rfl rfl (fun w' h => cell_below h.below hac) hS ?_
          refine WH.pure 8 (by kernel_rfl) rfl (by kernel_rfl) rfl rfl rfl (hS) ?_
          refine WH.load 9 (by kernel_rfl) rfl (by kernel_rfl) rfl rfl rfl rfl rfl (fun w' h => cell_of_obj (h.obj 0 rfl) (j := 0) rfl) hS ?_
          refine WH.pure 10 (by kernel_rfl) rfl (by kernel_rfl) rfl rfl rfl (hS) ?_
          refine WH.ix1 11 (by kernel_rfl) rfl (by kernel_rfl) rfl rfl rfl rfl rfl rfl rfl c1 hS ?_
          refine WH.load 12 (by kernel_rfl) rfl (by kernel_rfl) rfl rfl rfl rfl rfl (fun w' h => cell_below h.below hac) hS ?_
          refine WH.pure 13 (by kernel_rfl) rfl (by kernel_rfl) rfl rfl rfl (hS) ?_
          refine WH.pure 14 (by kernel_rfl) rfl (by kernel_rfl) rfl rfl rfl (hS) ?_
          refine WH.known (d := 31) (congrArg (fun z => some (Value.int .i64 z)) e14) ?_
          refine WH.take 15 (by kernel_rfl) rfl (by kernel_rfl) rfl rfl (fun w' h => ySlHi (h := m) rfl rfl rfl rfl (by omega)) hS ?_
          have hsl : ∀ {w' : World} {L : List Ent}, Hp w w' L → Sl w' vs[i].1 (zs (vs[i].2.2.take 20)) := fun {w' L} h => by
            have := ((hst.hp h).rows _ hx).take 20
            rwa [show (zs vs[i].2.2).take 20 = zs (vs[i].2.2.take 20) from by simp [zs, List.map_take]] at this
          have cl : ∀ {w9 : World} {pa2 pr : Option Addr} {pc2 pk : Nat}, Hp w w9 (.row 3 1 (.slice pr m pk) m ([] ++ zs (vs[i].2.2.take 20)) :: Stb b3 pa2 (vs2.length + 1) pc2 none 0 0 :: .row 22 1 (.slice pa2 (vs2.length + 1) pc2) (vs2.length + 1) (catV vs2 ++ [.slice pr m pk]) :: Sb b1 (some ⟨ba, oa, none⟩) cn am cm vs ms :: Stb b2 none 0 0 none 0 0 :: vsE vs2) →
              rowsOf (vs2 ++ [(pr, pk, vs[i].2.2.take 20)]) = ((rowsOf vs).take (i + 1)).map (·.take 20) ∧ Hp w w9 (Stb b3 pa2 (vs2 ++ [(pr, pk, vs[i].2.2.take 20)]).length pc2 none 0 0 :: Rvs (.slice pa2 (vs2 ++ [(pr, pk, vs[i].2.2.take 20)]).length pc2) (vs2 ++ [(pr, pk, vs[i].2.2.take 20)]) :: Sb b1 (some ⟨ba, oa, none⟩) cn am cm vs ms :: Stb b2 none 0 0 none 0 0 :: vsE (vs2 ++ [(pr, pk, vs[i].2.2.take 20)])) := by
            intro w9 pa2 pr pc2 pk h
            refine ⟨?_, ?_⟩
            · rw [takeV_succ (by rw [List.length_map]; exact c1), ← hvs]; simp [rowsOf]
            · rw [List.nil_append, ← hm2] at h
              have h2 := Hp.pickT (T := vsE vs2) [_, _, _, _, _] [2, 0, 1, 3, 4] h (by decide)
              have h3 := Hp.rowIn (X := [Stb b3 pa2 (vs2.length + 1) pc2 none 0 0, Sb b1 (some ⟨ba, oa, none⟩) cn am cm vs ms, Stb b2 none 0 0 none 0 0]) (x := (pr, pk, vs[i].2.2.take 20)) h2
              rw [show Stb b3 pa2 (vs2 ++ [(pr, pk, vs[i].2.2.take 20)]).length pc2 none 0 0 = Stb b3 pa2 (vs2.length + 1) pc2 none 0 0 by rw [List.length_append]; rfl]
              exact Hp.pickT (T := vsE (vs2 ++ [(pr, pk, vs[i].2.2.take 20)])) [_, _, _, _] [1, 0, 2, 3] h3 (by decide)
          refine WH.two 1 16 rfl rfl (by kernel_rfl) ?_ ?_
          · skip
            refine WL.loadB rfl rfl rfl rfl rfl (hp5.obj 0 rfl) (j := 0) rfl (WL.nil ⟨hp5.pick [2] (by decide), ?_⟩)
            refine WH.one 16 rfl (by kernel_rfl) ?_
            refine WL.append 0 (hp5.nilrow 3 1) rfl rfl rfl rfl rfl (by decide) rfl rfl rfl (news := zs (vs[i].2.2.take 20)) (hsl hp5) (by rw [zs_len, hm2]; exact (Nat.mul_one _).symm) (zs_cells _) (by unfold maxLen; omega) (by show (0 + m) * 8 ≤ _; omega) ?_
            intro pr pk wk0 hk0 _
            rw [Nat.zero_add] at hk0 ⊢
            refine WL.nil ⟨hk0.pick [3] (by decide), ?_⟩
            refine WH.one 17 rfl (by kernel_rfl) ?_
            refine WL.buildS (cs := [.slice pr m pk]) rfl rfl rfl rfl rfl rfl rfl rfl rfl (fun bq1 wq1 hq1 => ?_)
            have hz1 := hk0.new hq1
            refine WL.nil ⟨hz1.pick [4] (by decide), ?_⟩
            refine WH.one 18 rfl (by kernel_rfl) ?_
            refine WL.append 3 hz1 rfl rfl rfl rfl rfl (by decide) rfl rfl rfl (news := [.slice pr m pk]) (Sl.of_obj (hz1.obj 0 rfl) (fun q u hq => by simpa using hq)) rfl (Cells.cons rfl Cells.nil) (by unfold maxLen; omega) (by show (vs2.length + 1) * 24 ≤ _; omega) ?_
            intro paN pcN wN hN _
            have hSN := hN.pick [4] (by decide)
            refine WL.nil ⟨hSN, ?_⟩
            refine WH.pure 19 (by kernel_rfl) rfl (by kernel_rfl) rfl rfl rfl (hSN) ?_
            refine WH.one 20 rfl (by kernel_rfl) ?_
            refine WL.store rfl rfl rfl rfl rfl rfl (hN.obj 2 rfl) (of_decide_eq_true rfl) (fun wM hMs => ?_)
            have hM := (hN.set 2 rfl rfl hMs).tail
            refine WL.nil ⟨hM.pick [3] (by decide), WH.done (by kernel_rfl) ?_⟩
            exact ⟨(paN, pcN, vs2 ++ [(pr, pk, vs[i].2.2.take 20)]), ⟨rfl, rfl, rfl, rfl, rfl⟩, cl hM⟩
          · skip
            refine WL.append 0 (hp5.nilrow 3 1) rfl rfl rfl rfl rfl (by decide) rfl rfl rfl (news := zs (vs[i].2.2.take 20)) (hsl hp5) (by rw [zs_len, hm2]; exact (Nat.mul_one _).symm) (zs_cells _) (by unfold maxLen; omega) (by show (0 + m) * 8 ≤ _; omega) ?_
            intro pr pk wk0 hk0 _
            rw [Nat.zero_add] at hk0 ⊢
            refine WL.nil ⟨hk0.pick [3] (by decide), ?_⟩
            refine WH.two 1 17 rfl rfl (by kernel_rfl) ?_ ?_
            · skip
              refine WL.loadB rfl rfl rfl rfl rfl (hk0.obj 1 rfl) (j := 0) rfl (WL.nil ⟨hk0.pick [3] (by decide), ?_⟩)
              refine WH.one 17 rfl (by kernel_rfl) ?_
              refine WL.buildS (cs := [.slice pr m pk]) rfl rfl rfl rfl rfl rfl rfl rfl rfl (fun bq1 wq1 hq1 => ?_)
              have hz1 := hk0.new hq1
              refine WL.nil ⟨hz1.pick [4] (by decide), ?_⟩
              refine WH.one 18 rfl (by kernel_rfl) ?_
              refine WL.append 3 hz1 rfl rfl rfl rfl rfl (by decide) rfl rfl rfl (news := [.slice pr m pk]) (Sl.of_obj (hz1.obj 0 rfl) (fun q u hq => by simpa using hq)) rfl (Cells.cons rfl Cells.nil) (by unfold maxLen; omega) (by show (vs2.length + 1) * 24 ≤ _; omega) ?_
              intro paN pcN wN hN _
              have hSN := hN.pick [4] (by decide)
              refine WL.nil ⟨hSN, ?_⟩
              refine WH.pure 19 (by kernel_rfl) rfl (by kernel_rfl) rfl rfl rfl (hSN) ?_
              refine WH.one 20 rfl (by kernel_rfl) ?_
              refine WL.store rfl rfl rfl rfl rfl rfl (hN.obj 2 rfl) (of_decide_eq_true rfl) (fun wM hMs => ?_)
              have hM := (hN.set 2 rfl rfl hMs).tail
              refine WL.nil ⟨hM.pick [3] (by decide), WH.done (by kernel_rfl) ?_⟩
              exact ⟨(paN, pcN, vs2 ++ [(pr, pk, vs[i].2.2.take 20)]), ⟨rfl, rfl, rfl, rfl, rfl⟩, cl hM⟩
            · skip
              refine WL.buildS (cs := [.slice pr m pk]) rfl rfl rfl rfl rfl rfl rfl rfl rfl (fun bq1 wq1 hq1 => ?_)
              have hz1 := hk0.new hq1
              refine WL.nil ⟨hz1.pick [4] (by decide), ?_⟩
              refine WH.one 1 rfl (by kernel_rfl) ?_
              refine WL.loadB rfl rfl rfl rfl rfl (hz1.obj 2 rfl) (j := 0) rfl (WL.nil ⟨hz1.pick [4] (by decide), ?_⟩)
              refine WH.one 18 rfl (by kernel_rfl) ?_
              refine WL.append 3 hz1 rfl rfl rfl rfl rfl (by decide) rfl rfl rfl (news := [.slice pr m pk]) (Sl.of_obj (hz1.obj 0 rfl) (fun q u hq => by simpa using hq)) rfl (Cells.cons rfl Cells.nil) (by unfold maxLen; omega) (by show (vs2.length + 1) * 24 ≤ _; omega) ?_
              intro paN pcN wN hN _
              have hSN := hN.pick [4] (by decide)
              refine WL.nil ⟨hSN, ?_⟩
              refine WH.pure 19 (by kernel_rfl) rfl (by kernel_rfl) rfl rfl rfl (hSN) ?_
              refine WH.one 20 rfl (by kernel_rfl) ?_
              refine WL.store rfl rfl rfl rfl rfl rfl (hN.obj 2 rfl) (of_decide_eq_true rfl) (fun wM hMs => ?_)
              have hM := (hN.set 2 rfl rfl hMs).tail
              refine WL.nil ⟨hM.pick [3] (by decide), WH.done (by kernel_rfl) ?_⟩
              exact ⟨(paN, pcN, vs2 ++ [(pr, pk, vs[i].2.2.take 20)]), ⟨rfl, rfl, rfl, rfl, rfl⟩, cl hM⟩
        · rintro ⟨pa, pc, vs3⟩ e5 w5 hsub ⟨hvs3, hp5⟩
          refine WC.sub hsub ?_
          repeat (first | refine zA ?_ | refine zB ?_ | refine zC rfl rfl rfl ?_ | refine zD ?_ | refine zE ?_ | refine zF ?_ | refine zG rfl ?_ | refine zH rfl ?_ | refine zI rfl rfl rfl ?_ | refine zJ rfl rfl ?_ | refine zK ?_ | refine zL ?_ | refine zM rfl ?_ | refine zN ?_)
          exact ⟨(i + 1, pa, pc, vs3), (by show 20 - (i + 1) < 20 - i; omega), ⟨rfl, rfl, rfl, congrArg (fun z => some (Value.int .i64 z)) step, rfl⟩, c1, c2, hvs3, hp5⟩
      · have c2 : ¬ i < 20 := by have h : ¬ ((i : Nat) : Int) < 20 := of_decide_eq_false c2; omega
        repeat (first | refine zA ?_ | refine zB ?_ | refine zC rfl rfl rfl ?_ | refine zD ?_ | refine zE ?_ | refine zF ?_ | refine zG rfl ?_ | refine zH rfl ?_ | refine zI rfl rfl rfl ?_ | refine zJ rfl rfl ?_ | refine zK ?_ | refine zL ?_ | refine zM rfl ?_ | refine zN ?_)
        exact ⟨(na, nc, vs2), ⟨rfl, rfl, rfl, rfl⟩, fin (.inr c2), hp4⟩
    · have c1 : ¬ i < vs.length := by have h : ¬ ((i : Nat) : Int) < ((vs.length : Nat) : Int) := of_decide_eq_false c1; omega
      repeat (first | refine zA ?_ | refine zB ?_ | refine zC rfl rfl rfl ?_ | refine zD ?_ | refine zE ?_ | refine zF ?_ | refine zG rfl ?_ | refine zH rfl ?_ | refine zI rfl rfl rfl ?_ | refine zJ rfl rfl ?_ | refine zK ?_ | refine zL ?_ | refine zM rfl ?_ | refine zN ?_)
      exact ⟨(na, nc, vs2), ⟨rfl, rfl, rfl, rfl⟩, fin (.inl c1), hp4⟩
  rintro ⟨na, nc, vs2⟩ e4 w4 hsub ⟨hvs, hp4⟩
  refine WC.sub hsub ?_
  clear hsub e4 hp3 hp2 hp1
  replace hp4 : Hp w w4 (Stb b3 na vs2.length nc none 0 0 :: Rvs (.slice na vs2.length nc) vs2 :: Sb b1 an cn am cm vs ms :: Stb b2 none 0 0 none 0 0 :: vsE vs2) := hp4
  obtain ⟨m, hm⟩ : ∃ m, m = min ms.length 20 := ⟨_, rfl⟩
  have hm2 : (ms.take 20).length = m := by rw [List.length_take, hm, Nat.min_comm]
  have e7 : min ((ms.length : Nat) : Int) 20 = ((m : Nat) : Int) := by rw [hm]; omega
  refine WC.seq ?_
  refine WC.mid (Option Addr × Nat) (fun _ => [(2, ptr b2), (3, ptr b3)])
    (fun (ma, mc) w' => Hp w w' (Stb b3 na vs2.length nc ma m mc :: Rvs (.slice na vs2.length nc) vs2 :: .row 3 1 (.slice ma m mc) m (zs (ms.take 20)) :: Stb b2 none 0 0 none 0 0 :: vsE vs2)) ?_ ?_
  · refine WC.regH (fun w' => Hp w w' [Sb b1 an cn am cm vs ms]) mixed (by kernel_rfl) (fun w5 hw5 hh5 => ?_)
    have hp5 := hp4.keep hw5
    have hS := hp5.pick [2] (by decide)
    refine WH.pure 0 (by kernel_rfl) rfl (by kernel_rfl) rfl rfl rfl (hS) ?_
    refine WH.pure 2 (by kernel_rfl) rfl (by kernel_rfl) rfl rfl rfl (hS) ?_
    refine WH.load 3 (by kernel_rfl) rfl (by kernel_rfl) rfl rfl rfl rfl rfl (fun w' h => cell_of_obj (h.obj 0 rfl) (j := 1) rfl) hS ?_
    refine WH.pure 4 (by kernel_rfl) rfl (by kernel_rfl) rfl rfl rfl (hS) ?_
    refine WH.load 5 (by kernel_rfl) rfl (by kernel_rfl) rfl rfl rfl rfl rfl (fun w' h => cell_of_obj (h.obj 0 rfl) (j := 1) rfl) hS ?_
    refine WH.pure 6 (by kernel_rfl) rfl (by kernel_rfl) rfl rfl rfl (hS) ?_
    refine WH.pure 7 (by kernel_rfl) rfl (by kernel_rfl) rfl rfl rfl (hS) ?_
    refine WH.known (d := 44) (congrArg (fun z => some (Value.int .i64 z)) e7) ?_
    refine WH.take 8 (by kernel_rfl) rfl (by kernel_rfl) rfl rfl (fun w' h => ySlHi (h := m) rfl rfl rfl rfl (by omega)) hS ?_
    refine WH.one 1 rfl (by kernel_rfl) ?_
    refine WL.loadB rfl rfl rfl rfl rfl (hp5.obj 0 rfl) (j := 1) rfl (WL.nil ⟨hS, ?_⟩)
    refine WH.one 9 rfl (by kernel_rfl) ?_
    refine WL.append 0 (hp5.nilrow 3 1) rfl rfl rfl rfl rfl (by decide) rfl rfl rfl (news := zs (ms.take 20)) (by
      have := ((hst.hp hp5).mks).take 20
      rwa [show (zs ms).take 20 = zs (ms.take 20) from by simp [zs, List.map_take]] at this) (by rw [zs_len, hm2]; exact (Nat.mul_one _).symm) (zs_cells _) (by unfold maxLen; omega) (by show (0 + m) * 8 ≤ _; omega) ?_
    intro ma mc w6 hp6 _
    rw [Nat.zero_add] at hp6 ⊢
    replace hp6 : Hp w w6 (.row 3 1 (.slice ma m mc) m (zs (ms.take 20)) :: Stb b3 na vs2.length nc none 0 0 :: Rvs (.slice na vs2.length nc) vs2 :: Sb b1 an cn am cm vs ms :: Stb b2 none 0 0 none 0 0 :: vsE vs2) := hp6
    have hS := hp6.pick [3] (by decide)
    refine WL.nil ⟨hS, ?_⟩
    refine WH.pure 10 (by kernel_rfl) rfl (by kernel_rfl) rfl rfl rfl (hS) ?_
    refine WH.one 11 rfl (by kernel_rfl) ?_
    refine WL.store rfl rfl rfl rfl rfl rfl (hp6.obj 1 rfl) (Nat.lt_succ_self 1) (fun w7 h7 => ?_)
    have hp7 := hp6.set 1 rfl rfl h7
    refine WL.nil ⟨hp7.pick [3] (by decide), WH.done (by kernel_rfl) ?_⟩
    exact ⟨(ma, mc), ⟨rfl, rfl, rfl⟩, Hp.pickT (T := vsE vs2) [_, _, _, _, _] [1, 2, 0, 4] hp7 (by decide)⟩
  rintro ⟨ma, mc⟩ e5 w5 hsub hp5
  refine WC.sub hsub ?_
  clear hsub e5 hp4
  replace hp5 : Hp w w5 (Stb b3 na vs2.length nc ma m mc :: Rvs (.slice na vs2.length nc) vs2 :: .row 3 1 (.slice ma m mc) m (zs (ms.take 20)) :: Stb b2 none 0 0 none 0 0 :: vsE vs2) := hp5
  repeat (first | refine zA ?_ | refine zB ?_ | refine zC rfl rfl rfl ?_ | refine zD ?_ | refine zE ?_ | refine zF ?_ | refine zG rfl ?_ | refine zH rfl ?_ | refine zI rfl rfl rfl ?_ | refine zJ rfl rfl ?_ | refine zK ?_ | refine zL ?_ | refine zM rfl ?_ | refine zN ?_)
  refine WL.loadN rfl rfl rfl rfl rfl (cs := [.slice na vs2.length nc, .slice ma m mc]) rfl (fun q v hq => cell_of_obj (hp5.obj 0 rfl) (by rw [Nat.zero_add]; simpa using hq)) ?_
  refine WL.storeN rfl rfl rfl rfl rfl (by simp [Value.oneCell']) (hp5.obj 3 rfl) (Nat.le_refl _) rfl (fun w6 h6 => ?_)
  have hp6 := hp5.set 3 rfl rfl h6
  repeat (first | refine zA ?_ | refine zB ?_ | refine zC rfl rfl rfl ?_ | refine zD ?_ | refine zE ?_ | refine zF ?_ | refine zG rfl ?_ | refine zH rfl ?_ | refine zI rfl rfl rfl ?_ | refine zJ rfl rfl ?_ | refine zK ?_ | refine zL ?_ | refine zM rfl ?_ | refine zN ?_)
  rw [hm2]
  refine Res.cell rfl rfl rfl rfl rfl rfl (hp6.obj 3 rfl) ⟨na, nc, ma, mc, vs2, rfl, hvs, ?_⟩
  have := Hp.pickT (T := vsE vs2) [_, _, _, _] [1, 2] hp6 (by decide)
  unfold Ri
  rw [hm2]
  exact this
end Go.Proofs.YtpbbneclkhfgoaaDoor
end
section
/- ltl, forty-fifth: the reference's Structure. -/
namespace Go.Proofs.YtpbbneclkhfgoaaDoor
open Go.W Go.Ltl Go.RowKit
set_option maxRecDepth 100000
set_option linter.unusedSectionVars false
attribute [local irreducible] WC WL WQ WS WH

def rowsOf2 (vs : Vs) (k : Nat) : List Int := (vs.map fun x => x.2.2).getD k []
theorem rStructure_any (an : Option Addr) (cn : Nat) (am : Option Addr) (cm : Nat) (vs : Vs) (ms : List Int) (hvl : vs.length ≤ 1000000) (hms : ms.length ≤ 1000000) (hvs : ∀ x ∈ vs, x.2.2.length ≤ 1000000) (w : World) (hst : Stc w an am vs ms) :
    Ret Tryd.prog 39 [stV an cn am cm vs ms] w fun v w' => v = .bool (strB vs ms) ∧ Hp w w' [] := by
  refine enter Tryd.func39 rfl rfl ⟨rfl, rfl⟩ rfl ?_
  repeat (first | refine zA ?_ | refine zB ?_ | refine zC rfl rfl rfl ?_ | refine zD ?_ | refine zE ?_ | refine zF ?_ | refine zG rfl ?_ | refine zH rfl ?_ | refine zI rfl rfl rfl ?_ | refine zJ rfl rfl ?_ | refine zK ?_ | refine zL ?_ | refine zM rfl ?_ | refine zN ?_)
  refine WL.box rfl rfl rfl (fun b w1 h1 => ?_)
  have hp1 : Hp w w1 [Sb b an cn am cm vs ms] := (Hp.start w).new h1
  repeat (first | refine zA ?_ | refine zB ?_ | refine zC rfl rfl rfl ?_ | refine zD ?_ | refine zE ?_ | refine zF ?_ | refine zG rfl ?_ | refine zH rfl ?_ | refine zI rfl rfl rfl ?_ | refine zJ rfl rfl ?_ | refine zK ?_ | refine zL ?_ | refine zM rfl ?_ | refine zN ?_)
  refine WL.loadB rfl rfl rfl rfl rfl (hp1.obj 0 rfl) (j := 0) rfl ?_
  repeat (first | refine zA ?_ | refine zB ?_ | refine zC rfl rfl rfl ?_ | refine zD ?_ | refine zE ?_ | refine zF ?_ | refine zG rfl ?_ | refine zH rfl ?_ | refine zI rfl rfl rfl ?_ | refine zJ rfl rfl ?_ | refine zK ?_ | refine zL ?_ | refine zM rfl ?_ | refine zN ?_)
  refine WL.split 11 rfl (fun c1 => ?_) (fun c1 => ?_)
  · have c1 : ¬ 1 ≤ vs.length := by have := of_decide_eq_true c1; omega
    have e1 : strB vs ms = false := by unfold strB; rw [decide_eq_false c1]; rfl
    rw [e1]
    repeat (first | refine zA ?_ | refine zB ?_ | refine zC rfl rfl rfl ?_ | refine zD ?_ | refine zE ?_ | refine zF ?_ | refine zG rfl ?_ | refine zH rfl ?_ | refine zI rfl rfl rfl ?_ | refine zJ rfl rfl ?_ | refine zK ?_ | refine zL ?_ | refine zM rfl ?_ | refine zN ?_)
    exact Res.one rfl rfl rfl ⟨rfl, hp1.nil'⟩
  have c1 : 1 ≤ vs.length := by have := of_decide_eq_false c1; omega
  repeat (first | refine zA ?_ | refine zB ?_ | refine zC rfl rfl rfl ?_ | refine zD ?_ | refine zE ?_ | refine zF ?_ | refine zG rfl ?_ | refine zH rfl ?_ | refine zI rfl rfl rfl ?_ | refine zJ rfl rfl ?_ | refine zK ?_ | refine zL ?_ | refine zM rfl ?_ | refine zN ?_)
  refine WL.split 15 rfl (fun c2 => ?_) (fun c2 => ?_)
  · have c2 : ¬ vs.length ≤ 16 := by have := of_decide_eq_true c2; omega
    have e1 : strB vs ms = false := by unfold strB; rw [decide_eq_false c2, Bool.and_false]; rfl
    rw [e1]
    repeat (first | refine zA ?_ | refine zB ?_ | refine zC rfl rfl rfl ?_ | refine zD ?_ | refine zE ?_ | refine zF ?_ | refine zG rfl ?_ | refine zH rfl ?_ | refine zI rfl rfl rfl ?_ | refine zJ rfl rfl ?_ | refine zK ?_ | refine zL ?_ | refine zM rfl ?_ | refine zN ?_)
    exact Res.one rfl rfl rfl ⟨rfl, hp1.nil'⟩
  have c2 : vs.length ≤ 16 := by have := of_decide_eq_false c2; omega
  repeat (first | refine zA ?_ | refine zB ?_ | refine zC rfl rfl rfl ?_ | refine zD ?_ | refine zE ?_ | refine zF ?_ | refine zG rfl ?_ | refine zH rfl ?_ | refine zI rfl rfl rfl ?_ | refine zJ rfl rfl ?_ | refine zK ?_ | refine zL ?_ | refine zM rfl ?_ | refine zN ?_)
  refine WL.loadB rfl rfl rfl rfl rfl (hp1.obj 0 rfl) (j := 1) rfl ?_
  repeat (first | refine zA ?_ | refine zB ?_ | refine zC rfl rfl rfl ?_ | refine zD ?_ | refine zE ?_ | refine zF ?_ | refine zG rfl ?_ | refine zH rfl ?_ | refine zI rfl rfl rfl ?_ | refine zJ rfl rfl ?_ | refine zK ?_ | refine zL ?_ | refine zM rfl ?_ | refine zN ?_)
  cases c3 : decide (ms.length = vs.length) with
  | false =>
    have hne : ms.length ≠ vs.length := of_decide_eq_false c3
    have e1 : strB vs ms = false := by unfold strB; rw [c3, Bool.and_false]; rfl
    refine WC.cond rfl (fun _ => ?_) (fun c => ?_)
    · rw [e1]
      repeat (first | refine zA ?_ | refine zB ?_ | refine zC rfl rfl rfl ?_ | refine zD ?_ | refine zE ?_ | refine zF ?_ | refine zG rfl ?_ | refine zH rfl ?_ | refine zI rfl rfl rfl ?_ | refine zJ rfl rfl ?_ | refine zK ?_ | refine zL ?_ | refine zM rfl ?_ | refine zN ?_)
      exact Res.one rfl rfl rfl ⟨rfl, hp1.nil'⟩
    · have c : (!(((ms.length : Nat) : Int) == ((vs.length : Nat) : Int))) = false := c
      simp only [Bool.not_eq_false', beq_iff_eq] at c
      omega
  | true =>
    have heq : ms.length = vs.length := of_decide_eq_true c3
    refine WC.cond rfl (fun c => ?_) (fun _ => ?_)
    · have c : (!(((ms.length : Nat) : Int) == ((vs.length : Nat) : Int))) = true := c
      rw [heq] at c
      simp at c
    have hstr : strB vs ms = (ms.all markB && vs.all fun x => rowB vs.length x.2.2) := by
      unfold strB; rw [decide_eq_true c1, decide_eq_true c2, decide_eq_true heq]; rfl
    repeat (first | refine zA ?_ | refine zB ?_ | refine zC rfl rfl rfl ?_ | refine zD ?_ | refine zE ?_ | refine zF ?_ | refine zG rfl ?_ | refine zH rfl ?_ | refine zI rfl rfl rfl ?_ | refine zJ rfl rfl ?_ | refine zK ?_ | refine zL ?_ | refine zM rfl ?_ | refine zN ?_)
    refine WC.loop Nat (fun i => [(1, ptr b), (3, .int .i64 (vs.length : Nat)), (4, .int .i64 (i : Nat))])
      (fun i w' => i ≤ vs.length ∧ (∀ k, k < i → markB (ms.getD k 0) = true ∧ rowB vs.length (rowsOf2 vs k) = true) ∧ Hp w w' [Sb b an cn am cm vs ms]) (fun i => vs.length - i) 0 ⟨rfl, rfl, rfl, rfl⟩ ⟨Nat.zero_le _, fun k hk => by omega, hp1⟩ ?_
    clear hp1 h1
    rintro i w2 ⟨hi, hall, hp1⟩
    replace hp1 : Hp w w2 [Sb b an cn am cm vs ms] := hp1
    replace hi : i ≤ vs.length := hi
    repeat (first | refine zA ?_ | refine zB ?_ | refine zC rfl rfl rfl ?_ | refine zD ?_ | refine zE ?_ | refine zF ?_ | refine zG rfl ?_ | refine zH rfl ?_ | refine zI rfl rfl rfl ?_ | refine zJ rfl rfl ?_ | refine zK ?_ | refine zL ?_ | refine zM rfl ?_ | refine zN ?_)
    refine WC.cond rfl (fun h2 => ?_) (fun h2 => ?_)
    · have hi : i < vs.length := by have := of_decide_eq_true h2; omega
      have him : i < ms.length := by omega
      have step := wrap_succ (i := i) (n := i + 1) (by omega) (by omega)
      have hsl := (hst.hp hp1).rows _ (List.getElem_mem hi)
      have hlen := hvs _ (List.getElem_mem hi)
      have hxm := List.getElem_mem hi
      have hrow : rowsOf2 vs i = vs[i].2.2 := by unfold rowsOf2; rw [List.getD_eq_getElem?_getD, List.getElem?_map, List.getElem?_eq_getElem hi]; rfl
      have hmk : ms.getD i 0 = ms[i] := by simp [him]
      have hbad : (markB ms[i] = false ∨ rowB vs.length vs[i].2.2 = false) → strB vs ms = false := by
        rw [hstr]
        rintro (h | h)
        · rw [List.all_eq_false.2 ⟨_, List.getElem_mem him, by rw [h]; simp⟩]; rfl
        · rw [List.all_eq_false.2 ⟨_, List.getElem_mem hi, by rw [h]; simp⟩, Bool.and_false]
      have hstep : markB ms[i] = true → rowB vs.length vs[i].2.2 = true → ∀ k, k < i + 1 → markB (ms.getD k 0) = true ∧ rowB vs.length (rowsOf2 vs k) = true := by
        intro h1 h2 k hk
        rcases Nat.lt_or_ge k i with h | h
        · exact hall k h
        · rw [show k = i by omega, hmk, hrow]; exact ⟨h1, h2⟩
      obtain ⟨x, hx⟩ : ∃ x, x = vs[i] := ⟨_, rfl⟩
      have hcat := catV_at hi
      rw [← hx] at hsl hlen hbad hstep hcat hxm
      clear hrow hx
      obtain ⟨ra, rc, l⟩ := x
      replace hsl : Sl w2 ra (zs l) := hsl
      replace hlen : l.length ≤ 1000000 := hlen
      replace hbad : (markB ms[i] = false ∨ rowB vs.length l = false) → strB vs ms = false := hbad
      replace hstep : markB ms[i] = true → rowB vs.length l = true → ∀ k, k < i + 1 → markB (ms.getD k 0) = true ∧ rowB vs.length (rowsOf2 vs k) = true := hstep
      replace hcat : (catV vs)[i]? = some (.slice ra l.length rc) := hcat
      repeat (first | refine zA ?_ | refine zB ?_ | refine zC rfl rfl rfl ?_ | refine zD ?_ | refine zE ?_ | refine zF ?_ | refine zG rfl ?_ | refine zH rfl ?_ | refine zI rfl rfl rfl ?_ | refine zJ rfl rfl ?_ | refine zK ?_ | refine zL ?_ | refine zM rfl ?_ | refine zN ?_)
      refine WL.loadB rfl rfl rfl rfl rfl (hp1.obj 0 rfl) (j := 1) rfl ?_
      refine WL.pure rfl rfl rfl ?_
      refine WL.ixload rfl (fun _ => rfl) rfl rfl rfl rfl rfl rfl rfl him rfl rfl (hst.hp hp1).mks (zs_at him) ?_
      intro q0
      repeat (first | refine zA ?_ | refine zB ?_ | refine zC rfl rfl rfl ?_ | refine zD ?_ | refine zE ?_ | refine zF ?_ | refine zG rfl ?_ | refine zH rfl ?_ | refine zI rfl rfl rfl ?_ | refine zJ rfl rfl ?_ | refine zK ?_ | refine zL ?_ | refine zM rfl ?_ | refine zN ?_)
      refine WL.split 33 rfl (fun c4 => ?_) (fun c4 => ?_)
      · have c4 : ms[i] < 0 := of_decide_eq_true c4
        rw [hbad (.inl (by unfold markB; rw [decide_eq_false (show ¬ 0 ≤ ms[i] by omega)]; rfl))]
        repeat (first | refine zA ?_ | refine zB ?_ | refine zC rfl rfl rfl ?_ | refine zD ?_ | refine zE ?_ | refine zF ?_ | refine zG rfl ?_ | refine zH rfl ?_ | refine zI rfl rfl rfl ?_ | refine zJ rfl rfl ?_ | refine zK ?_ | refine zL ?_ | refine zM rfl ?_ | refine zN ?_)
        exact Res.one rfl rfl rfl ⟨rfl, hp1.nil'⟩
      have c4 : 0 ≤ ms[i] := by have := of_decide_eq_false c4; omega
      repeat (first | refine zA ?_ | refine zB ?_ | refine zC rfl rfl rfl ?_ | refine zD ?_ | refine zE ?_ | refine zF ?_ | refine zG rfl ?_ | refine zH rfl ?_ | refine zI rfl rfl rfl ?_ | refine zJ rfl rfl ?_ | refine zK ?_ | refine zL ?_ | refine zM rfl ?_ | refine zN ?_)
      refine WL.loadB rfl rfl rfl rfl rfl (hp1.obj 0 rfl) (j := 1) rfl ?_
      refine WL.pure rfl rfl rfl ?_
      refine WL.ixload rfl (fun _ => rfl) rfl rfl rfl rfl rfl rfl rfl him rfl rfl (hst.hp hp1).mks (zs_at him) ?_
      intro q1
      repeat (first | refine zA ?_ | refine zB ?_ | refine zC rfl rfl rfl ?_ | refine zD ?_ | refine zE ?_ | refine zF ?_ | refine zG rfl ?_ | refine zH rfl ?_ | refine zI rfl rfl rfl ?_ | refine zJ rfl rfl ?_ | refine zK ?_ | refine zL ?_ | refine zM rfl ?_ | refine zN ?_)
      refine WL.split 41 rfl (fun c5 => ?_) (fun c5 => ?_)
      · have c5 : 15 < ms[i] := of_decide_eq_true c5
        rw [hbad (.inl (by unfold markB; rw [decide_eq_false (show ¬ ms[i] ≤ 15 by omega), Bool.and_false]))]
        repeat (first | refine zA ?_ | refine zB ?_ | refine zC rfl rfl rfl ?_ | refine zD ?_ | refine zE ?_ | refine zF ?_ | refine zG rfl ?_ | refine zH rfl ?_ | refine zI rfl rfl rfl ?_ | refine zJ rfl rfl ?_ | refine zK ?_ | refine zL ?_ | refine zM rfl ?_ | refine zN ?_)
        exact Res.one rfl rfl rfl ⟨rfl, hp1.nil'⟩
      have c5 : ms[i] ≤ 15 := by have h : ¬ 15 < ms[i] := of_decide_eq_false c5; omega
      have hmb : markB ms[i] = true := by unfold markB; rw [decide_eq_true c4, decide_eq_true c5]; rfl
      repeat (first | refine zA ?_ | refine zB ?_ | refine zC rfl rfl rfl ?_ | refine zD ?_ | refine zE ?_ | refine zF ?_ | refine zG rfl ?_ | refine zH rfl ?_ | refine zI rfl rfl rfl ?_ | refine zJ rfl rfl ?_ | refine zK ?_ | refine zL ?_ | refine zM rfl ?_ | refine zN ?_)
      refine WL.loadB rfl rfl rfl rfl rfl (hp1.obj 0 rfl) (j := 0) rfl ?_
      refine WL.pure rfl rfl rfl ?_
      refine WL.ixload rfl (fun _ => rfl) rfl rfl rfl rfl rfl rfl rfl hi rfl rfl (hst.hp hp1).nx hcat ?_
      intro q2
      repeat (first | refine zA ?_ | refine zB ?_ | refine zC rfl rfl rfl ?_ | refine zD ?_ | refine zE ?_ | refine zF ?_ | refine zG rfl ?_ | refine zH rfl ?_ | refine zI rfl rfl rfl ?_ | refine zJ rfl rfl ?_ | refine zK ?_ | refine zL ?_ | refine zM rfl ?_ | refine zN ?_)
      refine WC.cond rfl (fun h3 => ?_) (fun h3 => ?_)
      · have h3 : l = [] := List.eq_nil_of_length_eq_zero (by have h5 : (((l.length : Nat) : Int) == 0) = true := h3; rw [beq_iff_eq] at h5; omega)
        rw [hbad (.inr (by unfold rowB; rw [h3]; rfl))]
        repeat (first | refine zA ?_ | refine zB ?_ | refine zC rfl rfl rfl ?_ | refine zD ?_ | refine zE ?_ | refine zF ?_ | refine zG rfl ?_ | refine zH rfl ?_ | refine zI rfl rfl rfl ?_ | refine zJ rfl rfl ?_ | refine zK ?_ | refine zL ?_ | refine zM rfl ?_ | refine zN ?_)
        exact Res.one rfl rfl rfl ⟨rfl, hp1.nil'⟩
      have h3 : l ≠ [] := fun h => by rw [h] at h3; cases h3
      repeat (first | refine zA ?_ | refine zB ?_ | refine zC rfl rfl rfl ?_ | refine zD ?_ | refine zE ?_ | refine zF ?_ | refine zG rfl ?_ | refine zH rfl ?_ | refine zI rfl rfl rfl ?_ | refine zJ rfl rfl ?_ | refine zK ?_ | refine zL ?_ | refine zM rfl ?_ | refine zN ?_)
      obtain ⟨ba, oa, hae, hac⟩ := hst.nx i _ hcat
      have hslw : Sl w ra (zs l) := hst.rows _ hxm
      obtain ⟨br, orr, hre, hrc⟩ := hslw 0 (.int .i64 (l.getD 0 0)) (zs_getD (List.length_pos_iff.2 h3))
      subst hae
      subst hre
      refine WC.loop Nat (fun j => [(1, ptr b), (3, .int .i64 (vs.length : Nat)), (4, .int .i64 (i : Nat)), (5, .int .i64 (j : Nat))])
        (fun j w' => j ≤ l.length ∧ (List.range j).all (sucB vs.length l) = true ∧ Hp w w' [Sb b (some ⟨ba, oa, none⟩) cn am cm vs ms]) (fun j => l.length - j) 0 ⟨rfl, rfl, rfl, rfl, rfl⟩ ⟨Nat.zero_le _, by simp, hp1⟩ ?_
      clear hp1 hsl
      rintro j w4 ⟨hj, hsu, hp1⟩
      replace hp1 : Hp w w4 [Sb b (some ⟨ba, oa, none⟩) cn am cm vs ms] := hp1
      replace hsu : (List.range j).all (sucB vs.length l) = true := hsu
      repeat (first | refine zA ?_ | refine zB ?_ | refine zC rfl rfl rfl ?_ | refine zD ?_ | refine zE ?_ | refine zF ?_ | refine zG rfl ?_ | refine zH rfl ?_ | refine zI rfl rfl rfl ?_ | refine zJ rfl rfl ?_ | refine zK ?_ | refine zL ?_ | refine zM rfl ?_ | refine zN ?_)
      refine WL.loadB rfl rfl rfl rfl rfl (hp1.obj 0 rfl) (j := 0) rfl ?_
      refine WL.pure rfl rfl rfl ?_
      refine WL.ixload rfl (fun _ => rfl) rfl rfl rfl rfl rfl rfl rfl hi rfl rfl (hst.hp hp1).nx hcat ?_
      intro q3
      repeat (first | refine zA ?_ | refine zB ?_ | refine zC rfl rfl rfl ?_ | refine zD ?_ | refine zE ?_ | refine zF ?_ | refine zG rfl ?_ | refine zH rfl ?_ | refine zI rfl rfl rfl ?_ | refine zJ rfl rfl ?_ | refine zK ?_ | refine zL ?_ | refine zM rfl ?_ | refine zN ?_)
      refine WC.cond rfl (fun h4 => ?_) (fun h4 => ?_)
      · have hj : j < l.length := by have := of_decide_eq_true h4; omega
        have stepj := wrap_succ (i := j) (n := j + 1) (by omega) (by omega)
        have hgj : l.getD j 0 = l[j] := by simp [hj]
        have hno : sucB vs.length l j = false → rowB vs.length l = false := by
          intro h
          unfold rowB
          rw [List.all_eq_false.2 ⟨j, List.mem_range.2 hj, by rw [h]; simp⟩, Bool.and_false]
        have hyes : sucB vs.length l j = true → (List.range (j + 1)).all (sucB vs.length l) = true := by
          intro h
          rw [List.range_succ, List.all_append, hsu, List.all_cons, h]; rfl
        have hcj := Sl.cell hslw (zs_at hj)
        repeat (first | refine zA ?_ | refine zB ?_ | refine zC rfl rfl rfl ?_ | refine zD ?_ | refine zE ?_ | refine zF ?_ | refine zG rfl ?_ | refine zH rfl ?_ | refine zI rfl rfl rfl ?_ | refine zJ rfl rfl ?_ | refine zK ?_ | refine zL ?_ | refine zM rfl ?_ | refine zN ?_)
        refine WC.mid Bool (fun r => [(1, ptr b), (3, .int .i64 (vs.length : Nat)), (4, .int .i64 (i : Nat)), (5, .int .i64 (j : Nat)), (104, .bool r)])
          (fun r w' => r = !sucB vs.length l j ∧ Hp w w' [Sb b (some ⟨ba, oa, none⟩) cn am cm vs ms]) ?_ ?_
        · refine WC.regQ (fun w' => Hp w w' [Sb b (some ⟨ba, oa, none⟩) cn am cm vs ms]) mixed (by kernel_rfl) (fun w' hw' => hp1.keep hw') ?_
          repeat (first | refine WQ.pure rfl rfl rfl ?_ | refine WQ.off rfl rfl rfl ?_ | refine WQ.nil ?_)
          refine WQ.load rfl rfl rfl rfl rfl (fun w' h => cell_of_obj (h.obj 0 rfl) (j := 0) rfl) ?_
          repeat (first | refine WQ.pure rfl rfl rfl ?_ | refine WQ.off rfl rfl rfl ?_ | refine WQ.nil ?_)
          refine WQ.ixload rfl (fun _ => rfl) rfl rfl rfl rfl rfl rfl rfl hi rfl rfl (fun w' h => cell_below h.below hac) ?_
          repeat (first | refine WQ.pure rfl rfl rfl ?_ | refine WQ.off rfl rfl rfl ?_ | refine WQ.nil ?_)
          refine WQ.ixload rfl (fun _ => rfl) rfl rfl rfl rfl rfl rfl rfl hj rfl rfl (fun w' h => cell_below h.below hcj) ?_
          repeat (first | refine WQ.pure rfl rfl rfl ?_ | refine WQ.off rfl rfl rfl ?_ | refine WQ.nil ?_)
          refine WQ.split 69 rfl (fun c5 => ?_) (fun c5 => ?_)
          · have c5 : l[j] < 0 := of_decide_eq_true c5
            repeat (first | refine WQ.pure rfl rfl rfl ?_ | refine WQ.off rfl rfl rfl ?_ | refine WQ.nil ?_)
            intro w' h
            exact ⟨_, ⟨rfl, rfl, rfl, rfl, rfl, rfl⟩, by unfold sucB; rw [hgj, decide_eq_false (show ¬ 0 ≤ l[j] by omega)]; rfl, h⟩
          have c5 : 0 ≤ l[j] := by have := of_decide_eq_false c5; omega
          repeat (first | refine WQ.pure rfl rfl rfl ?_ | refine WQ.off rfl rfl rfl ?_ | refine WQ.nil ?_)
          refine WQ.load rfl rfl rfl rfl rfl (fun w' h => cell_of_obj (h.obj 0 rfl) (j := 0) rfl) ?_
          repeat (first | refine WQ.pure rfl rfl rfl ?_ | refine WQ.off rfl rfl rfl ?_ | refine WQ.nil ?_)
          refine WQ.ixload rfl (fun _ => rfl) rfl rfl rfl rfl rfl rfl rfl hi rfl rfl (fun w' h => cell_below h.below hac) ?_
          repeat (first | refine WQ.pure rfl rfl rfl ?_ | refine WQ.off rfl rfl rfl ?_ | refine WQ.nil ?_)
          refine WQ.ixload rfl (fun _ => rfl) rfl rfl rfl rfl rfl rfl rfl hj rfl rfl (fun w' h => cell_below h.below hcj) ?_
          repeat (first | refine WQ.pure rfl rfl rfl ?_ | refine WQ.off rfl rfl rfl ?_ | refine WQ.nil ?_)
          refine WQ.split 81 rfl (fun c6 => ?_) (fun c6 => ?_)
          · have c6 : ¬ l[j] < (vs.length : Int) := by have := of_decide_eq_true c6; omega
            repeat (first | refine WQ.pure rfl rfl rfl ?_ | refine WQ.off rfl rfl rfl ?_ | refine WQ.nil ?_)
            intro w' h
            exact ⟨_, ⟨rfl, rfl, rfl, rfl, rfl, rfl⟩, by unfold sucB; rw [hgj, decide_eq_false c6, Bool.and_false]; rfl, h⟩
          have c6 : l[j] < (vs.length : Int) := by have := of_decide_eq_false c6; omega
          repeat (first | refine WQ.pure rfl rfl rfl ?_ | refine WQ.off rfl rfl rfl ?_ | refine WQ.nil ?_)
          refine WQ.split 84 rfl (fun c7 => ?_) (fun c7 => ?_)
          · have c7 : 0 < j := by have := of_decide_eq_true c7; omega
            have e3 : IntKind.i64.wrap (((j : Nat) : Int) - 1) = ((j - 1 : Nat) : Int) := by rw [wrap_mid (by omega) (by omega)]; omega
            have hj2 : j - 1 < l.length := by omega
            have hg2 : l.getD (j - 1) 0 = l[j - 1] := by simp [hj2]
            have hcj2 := Sl.cell hslw (zs_at hj2)
            repeat (first | refine WQ.pure rfl rfl rfl ?_ | refine WQ.off rfl rfl rfl ?_ | refine WQ.nil ?_)
            refine WQ.load rfl rfl rfl rfl rfl (fun w' h => cell_of_obj (h.obj 0 rfl) (j := 0) rfl) ?_
            repeat (first | refine WQ.pure rfl rfl rfl ?_ | refine WQ.off rfl rfl rfl ?_ | refine WQ.nil ?_)
            refine WQ.ixload rfl (fun _ => rfl) rfl rfl rfl rfl rfl rfl rfl hi rfl rfl (fun w' h => cell_below h.below hac) ?_
            repeat (first | refine WQ.pure rfl rfl rfl ?_ | refine WQ.off rfl rfl rfl ?_ | refine WQ.nil ?_)
            refine WQ.known (d := 91) (congrArg (fun z => some (Value.int .i64 z)) e3) ?_
            refine WQ.ixload (j := j - 1) rfl (fun _ => rfl) rfl rfl rfl rfl rfl rfl rfl hj2 rfl rfl (fun w' h => cell_below h.below hcj2) ?_
            repeat (first | refine WQ.pure rfl rfl rfl ?_ | refine WQ.off rfl rfl rfl ?_ | refine WQ.nil ?_)
            refine WQ.load rfl rfl rfl rfl rfl (fun w' h => cell_of_obj (h.obj 0 rfl) (j := 0) rfl) ?_
            repeat (first | refine WQ.pure rfl rfl rfl ?_ | refine WQ.off rfl rfl rfl ?_ | refine WQ.nil ?_)
            refine WQ.ixload rfl (fun _ => rfl) rfl rfl rfl rfl rfl rfl rfl hi rfl rfl (fun w' h => cell_below h.below hac) ?_
            repeat (first | refine WQ.pure rfl rfl rfl ?_ | refine WQ.off rfl rfl rfl ?_ | refine WQ.nil ?_)
            refine WQ.ixload rfl (fun _ => rfl) rfl rfl rfl rfl rfl rfl rfl hj rfl rfl (fun w' h => cell_below h.below hcj) ?_
            repeat (first | refine WQ.pure rfl rfl rfl ?_ | refine WQ.off rfl rfl rfl ?_ | refine WQ.nil ?_)
            intro w' h
            refine ⟨_, ⟨rfl, rfl, rfl, rfl, rfl, rfl⟩, ?_, h⟩
            unfold sucB
            rw [hgj, hg2, decide_eq_true c5, decide_eq_true c6, decide_eq_false (show ¬ j = 0 by omega)]
            rw [Bool.true_and, Bool.true_and, Bool.false_or]
            by_cases c8 : l[j - 1] < l[j]
            · rw [decide_eq_true c8, decide_eq_false (by omega)]; rfl
            · rw [decide_eq_false c8, decide_eq_true (by omega)]; rfl
          · have c7 : j = 0 := by have := of_decide_eq_false c7; omega
            repeat (first | refine WQ.pure rfl rfl rfl ?_ | refine WQ.off rfl rfl rfl ?_ | refine WQ.nil ?_)
            intro w' h
            exact ⟨_, ⟨rfl, rfl, rfl, rfl, rfl, rfl⟩, by unfold sucB; rw [hgj, decide_eq_true c5, decide_eq_true c6, decide_eq_true c7]; rfl, h⟩
        · rintro r e5 w5 hsub ⟨hr, hp5⟩
          refine WC.sub hsub ?_
          clear hsub e5
          replace hp5 : Hp w w5 [Sb b (some ⟨ba, oa, none⟩) cn am cm vs ms] := hp5
          have hr : r = !sucB vs.length l j := hr
          subst hr
          cases hs : sucB vs.length l j with
          | false =>
            rw [hbad (.inr (hno hs))]
            repeat (first | refine zA ?_ | refine zB ?_ | refine zC rfl rfl rfl ?_ | refine zD ?_ | refine zE ?_ | refine zF ?_ | refine zG rfl ?_ | refine zH rfl ?_ | refine zI rfl rfl rfl ?_ | refine zJ rfl rfl ?_ | refine zK ?_ | refine zL ?_ | refine zM rfl ?_ | refine zN ?_)
            exact Res.one rfl rfl rfl ⟨rfl, hp5.nil'⟩
          | true =>
            repeat (first | refine zA ?_ | refine zB ?_ | refine zC rfl rfl rfl ?_ | refine zD ?_ | refine zE ?_ | refine zF ?_ | refine zG rfl ?_ | refine zH rfl ?_ | refine zI rfl rfl rfl ?_ | refine zJ rfl rfl ?_ | refine zK ?_ | refine zL ?_ | refine zM rfl ?_ | refine zN ?_)
            exact ⟨j + 1, (by omega), ⟨rfl, rfl, rfl, congrArg (fun z => some (Value.int .i64 z)) stepj, rfl⟩, hj, hyes hs, hp5⟩
      · have hj : j = l.length := by have := of_decide_eq_false h4; omega
        have hrow : rowB vs.length l = true := by unfold rowB; rw [decide_eq_true h3, ← hj, hsu]; rfl
        repeat (first | refine zA ?_ | refine zB ?_ | refine zC rfl rfl rfl ?_ | refine zD ?_ | refine zE ?_ | refine zF ?_ | refine zG rfl ?_ | refine zH rfl ?_ | refine zI rfl rfl rfl ?_ | refine zJ rfl rfl ?_ | refine zK ?_ | refine zL ?_ | refine zM rfl ?_ | refine zN ?_)
        exact ⟨i + 1, (by omega), ⟨rfl, rfl, congrArg (fun z => some (Value.int .i64 z)) step, rfl⟩, hi, hstep hmb hrow, hp1⟩
    · have hi : i = vs.length := by have := of_decide_eq_false h2; omega
      have hok : strB vs ms = true := by
        rw [hstr, Bool.and_eq_true, List.all_eq_true, List.all_eq_true]
        constructor
        · intro m hm
          obtain ⟨k, hk, rfl⟩ := List.getElem_of_mem hm
          have := (hall k (by omega)).1
          rwa [show ms.getD k 0 = ms[k] by simp [hk]] at this
        · intro x hx
          obtain ⟨k, hk, rfl⟩ := List.getElem_of_mem hx
          have := (hall k (by omega)).2
          unfold rowsOf2 at this
          rw [List.getD_eq_getElem?_getD, List.getElem?_map, List.getElem?_eq_getElem hk] at this
          exact this
      rw [hok]
      repeat (first | refine zA ?_ | refine zB ?_ | refine zC rfl rfl rfl ?_ | refine zD ?_ | refine zE ?_ | refine zF ?_ | refine zG rfl ?_ | refine zH rfl ?_ | refine zI rfl rfl rfl ?_ | refine zJ rfl rfl ?_ | refine zK ?_ | refine zL ?_ | refine zM rfl ?_ | refine zN ?_)
      exact Res.one rfl rfl rfl ⟨rfl, hp1.nil'⟩
end Go.Proofs.YtpbbneclkhfgoaaDoor
end
section
/- ltl, forty-sixth: tame. -/
namespace Go.Proofs.YtpbbneclkhfgoaaDoor
open Go.W Go.Ltl Go.RowKit
set_option maxRecDepth 100000
set_option linter.unusedSectionVars false
attribute [local irreducible] WC WL WQ WS WH

/-- What a structure's test says, of its rows. -/
def strR (R : List (List Int)) (M : List Int) : Bool := decide (1 ≤ R.length) && decide (R.length ≤ 16) && decide (M.length = R.length) && M.all markB && R.all (rowB R.length)
theorem strB_R (vs : Vs) (ms : List Int) : strB vs ms = strR (rowsOf vs) ms := by
  unfold strB strR rowsOf
  rw [List.length_map, List.all_map]
  rfl
def tmN (L most : Nat) : Nat := if 0 < L then 1 + (L - 1) % most else 1
def isJ0 (R : List (List Int)) (n i j : Nat) : Bool := decide (j = (i + 1) % n) && decide (R.getD i [] = [])
def isJ (R : List (List Int)) (n i j : Nat) : Bool := isJ0 R n i j || (R.getD i []).any fun z => decide (modN z n = j)
def tmAcc (R : List (List Int)) (n i j : Nat) : List Int := ((List.range j).filter (isJ R n i)).map fun k : Nat => (k : Int)
def tmRow (R : List (List Int)) (n i : Nat) : List Int := tmAcc R n i n
def tmMark (M : List Int) (i : Nat) : Int := if i < M.length then mod16 (M.getD i 0) else ((i % 16 : Nat) : Int)
def tmMs (M : List Int) (n : Nat) : List Int := (List.range n).map (tmMark M)
def tameC (R : List (List Int)) (M : List Int) (most : Nat) : List (List Int) × List Int :=
  if (strR R M && decide (R.length ≤ most)) = true then (R, M) else ((List.range (tmN R.length most)).map (tmRow R (tmN R.length most)), tmMs M (tmN R.length most))
theorem tmN_ok {L most : Nat} (h : 0 < most) : 1 ≤ tmN L most ∧ tmN L most ≤ most ∧ (0 < L → tmN L most ≤ L) := by
  unfold tmN
  have h1 := Nat.mod_lt (L - 1) h
  have h2 := Nat.mod_le (L - 1) most
  split <;> omega
theorem tmAcc_succ (R : List (List Int)) (n i j : Nat) : tmAcc R n i (j + 1) = tmAcc R n i j ++ if isJ R n i j then [((j : Nat) : Int)] else [] := by
  unfold tmAcc
  rw [List.range_succ, List.filter_append, List.map_append, List.filter_cons, List.filter_nil]
  split <;> rfl
theorem tmMs_succ (M : List Int) (n : Nat) : tmMs M (n + 1) = tmMs M n ++ [tmMark M n] := by
  unfold tmMs; rw [List.range_succ, List.map_append]; rfl
theorem tmMs_len (M : List Int) (n : Nat) : (tmMs M n).length = n := by simp [tmMs]
theorem tmMark_ok (M : List Int) (i : Nat) : 0 ≤ tmMark M i ∧ tmMark M i ≤ 15 := by
  unfold tmMark
  split
  · exact mod16_ok _
  · omega
theorem acc_ok (R : List (List Int)) (n i : Nat) : ∀ j, j ≤ n → (∀ q, q < (tmAcc R n i j).length → 0 ≤ (tmAcc R n i j).getD q 0 ∧ (tmAcc R n i j).getD q 0 < (j : Int) ∧ (q = 0 ∨ (tmAcc R n i j).getD (q - 1) 0 < (tmAcc R n i j).getD q 0)) := by
  intro j
  induction j with
  | zero => intro _ q hq; simp [tmAcc] at hq
  | succ j ih =>
    intro hj q hq
    have ih := ih (by omega)
    rw [tmAcc_succ] at hq ⊢
    by_cases hJ : isJ R n i j = true
    · rw [if_pos hJ] at hq ⊢
      rw [List.length_append] at hq
      simp only [List.length_cons, List.length_nil] at hq
      by_cases hq2 : q < (tmAcc R n i j).length
      · have h1 := ih q hq2
        have e1 : (tmAcc R n i j ++ [((j : Nat) : Int)]).getD q 0 = (tmAcc R n i j).getD q 0 := by simp [List.getElem?_append_left hq2]
        have e2 : (tmAcc R n i j ++ [((j : Nat) : Int)]).getD (q - 1) 0 = (tmAcc R n i j).getD (q - 1) 0 := by
          have : q - 1 < (tmAcc R n i j).length := by omega
          simp [List.getElem?_append_left this]
        rw [e1, e2]
        exact ⟨h1.1, by omega, h1.2.2⟩
      · obtain rfl : q = (tmAcc R n i j).length := by omega
        have e1 : (tmAcc R n i j ++ [((j : Nat) : Int)]).getD (tmAcc R n i j).length 0 = (j : Int) := by simp
        rw [e1]
        refine ⟨by omega, by omega, ?_⟩
        by_cases h0 : (tmAcc R n i j).length = 0
        · exact .inl h0
        · refine .inr ?_
          have hlt : (tmAcc R n i j).length - 1 < (tmAcc R n i j).length := by omega
          have e2 : (tmAcc R n i j ++ [((j : Nat) : Int)]).getD ((tmAcc R n i j).length - 1) 0 = (tmAcc R n i j).getD ((tmAcc R n i j).length - 1) 0 := by simp [List.getElem?_append_left hlt]
          rw [e2]
          exact (ih _ hlt).2.1
    · rw [if_neg hJ, List.append_nil] at hq ⊢
      have h1 := ih q hq
      exact ⟨h1.1, by omega, h1.2.2⟩
theorem tmRow_ok (R : List (List Int)) {n i : Nat} (hn : 0 < n) : rowB n (tmRow R n i) = true := by
  have hne : tmRow R n i ≠ [] := by
    have key : ∀ j, j < n → isJ R n i j = true → tmRow R n i ≠ [] := by
      intro j hj h he
      have h2 : ((j : Nat) : Int) ∈ tmRow R n i := List.mem_map_of_mem (f := fun k : Nat => (k : Int)) (List.mem_filter.2 ⟨List.mem_range.2 hj, h⟩)
      rw [he] at h2
      cases h2
    cases hr : R.getD i [] with
    | nil => exact key ((i + 1) % n) (Nat.mod_lt _ hn) (by unfold isJ isJ0; rw [hr]; simp)
    | cons z r => exact key (modN z n) (modN_lt hn z) (by unfold isJ; rw [hr]; simp)
  have h := acc_ok R n i n (Nat.le_refl _)
  unfold rowB
  rw [decide_eq_true hne, Bool.true_and, List.all_eq_true]
  intro q hq
  rw [List.mem_range] at hq
  obtain ⟨h1, h2, h3⟩ := h q hq
  unfold sucB
  unfold tmRow
  rw [decide_eq_true h1, decide_eq_true h2]
  rcases h3 with h3 | h3
  · rw [decide_eq_true h3]; rfl
  · rw [decide_eq_true h3, Bool.or_true]; rfl
theorem tameC_ok (R : List (List Int)) (M : List Int) {most : Nat} (h0 : 0 < most) (h16 : most ≤ 16) : strR (tameC R M most).1 (tameC R M most).2 = true ∧ (tameC R M most).1.length ≤ most ∧ (tameC R M most).2.length = (tameC R M most).1.length := by
  unfold tameC
  split
  · rename_i h
    rw [Bool.and_eq_true, decide_eq_true_eq] at h
    refine ⟨h.1, h.2, ?_⟩
    have := h.1
    simp only [strR, Bool.and_eq_true, decide_eq_true_eq] at this
    exact this.1.1.2
  · obtain ⟨h1, h2, _⟩ := tmN_ok (L := R.length) h0
    generalize tmN R.length most = n at *
    refine ⟨?_, by rw [List.length_map, List.length_range]; exact h2, by rw [tmMs_len, List.length_map, List.length_range]⟩
    simp only [strR, Bool.and_eq_true, decide_eq_true_eq, List.length_map, List.length_range, tmMs_len, List.all_eq_true]
    refine ⟨⟨⟨⟨h1, by omega⟩, trivial⟩, fun m hm => ?_⟩, fun r hr => ?_⟩
    · obtain ⟨i, _, rfl⟩ := List.mem_map.1 hm
      have := tmMark_ok M i
      simp only [markB, Bool.and_eq_true, decide_eq_true_eq]
      exact this
    · obtain ⟨i, _, rfl⟩ := List.mem_map.1 hr
      exact tmRow_ok R (by omega)
end Go.Proofs.YtpbbneclkhfgoaaDoor
end
section
/- ltl, forty-seventh: the walk of tame. -/
namespace Go.Proofs.YtpbbneclkhfgoaaDoor
open Go.W Go.Ltl Go.RowKit
set_option maxRecDepth 100000
set_option linter.unusedSectionVars false
attribute [local irreducible] WC WL WQ WS WH

theorem Hp.rowInY {w0 w : World} {X Y : List Ent} {na : Option Addr} {nc : Nat} {vs : Vs} {x : Option Addr × Nat × List Int} (h : Hp w0 w (.row 22 1 (.slice na (vs.length + 1) nc) (vs.length + 1) (catV vs ++ [.slice x.1 x.2.2.length x.2.1]) :: Ri (.slice x.1 x.2.2.length x.2.1) x.2.2 :: (X ++ (vsE vs ++ Y)))) :
    Hp w0 w (Rvs (.slice na (vs ++ [x]).length nc) (vs ++ [x]) :: (X ++ (vsE (vs ++ [x]) ++ Y))) := by
  unfold Rvs
  rw [List.length_append, catV_snoc, vsE_snoc]
  refine permE h (List.Perm.cons _ ?_)
  have := (List.perm_middle (a := Ri (.slice x.1 x.2.2.length x.2.1) x.2.2) (l₁ := X ++ vsE vs) (l₂ := Y)).symm
  simpa [List.append_assoc] using this
/-- The rows of a structure of one's own, and its marks. -/
abbrev OwnS (na : Option Addr) (nc : Nat) (ma : Option Addr) (mc : Nat) (vs : Vs) (ms : List Int) : List Ent := Rvs (.slice na vs.length nc) vs :: Ri (.slice ma ms.length mc) ms :: vsE vs
theorem Stc.inA {w0 w : World} {A : List Ent} {na ma : Option Addr} {nc mc : Nat} {vs : Vs} {ms : List Int} (h : Hp w0 w (A ++ OwnS na nc ma mc vs ms)) : Stc w na ma vs ms :=
  Stc.own (n := vs.length) (nc := nc) (m := ms.length) (mc := mc) h (by simp) (by simp) (fun x hx => by simp [hx])
theorem Stc.inB {w0 w : World} {A B : List Ent} {na ma : Option Addr} {nc mc : Nat} {vs : Vs} {ms : List Int} (h : Hp w0 w (A ++ (B ++ OwnS na nc ma mc vs ms))) : Stc w na ma vs ms :=
  Stc.own (n := vs.length) (nc := nc) (m := ms.length) (mc := mc) h (by simp) (by simp) (fun x hx => by simp [hx])
theorem rows_get {vs : Vs} {i : Nat} (h : i < vs.length) : (rowsOf vs).getD i [] = vs[i].2.2 := by
  rw [List.getD_eq_getElem?_getD, List.getElem?_map, List.getElem?_eq_getElem h]; rfl
theorem tame_any (an : Option Addr) (cn : Nat) (am : Option Addr) (cm : Nat) (vs : Vs) (ms : List Int) (hB : StcB an cn am cm vs ms) (most : Nat) (h0 : 0 < most) (h16 : most ≤ 16) (w : World) (hst : Stc w an am vs ms) :
    Ret Tryd.prog 24 [stV an cn am cm vs ms, .int .i64 (most : Nat)] w fun u w' => ∃ na nc ma mc vs2, u = .agg #[.slice na vs2.length nc, .slice ma (tameC (takeV (rowsOf vs)) (ms.take 20) most).2.length mc] ∧ rowsOf vs2 = (tameC (takeV (rowsOf vs)) (ms.take 20) most).1 ∧
      Hp w w' (OwnS na nc ma mc vs2 (tameC (takeV (rowsOf vs)) (ms.take 20) most).2) := by
  refine enter Tryd.func24 rfl rfl ⟨rfl, rfl⟩ rfl ?_
  repeat (first | refine zA ?_ | refine zB ?_ | refine zC rfl rfl rfl ?_ | refine zD ?_ | refine zE ?_ | refine zF ?_ | refine zG rfl ?_ | refine zH rfl ?_ | refine zI rfl rfl rfl ?_ | refine zJ rfl rfl ?_ | refine zK ?_ | refine zL ?_ | refine zM rfl ?_ | refine zN ?_)
  refine WL.box rfl rfl rfl (fun b2 w1 hb2 => ?_)
  have hp1 : Hp w w1 [Sb b2 an cn am cm vs ms] := (Hp.start w).new hb2
  refine WL.alloc rfl rfl rfl (fun b4 w2 hb4 => ?_)
  have hp2 : Hp w w2 [Stb b4 none 0 0 none 0 0, Sb b2 an cn am cm vs ms] := hp1.new hb4
  repeat (first | refine zA ?_ | refine zB ?_ | refine zC rfl rfl rfl ?_ | refine zD ?_ | refine zE ?_ | refine zF ?_ | refine zG rfl ?_ | refine zH rfl ?_ | refine zI rfl rfl rfl ?_ | refine zJ rfl rfl ?_ | refine zK ?_ | refine zL ?_ | refine zM rfl ?_ | refine zN ?_)
  refine WL.loadN rfl rfl rfl rfl rfl (cs := [.slice an vs.length cn, .slice am ms.length cm]) rfl (fun q v hq => cell_of_obj (hp2.obj 1 rfl) (by rw [Nat.zero_add]; simpa using hq)) ?_
  refine WL.call rfl rfl rfl rfl rfl ent37 (machine_any an cn am cm vs ms hB w2 (hst.hp hp2)) ?_
  rintro _ w3 ⟨na0, nc0, ma0, mc0, vs0, rfl, hvs0, hp3⟩
  have hp3 := Hp.pickT (T := OwnS na0 nc0 ma0 mc0 vs0 (ms.take 20)) [_, _] [0] (permE (hp2.comb hp3) List.perm_append_comm) (by decide)
  have hm20 : (ms.take 20).length ≤ 20 := by rw [List.length_take]; omega
  have hl20 : vs0.length ≤ 20 := by
    have := congrArg List.length hvs0
    unfold takeV at this
    rw [List.length_map, List.length_map, List.length_take] at this
    omega
  have hr20 : ∀ x ∈ vs0, x.2.2.length ≤ 20 := by
    intro x hx
    have h1 : x.2.2 ∈ takeV (rowsOf vs) := by rw [← hvs0]; exact List.mem_map_of_mem (f := fun x : Option Addr × Nat × List Int => x.2.2) hx
    unfold takeV at h1
    obtain ⟨r, _, hr⟩ := List.mem_map.1 h1
    rw [← hr, List.length_take]; omega
  rw [← hvs0]
  generalize ms.take 20 = M0 at *
  obtain ⟨Y, hY⟩ : ∃ Y, Y = OwnS na0 nc0 ma0 mc0 vs0 M0 := ⟨_, rfl⟩
  rw [← hY] at hp3
  refine WL.alloc rfl rfl rfl (fun b5 w4 hb5 => ?_)
  have hp4 := hp3.new hb5
  refine WL.storeN rfl rfl rfl rfl rfl (by simp [Value.oneCell']) (hp4.obj 0 rfl) (Nat.le_refl _) rfl (fun w5 h5 => ?_)
  have hp5 : Hp w w5 ([Stb b5 na0 vs0.length nc0 ma0 M0.length mc0, Stb b4 none 0 0 none 0 0] ++ Y) := hp4.set 0 rfl rfl h5
  clear hp1 hp2 hp3 hp4 hb2 hb4 hb5 h5
  have hstY : ∀ {w' : World} {A : List Ent}, Hp w w' (A ++ Y) → Stc w' na0 ma0 vs0 M0 := fun {w' A} h => by subst hY; exact Stc.inA h
  refine WL.nil ?_
  repeat (first | refine WC.seq ?_ | refine WC.skip ?_ | refine WC.block ?_)
  refine WC.mid Bool (fun r => [(1, .int .i64 (most : Nat)), (4, ptr b4), (5, ptr b5), (24, .bool r)])
    (fun r w' => r = (strR (rowsOf vs0) M0 && decide (vs0.length ≤ most)) ∧ Hp w w' ([Stb b5 na0 vs0.length nc0 ma0 M0.length mc0, Stb b4 none 0 0 none 0 0] ++ Y)) ?_ ?_
  · repeat (first | refine zA ?_ | refine zB ?_ | refine zC rfl rfl rfl ?_ | refine zD ?_ | refine zE ?_ | refine zF ?_ | refine zG rfl ?_ | refine zH rfl ?_ | refine zI rfl rfl rfl ?_ | refine zJ rfl rfl ?_ | refine zK ?_ | refine zL ?_ | refine zM rfl ?_ | refine zN ?_)
    refine WL.loadN rfl rfl rfl rfl rfl (cs := [.slice na0 vs0.length nc0, .slice ma0 M0.length mc0]) rfl (fun q v hq => cell_of_obj (hp5.obj 0 rfl) (by rw [Nat.zero_add]; simpa using hq)) ?_
    refine WL.call rfl rfl rfl rfl rfl ent39 (rStructure_any na0 nc0 ma0 mc0 vs0 M0 (by omega) (by omega) (fun x hx => by have := hr20 x hx; omega) w5 (hstY hp5)) ?_
    rintro _ w6 ⟨rfl, hp6⟩
    have hp6 := hp5.call hp6.below
    rw [strB_R]
    cases hs : strR (rowsOf vs0) M0 with
    | false =>
      repeat (first | refine zA ?_ | refine zB ?_ | refine zC rfl rfl rfl ?_ | refine zD ?_ | refine zE ?_ | refine zF ?_ | refine zG rfl ?_ | refine zH rfl ?_ | refine zI rfl rfl rfl ?_ | refine zJ rfl rfl ?_ | refine zK ?_ | refine zL ?_ | refine zM rfl ?_ | refine zN ?_)
      exact ⟨_, ⟨rfl, rfl, rfl, rfl, rfl⟩, rfl, hp6⟩
    | true =>
      repeat (first | refine zA ?_ | refine zB ?_ | refine zC rfl rfl rfl ?_ | refine zD ?_ | refine zE ?_ | refine zF ?_ | refine zG rfl ?_ | refine zH rfl ?_ | refine zI rfl rfl rfl ?_ | refine zJ rfl rfl ?_ | refine zK ?_ | refine zL ?_ | refine zM rfl ?_ | refine zN ?_)
      refine WL.loadB rfl rfl rfl rfl rfl (hp6.obj 0 rfl) (j := 0) rfl ?_
      repeat (first | refine zA ?_ | refine zB ?_ | refine zC rfl rfl rfl ?_ | refine zD ?_ | refine zE ?_ | refine zF ?_ | refine zG rfl ?_ | refine zH rfl ?_ | refine zI rfl rfl rfl ?_ | refine zJ rfl rfl ?_ | refine zK ?_ | refine zL ?_ | refine zM rfl ?_ | refine zN ?_)
      refine ⟨_, ⟨rfl, rfl, rfl, rfl, rfl⟩, ?_, hp6⟩
      rw [Bool.true_and]
      exact decide_eq_decide.2 (by omega)
  rintro r e6 w6 hsub ⟨hr, hp6⟩
  refine WC.sub hsub ?_
  clear hsub e6 hp5
  replace hp6 : Hp w w6 ([Stb b5 na0 vs0.length nc0 ma0 M0.length mc0, Stb b4 none 0 0 none 0 0] ++ Y) := hp6
  have hr : r = (strR (rowsOf vs0) M0 && decide (vs0.length ≤ most)) := hr
  have hll : (rowsOf vs0).length = vs0.length := List.length_map _
  cases r with
  | true =>
    have hC : tameC (rowsOf vs0) M0 most = (rowsOf vs0, M0) := by unfold tameC; rw [hll, ← hr, if_pos rfl]
    rw [hC]
    repeat (first | refine zA ?_ | refine zB ?_ | refine zC rfl rfl rfl ?_ | refine zD ?_ | refine zE ?_ | refine zF ?_ | refine zG rfl ?_ | refine zH rfl ?_ | refine zI rfl rfl rfl ?_ | refine zJ rfl rfl ?_ | refine zK ?_ | refine zL ?_ | refine zM rfl ?_ | refine zN ?_)
    refine WL.loadN rfl rfl rfl rfl rfl (cs := [.slice na0 vs0.length nc0, .slice ma0 M0.length mc0]) rfl (fun q v hq => cell_of_obj (hp6.obj 0 rfl) (by rw [Nat.zero_add]; simpa using hq)) ?_
    refine WL.storeN rfl rfl rfl rfl rfl (by simp [Value.oneCell']) (hp6.obj 1 rfl) (Nat.le_refl _) rfl (fun w7 h7 => ?_)
    have hp7 := hp6.set 1 rfl rfl h7
    repeat (first | refine zA ?_ | refine zB ?_ | refine zC rfl rfl rfl ?_ | refine zD ?_ | refine zE ?_ | refine zF ?_ | refine zG rfl ?_ | refine zH rfl ?_ | refine zI rfl rfl rfl ?_ | refine zJ rfl rfl ?_ | refine zK ?_ | refine zL ?_ | refine zM rfl ?_ | refine zN ?_)
    refine Res.cell rfl rfl rfl rfl rfl rfl (hp7.obj 1 rfl) ⟨na0, nc0, ma0, mc0, vs0, rfl, rfl, ?_⟩
    have := Hp.pickT (T := Y) [_, _] [] hp7 (by decide)
    rw [hY] at this
    exact this
  | false =>
    obtain ⟨n, hn⟩ : ∃ n, n = tmN vs0.length most := ⟨_, rfl⟩
    obtain ⟨hn1, hnm, hnL⟩ := tmN_ok (L := vs0.length) h0
    rw [← hn] at hn1 hnm hnL
    have hC : tameC (rowsOf vs0) M0 most = ((List.range n).map (tmRow (rowsOf vs0) n), tmMs M0 n) := by unfold tameC; rw [hll, ← hr, if_neg (by decide), ← hn]
    rw [hC]
    clear hC hr
    refine WC.condF rfl ?_
    refine WC.skip ?_
    refine WC.seq ?_
    refine WC.reg ?_
    refine WL.pure rfl rfl rfl ?_
    refine WL.nil ?_
    refine WC.seq ?_
    refine WC.mid Unit (fun _ => [(4, ptr b4), (5, ptr b5), (6, .int .i64 (n : Nat))])
      (fun _ w' => Hp w w' ([Stb b5 na0 vs0.length nc0 ma0 M0.length mc0, Stb b4 none 0 0 none 0 0] ++ Y)) ?_ ?_
    · repeat (first | refine zA ?_ | refine zB ?_ | refine zC rfl rfl rfl ?_ | refine zD ?_ | refine zE ?_ | refine zF ?_ | refine zG rfl ?_ | refine zH rfl ?_ | refine zI rfl rfl rfl ?_ | refine zJ rfl rfl ?_ | refine zK ?_ | refine zL ?_ | refine zM rfl ?_ | refine zN ?_)
      refine WL.loadB rfl rfl rfl rfl rfl (hp6.obj 0 rfl) (j := 0) rfl ?_
      repeat (first | refine zA ?_ | refine zB ?_ | refine zC rfl rfl rfl ?_ | refine zD ?_ | refine zE ?_ | refine zF ?_ | refine zG rfl ?_ | refine zH rfl ?_ | refine zI rfl rfl rfl ?_ | refine zJ rfl rfl ?_ | refine zK ?_ | refine zL ?_ | refine zM rfl ?_ | refine zN ?_)
      refine WC.cond rfl (fun c => ?_) (fun c => ?_)
      · have c : 0 < vs0.length := by have := of_decide_eq_true c; omega
        repeat (first | refine zA ?_ | refine zB ?_ | refine zC rfl rfl rfl ?_ | refine zD ?_ | refine zE ?_ | refine zF ?_ | refine zG rfl ?_ | refine zH rfl ?_ | refine zI rfl rfl rfl ?_ | refine zJ rfl rfl ?_ | refine zK ?_ | refine zL ?_ | refine zM rfl ?_ | refine zN ?_)
        refine WL.loadB rfl rfl rfl rfl rfl (hp6.obj 0 rfl) (j := 0) rfl ?_
        refine WL.pure rfl rfl rfl ?_
        refine WL.pure rfl rfl rfl ?_
        refine WL.known (d := 33) (congrArg (fun z => some (Value.int .i64 z)) (show IntKind.i64.wrap (((vs0.length : Nat) : Int) - 1) = ((vs0.length - 1 : Nat) : Int) by rw [wrap_mid (by omega) (by omega)]; omega)) ?_
        refine WL.pure rfl rfl rfl ?_
        refine WL.rem rfl rfl rfl rfl (by omega) ?_
        refine WL.known (d := 35) (congrArg (fun z => some (Value.int .i64 z)) (show Int.tmod ((vs0.length - 1 : Nat) : Int) (most : Int) = (((vs0.length - 1) % most : Nat) : Int) from rfl)) ?_
        have hlt := Nat.mod_lt (vs0.length - 1) h0
        repeat (first | refine zA ?_ | refine zB ?_ | refine zC rfl rfl rfl ?_ | refine zD ?_ | refine zE ?_ | refine zF ?_ | refine zG rfl ?_ | refine zH rfl ?_ | refine zI rfl rfl rfl ?_ | refine zJ rfl rfl ?_ | refine zK ?_ | refine zL ?_ | refine zM rfl ?_ | refine zN ?_)
        exact ⟨(), ⟨rfl, rfl, congrArg (fun z => some (Value.int .i64 z)) (show IntKind.i64.wrap (1 + (((vs0.length - 1) % most : Nat) : Int)) = ((n : Nat) : Int) by rw [hn, tmN, if_pos c, wrap_mid (by omega) (by omega)]; omega), rfl⟩, hp6⟩
      · have c : ¬ 0 < vs0.length := by have := of_decide_eq_false c; omega
        repeat (first | refine zA ?_ | refine zB ?_ | refine zC rfl rfl rfl ?_ | refine zD ?_ | refine zE ?_ | refine zF ?_ | refine zG rfl ?_ | refine zH rfl ?_ | refine zI rfl rfl rfl ?_ | refine zJ rfl rfl ?_ | refine zK ?_ | refine zL ?_ | refine zM rfl ?_ | refine zN ?_)
        exact ⟨(), ⟨rfl, rfl, congrArg (fun z => some (Value.int .i64 z)) (show (1 : Int) = ((n : Nat) : Int) by rw [hn, tmN, if_neg c]; rfl), rfl⟩, hp6⟩
    rintro _ e7 w7 hsub hp7
    refine WC.sub hsub ?_
    clear hsub e7 hp6 hn
    replace hp7 : Hp w w7 ([Stb b5 na0 vs0.length nc0 ma0 M0.length mc0, Stb b4 none 0 0 none 0 0] ++ Y) := hp7
    repeat (first | refine zA ?_ | refine zB ?_ | refine zC rfl rfl rfl ?_ | refine zD ?_ | refine zE ?_ | refine zF ?_ | refine zG rfl ?_ | refine zH rfl ?_ | refine zI rfl rfl rfl ?_ | refine zJ rfl rfl ?_ | refine zK ?_ | refine zL ?_ | refine zM rfl ?_ | refine zN ?_)
    refine WL.alloc rfl rfl rfl (fun b7 w8 h8 => ?_)
    have hp8 := Hp.pickT (T := Y) [_, _, _, _, _] [2, 0, 1, 3, 4] (((hp7.new h8).nilrow 3 1).nilrow 22 1) (by decide)
    clear hp7 h8
    repeat (first | refine zA ?_ | refine zB ?_ | refine zC rfl rfl rfl ?_ | refine zD ?_ | refine zE ?_ | refine zF ?_ | refine zG rfl ?_ | refine zH rfl ?_ | refine zI rfl rfl rfl ?_ | refine zJ rfl rfl ?_ | refine zK ?_ | refine zL ?_ | refine zM rfl ?_ | refine zN ?_)
    refine WC.loop (Nat × Option Addr × Nat × Option Addr × Nat × Vs) (fun (i, na, nc, ma, mc, vs3) => [(4, ptr b4), (5, ptr b5), (6, .int .i64 (n : Nat)), (7, ptr b7), (8, .int .i64 (i : Nat))])
      (fun (i, na, nc, ma, mc, vs3) w' => i ≤ n ∧ rowsOf vs3 = (List.range i).map (tmRow (rowsOf vs0) n) ∧ Hp w w' ([Stb b7 na i nc ma i mc, .row 22 1 (.slice na i nc) i (catV vs3), .row 3 1 (.slice ma i mc) i (zs (tmMs M0 i)), Stb b5 na0 vs0.length nc0 ma0 M0.length mc0, Stb b4 none 0 0 none 0 0] ++ (vsE vs3 ++ Y))) (fun (i, _) => n - i) (0, none, 0, none, 0, []) ⟨rfl, rfl, rfl, rfl, rfl, rfl⟩
      ⟨Nat.zero_le _, rfl, hp8⟩ ?_
    clear hp8
    rintro ⟨i, na, nc, ma, mc, vs3⟩ w8 ⟨hi, hvs3, hp8⟩
    replace hi : i ≤ n := hi
    replace hvs3 : rowsOf vs3 = (List.range i).map (tmRow (rowsOf vs0) n) := hvs3
    replace hp8 : Hp w w8 ([Stb b7 na i nc ma i mc, .row 22 1 (.slice na i nc) i (catV vs3), .row 3 1 (.slice ma i mc) i (zs (tmMs M0 i)), Stb b5 na0 vs0.length nc0 ma0 M0.length mc0, Stb b4 none 0 0 none 0 0] ++ (vsE vs3 ++ Y)) := hp8
    have hvl : vs3.length = i := by have := congrArg List.length hvs3; simpa using this
    have hstZ : ∀ {w' : World} {A : List Ent}, Hp w w' (A ++ (vsE vs3 ++ Y)) → Stc w' na0 ma0 vs0 M0 := fun {w' A} h => by subst hY; exact Stc.inB h
    repeat (first | refine zA ?_ | refine zB ?_ | refine zC rfl rfl rfl ?_ | refine zD ?_ | refine zE ?_ | refine zF ?_ | refine zG rfl ?_ | refine zH rfl ?_ | refine zI rfl rfl rfl ?_ | refine zJ rfl rfl ?_ | refine zK ?_ | refine zL ?_ | refine zM rfl ?_ | refine zN ?_)
    refine WC.cond rfl (fun g1 => ?_) (fun g1 => ?_)
    · have hin : i < n := by have := of_decide_eq_true g1; omega
      have step := wrap_succ (i := i) (n := i + 1) (by omega) (by omega)
      obtain ⟨R, hR⟩ : ∃ R, R = rowsOf vs0 := ⟨_, rfl⟩
      have hrow : ∀ hL : i < vs0.length, R.getD i [] = vs0[i].2.2 := fun hL => by rw [hR]; exact rows_get hL
      have hrow0 : ¬ i < vs0.length → R.getD i [] = [] := fun hL => by rw [hR, List.getD_eq_getElem?_getD, List.getElem?_eq_none (by rw [hll]; omega)]; rfl
      rw [← hR] at hvs3 ⊢
      repeat (first | refine zA ?_ | refine zB ?_ | refine zC rfl rfl rfl ?_ | refine zD ?_ | refine zE ?_ | refine zF ?_ | refine zG rfl ?_ | refine zH rfl ?_ | refine zI rfl rfl rfl ?_ | refine zJ rfl rfl ?_ | refine zK ?_ | refine zL ?_ | refine zM rfl ?_ | refine zN ?_)
      refine WC.loop (Nat × Option Addr × Nat) (fun (j, ra, rc) => [(4, ptr b4), (5, ptr b5), (6, .int .i64 (n : Nat)), (7, ptr b7), (8, .int .i64 (i : Nat)), (9, .slice ra (tmAcc R n i j).length rc), (10, .int .i64 (j : Nat))])
        (fun (j, ra, rc) w' => j ≤ n ∧ Hp w w' ([.row 3 1 (.slice ra (tmAcc R n i j).length rc) (tmAcc R n i j).length (zs (tmAcc R n i j)), Stb b7 na i nc ma i mc, .row 22 1 (.slice na i nc) i (catV vs3), .row 3 1 (.slice ma i mc) i (zs (tmMs M0 i)), Stb b5 na0 vs0.length nc0 ma0 M0.length mc0, Stb b4 none 0 0 none 0 0] ++ (vsE vs3 ++ Y))) (fun (j, _) => n - j) (0, none, 0) ⟨rfl, rfl, rfl, rfl, rfl, rfl, rfl, rfl⟩
        ⟨Nat.zero_le _, hp8.nilrow 3 1⟩ ?_
      clear hp8
      rintro ⟨j, ra, rc⟩ w9 ⟨hj, hp9⟩
      replace hj : j ≤ n := hj
      obtain ⟨ac, hac⟩ : ∃ ac, ac = tmAcc R n i j := ⟨_, rfl⟩
      replace hp9 : Hp w w9 ([.row 3 1 (.slice ra (tmAcc R n i j).length rc) (tmAcc R n i j).length (zs (tmAcc R n i j)), Stb b7 na i nc ma i mc, .row 22 1 (.slice na i nc) i (catV vs3), .row 3 1 (.slice ma i mc) i (zs (tmMs M0 i)), Stb b5 na0 vs0.length nc0 ma0 M0.length mc0, Stb b4 none 0 0 none 0 0] ++ (vsE vs3 ++ Y)) := hp9
      simp only [← hac] at hp9 ⊢
      have hacl : ac.length ≤ j := by rw [hac, tmAcc, List.length_map]; exact Nat.le_trans (List.length_filter_le _ _) (by rw [List.length_range]; exact Nat.le_refl _)
      repeat (first | refine zA ?_ | refine zB ?_ | refine zC rfl rfl rfl ?_ | refine zD ?_ | refine zE ?_ | refine zF ?_ | refine zG rfl ?_ | refine zH rfl ?_ | refine zI rfl rfl rfl ?_ | refine zJ rfl rfl ?_ | refine zK ?_ | refine zL ?_ | refine zM rfl ?_ | refine zN ?_)
      refine WC.cond rfl (fun g2 => ?_) (fun g2 => ?_)
      · have hjn : j < n := by have := of_decide_eq_true g2; omega
        have stepj := wrap_succ (i := j) (n := j + 1) (by omega) (by omega)
        repeat (first | refine WC.seq ?_ | refine WC.skip ?_ | refine WC.block ?_)
        refine WC.mid Unit (fun _ => [(4, ptr b4), (5, ptr b5), (6, .int .i64 (n : Nat)), (7, ptr b7), (8, .int .i64 (i : Nat)), (9, .slice ra ac.length rc), (10, .int .i64 (j : Nat)), (11, .bool (isJ0 R n i j))]) (fun _ w' => w' = w9) ?_ ?_
        · repeat (first | refine zA ?_ | refine zB ?_ | refine zC rfl rfl rfl ?_ | refine zD ?_ | refine zE ?_ | refine zF ?_ | refine zG rfl ?_ | refine zH rfl ?_ | refine zI rfl rfl rfl ?_ | refine zJ rfl rfl ?_ | refine zK ?_ | refine zL ?_ | refine zM rfl ?_ | refine zN ?_)
          refine WL.rem rfl rfl rfl rfl (by omega) ?_
          refine WL.known (d := 51) (congrArg (fun z => some (Value.int .i64 z)) (show Int.tmod (IntKind.i64.wrap ((i : Int) + 1)) (n : Int) = (((i + 1) % n : Nat) : Int) by rw [step]; rfl)) ?_
          repeat (first | refine zA ?_ | refine zB ?_ | refine zC rfl rfl rfl ?_ | refine zD ?_ | refine zE ?_ | refine zF ?_ | refine zG rfl ?_ | refine zH rfl ?_ | refine zI rfl rfl rfl ?_ | refine zJ rfl rfl ?_ | refine zK ?_ | refine zL ?_ | refine zM rfl ?_ | refine zN ?_)
          refine WL.split 53 rfl (fun c1 => ?_) (fun c1 => ?_)
          · have c1 : j = (i + 1) % n := by
              have c1 : (((j : Nat) : Int) == (((i + 1) % n : Nat) : Int)) = true := c1
              rw [beq_iff_eq] at c1; omega
            repeat (first | refine zA ?_ | refine zB ?_ | refine zC rfl rfl rfl ?_ | refine zD ?_ | refine zE ?_ | refine zF ?_ | refine zG rfl ?_ | refine zH rfl ?_ | refine zI rfl rfl rfl ?_ | refine zJ rfl rfl ?_ | refine zK ?_ | refine zL ?_ | refine zM rfl ?_ | refine zN ?_)
            refine WL.loadB rfl rfl rfl rfl rfl (hp9.obj 4 rfl) (j := 0) rfl ?_
            repeat (first | refine zA ?_ | refine zB ?_ | refine zC rfl rfl rfl ?_ | refine zD ?_ | refine zE ?_ | refine zF ?_ | refine zG rfl ?_ | refine zH rfl ?_ | refine zI rfl rfl rfl ?_ | refine zJ rfl rfl ?_ | refine zK ?_ | refine zL ?_ | refine zM rfl ?_ | refine zN ?_)
            refine WL.split 59 rfl (fun c2 => ?_) (fun c2 => ?_)
            · have c2 : ¬ i < vs0.length := by have := of_decide_eq_true c2; omega
              repeat (first | refine zA ?_ | refine zB ?_ | refine zC rfl rfl rfl ?_ | refine zD ?_ | refine zE ?_ | refine zF ?_ | refine zG rfl ?_ | refine zH rfl ?_ | refine zI rfl rfl rfl ?_ | refine zJ rfl rfl ?_ | refine zK ?_ | refine zL ?_ | refine zM rfl ?_ | refine zN ?_)
              exact ⟨(), ⟨rfl, rfl, rfl, rfl, rfl, rfl, rfl, congrArg (fun z => some (Value.bool z)) (show true = isJ0 R n i j by unfold isJ0; rw [hrow0 c2, decide_eq_true c1]; rfl), rfl⟩, rfl⟩
            · have c2 : i < vs0.length := by have := of_decide_eq_false c2; omega
              repeat (first | refine zA ?_ | refine zB ?_ | refine zC rfl rfl rfl ?_ | refine zD ?_ | refine zE ?_ | refine zF ?_ | refine zG rfl ?_ | refine zH rfl ?_ | refine zI rfl rfl rfl ?_ | refine zJ rfl rfl ?_ | refine zK ?_ | refine zL ?_ | refine zM rfl ?_ | refine zN ?_)
              refine WL.loadB rfl rfl rfl rfl rfl (hp9.obj 4 rfl) (j := 0) rfl ?_
              refine WL.pure rfl rfl rfl ?_
              refine WL.ixload rfl (fun _ => rfl) rfl rfl rfl rfl rfl rfl rfl c2 rfl rfl (hstZ hp9).nx (catV_at c2) ?_
              intro q0
              repeat (first | refine zA ?_ | refine zB ?_ | refine zC rfl rfl rfl ?_ | refine zD ?_ | refine zE ?_ | refine zF ?_ | refine zG rfl ?_ | refine zH rfl ?_ | refine zI rfl rfl rfl ?_ | refine zJ rfl rfl ?_ | refine zK ?_ | refine zL ?_ | refine zM rfl ?_ | refine zN ?_)
              refine ⟨(), ⟨rfl, rfl, rfl, rfl, rfl, rfl, rfl, congrArg (fun z => some (Value.bool z)) (show (((vs0[i].2.2.length : Nat) : Int) == 0) = isJ0 R n i j by
                unfold isJ0
                rw [hrow c2, decide_eq_true c1, Bool.true_and]
                cases vs0[i].2.2 with
                | nil => rfl
                | cons z r =>
                  rw [decide_eq_false (by simp)]
                  exact beq_eq_false_iff_ne.2 (by rw [List.length_cons]; omega)), rfl⟩, rfl⟩
          · have c1 : ¬ j = (i + 1) % n := by
              have c1 : (((j : Nat) : Int) == (((i + 1) % n : Nat) : Int)) = false := c1
              rw [beq_eq_false_iff_ne] at c1; omega
            repeat (first | refine zA ?_ | refine zB ?_ | refine zC rfl rfl rfl ?_ | refine zD ?_ | refine zE ?_ | refine zF ?_ | refine zG rfl ?_ | refine zH rfl ?_ | refine zI rfl rfl rfl ?_ | refine zJ rfl rfl ?_ | refine zK ?_ | refine zL ?_ | refine zM rfl ?_ | refine zN ?_)
            exact ⟨(), ⟨rfl, rfl, rfl, rfl, rfl, rfl, rfl, congrArg (fun z => some (Value.bool z)) (show false = isJ0 R n i j by unfold isJ0; rw [decide_eq_false c1]; rfl), rfl⟩, rfl⟩
        rintro _ e10 w10 hsub hw10
        obtain rfl := hw10.symm
        refine WC.sub hsub ?_
        clear hsub e10
        refine WC.seq ?_
        refine WC.mid Unit (fun _ => [(4, ptr b4), (5, ptr b5), (6, .int .i64 (n : Nat)), (7, ptr b7), (8, .int .i64 (i : Nat)), (9, .slice ra ac.length rc), (10, .int .i64 (j : Nat)), (11, .bool (isJ R n i j))]) (fun _ w' => w' = w9) ?_ ?_
        · repeat (first | refine zA ?_ | refine zB ?_ | refine zC rfl rfl rfl ?_ | refine zD ?_ | refine zE ?_ | refine zF ?_ | refine zG rfl ?_ | refine zH rfl ?_ | refine zI rfl rfl rfl ?_ | refine zJ rfl rfl ?_ | refine zK ?_ | refine zL ?_ | refine zM rfl ?_ | refine zN ?_)
          refine WC.loop Nat (fun k => [(4, ptr b4), (5, ptr b5), (6, .int .i64 (n : Nat)), (7, ptr b7), (8, .int .i64 (i : Nat)), (9, .slice ra ac.length rc), (10, .int .i64 (j : Nat)), (11, .bool (isJ0 R n i j || ((R.getD i []).take k).any fun z => decide (modN z n = j))), (12, .int .i64 (k : Nat))])
            (fun k w' => k ≤ (R.getD i []).length ∧ w' = w9) (fun k => (R.getD i []).length - k) 0 ⟨rfl, rfl, rfl, rfl, rfl, rfl, rfl, congrArg (fun z => some (Value.bool z)) (Bool.or_false _).symm, rfl, rfl⟩ ⟨Nat.zero_le _, rfl⟩ ?_
          rintro k w10 ⟨hk, hw10⟩
          obtain rfl := hw10.symm
          replace hk : k ≤ (R.getD i []).length := hk
          have fin : k = (R.getD i []).length → (isJ0 R n i j || ((R.getD i []).take k).any fun z => decide (modN z n = j)) = isJ R n i j := fun h => by rw [h, List.take_length]; rfl
          repeat (first | refine zA ?_ | refine zB ?_ | refine zC rfl rfl rfl ?_ | refine zD ?_ | refine zE ?_ | refine zF ?_ | refine zG rfl ?_ | refine zH rfl ?_ | refine zI rfl rfl rfl ?_ | refine zJ rfl rfl ?_ | refine zK ?_ | refine zL ?_ | refine zM rfl ?_ | refine zN ?_)
          refine WL.loadB rfl rfl rfl rfl rfl (hp9.obj 4 rfl) (j := 0) rfl ?_
          repeat (first | refine zA ?_ | refine zB ?_ | refine zC rfl rfl rfl ?_ | refine zD ?_ | refine zE ?_ | refine zF ?_ | refine zG rfl ?_ | refine zH rfl ?_ | refine zI rfl rfl rfl ?_ | refine zJ rfl rfl ?_ | refine zK ?_ | refine zL ?_ | refine zM rfl ?_ | refine zN ?_)
          refine WL.split 74 rfl (fun c1 => ?_) (fun c1 => ?_)
          · have c1 : i < vs0.length := by have := of_decide_eq_true c1; omega
            have hrl := hr20 _ (List.getElem_mem c1)
            have hrw := hrow c1
            rw [hrw] at hk fin ⊢
            repeat (first | refine zA ?_ | refine zB ?_ | refine zC rfl rfl rfl ?_ | refine zD ?_ | refine zE ?_ | refine zF ?_ | refine zG rfl ?_ | refine zH rfl ?_ | refine zI rfl rfl rfl ?_ | refine zJ rfl rfl ?_ | refine zK ?_ | refine zL ?_ | refine zM rfl ?_ | refine zN ?_)
            refine WL.loadB rfl rfl rfl rfl rfl (hp9.obj 4 rfl) (j := 0) rfl ?_
            refine WL.pure rfl rfl rfl ?_
            refine WL.ixload rfl (fun _ => rfl) rfl rfl rfl rfl rfl rfl rfl c1 rfl rfl (hstZ hp9).nx (catV_at c1) ?_
            intro q1
            repeat (first | refine zA ?_ | refine zB ?_ | refine zC rfl rfl rfl ?_ | refine zD ?_ | refine zE ?_ | refine zF ?_ | refine zG rfl ?_ | refine zH rfl ?_ | refine zI rfl rfl rfl ?_ | refine zJ rfl rfl ?_ | refine zK ?_ | refine zL ?_ | refine zM rfl ?_ | refine zN ?_)
            refine WC.cond rfl (fun c2 => ?_) (fun c2 => ?_)
            · have c2 : k < vs0[i].2.2.length := by have := of_decide_eq_true c2; omega
              have stepk := wrap_succ (i := k) (n := k + 1) (by omega) (by omega)
              have htk : (vs0[i].2.2.take (k + 1)).any (fun z => decide (modN z n = j)) = ((vs0[i].2.2.take k).any (fun z => decide (modN z n = j)) || decide (modN (vs0[i].2.2.getD k 0) n = j)) := by
                rw [List.take_succ_eq_append_getElem c2, List.any_append]
                simp [c2]
              repeat (first | refine zA ?_ | refine zB ?_ | refine zC rfl rfl rfl ?_ | refine zD ?_ | refine zE ?_ | refine zF ?_ | refine zG rfl ?_ | refine zH rfl ?_ | refine zI rfl rfl rfl ?_ | refine zJ rfl rfl ?_ | refine zK ?_ | refine zL ?_ | refine zM rfl ?_ | refine zN ?_)
              refine WL.split 87 rfl (fun c3 => ?_) (fun c3 => ?_)
              · repeat (first | refine zA ?_ | refine zB ?_ | refine zC rfl rfl rfl ?_ | refine zD ?_ | refine zE ?_ | refine zF ?_ | refine zG rfl ?_ | refine zH rfl ?_ | refine zI rfl rfl rfl ?_ | refine zJ rfl rfl ?_ | refine zK ?_ | refine zL ?_ | refine zM rfl ?_ | refine zN ?_)
                exact ⟨k + 1, (by omega), ⟨rfl, rfl, rfl, rfl, rfl, rfl, rfl, congrArg (fun z => some (Value.bool z)) (show true = (isJ0 R n i j || (vs0[i].2.2.take (k + 1)).any fun z => decide (modN z n = j)) by rw [htk, ← Bool.or_assoc]; have c3 : (isJ0 R n i j || (vs0[i].2.2.take k).any fun z => decide (modN z n = j)) = true := c3; rw [c3]; rfl), congrArg (fun z => some (Value.int .i64 z)) stepk, rfl⟩, c2, rfl⟩
              · repeat (first | refine zA ?_ | refine zB ?_ | refine zC rfl rfl rfl ?_ | refine zD ?_ | refine zE ?_ | refine zF ?_ | refine zG rfl ?_ | refine zH rfl ?_ | refine zI rfl rfl rfl ?_ | refine zJ rfl rfl ?_ | refine zK ?_ | refine zL ?_ | refine zM rfl ?_ | refine zN ?_)
                refine WL.loadB rfl rfl rfl rfl rfl (hp9.obj 4 rfl) (j := 0) rfl ?_
                refine WL.pure rfl rfl rfl ?_
                refine WL.ixload rfl (fun _ => rfl) rfl rfl rfl rfl rfl rfl rfl c1 rfl rfl (hstZ hp9).nx (catV_at c1) ?_
                intro q2
                refine WL.pure rfl rfl rfl ?_
                refine WL.ixload rfl (fun _ => rfl) rfl rfl rfl rfl rfl rfl rfl c2 rfl rfl ((hstZ hp9).rows _ (List.getElem_mem c1)) (zs_getD c2) ?_
                intro q3
                refine WL.pure rfl rfl rfl ?_
                refine WL.call rfl rfl rfl rfl rfl ent29 (mod_any (vs0[i].2.2.getD k 0) n (by omega) (by omega) w9) ?_
                rintro _ w11 ⟨rfl, hw11⟩
                obtain rfl := hw11.symm
                repeat (first | refine zA ?_ | refine zB ?_ | refine zC rfl rfl rfl ?_ | refine zD ?_ | refine zE ?_ | refine zF ?_ | refine zG rfl ?_ | refine zH rfl ?_ | refine zI rfl rfl rfl ?_ | refine zJ rfl rfl ?_ | refine zK ?_ | refine zL ?_ | refine zM rfl ?_ | refine zN ?_)
                exact ⟨k + 1, (by omega), ⟨rfl, rfl, rfl, rfl, rfl, rfl, rfl, congrArg (fun z => some (Value.bool z)) (show ((((modN (vs0[i].2.2.getD k 0) n : Nat) : Int) == ((j : Nat) : Int))) = (isJ0 R n i j || (vs0[i].2.2.take (k + 1)).any fun z => decide (modN z n = j)) by
                  rw [htk, ← Bool.or_assoc]
                  have c3 : (isJ0 R n i j || (vs0[i].2.2.take k).any fun z => decide (modN z n = j)) = false := c3
                  rw [c3, Bool.false_or]
                  by_cases hm : modN (vs0[i].2.2.getD k 0) n = j
                  · rw [hm, decide_eq_true rfl]; simp
                  · rw [decide_eq_false hm]; exact beq_eq_false_iff_ne.2 (by omega)), congrArg (fun z => some (Value.int .i64 z)) stepk, rfl⟩, c2, rfl⟩
            · have c2 : k = vs0[i].2.2.length := by have := of_decide_eq_false c2; omega
              repeat (first | refine zA ?_ | refine zB ?_ | refine zC rfl rfl rfl ?_ | refine zD ?_ | refine zE ?_ | refine zF ?_ | refine zG rfl ?_ | refine zH rfl ?_ | refine zI rfl rfl rfl ?_ | refine zJ rfl rfl ?_ | refine zK ?_ | refine zL ?_ | refine zM rfl ?_ | refine zN ?_)
              exact ⟨(), ⟨rfl, rfl, rfl, rfl, rfl, rfl, rfl, congrArg (fun z => some (Value.bool z)) (fin c2), rfl⟩, rfl⟩
          · have c1 : ¬ i < vs0.length := by have := of_decide_eq_false c1; omega
            have hk0 : k = (R.getD i []).length := by rw [hrow0 c1] at hk ⊢; simp only [List.length_nil] at hk ⊢; omega
            repeat (first | refine zA ?_ | refine zB ?_ | refine zC rfl rfl rfl ?_ | refine zD ?_ | refine zE ?_ | refine zF ?_ | refine zG rfl ?_ | refine zH rfl ?_ | refine zI rfl rfl rfl ?_ | refine zJ rfl rfl ?_ | refine zK ?_ | refine zL ?_ | refine zM rfl ?_ | refine zN ?_)
            exact ⟨(), ⟨rfl, rfl, rfl, rfl, rfl, rfl, rfl, congrArg (fun z => some (Value.bool z)) (fin hk0), rfl⟩, rfl⟩
        rintro _ e10 w10 hsub hw10
        obtain rfl := hw10.symm
        refine WC.sub hsub ?_
        clear hsub e10
        have hnext := tmAcc_succ R n i j
        rw [← hac] at hnext
        repeat (first | refine zA ?_ | refine zB ?_ | refine zC rfl rfl rfl ?_ | refine zD ?_ | refine zE ?_ | refine zF ?_ | refine zG rfl ?_ | refine zH rfl ?_ | refine zI rfl rfl rfl ?_ | refine zJ rfl rfl ?_ | refine zK ?_ | refine zL ?_ | refine zM rfl ?_ | refine zN ?_)
        refine WC.cond rfl (fun c => ?_) (fun c => ?_)
        · rw [if_pos c] at hnext
          repeat (first | refine zA ?_ | refine zB ?_ | refine zC rfl rfl rfl ?_ | refine zD ?_ | refine zE ?_ | refine zF ?_ | refine zG rfl ?_ | refine zH rfl ?_ | refine zI rfl rfl rfl ?_ | refine zJ rfl rfl ?_ | refine zK ?_ | refine zL ?_ | refine zM rfl ?_ | refine zN ?_)
          refine WL.buildS (cs := [.int .i64 (j : Nat)]) rfl rfl rfl rfl rfl rfl rfl rfl rfl (fun b10 w10 h10 => ?_)
          have hp10 := hp9.new h10
          refine WL.append 1 hp10 rfl rfl rfl rfl rfl (by decide) rfl rfl rfl (news := [.int .i64 (j : Nat)]) (Sl.of_obj (hp10.obj 0 rfl) (fun q u hq => by simpa using hq)) rfl (zs_cells [((j : Nat) : Int)]) (by unfold maxLen; omega) (by show (ac.length + 1) * 8 ≤ _; omega) ?_
          intro pa pc w11 hp11 _
          have hp11 := hp11.tail
          have hlen : (tmAcc R n i (j + 1)).length = ac.length + 1 := by rw [hnext, List.length_append]; rfl
          have hzs : zs (tmAcc R n i (j + 1)) = zs ac ++ [.int .i64 (j : Nat)] := by rw [hnext, zs_app]; rfl
          repeat (first | refine zA ?_ | refine zB ?_ | refine zC rfl rfl rfl ?_ | refine zD ?_ | refine zE ?_ | refine zF ?_ | refine zG rfl ?_ | refine zH rfl ?_ | refine zI rfl rfl rfl ?_ | refine zJ rfl rfl ?_ | refine zK ?_ | refine zL ?_ | refine zM rfl ?_ | refine zN ?_)
          refine ⟨(j + 1, pa, pc), (by show n - (j + 1) < n - j; omega), ⟨rfl, rfl, rfl, rfl, rfl, by rw [hlen]; rfl, congrArg (fun z => some (Value.int .i64 z)) stepj, rfl⟩, hjn, ?_⟩
          show Hp w w11 ([.row 3 1 (.slice pa (tmAcc R n i (j + 1)).length pc) (tmAcc R n i (j + 1)).length (zs (tmAcc R n i (j + 1))), _, _, _, _, _] ++ _)
          rw [hlen, hzs]
          exact hp11
        · rw [if_neg (by rw [c]; decide), List.append_nil] at hnext
          repeat (first | refine zA ?_ | refine zB ?_ | refine zC rfl rfl rfl ?_ | refine zD ?_ | refine zE ?_ | refine zF ?_ | refine zG rfl ?_ | refine zH rfl ?_ | refine zI rfl rfl rfl ?_ | refine zJ rfl rfl ?_ | refine zK ?_ | refine zL ?_ | refine zM rfl ?_ | refine zN ?_)
          refine ⟨(j + 1, ra, rc), (by show n - (j + 1) < n - j; omega), ⟨rfl, rfl, rfl, rfl, rfl, by rw [hnext]; rfl, congrArg (fun z => some (Value.int .i64 z)) stepj, rfl⟩, hjn, ?_⟩
          show Hp w w9 ([.row 3 1 (.slice ra (tmAcc R n i (j + 1)).length rc) (tmAcc R n i (j + 1)).length (zs (tmAcc R n i (j + 1))), _, _, _, _, _] ++ _)
          rw [hnext]
          exact hp9
      · have hjn : j = n := by have := of_decide_eq_false g2; omega
        have hacr : ac = tmRow R n i := by rw [hac, hjn]; rfl
        refine WC.exit ?_
        refine blk_hit ?_
        refine WC.seq ?_
        refine WC.reg ?_
        refine WL.pure rfl rfl rfl ?_
        refine WL.pure rfl rfl rfl ?_
        refine WL.known (d := 107) (congrArg (fun z => some (Value.int .i64 z)) (show Int.tmod ((i : Nat) : Int) 16 = ((i % 16 : Nat) : Int) from rfl)) ?_
        refine WL.pure rfl rfl rfl ?_
        refine WL.nil ?_
        refine WC.seq ?_
        refine WC.mid Unit (fun _ => [(4, ptr b4), (5, ptr b5), (6, .int .i64 (n : Nat)), (7, ptr b7), (8, .int .i64 (i : Nat)), (9, .slice ra ac.length rc), (13, .int .i64 (tmMark M0 i))]) (fun _ w' => w' = w9) ?_ ?_
        · repeat (first | refine zA ?_ | refine zB ?_ | refine zC rfl rfl rfl ?_ | refine zD ?_ | refine zE ?_ | refine zF ?_ | refine zG rfl ?_ | refine zH rfl ?_ | refine zI rfl rfl rfl ?_ | refine zJ rfl rfl ?_ | refine zK ?_ | refine zL ?_ | refine zM rfl ?_ | refine zN ?_)
          refine WL.loadB rfl rfl rfl rfl rfl (hp9.obj 4 rfl) (j := 1) rfl ?_
          repeat (first | refine zA ?_ | refine zB ?_ | refine zC rfl rfl rfl ?_ | refine zD ?_ | refine zE ?_ | refine zF ?_ | refine zG rfl ?_ | refine zH rfl ?_ | refine zI rfl rfl rfl ?_ | refine zJ rfl rfl ?_ | refine zK ?_ | refine zL ?_ | refine zM rfl ?_ | refine zN ?_)
          refine WC.cond rfl (fun c => ?_) (fun c => ?_)
          · have c : i < M0.length := by have := of_decide_eq_true c; omega
            repeat (first | refine zA ?_ | refine zB ?_ | refine zC rfl rfl rfl ?_ | refine zD ?_ | refine zE ?_ | refine zF ?_ | refine zG rfl ?_ | refine zH rfl ?_ | refine zI rfl rfl rfl ?_ | refine zJ rfl rfl ?_ | refine zK ?_ | refine zL ?_ | refine zM rfl ?_ | refine zN ?_)
            refine WL.loadB rfl rfl rfl rfl rfl (hp9.obj 4 rfl) (j := 1) rfl ?_
            refine WL.pure rfl rfl rfl ?_
            refine WL.ixload rfl (fun _ => rfl) rfl rfl rfl rfl rfl rfl rfl c rfl rfl (hstZ hp9).mks (zs_getD c) ?_
            intro q0
            refine WL.call rfl rfl rfl rfl rfl ent29 (mod_any (M0.getD i 0) 16 (by decide) (by decide) w9) ?_
            rintro _ w11 ⟨rfl, hw11⟩
            obtain rfl := hw11.symm
            repeat (first | refine zA ?_ | refine zB ?_ | refine zC rfl rfl rfl ?_ | refine zD ?_ | refine zE ?_ | refine zF ?_ | refine zG rfl ?_ | refine zH rfl ?_ | refine zI rfl rfl rfl ?_ | refine zJ rfl rfl ?_ | refine zK ?_ | refine zL ?_ | refine zM rfl ?_ | refine zN ?_)
            exact ⟨(), ⟨rfl, rfl, rfl, rfl, rfl, rfl, congrArg (fun z => some (Value.int .i64 z)) (show ((modN (M0.getD i 0) 16 : Nat) : Int) = tmMark M0 i by unfold tmMark; rw [if_pos c]; rfl), rfl⟩, rfl⟩
          · have c : ¬ i < M0.length := by have := of_decide_eq_false c; omega
            repeat (first | refine zA ?_ | refine zB ?_ | refine zC rfl rfl rfl ?_ | refine zD ?_ | refine zE ?_ | refine zF ?_ | refine zG rfl ?_ | refine zH rfl ?_ | refine zI rfl rfl rfl ?_ | refine zJ rfl rfl ?_ | refine zK ?_ | refine zL ?_ | refine zM rfl ?_ | refine zN ?_)
            exact ⟨(), ⟨rfl, rfl, rfl, rfl, rfl, rfl, congrArg (fun z => some (Value.int .i64 z)) (show ((i % 16 : Nat) : Int) = tmMark M0 i by unfold tmMark; rw [if_neg c]), rfl⟩, rfl⟩
        rintro _ e10 w10 hsub hw10
        obtain rfl := hw10.symm
        refine WC.sub hsub ?_
        clear hsub e10
        have hal : ac.length ≤ 16 := by omega
        subst hvl
        repeat (first | refine zA ?_ | refine zB ?_ | refine zC rfl rfl rfl ?_ | refine zD ?_ | refine zE ?_ | refine zF ?_ | refine zG rfl ?_ | refine zH rfl ?_ | refine zI rfl rfl rfl ?_ | refine zJ rfl rfl ?_ | refine zK ?_ | refine zL ?_ | refine zM rfl ?_ | refine zN ?_)
        refine WL.loadB rfl rfl rfl rfl rfl (hp9.obj 1 rfl) (j := 0) rfl ?_
        repeat (first | refine zA ?_ | refine zB ?_ | refine zC rfl rfl rfl ?_ | refine zD ?_ | refine zE ?_ | refine zF ?_ | refine zG rfl ?_ | refine zH rfl ?_ | refine zI rfl rfl rfl ?_ | refine zJ rfl rfl ?_ | refine zK ?_ | refine zL ?_ | refine zM rfl ?_ | refine zN ?_)
        refine WL.buildS (cs := [.slice ra ac.length rc]) rfl rfl rfl rfl rfl rfl rfl rfl rfl (fun b10 w10 h10 => ?_)
        have hp10 := hp9.new h10
        refine WL.append 3 hp10 rfl rfl rfl rfl rfl (by decide) rfl rfl rfl (news := [.slice ra ac.length rc]) (Sl.of_obj (hp10.obj 0 rfl) (fun q u hq => by simpa using hq)) rfl (Cells.cons rfl Cells.nil) (by unfold maxLen; omega) (by show (vs3.length + 1) * 24 ≤ _; omega) ?_
        intro pb pd w11 hp11 _
        replace hp11 : Hp w w11 ([_, Ri (.slice ra ac.length rc) ac, Stb b7 na vs3.length nc ma vs3.length mc, .row 22 1 (.slice pb (vs3.length + 1) pd) (vs3.length + 1) (catV vs3 ++ [.slice ra ac.length rc]), .row 3 1 (.slice ma vs3.length mc) vs3.length (zs (tmMs M0 vs3.length)), Stb b5 na0 vs0.length nc0 ma0 M0.length mc0, Stb b4 none 0 0 none 0 0] ++ (vsE vs3 ++ Y)) := hp11
        repeat (first | refine zA ?_ | refine zB ?_ | refine zC rfl rfl rfl ?_ | refine zD ?_ | refine zE ?_ | refine zF ?_ | refine zG rfl ?_ | refine zH rfl ?_ | refine zI rfl rfl rfl ?_ | refine zJ rfl rfl ?_ | refine zK ?_ | refine zL ?_ | refine zM rfl ?_ | refine zN ?_)
        refine WL.store rfl rfl rfl rfl rfl rfl (hp11.obj 2 rfl) (Nat.succ_pos 1) (fun w12 h12 => ?_)
        have hp12 := Hp.pickT (T := vsE vs3 ++ Y) [_, _, _, _, _, _, _] [3, 1, 2, 4, 5, 6] (hp11.set 2 rfl rfl h12) (by decide)
        have hp13 := Hp.pickT (T := vsE (vs3 ++ [(ra, rc, ac)]) ++ Y) [_, _, _, _, _] [1, 0, 2, 3, 4] (Hp.rowInY (X := [Stb b7 pb (vs3.length + 1) pd ma vs3.length mc, .row 3 1 (.slice ma vs3.length mc) vs3.length (zs (tmMs M0 vs3.length)), Stb b5 na0 vs0.length nc0 ma0 M0.length mc0, Stb b4 none 0 0 none 0 0]) (x := (ra, rc, ac)) hp12) (by decide)
        clear hp9 hp10 hp11 hp12
        repeat (first | refine zA ?_ | refine zB ?_ | refine zC rfl rfl rfl ?_ | refine zD ?_ | refine zE ?_ | refine zF ?_ | refine zG rfl ?_ | refine zH rfl ?_ | refine zI rfl rfl rfl ?_ | refine zJ rfl rfl ?_ | refine zK ?_ | refine zL ?_ | refine zM rfl ?_ | refine zN ?_)
        refine WL.loadB rfl rfl rfl rfl rfl (hp13.obj 0 rfl) (j := 1) rfl ?_
        repeat (first | refine zA ?_ | refine zB ?_ | refine zC rfl rfl rfl ?_ | refine zD ?_ | refine zE ?_ | refine zF ?_ | refine zG rfl ?_ | refine zH rfl ?_ | refine zI rfl rfl rfl ?_ | refine zJ rfl rfl ?_ | refine zK ?_ | refine zL ?_ | refine zM rfl ?_ | refine zN ?_)
        refine WL.buildS (cs := [.int .i64 (tmMark M0 vs3.length)]) rfl rfl rfl rfl rfl rfl rfl rfl rfl (fun b14 w14 h14 => ?_)
        have hp14 := hp13.new h14
        refine WL.append 3 hp14 rfl rfl rfl rfl rfl (by decide) rfl rfl rfl (news := [.int .i64 (tmMark M0 vs3.length)]) (Sl.of_obj (hp14.obj 0 rfl) (fun q u hq => by simpa using hq)) rfl (zs_cells [_]) (by unfold maxLen; omega) (by show (vs3.length + 1) * 8 ≤ _; omega) ?_
        intro pe pf w15 hp15 _
        replace hp15 : Hp w w15 ([_, Stb b7 pb (vs3.length + 1) pd ma vs3.length mc, Rvs (.slice pb (vs3 ++ [(ra, rc, ac)]).length pd) (vs3 ++ [(ra, rc, ac)]), .row 3 1 (.slice pe (vs3.length + 1) pf) (vs3.length + 1) (zs (tmMs M0 vs3.length) ++ [.int .i64 (tmMark M0 vs3.length)]), Stb b5 na0 vs0.length nc0 ma0 M0.length mc0, Stb b4 none 0 0 none 0 0] ++ (vsE (vs3 ++ [(ra, rc, ac)]) ++ Y)) := hp15
        repeat (first | refine zA ?_ | refine zB ?_ | refine zC rfl rfl rfl ?_ | refine zD ?_ | refine zE ?_ | refine zF ?_ | refine zG rfl ?_ | refine zH rfl ?_ | refine zI rfl rfl rfl ?_ | refine zJ rfl rfl ?_ | refine zK ?_ | refine zL ?_ | refine zM rfl ?_ | refine zN ?_)
        refine WL.store rfl rfl rfl rfl rfl rfl (hp15.obj 1 rfl) (Nat.lt_succ_self 1) (fun w16 h16 => ?_)
        have hp16 := Hp.pickT (T := vsE (vs3 ++ [(ra, rc, ac)]) ++ Y) [_, _, _, _, _, _] [1, 2, 3, 4, 5] (hp15.set 1 rfl rfl h16) (by decide)
        have hms : zs (tmMs M0 vs3.length) ++ [.int .i64 (tmMark M0 vs3.length)] = zs (tmMs M0 (vs3.length + 1)) := by rw [tmMs_succ, zs_app]; rfl
        have hvs4 : rowsOf (vs3 ++ [(ra, rc, ac)]) = (List.range (vs3.length + 1)).map (tmRow R n) := by
          rw [List.range_succ, List.map_append, ← hvs3, hacr]; simp [rowsOf]
        rw [hms] at hp16
        unfold Rvs at hp16
        rw [show (vs3 ++ [(ra, rc, ac)]).length = vs3.length + 1 from by rw [List.length_append]; rfl] at hp16
        repeat (first | refine zA ?_ | refine zB ?_ | refine zC rfl rfl rfl ?_ | refine zD ?_ | refine zE ?_ | refine zF ?_ | refine zG rfl ?_ | refine zH rfl ?_ | refine zI rfl rfl rfl ?_ | refine zJ rfl rfl ?_ | refine zK ?_ | refine zL ?_ | refine zM rfl ?_ | refine zN ?_)
        exact ⟨(vs3.length + 1, pb, pd, pe, pf, vs3 ++ [(ra, rc, ac)]), (by show n - (vs3.length + 1) < n - vs3.length; omega), ⟨rfl, rfl, rfl, rfl, congrArg (fun z => some (Value.int .i64 z)) step, rfl⟩, hin, hvs4, hp16⟩
    · have hin : i = n := by have := of_decide_eq_false g1; omega
      subst hin
      repeat (first | refine zA ?_ | refine zB ?_ | refine zC rfl rfl rfl ?_ | refine zD ?_ | refine zE ?_ | refine zF ?_ | refine zG rfl ?_ | refine zH rfl ?_ | refine zI rfl rfl rfl ?_ | refine zJ rfl rfl ?_ | refine zK ?_ | refine zL ?_ | refine zM rfl ?_ | refine zN ?_)
      refine WL.loadN rfl rfl rfl rfl rfl (cs := [.slice na i nc, .slice ma i mc]) rfl (fun q v hq => cell_of_obj (hp8.obj 0 rfl) (by rw [Nat.zero_add]; simpa using hq)) ?_
      refine WL.storeN rfl rfl rfl rfl rfl (by simp [Value.oneCell']) (hp8.obj 4 rfl) (Nat.le_refl _) rfl (fun w9 h9 => ?_)
      have hp9 := hp8.set 4 rfl rfl h9
      repeat (first | refine zA ?_ | refine zB ?_ | refine zC rfl rfl rfl ?_ | refine zD ?_ | refine zE ?_ | refine zF ?_ | refine zG rfl ?_ | refine zH rfl ?_ | refine zI rfl rfl rfl ?_ | refine zJ rfl rfl ?_ | refine zK ?_ | refine zL ?_ | refine zM rfl ?_ | refine zN ?_)
      refine Res.cell rfl rfl rfl rfl rfl rfl (hp9.obj 4 rfl) ⟨na, nc, ma, mc, vs3, by simp only [tmMs_len, hvl]; rfl, hvs3, ?_⟩
      have h10 := Hp.frontT (T := Y) (L := [_, _] ++ vsE vs3) (Hp.pickT (T := vsE vs3 ++ Y) [_, _, _, _, _] [1, 2] hp9 (by decide))
      show Hp w w9 (.row 22 1 (.slice na vs3.length nc) vs3.length (catV vs3) :: .row 3 1 (.slice ma (tmMs M0 i).length mc) (tmMs M0 i).length (zs (tmMs M0 i)) :: vsE vs3)
      rw [tmMs_len, hvl]
      exact h10
end Go.Proofs.YtpbbneclkhfgoaaDoor
end
section
/- ltl, forty-eighth: the reference's Lasso, IsRun, Marks. -/
namespace Go.Proofs.YtpbbneclkhfgoaaDoor
open Go.W Go.Ltl Go.RowKit
set_option maxRecDepth 100000
set_option linter.unusedSectionVars false
attribute [local irreducible] WC WL WQ WS WH

def inB (n : Nat) (z : Int) : Bool := decide (0 ≤ z) && decide (z < (n : Int))
end Go.Proofs.YtpbbneclkhfgoaaDoor
end
section
/- ltl, forty-ninth: lassos that are runs, in plain words. -/
namespace Go.Proofs.YtpbbneclkhfgoaaDoor
open Go.W Go.Ltl Go.RowKit
set_option maxRecDepth 100000

def upN (l : List Nat) : List Int := l.map fun n : Nat => (n : Int)
theorem upN_len (l : List Nat) : (upN l).length = l.length := List.length_map _
theorem upN_app (a b : List Nat) : upN (a ++ b) = upN a ++ upN b := List.map_append
theorem pos_small {n lp i : Nat} (h : lp < n) (hi : i < n) : pos n lp i = i := by
  rw [pos_eq h]
  split
  · rfl
  · rw [Nat.mod_eq_of_lt (by omega)]; omega
end Go.Proofs.YtpbbneclkhfgoaaDoor
end
section
/- The reference's formulas: lists of nodes; what it parses. -/
namespace Go.Ltl
open Go.W
end Go.Ltl
end
section
/- The words of a formula, and what is read out of them. -/
namespace Go.Ltl
open Go.W
theorem tokN_cons (c : UInt8) (s cur : Str) : tokN (c :: s) cur = if c = 32 ∨ c = 10 then flush cur ++ tokN s [] else if c = 40 ∨ c = 41 then flush cur ++ ([c] :: tokN s []) else tokN s (cur ++ [c]) := rfl
theorem tokN_sp : ∀ (s r cur : Str), tokN (s ++ 32 :: r) cur = tokN s cur ++ tokN r [] := by
  intro s
  induction s with
  | nil => intro r cur; show tokN (32 :: r) cur = flush cur ++ _; rw [tokN_cons, if_pos (by decide)]
  | cons c s ih =>
    intro r cur
    show tokN (c :: (s ++ 32 :: r)) cur = _
    rw [tokN_cons, tokN_cons, ih, ih]
    split
    · rw [List.append_assoc]
    · split
      · rw [List.append_assoc]; rfl
      · rfl
end Go.Ltl
end
section
/- ltl, fifty-second: what Holds answers, in one shape; the values of a formula's text. -/
namespace Go.Proofs.YtpbbneclkhfgoaaDoor
open Go.W Go.Ltl Go.RowKit
set_option maxRecDepth 100000

abbrev Rb (b : Nat) (hb : Bool) (sa : Option Addr) (sl sc : Nat) (pa : Option Addr) (pl pc : Nat) : Ent := .blk b (.cells #[.bool hb, .slice sa sl sc, .slice pa pl pc] 48 (0, 0))
/-- The answer is a result and an error. -/
def ShapeW (vs : Vs) (ms : List Int) (s : Str) (hb : Bool) (sa : Option Addr) (sl sc : Nat) (qa : Option Addr) (ql qc : Nat) (ec : Int) (E : List Ent) : Prop :=
  (parseM s = none ∧ ec = 4 ∧ hb = false ∧ sl = 0 ∧ ql = 0) ∨ ∃ f, parseM s = some f ∧ ec = 0 ∧ ((hb = true ∧ HoldsA vs ms f ∧ sl = 0 ∧ ql = 0) ∨ (hb = false ∧ ∃ stem loop, LassoA vs ms f stem loop ∧ sl = stem.length ∧ ql = loop.length ∧ E = [Rna (.slice qa loop.length qc) loop.length loop, Rna (.slice sa stem.length sc) stem.length stem]))
theorem HoldsW.shape {vs : Vs} {ms : List Int} {s : Str} {w w' : World} {v : Value} (h : HoldsW vs ms s w v w') (hsb : strB vs ms = true) :
    ∃ (hb : Bool) (sa : Option Addr) (sl sc : Nat) (qa : Option Addr) (ql qc : Nat) (ec : Int) (E : List Ent), v = .tuple #[.agg #[.bool hb, .slice sa sl sc, .slice qa ql qc], .int .i64 ec] ∧ Hp w w' E ∧ ShapeW vs ms s hb sa sl sc qa ql qc ec E := by
  unfold HoldsW at h
  rw [if_pos hsb] at h
  cases hf : parseM s with
  | none =>
    rw [hf] at h
    obtain ⟨rfl, hp⟩ := h
    exact ⟨false, none, 0, 0, none, 0, 0, 4, [], rfl, hp, .inl ⟨hf, rfl, rfl, rfl, rfl⟩⟩
  | some f =>
    rw [hf] at h
    rcases h with ⟨hA, rfl, hp⟩ | ⟨stem, loop, sa, sc, pa, pc, hA, rfl, hp⟩
    · exact ⟨true, none, 0, 0, none, 0, 0, 0, [], rfl, hp, .inr ⟨f, hf, rfl, .inl ⟨rfl, hA, rfl, rfl⟩⟩⟩
    · exact ⟨false, sa, stem.length, sc, pa, loop.length, pc, 0, _, rfl, hp, .inr ⟨f, hf, rfl, .inr ⟨rfl, stem, loop, hA, rfl, rfl, rfl⟩⟩⟩
end Go.Proofs.YtpbbneclkhfgoaaDoor
end
section
/- ltl, fifty-eighth: size, everything. -/
namespace Go.Proofs.YtpbbneclkhfgoaaDoor
open Go.W Go.Ltl Go.RowKit
set_option maxRecDepth 100000
set_option linter.unusedSectionVars false
attribute [local irreducible] WC WL WQ WS WH

theorem size_any : ∀ (f : Fm) (w : World), sizeF f ≤ 100000 → Ret Tryd.prog 58 [fmV f] w fun v w' => v = .int .i64 (sizeF f : Nat) ∧ Hp w w' [] := by
  intro f
  induction f with
  | at_ s =>
    intro w _
    refine enter Tryd.func58 rfl rfl ⟨rfl, rfl⟩ rfl ?_
    repeat (first | refine zA ?_ | refine zB ?_ | refine zC rfl rfl rfl ?_ | refine zD ?_ | refine zE ?_ | refine zF ?_ | refine zG rfl ?_ | refine zH rfl ?_ | refine zI rfl rfl rfl ?_ | refine zJ rfl rfl ?_ | refine zK ?_ | refine zL ?_ | refine zM rfl ?_ | refine zN ?_)
    refine WL.val rfl rfl rfl (yAsT rfl rfl rfl) ?_
    repeat (first | refine zA ?_ | refine zB ?_ | refine zC rfl rfl rfl ?_ | refine zD ?_ | refine zE ?_ | refine zF ?_ | refine zG rfl ?_ | refine zH rfl ?_ | refine zI rfl rfl rfl ?_ | refine zJ rfl rfl ?_ | refine zK ?_ | refine zL ?_ | refine zM rfl ?_ | refine zN ?_)
    refine WL.val rfl rfl rfl (yAsT rfl rfl rfl) ?_
    repeat (first | refine zA ?_ | refine zB ?_ | refine zC rfl rfl rfl ?_ | refine zD ?_ | refine zE ?_ | refine zF ?_ | refine zG rfl ?_ | refine zH rfl ?_ | refine zI rfl rfl rfl ?_ | refine zJ rfl rfl ?_ | refine zK ?_ | refine zL ?_ | refine zM rfl ?_ | refine zN ?_)
    exact Res.one rfl rfl rfl ⟨rfl, Hp.start w⟩
  | on_ s f ih =>
    intro w hsz
    unfold sizeF at hsz
    refine enter Tryd.func58 rfl rfl ⟨rfl, rfl⟩ rfl ?_
    repeat (first | refine zA ?_ | refine zB ?_ | refine zC rfl rfl rfl ?_ | refine zD ?_ | refine zE ?_ | refine zF ?_ | refine zG rfl ?_ | refine zH rfl ?_ | refine zI rfl rfl rfl ?_ | refine zJ rfl rfl ?_ | refine zK ?_ | refine zL ?_ | refine zM rfl ?_ | refine zN ?_)
    refine WL.val rfl rfl rfl (yAsT rfl rfl rfl) ?_
    repeat (first | refine zA ?_ | refine zB ?_ | refine zC rfl rfl rfl ?_ | refine zD ?_ | refine zE ?_ | refine zF ?_ | refine zG rfl ?_ | refine zH rfl ?_ | refine zI rfl rfl rfl ?_ | refine zJ rfl rfl ?_ | refine zK ?_ | refine zL ?_ | refine zM rfl ?_ | refine zN ?_)
    refine WL.alloc rfl rfl rfl (fun b2 w2 h2 => ?_)
    have hp2 := (Hp.start w).new h2
    refine WL.storeN rfl rfl rfl rfl rfl (by simp [Value.oneCell', st]; exact fm_one f) (hp2.obj 0 rfl) (Nat.le_refl _) rfl (fun w3 h3 => ?_)
    have hp3 : Hp w w3 [Q1b b2 s f] := hp2.set 0 rfl rfl h3
    repeat (first | refine zA ?_ | refine zB ?_ | refine zC rfl rfl rfl ?_ | refine zD ?_ | refine zE ?_ | refine zF ?_ | refine zG rfl ?_ | refine zH rfl ?_ | refine zI rfl rfl rfl ?_ | refine zJ rfl rfl ?_ | refine zK ?_ | refine zL ?_ | refine zM rfl ?_ | refine zN ?_)
    refine WL.loadB rfl rfl rfl rfl rfl (hp3.obj 0 rfl) (j := 1) rfl ?_
    refine WL.call rfl rfl rfl rfl rfl ent58 (ih w3 (by omega)) ?_
    rintro _ w4 ⟨rfl, hp4⟩
    have e1 : IntKind.i64.wrap (1 + ((sizeF f : Nat) : Int)) = ((1 + sizeF f : Nat) : Int) := by rw [wrap_mid (by omega) (by omega)]; omega
    refine WL.pure rfl rfl rfl ?_
    refine WL.known (d := 12) (congrArg (fun z => some (Value.int .i64 z)) e1) ?_
    repeat (first | refine zA ?_ | refine zB ?_ | refine zC rfl rfl rfl ?_ | refine zD ?_ | refine zE ?_ | refine zF ?_ | refine zG rfl ?_ | refine zH rfl ?_ | refine zI rfl rfl rfl ?_ | refine zJ rfl rfl ?_ | refine zK ?_ | refine zL ?_ | refine zM rfl ?_ | refine zN ?_)
    exact Res.one rfl rfl rfl ⟨rfl, (hp3.comb hp4).nil'⟩
  | tw_ s f g ihf ihg =>
    intro w hsz
    unfold sizeF at hsz
    refine enter Tryd.func58 rfl rfl ⟨rfl, rfl⟩ rfl ?_
    repeat (first | refine zA ?_ | refine zB ?_ | refine zC rfl rfl rfl ?_ | refine zD ?_ | refine zE ?_ | refine zF ?_ | refine zG rfl ?_ | refine zH rfl ?_ | refine zI rfl rfl rfl ?_ | refine zJ rfl rfl ?_ | refine zK ?_ | refine zL ?_ | refine zM rfl ?_ | refine zN ?_)
    refine WL.val rfl rfl rfl (yAsT rfl rfl rfl) ?_
    repeat (first | refine zA ?_ | refine zB ?_ | refine zC rfl rfl rfl ?_ | refine zD ?_ | refine zE ?_ | refine zF ?_ | refine zG rfl ?_ | refine zH rfl ?_ | refine zI rfl rfl rfl ?_ | refine zJ rfl rfl ?_ | refine zK ?_ | refine zL ?_ | refine zM rfl ?_ | refine zN ?_)
    refine WL.val rfl rfl rfl (yAsT rfl rfl rfl) ?_
    repeat (first | refine zA ?_ | refine zB ?_ | refine zC rfl rfl rfl ?_ | refine zD ?_ | refine zE ?_ | refine zF ?_ | refine zG rfl ?_ | refine zH rfl ?_ | refine zI rfl rfl rfl ?_ | refine zJ rfl rfl ?_ | refine zK ?_ | refine zL ?_ | refine zM rfl ?_ | refine zN ?_)
    refine WL.alloc rfl rfl rfl (fun b2 w2 h2 => ?_)
    have hp2 := (Hp.start w).new h2
    refine WL.storeN rfl rfl rfl rfl rfl (by simp [Value.oneCell', st]; exact ⟨fm_one f, fm_one g⟩) (hp2.obj 0 rfl) (Nat.le_refl _) rfl (fun w3 h3 => ?_)
    have hp3 : Hp w w3 [Q2b b2 s f g] := hp2.set 0 rfl rfl h3
    have e1 : IntKind.i64.wrap (1 + ((sizeF f : Nat) : Int)) = ((1 + sizeF f : Nat) : Int) := by rw [wrap_mid (by omega) (by omega)]; omega
    have e2 : IntKind.i64.wrap (((1 + sizeF f : Nat) : Int) + ((sizeF g : Nat) : Int)) = ((1 + sizeF f + sizeF g : Nat) : Int) := by rw [wrap_mid (by omega) (by omega)]; omega
    repeat (first | refine zA ?_ | refine zB ?_ | refine zC rfl rfl rfl ?_ | refine zD ?_ | refine zE ?_ | refine zF ?_ | refine zG rfl ?_ | refine zH rfl ?_ | refine zI rfl rfl rfl ?_ | refine zJ rfl rfl ?_ | refine zK ?_ | refine zL ?_ | refine zM rfl ?_ | refine zN ?_)
    refine WC.regQ (fun w' => Hp w w' [Q2b b2 s f g]) mixed (by kernel_rfl) (fun w' hw' => hp3.keep hw') ?_
    repeat (first | refine WQ.pure rfl rfl rfl ?_ | refine WQ.off rfl rfl rfl ?_ | refine WQ.nil ?_)
    refine WQ.load rfl rfl rfl rfl rfl (fun w' h => cell_of_obj (h.obj 0 rfl) (j := 1) rfl) ?_
    refine WQ.call rfl rfl rfl rfl rfl ent58 (fun w' h => (ihf w' (by omega)).mono fun v w'' hh => ⟨hh.1, h.comb hh.2⟩) ?_
    refine WQ.pure rfl rfl rfl ?_
    refine WQ.known (d := 19) (congrArg (fun z => some (Value.int .i64 z)) e1) ?_
    repeat (first | refine WQ.pure rfl rfl rfl ?_ | refine WQ.off rfl rfl rfl ?_ | refine WQ.nil ?_)
    refine WQ.load rfl rfl rfl rfl rfl (fun w' h => cell_of_obj (h.obj 0 rfl) (j := 2) rfl) ?_
    refine WQ.call rfl rfl rfl rfl rfl ent58 (fun w' h => (ihg w' (by omega)).mono fun v w'' hh => ⟨hh.1, h.comb hh.2⟩) ?_
    refine WQ.pure rfl rfl rfl ?_
    refine WQ.known (d := 23) (congrArg (fun z => some (Value.int .i64 z)) e2) ?_
    repeat (first | refine WQ.pure rfl rfl rfl ?_ | refine WQ.off rfl rfl rfl ?_ | refine WQ.nil ?_)
    intro w4 hp4
    repeat (first | refine zA ?_ | refine zB ?_ | refine zC rfl rfl rfl ?_ | refine zD ?_ | refine zE ?_ | refine zF ?_ | refine zG rfl ?_ | refine zH rfl ?_ | refine zI rfl rfl rfl ?_ | refine zJ rfl rfl ?_ | refine zK ?_ | refine zL ?_ | refine zM rfl ?_ | refine zN ?_)
    exact Res.one rfl rfl rfl ⟨rfl, hp4.nil'⟩
/-- The marks of the structure of all sequences. -/
def M16 (i : Nat) : List Int := (List.range i).map fun k : Nat => (k : Int)
theorem M16_succ (i : Nat) : zs (M16 (i + 1)) = zs (M16 i) ++ [.int .i64 ((i : Nat) : Int)] := by
  unfold M16; rw [List.range_succ, List.map_append, zs_app]; rfl
/-- Its states. -/
def vs16 (ma : Option Addr) (mc : Nat) : Vs := List.replicate 16 (ma, mc, M16 16)
theorem str16 (ma : Option Addr) (mc : Nat) : strB (vs16 ma mc) (M16 16) = true := by
  rw [strB_R]
  unfold rowsOf vs16
  rw [List.map_replicate]
  show strR (List.replicate 16 (M16 16)) (M16 16) = true
  decide +kernel
abbrev E16 (na : Option Addr) (nc : Nat) (ma : Option Addr) (mc : Nat) : List Ent := [.row 22 1 (.slice na 16 nc) 16 (catV (vs16 ma mc)), .row 3 1 (.slice ma 16 mc) 16 (zs (M16 16))]
theorem stc16 {w w' : World} {L : List Ent} {na ma : Option Addr} {nc mc : Nat} (h : Hp w w' L) (hsub : ∀ x ∈ E16 na nc ma mc, x ∈ L) : Stc w' na ma (vs16 ma mc) (M16 16) := by
  have h2 : Sl w' ma (zs (M16 16)) := Sl.of_row (h.sat (.row 3 1 (.slice ma 16 mc) 16 (zs (M16 16))) (hsub _ (by simp)))
  refine ⟨Sl.of_row (h.sat (.row 22 1 (.slice na 16 nc) 16 (catV (vs16 ma mc))) (hsub _ (by simp))), fun x hx => ?_, h2⟩
  rw [(List.mem_replicate.1 hx).2]
  exact h2
theorem everything_any (w : World) : Ret Tryd.prog 59 [] w fun u w' => ∃ na nc ma mc, u = stV na nc ma mc (vs16 ma mc) (M16 16) ∧ Hp w w' (E16 na nc ma mc) := by
  refine enter Tryd.func59 rfl rfl ⟨rfl, rfl⟩ rfl ?_
  repeat (first | refine zA ?_ | refine zB ?_ | refine zC rfl rfl rfl ?_ | refine zD ?_ | refine zE ?_ | refine zF ?_ | refine zG rfl ?_ | refine zH rfl ?_ | refine zI rfl rfl rfl ?_ | refine zJ rfl rfl ?_ | refine zK ?_ | refine zL ?_ | refine zM rfl ?_ | refine zN ?_)
  refine WL.alloc rfl rfl rfl (fun b0 w1 h1 => ?_)
  have hp1 : Hp w w1 [Stb b0 none 0 0 none 0 0] := (Hp.start w).new h1
  repeat (first | refine zA ?_ | refine zB ?_ | refine zC rfl rfl rfl ?_ | refine zD ?_ | refine zE ?_ | refine zF ?_ | refine zG rfl ?_ | refine zH rfl ?_ | refine zI rfl rfl rfl ?_ | refine zJ rfl rfl ?_ | refine zK ?_ | refine zL ?_ | refine zM rfl ?_ | refine zN ?_)
  refine WL.alloc rfl rfl rfl (fun b1 w2 h2 => ?_)
  have hp2 : Hp w w2 [Stb b1 none 0 0 none 0 0, Stb b0 none 0 0 none 0 0] := hp1.new h2
  repeat (first | refine zA ?_ | refine zB ?_ | refine zC rfl rfl rfl ?_ | refine zD ?_ | refine zE ?_ | refine zF ?_ | refine zG rfl ?_ | refine zH rfl ?_ | refine zI rfl rfl rfl ?_ | refine zJ rfl rfl ?_ | refine zK ?_ | refine zL ?_ | refine zM rfl ?_ | refine zN ?_)
  refine WC.loop (Nat × Option Addr × Nat) (fun (i, _) => [(0, ptr b0), (1, ptr b1), (3, .int .i64 (i : Nat))])
    (fun (i, ma, mc) w' => i ≤ 16 ∧ Hp w w' [Stb b1 none 0 0 ma i mc, .row 3 1 (.slice ma i mc) i (zs (M16 i)), Stb b0 none 0 0 none 0 0]) (fun (i, _) => 16 - i) (0, none, 0) ⟨rfl, rfl, rfl, rfl⟩ ⟨Nat.zero_le _, (hp2.nilrow 3 1).pick [1, 0, 2] (by decide)⟩ ?_
  clear hp1 hp2 h1 h2
  rintro ⟨i, ma, mc⟩ w3 ⟨hi, hp3⟩
  replace hi : i ≤ 16 := hi
  replace hp3 : Hp w w3 [Stb b1 none 0 0 ma i mc, .row 3 1 (.slice ma i mc) i (zs (M16 i)), Stb b0 none 0 0 none 0 0] := hp3
  repeat (first | refine zA ?_ | refine zB ?_ | refine zC rfl rfl rfl ?_ | refine zD ?_ | refine zE ?_ | refine zF ?_ | refine zG rfl ?_ | refine zH rfl ?_ | refine zI rfl rfl rfl ?_ | refine zJ rfl rfl ?_ | refine zK ?_ | refine zL ?_ | refine zM rfl ?_ | refine zN ?_)
  refine WC.cond rfl (fun g => ?_) (fun g => ?_)
  · have hi : i < 16 := by have h : ((i : Nat) : Int) < 16 := of_decide_eq_true g; omega
    have step := wrap_succ (i := i) (n := i + 1) (by omega) (by omega)
    repeat (first | refine zA ?_ | refine zB ?_ | refine zC rfl rfl rfl ?_ | refine zD ?_ | refine zE ?_ | refine zF ?_ | refine zG rfl ?_ | refine zH rfl ?_ | refine zI rfl rfl rfl ?_ | refine zJ rfl rfl ?_ | refine zK ?_ | refine zL ?_ | refine zM rfl ?_ | refine zN ?_)
    refine WL.loadB rfl rfl rfl rfl rfl (hp3.obj 0 rfl) (j := 1) rfl ?_
    repeat (first | refine zA ?_ | refine zB ?_ | refine zC rfl rfl rfl ?_ | refine zD ?_ | refine zE ?_ | refine zF ?_ | refine zG rfl ?_ | refine zH rfl ?_ | refine zI rfl rfl rfl ?_ | refine zJ rfl rfl ?_ | refine zK ?_ | refine zL ?_ | refine zM rfl ?_ | refine zN ?_)
    refine WL.buildS (cs := [.int .i64 (i : Nat)]) rfl rfl rfl rfl rfl rfl rfl rfl rfl (fun b9 w4 h4 => ?_)
    have hp4 := hp3.new h4
    refine WL.append 2 hp4 rfl rfl rfl rfl rfl (by decide) rfl rfl rfl (news := [.int .i64 (i : Nat)]) (Sl.of_obj (hp4.obj 0 rfl) (fun q u hq => by simpa using hq)) rfl (zs_cells [((i : Nat) : Int)]) (by unfold maxLen; omega) (by show (i + 1) * 8 ≤ _; omega) ?_
    intro pa pc w5 hp5 _
    replace hp5 : Hp w w5 [Stb b1 none 0 0 ma i mc, .row 3 1 (.slice pa (i + 1) pc) (i + 1) (zs (M16 i) ++ [.int .i64 (i : Nat)]), Stb b0 none 0 0 none 0 0] := hp5.tail
    rw [← M16_succ] at hp5
    repeat (first | refine zA ?_ | refine zB ?_ | refine zC rfl rfl rfl ?_ | refine zD ?_ | refine zE ?_ | refine zF ?_ | refine zG rfl ?_ | refine zH rfl ?_ | refine zI rfl rfl rfl ?_ | refine zJ rfl rfl ?_ | refine zK ?_ | refine zL ?_ | refine zM rfl ?_ | refine zN ?_)
    refine WL.store rfl rfl rfl rfl rfl rfl (hp5.obj 0 rfl) (Nat.lt_succ_self 1) (fun w6 h6 => ?_)
    have hp6 := hp5.set 0 rfl rfl h6
    repeat (first | refine zA ?_ | refine zB ?_ | refine zC rfl rfl rfl ?_ | refine zD ?_ | refine zE ?_ | refine zF ?_ | refine zG rfl ?_ | refine zH rfl ?_ | refine zI rfl rfl rfl ?_ | refine zJ rfl rfl ?_ | refine zK ?_ | refine zL ?_ | refine zM rfl ?_ | refine zN ?_)
    exact ⟨(i + 1, pa, pc), (by show 16 - (i + 1) < 16 - i; omega), ⟨rfl, rfl, congrArg (fun z => some (Value.int .i64 z)) step, rfl⟩, hi, hp6⟩
  have hi : i = 16 := by have h : ¬ ((i : Nat) : Int) < 16 := of_decide_eq_false g; omega
  subst hi
  repeat (first | refine zA ?_ | refine zB ?_ | refine zC rfl rfl rfl ?_ | refine zD ?_ | refine zE ?_ | refine zF ?_ | refine zG rfl ?_ | refine zH rfl ?_ | refine zI rfl rfl rfl ?_ | refine zJ rfl rfl ?_ | refine zK ?_ | refine zL ?_ | refine zM rfl ?_ | refine zN ?_)
  refine WC.loop (Nat × Option Addr × Nat) (fun (i, _) => [(0, ptr b0), (1, ptr b1), (13, .int .i64 (i : Nat))])
    (fun (i, na, nc) w' => i ≤ 16 ∧ Hp w w' [Stb b1 na i nc ma 16 mc, .row 22 1 (.slice na i nc) i (catV (List.replicate i (ma, mc, M16 16))), .row 3 1 (.slice ma 16 mc) 16 (zs (M16 16)), Stb b0 none 0 0 none 0 0]) (fun (i, _) => 16 - i) (0, none, 0) ⟨rfl, rfl, rfl, rfl⟩ ⟨Nat.zero_le _, (hp3.nilrow 22 1).pick [1, 0, 2, 3] (by decide)⟩ ?_
  clear hp3
  rintro ⟨i, na, nc⟩ w4 ⟨hi, hp4⟩
  replace hi : i ≤ 16 := hi
  replace hp4 : Hp w w4 [Stb b1 na i nc ma 16 mc, .row 22 1 (.slice na i nc) i (catV (List.replicate i (ma, mc, M16 16))), .row 3 1 (.slice ma 16 mc) 16 (zs (M16 16)), Stb b0 none 0 0 none 0 0] := hp4
  repeat (first | refine zA ?_ | refine zB ?_ | refine zC rfl rfl rfl ?_ | refine zD ?_ | refine zE ?_ | refine zF ?_ | refine zG rfl ?_ | refine zH rfl ?_ | refine zI rfl rfl rfl ?_ | refine zJ rfl rfl ?_ | refine zK ?_ | refine zL ?_ | refine zM rfl ?_ | refine zN ?_)
  refine WC.cond rfl (fun g2 => ?_) (fun g2 => ?_)
  · have hi : i < 16 := by have h : ((i : Nat) : Int) < 16 := of_decide_eq_true g2; omega
    have step := wrap_succ (i := i) (n := i + 1) (by omega) (by omega)
    repeat (first | refine zA ?_ | refine zB ?_ | refine zC rfl rfl rfl ?_ | refine zD ?_ | refine zE ?_ | refine zF ?_ | refine zG rfl ?_ | refine zH rfl ?_ | refine zI rfl rfl rfl ?_ | refine zJ rfl rfl ?_ | refine zK ?_ | refine zL ?_ | refine zM rfl ?_ | refine zN ?_)
    refine WL.loadB rfl rfl rfl rfl rfl (hp4.obj 0 rfl) (j := 0) rfl ?_
    refine WL.pure rfl rfl rfl ?_
    refine WL.loadB rfl rfl rfl rfl rfl (hp4.obj 0 rfl) (j := 1) rfl ?_
    refine WL.buildS (cs := [.slice ma 16 mc]) rfl rfl rfl rfl rfl rfl rfl rfl rfl (fun b9 w5 h5 => ?_)
    have hp5 := hp4.new h5
    refine WL.append 2 hp5 rfl rfl rfl rfl rfl (by decide) rfl rfl rfl (news := [.slice ma 16 mc]) (Sl.of_obj (hp5.obj 0 rfl) (fun q u hq => by simpa using hq)) rfl (Cells.cons rfl Cells.nil) (by unfold maxLen; omega) (by show (i + 1) * 24 ≤ _; omega) ?_
    intro pa pc w6 hp6 _
    have hp6 := hp6.tail
    replace hp6 : Hp w w6 [Stb b1 na i nc ma 16 mc, .row 22 1 (.slice pa (i + 1) pc) (i + 1) (catV (List.replicate i (ma, mc, M16 16)) ++ [.slice ma 16 mc]), .row 3 1 (.slice ma 16 mc) 16 (zs (M16 16)), Stb b0 none 0 0 none 0 0] := hp6
    have e : catV (List.replicate i (ma, mc, M16 16)) ++ [.slice ma 16 mc] = catV (List.replicate (i + 1) (ma, mc, M16 16)) := by
      rw [List.replicate_succ', catV_snoc]; rfl
    rw [e] at hp6
    repeat (first | refine zA ?_ | refine zB ?_ | refine zC rfl rfl rfl ?_ | refine zD ?_ | refine zE ?_ | refine zF ?_ | refine zG rfl ?_ | refine zH rfl ?_ | refine zI rfl rfl rfl ?_ | refine zJ rfl rfl ?_ | refine zK ?_ | refine zL ?_ | refine zM rfl ?_ | refine zN ?_)
    refine WL.store rfl rfl rfl rfl rfl rfl (hp6.obj 0 rfl) (Nat.succ_pos 1) (fun w7 h7 => ?_)
    have hp7 := hp6.set 0 rfl rfl h7
    repeat (first | refine zA ?_ | refine zB ?_ | refine zC rfl rfl rfl ?_ | refine zD ?_ | refine zE ?_ | refine zF ?_ | refine zG rfl ?_ | refine zH rfl ?_ | refine zI rfl rfl rfl ?_ | refine zJ rfl rfl ?_ | refine zK ?_ | refine zL ?_ | refine zM rfl ?_ | refine zN ?_)
    exact ⟨(i + 1, pa, pc), (by show 16 - (i + 1) < 16 - i; omega), ⟨rfl, rfl, congrArg (fun z => some (Value.int .i64 z)) step, rfl⟩, hi, hp7⟩
  have hi : i = 16 := by have h : ¬ ((i : Nat) : Int) < 16 := of_decide_eq_false g2; omega
  subst hi
  repeat (first | refine zA ?_ | refine zB ?_ | refine zC rfl rfl rfl ?_ | refine zD ?_ | refine zE ?_ | refine zF ?_ | refine zG rfl ?_ | refine zH rfl ?_ | refine zI rfl rfl rfl ?_ | refine zJ rfl rfl ?_ | refine zK ?_ | refine zL ?_ | refine zM rfl ?_ | refine zN ?_)
  refine WL.loadN rfl rfl rfl rfl rfl (cs := [.slice na 16 nc, .slice ma 16 mc]) rfl (fun q v hq => cell_of_obj (hp4.obj 0 rfl) (by rw [Nat.zero_add]; simpa using hq)) ?_
  refine WL.storeN rfl rfl rfl rfl rfl (by simp [Value.oneCell']) (hp4.obj 3 rfl) (Nat.le_refl _) rfl (fun w5 h5 => ?_)
  have hp5 := hp4.set 3 rfl rfl h5
  repeat (first | refine zA ?_ | refine zB ?_ | refine zC rfl rfl rfl ?_ | refine zD ?_ | refine zE ?_ | refine zF ?_ | refine zG rfl ?_ | refine zH rfl ?_ | refine zI rfl rfl rfl ?_ | refine zJ rfl rfl ?_ | refine zK ?_ | refine zL ?_ | refine zM rfl ?_ | refine zN ?_)
  exact Res.cell rfl rfl rfl rfl rfl rfl (hp5.obj 3 rfl) ⟨na, nc, ma, mc, rfl, hp5.pick [1, 2] (by decide)⟩
end Go.Proofs.YtpbbneclkhfgoaaDoor
end
section
/- ltl, fifty-ninth: Same. -/
namespace Go.Proofs.YtpbbneclkhfgoaaDoor
open Go.W Go.Ltl Go.RowKit
set_option maxRecDepth 100000
set_option linter.unusedSectionVars false
attribute [local irreducible] WC WL WQ WS WH

/-- True of the same sequences of marks. -/
def SameA (a b : Fm) : Prop := ∀ σ : Nat → Int, (∀ i, 0 ≤ σ i ∧ σ i ≤ 15) → (satS σ a 0 ↔ satS σ b 0)
/-- A lasso of marks that tells them apart. -/
structure LassoD (a b : Fm) (stem loop : List Nat) : Prop where
  ne1 : stem ≠ []
  ne2 : loop ≠ []
  l1 : stem.length ≤ 32768
  l2 : loop.length ≤ 32768
  lt : ∀ v ∈ stem ++ loop, v < 16
  df : ¬ (satS (seqL (upN stem ++ upN loop) stem.length) a 0 ↔ satS (seqL (upN stem ++ upN loop) stem.length) b 0)
theorem seqL_mem {l : List Int} {lp : Nat} (h : lp < l.length) (i : Nat) : seqL l lp i ∈ l := by
  unfold seqL
  rw [List.getD_eq_getElem?_getD, List.getElem?_eq_getElem (pos_lt h i)]
  exact List.getElem_mem _
theorem LassoD.not {a b : Fm} {stem loop : List Nat} (h : LassoD a b stem loop) : ¬ SameA a b := fun k => h.df (k _ fun i => by
  have hm := seqL_mem (l := upN stem ++ upN loop) (lp := stem.length) (by rw [List.length_append, upN_len, upN_len]; have := List.length_pos_iff.2 h.ne2; omega) i
  rw [← upN_app] at hm
  obtain ⟨v, hv, he⟩ := List.mem_map.1 hm
  have := h.lt v hv
  rw [← upN_app, ← he]
  omega)
theorem M16_get {v : Nat} (h : v < 16) : (M16 16).getD v 0 = ((v : Nat) : Int) := by
  unfold M16
  rw [List.getD_eq_getElem?_getD, List.getElem?_map, List.getElem?_range h]; rfl
theorem nx16_get (ma : Option Addr) (mc : Nat) {v : Nat} (h : v < 16) (u : Nat) : u ∈ (nxOf (vs16 ma mc)).getD v [] ↔ u < 16 := by
  have e : (nxOf (vs16 ma mc)).getD v [] = List.range 16 := by
    unfold nxOf vs16
    rw [List.map_replicate, List.getD_eq_getElem?_getD, List.getElem?_replicate, if_pos h]
    show (M16 16).map Int.toNat = List.range 16
    decide
  rw [e, List.mem_range]
/-- The search of all sequences. -/
theorem srch16 (ma : Option Addr) (mc : Nat) {p : Fm} (hwf : wfF p) (hw : wgt (kinds p) ≤ 11) :
    (srchM 1099511627776 1048576 (nxOf (vs16 ma mc)) (M16 16) p (vs16 ma mc).length = some none ∧ ∀ σ : Nat → Int, (∀ i, 0 ≤ σ i ∧ σ i ≤ 15) → ¬ satS σ p 0) ∨
    ∃ stem loop, srchM 1099511627776 1048576 (nxOf (vs16 ma mc)) (M16 16) p (vs16 ma mc).length = some (some (stem, loop)) ∧ stem ≠ [] ∧ loop ≠ [] ∧ stem.length ≤ 32768 ∧ loop.length ≤ 32768 ∧ (∀ v ∈ stem ++ loop, v < 16) ∧ satS (seqL (upN stem ++ upN loop) stem.length) p 0 := by
  have hok := strB_ok (str16 ma mc)
  have hlen : (vs16 ma mc).length = 16 := rfl
  have hsr : SrOk (nxOf (vs16 ma mc)) (M16 16) (vs16 ma mc).length := ⟨hok.sr.len, hok.sr.hi, hok.sr.row, by rw [nxOf_len]; exact Nat.le_refl _⟩
  rcases srchM_ok (F := 1099511627776) (G := 1048576) hsr hwf hw (Nat.le_refl _) (Nat.le_refl _) with ⟨h1, h2⟩ | ⟨stem, loop, h1, h2, h3, h4, h5, h6, h7⟩
  · refine .inl ⟨h1, fun σ hσ hs => h2 (fun i => (σ i).toNat) ⟨?_, fun i => ?_⟩ ?_⟩
    · have := hσ 0; show (σ 0).toNat < _; rw [hlen]; omega
    · have a1 := hσ i
      have a2 := hσ (i + 1)
      exact (nx16_get ma mc (v := (σ i).toNat) (by omega) (σ (i + 1)).toNat).2 (by omega)
    · refine (satS_congr (a := 0) (b := 0) (fun k => ?_) p 0).1 hs
      have := hσ k
      rw [Nat.zero_add, M16_get (by omega)]
      omega
  · have hlp : stem.length < (stem ++ loop).length := by rw [List.length_append]; have := List.length_pos_iff.2 h3; omega
    have hlt : ∀ v ∈ stem ++ loop, v < 16 := by
      intro v hv
      obtain ⟨q, hq, rfl⟩ := List.getElem_of_mem hv
      have := (getD_row (h6.2 q)).1
      simp only [nxOf_len, hlen, pos_small hlp hq, List.getD_eq_getElem?_getD, List.getElem?_eq_getElem hq, Option.getD_some] at this
      exact this
    refine .inr ⟨stem, loop, h1, h2, h3, h4, h5, hlt, ?_⟩
    have e : ((stem ++ loop).map fun v => (M16 16).getD v 0) = upN stem ++ upN loop := by
      rw [← upN_app]
      unfold upN
      apply List.map_congr_left
      intro v hv
      exact M16_get (hlt v hv)
    rwa [e] at h7
/-- One is true and the other is not. -/
def tellF (a b : Fm) (k : Nat) : Fm := if k = 0 then .tw_ wAnd (pushM a false) (pushM b true) else .tw_ wAnd (pushM a true) (pushM b false)
theorem tell_sat {a b : Fm} (ha : wfF a) (hb : wfF b) (σ : Nat → Int) (k : Nat) : satS σ (tellF a b k) 0 ↔ if k = 0 then satS σ a 0 ∧ ¬ satS σ b 0 else ¬ satS σ a 0 ∧ satS σ b 0 := by
  unfold tellF
  split
  · show (if wAnd = wAnd then _ else _) ↔ _
    rw [if_pos rfl, push_sat σ a false 0 ha, push_sat σ b true 0 hb, if_neg (by decide), if_pos rfl]
  · show (if wAnd = wAnd then _ else _) ↔ _
    rw [if_pos rfl, push_sat σ a true 0 ha, push_sat σ b false 0 hb, if_pos rfl, if_neg (by decide)]
theorem tell_wf {a b : Fm} (ha : wfF a) (hb : wfF b) (k : Nat) : wfF (tellF a b k) := by
  unfold tellF
  split
  · exact ⟨by decide, pushM_wf a _ ha, pushM_wf b _ hb⟩
  · exact ⟨by decide, pushM_wf a _ ha, pushM_wf b _ hb⟩
theorem tell_wgt {a b : Fm} (ha : wfF a) (hb : wfF b) (k : Nat) (h : sizeF a + sizeF b ≤ 12) : wgt (kinds (tellF a b k)) ≤ 11 := by
  have key : ∀ c d, wgt (kinds (.tw_ wAnd (pushM a c) (pushM b d))) ≤ 11 := fun c d => by
    have h1 := push_wgt a c ha
    have h2 := push_wgt b d hb
    unfold kinds
    rw [if_pos (.inl rfl), List.append_nil, wgt_app]
    omega
  unfold tellF
  split
  · exact key _ _
  · exact key _ _
/-- What Same answers. -/
def ShapeS (s t : Str) (hb : Bool) (sa : Option Addr) (sl sc : Nat) (qa : Option Addr) (ql qc : Nat) (ec : Int) (E : List Ent) : Prop :=
  ((parseM s = none ∨ parseM t = none) ∧ ec = 4 ∧ hb = false ∧ sl = 0 ∧ ql = 0) ∨
  ∃ a b, parseM s = some a ∧ parseM t = some b ∧ ((12 < sizeF a + sizeF b ∧ ec = 5 ∧ hb = false ∧ sl = 0 ∧ ql = 0) ∨
    (sizeF a + sizeF b ≤ 12 ∧ ec = 0 ∧ ((hb = true ∧ SameA a b ∧ sl = 0 ∧ ql = 0) ∨ (hb = false ∧ ∃ stem loop, LassoD a b stem loop ∧ sl = stem.length ∧ ql = loop.length ∧ E = [Rna (.slice qa loop.length qc) loop.length loop, Rna (.slice sa stem.length sc) stem.length stem]))))
theorem Same_any (s t : Str) (hs : s.length ≤ 1000) (ht : t.length ≤ 1000) (w : World) (hG : Gl w) :
    Ret Tryd.prog 30 [st s, st t] w fun v w' => ∃ (hb : Bool) (sa : Option Addr) (sl sc : Nat) (qa : Option Addr) (ql qc : Nat) (ec : Int) (E : List Ent), v = .tuple #[.agg #[.bool hb, .slice sa sl sc, .slice qa ql qc], .int .i64 ec] ∧ Hp w w' E ∧ ShapeS s t hb sa sl sc qa ql qc ec E := by
  refine enter Tryd.func30 rfl rfl ⟨rfl, rfl⟩ rfl ?_
  repeat (first | refine zA ?_ | refine zB ?_ | refine zC rfl rfl rfl ?_ | refine zD ?_ | refine zE ?_ | refine zF ?_ | refine zG rfl ?_ | refine zH rfl ?_ | refine zI rfl rfl rfl ?_ | refine zJ rfl rfl ?_ | refine zK ?_ | refine zL ?_ | refine zM rfl ?_ | refine zN ?_)
  refine WL.alloc rfl rfl rfl (fun b4 w1 h1 => ?_)
  have hp1 : Hp w w1 [Rb b4 false none 0 0 none 0 0] := (Hp.start w).new h1
  repeat (first | refine zA ?_ | refine zB ?_ | refine zC rfl rfl rfl ?_ | refine zD ?_ | refine zE ?_ | refine zF ?_ | refine zG rfl ?_ | refine zH rfl ?_ | refine zI rfl rfl rfl ?_ | refine zJ rfl rfl ?_ | refine zK ?_ | refine zL ?_ | refine zM rfl ?_ | refine zN ?_)
  refine WL.call rfl rfl rfl rfl rfl ent48 (parse_any s hs w1 (hG.hp hp1)) ?_
  rintro v1 w2 ⟨hv1, hp2⟩
  have hp2 := hp1.call hp2.below
  obtain ⟨x1, e1, rfl, hx1⟩ : ∃ (x1 : Value) (e1 : Int), v1 = .tuple #[x1, .int .i64 e1] ∧ ((∃ f, parseM s = some f ∧ x1 = fmV f ∧ e1 = 0) ∨ (parseM s = none ∧ e1 = 4)) := by
    rcases hv1 with ⟨f, hf, rfl⟩ | ⟨hf, x, rfl⟩
    · exact ⟨_, _, rfl, .inl ⟨f, hf, rfl, rfl⟩⟩
    · exact ⟨_, _, rfl, .inr ⟨hf, rfl⟩⟩
  clear hv1
  repeat (first | refine zA ?_ | refine zB ?_ | refine zC rfl rfl rfl ?_ | refine zD ?_ | refine zE ?_ | refine zF ?_ | refine zG rfl ?_ | refine zH rfl ?_ | refine zI rfl rfl rfl ?_ | refine zJ rfl rfl ?_ | refine zK ?_ | refine zL ?_ | refine zM rfl ?_ | refine zN ?_)
  refine WL.call rfl rfl rfl rfl rfl ent48 (parse_any t ht w2 (hG.hp hp2)) ?_
  rintro v2 w3 ⟨hv2, hp3⟩
  have hp3 := hp2.call hp3.below
  obtain ⟨x2, e2, rfl, hx2⟩ : ∃ (x2 : Value) (e2 : Int), v2 = .tuple #[x2, .int .i64 e2] ∧ ((∃ f, parseM t = some f ∧ x2 = fmV f ∧ e2 = 0) ∨ (parseM t = none ∧ e2 = 4)) := by
    rcases hv2 with ⟨f, hf, rfl⟩ | ⟨hf, x, rfl⟩
    · exact ⟨_, _, rfl, .inl ⟨f, hf, rfl, rfl⟩⟩
    · exact ⟨_, _, rfl, .inr ⟨hf, rfl⟩⟩
  clear hv2 hp1 hp2 h1
  rcases hx1 with ⟨a, ha, rfl, rfl⟩ | ⟨ha, rfl⟩
  rotate_left
  · repeat (first | refine zA ?_ | refine zB ?_ | refine zC rfl rfl rfl ?_ | refine zD ?_ | refine zE ?_ | refine zF ?_ | refine zG rfl ?_ | refine zH rfl ?_ | refine zI rfl rfl rfl ?_ | refine zJ rfl rfl ?_ | refine zK ?_ | refine zL ?_ | refine zM rfl ?_ | refine zN ?_)
    refine WL.buildT (cs := [.bool false, .slice none 0 0, .slice none 0 0]) rfl rfl rfl rfl rfl rfl ?_
    refine WL.storeN rfl rfl rfl rfl rfl (by simp [Value.oneCell']) (hp3.obj 0 rfl) (Nat.le_refl _) rfl (fun w4 h4 => ?_)
    have hp4 := hp3.set 0 rfl rfl h4
    repeat (first | refine zA ?_ | refine zB ?_ | refine zC rfl rfl rfl ?_ | refine zD ?_ | refine zE ?_ | refine zF ?_ | refine zG rfl ?_ | refine zH rfl ?_ | refine zI rfl rfl rfl ?_ | refine zJ rfl rfl ?_ | refine zK ?_ | refine zL ?_ | refine zM rfl ?_ | refine zN ?_)
    exact Res.cellT rfl rfl rfl rfl rfl rfl rfl (hp4.obj 0 rfl) ⟨false, none, 0, 0, none, 0, 0, 4, [], rfl, hp4.nil', .inl ⟨.inl ha, rfl, rfl, rfl, rfl⟩⟩
  rcases hx2 with ⟨b, hb, rfl, rfl⟩ | ⟨hb, rfl⟩
  rotate_left
  · repeat (first | refine zA ?_ | refine zB ?_ | refine zC rfl rfl rfl ?_ | refine zD ?_ | refine zE ?_ | refine zF ?_ | refine zG rfl ?_ | refine zH rfl ?_ | refine zI rfl rfl rfl ?_ | refine zJ rfl rfl ?_ | refine zK ?_ | refine zL ?_ | refine zM rfl ?_ | refine zN ?_)
    refine WL.buildT (cs := [.bool false, .slice none 0 0, .slice none 0 0]) rfl rfl rfl rfl rfl rfl ?_
    refine WL.storeN rfl rfl rfl rfl rfl (by simp [Value.oneCell']) (hp3.obj 0 rfl) (Nat.le_refl _) rfl (fun w4 h4 => ?_)
    have hp4 := hp3.set 0 rfl rfl h4
    repeat (first | refine zA ?_ | refine zB ?_ | refine zC rfl rfl rfl ?_ | refine zD ?_ | refine zE ?_ | refine zF ?_ | refine zG rfl ?_ | refine zH rfl ?_ | refine zI rfl rfl rfl ?_ | refine zJ rfl rfl ?_ | refine zK ?_ | refine zL ?_ | refine zM rfl ?_ | refine zN ?_)
    exact Res.cellT rfl rfl rfl rfl rfl rfl rfl (hp4.obj 0 rfl) ⟨false, none, 0, 0, none, 0, 0, 4, [], rfl, hp4.nil', .inl ⟨.inr hb, rfl, rfl, rfl, rfl⟩⟩
  have hwa := parseM_wf ha
  have hwb := parseM_wf hb
  have hza := (parseM_sz ha).2
  have hzb := (parseM_sz hb).2
  repeat (first | refine zA ?_ | refine zB ?_ | refine zC rfl rfl rfl ?_ | refine zD ?_ | refine zE ?_ | refine zF ?_ | refine zG rfl ?_ | refine zH rfl ?_ | refine zI rfl rfl rfl ?_ | refine zJ rfl rfl ?_ | refine zK ?_ | refine zL ?_ | refine zM rfl ?_ | refine zN ?_)
  refine WL.call rfl rfl rfl rfl rfl ent58 (size_any a w3 (by omega)) ?_
  rintro _ w4 ⟨rfl, hp4⟩
  have hp4 := hp3.call hp4.below
  repeat (first | refine zA ?_ | refine zB ?_ | refine zC rfl rfl rfl ?_ | refine zD ?_ | refine zE ?_ | refine zF ?_ | refine zG rfl ?_ | refine zH rfl ?_ | refine zI rfl rfl rfl ?_ | refine zJ rfl rfl ?_ | refine zK ?_ | refine zL ?_ | refine zM rfl ?_ | refine zN ?_)
  refine WL.call rfl rfl rfl rfl rfl ent58 (size_any b w4 (by omega)) ?_
  rintro _ w5 ⟨rfl, hp5⟩
  have hp5 := hp4.call hp5.below
  clear hp3 hp4
  refine WL.pure rfl rfl rfl ?_
  refine WL.known (d := 37) (congrArg (fun z => some (Value.int .i64 z)) (show IntKind.i64.wrap (((sizeF a : Nat) : Int) + ((sizeF b : Nat) : Int)) = ((sizeF a + sizeF b : Nat) : Int) by rw [wrap_mid (by omega) (by omega)]; omega)) ?_
  repeat (first | refine zA ?_ | refine zB ?_ | refine zC rfl rfl rfl ?_ | refine zD ?_ | refine zE ?_ | refine zF ?_ | refine zG rfl ?_ | refine zH rfl ?_ | refine zI rfl rfl rfl ?_ | refine zJ rfl rfl ?_ | refine zK ?_ | refine zL ?_ | refine zM rfl ?_ | refine zN ?_)
  refine WC.cond rfl (fun c => ?_) (fun c => ?_)
  · have c : 12 < sizeF a + sizeF b := by have c : (12 : Int) < ((sizeF a + sizeF b : Nat) : Int) := of_decide_eq_true c; omega
    repeat (first | refine zA ?_ | refine zB ?_ | refine zC rfl rfl rfl ?_ | refine zD ?_ | refine zE ?_ | refine zF ?_ | refine zG rfl ?_ | refine zH rfl ?_ | refine zI rfl rfl rfl ?_ | refine zJ rfl rfl ?_ | refine zK ?_ | refine zL ?_ | refine zM rfl ?_ | refine zN ?_)
    refine WL.buildT (cs := [.bool false, .slice none 0 0, .slice none 0 0]) rfl rfl rfl rfl rfl rfl ?_
    refine WL.storeN rfl rfl rfl rfl rfl (by simp [Value.oneCell']) (hp5.obj 0 rfl) (Nat.le_refl _) rfl (fun w6 h6 => ?_)
    have hp6 := hp5.set 0 rfl rfl h6
    repeat (first | refine zA ?_ | refine zB ?_ | refine zC rfl rfl rfl ?_ | refine zD ?_ | refine zE ?_ | refine zF ?_ | refine zG rfl ?_ | refine zH rfl ?_ | refine zI rfl rfl rfl ?_ | refine zJ rfl rfl ?_ | refine zK ?_ | refine zL ?_ | refine zM rfl ?_ | refine zN ?_)
    exact Res.cellT rfl rfl rfl rfl rfl rfl rfl (hp6.obj 0 rfl) ⟨false, none, 0, 0, none, 0, 0, 5, [], rfl, hp6.nil', .inr ⟨a, b, ha, hb, .inl ⟨c, rfl, rfl, rfl, rfl⟩⟩⟩
  have hsz : sizeF a + sizeF b ≤ 12 := by have c : ¬ (12 : Int) < ((sizeF a + sizeF b : Nat) : Int) := of_decide_eq_false c; omega
  repeat (first | refine zA ?_ | refine zB ?_ | refine zC rfl rfl rfl ?_ | refine zD ?_ | refine zE ?_ | refine zF ?_ | refine zG rfl ?_ | refine zH rfl ?_ | refine zI rfl rfl rfl ?_ | refine zJ rfl rfl ?_ | refine zK ?_ | refine zL ?_ | refine zM rfl ?_ | refine zN ?_)
  refine WL.call rfl rfl rfl rfl rfl ent59 (everything_any w5) ?_
  rintro _ w6 ⟨na, nc, ma, mc, rfl, hp6⟩
  have hp6 := hp5.comb hp6
  refine WL.alloc rfl rfl rfl (fun b10 w7 h7 => ?_)
  have hp7 := hp6.new h7
  refine WL.storeN rfl rfl rfl rfl rfl (by simp [Value.oneCell']) (hp7.obj 0 rfl) (Nat.le_refl _) rfl (fun w8 h8 => ?_)
  have hp8 : Hp w w8 [Stb b10 na 16 nc ma 16 mc, .row 22 1 (.slice na 16 nc) 16 (catV (vs16 ma mc)), .row 3 1 (.slice ma 16 mc) 16 (zs (M16 16)), Rb b4 false none 0 0 none 0 0] := hp7.set 0 rfl rfl h8
  clear hp5 hp6 hp7 h7 h8
  repeat (first | refine zA ?_ | refine zB ?_ | refine zC rfl rfl rfl ?_ | refine zD ?_ | refine zE ?_ | refine zF ?_ | refine zG rfl ?_ | refine zH rfl ?_ | refine zI rfl rfl rfl ?_ | refine zJ rfl rfl ?_ | refine zK ?_ | refine zL ?_ | refine zM rfl ?_ | refine zN ?_)
  refine WL.call rfl rfl rfl rfl rfl ent53 (push_any a false w8 (hG.hp hp8)) ?_
  rintro _ w9 ⟨rfl, hp9⟩
  have hp9 := hp8.call hp9.below
  refine WL.pure rfl rfl rfl ?_
  refine WL.call rfl rfl rfl rfl rfl ent53 (push_any b true w9 (hG.hp hp9)) ?_
  rintro _ w10 ⟨rfl, hp10⟩
  have hp10 := hp9.call hp10.below
  refine WL.buildT (cs := [st wAnd, fmV (pushM a false), fmV (pushM b true)]) rfl rfl rfl rfl rfl (by cases pushM a false <;> cases pushM b true <;> rfl) ?_
  refine WL.val rfl rfl rfl (yMkI rfl rfl rfl) ?_
  refine WL.pure rfl rfl rfl ?_
  refine WL.call rfl rfl rfl rfl rfl ent53 (push_any a true w10 (hG.hp hp10)) ?_
  rintro _ w11 ⟨rfl, hp11⟩
  have hp11 := hp10.call hp11.below
  refine WL.pure rfl rfl rfl ?_
  refine WL.call rfl rfl rfl rfl rfl ent53 (push_any b false w11 (hG.hp hp11)) ?_
  rintro _ w12 ⟨rfl, hp12⟩
  have hp12 := hp11.call hp12.below
  refine WL.buildT (cs := [st wAnd, fmV (pushM a true), fmV (pushM b false)]) rfl rfl rfl rfl rfl (by cases pushM a true <;> cases pushM b false <;> rfl) ?_
  refine WL.val rfl rfl rfl (yMkI rfl rfl rfl) ?_
  refine WL.buildS (cs := [fmV (tellF a b 0), fmV (tellF a b 1)]) rfl rfl rfl rfl rfl rfl rfl rfl rfl (fun b53 w13 h13 => ?_)
  have hp13 : Hp w w13 [.blk b53 (.cells #[fmV (tellF a b 0), fmV (tellF a b 1)] 87 (0, 0)), Stb b10 na 16 nc ma 16 mc, .row 22 1 (.slice na 16 nc) 16 (catV (vs16 ma mc)), .row 3 1 (.slice ma 16 mc) 16 (zs (M16 16)), Rb b4 false none 0 0 none 0 0] := hp12.new h13
  clear hp8 hp9 hp10 hp11 hp12 h13
  repeat (first | refine zA ?_ | refine zB ?_ | refine zC rfl rfl rfl ?_ | refine zD ?_ | refine zE ?_ | refine zF ?_ | refine zG rfl ?_ | refine zH rfl ?_ | refine zI rfl rfl rfl ?_ | refine zJ rfl rfl ?_ | refine zK ?_ | refine zL ?_ | refine zM rfl ?_ | refine zN ?_)
  refine WC.loop Nat (fun k => [(4, ptr b4), (10, ptr b10), (53, .slice (some ⟨b53, 0, none⟩) 2 2), (54, .int .i64 ((2 : Nat) : Int)), (55, .int .i64 (k : Nat))])
    (fun k w' => k ≤ 2 ∧ (∀ j, j < k → ∀ σ : Nat → Int, (∀ i, 0 ≤ σ i ∧ σ i ≤ 15) → ¬ satS σ (tellF a b j) 0) ∧ Hp w w' [.blk b53 (.cells #[fmV (tellF a b 0), fmV (tellF a b 1)] 87 (0, 0)), Stb b10 na 16 nc ma 16 mc, .row 22 1 (.slice na 16 nc) 16 (catV (vs16 ma mc)), .row 3 1 (.slice ma 16 mc) 16 (zs (M16 16)), Rb b4 false none 0 0 none 0 0]) (fun k => 2 - k) 0 ⟨rfl, rfl, rfl, rfl, rfl, rfl⟩ ⟨Nat.zero_le _, fun j hj => by omega, hp13⟩ ?_
  clear hp13
  rintro k w14 ⟨hk, hno, hp14⟩
  replace hk : k ≤ 2 := hk
  replace hno : ∀ j, j < k → ∀ σ : Nat → Int, (∀ i, 0 ≤ σ i ∧ σ i ≤ 15) → ¬ satS σ (tellF a b j) 0 := hno
  replace hp14 : Hp w w14 [.blk b53 (.cells #[fmV (tellF a b 0), fmV (tellF a b 1)] 87 (0, 0)), Stb b10 na 16 nc ma 16 mc, .row 22 1 (.slice na 16 nc) 16 (catV (vs16 ma mc)), .row 3 1 (.slice ma 16 mc) 16 (zs (M16 16)), Rb b4 false none 0 0 none 0 0] := hp14
  repeat (first | refine zA ?_ | refine zB ?_ | refine zC rfl rfl rfl ?_ | refine zD ?_ | refine zE ?_ | refine zF ?_ | refine zG rfl ?_ | refine zH rfl ?_ | refine zI rfl rfl rfl ?_ | refine zJ rfl rfl ?_ | refine zK ?_ | refine zL ?_ | refine zM rfl ?_ | refine zN ?_)
  refine WC.cond rfl (fun g => ?_) (fun g => ?_)
  · have hk : k < 2 := by have := of_decide_eq_true g; omega
    have step := wrap_succ (i := k) (n := k + 1) (by omega) (by omega)
    have hel : ([fmV (tellF a b 0), fmV (tellF a b 1)] : List Value)[k]? = some (fmV (tellF a b k)) := by
      rcases (show k = 0 ∨ k = 1 by omega) with rfl | rfl <;> rfl
    have hsl : Sl w14 (some ⟨b53, 0, none⟩) [fmV (tellF a b 0), fmV (tellF a b 1)] := Sl.of_obj (hp14.obj 0 rfl) (fun q u hq => by simpa using hq)
    have hwp := tell_wf hwa hwb k
    have hgp := tell_wgt hwa hwb k hsz
    have hlk : looksN (tellF a b k) ≤ 12 := Nat.le_trans (looks_wgt _) (by omega)
    generalize hp0 : tellF a b k = p at *
    have hok := strB_ok (str16 ma mc)
    have hst : ∀ {w' : World} {L : List Ent}, Hp w w' L → (∀ x ∈ E16 na nc ma mc, x ∈ L) → Stc w' na ma (vs16 ma mc) (M16 16) := fun {w' L} h hs => stc16 h hs
    repeat (first | refine zA ?_ | refine zB ?_ | refine zC rfl rfl rfl ?_ | refine zD ?_ | refine zE ?_ | refine zF ?_ | refine zG rfl ?_ | refine zH rfl ?_ | refine zI rfl rfl rfl ?_ | refine zJ rfl rfl ?_ | refine zK ?_ | refine zL ?_ | refine zM rfl ?_ | refine zN ?_)
    refine WL.ixload (j := k) rfl (fun _ => rfl) rfl rfl rfl rfl rfl rfl rfl hk rfl rfl hsl hel ?_
    intro q0
    repeat (first | refine zA ?_ | refine zB ?_ | refine zC rfl rfl rfl ?_ | refine zD ?_ | refine zE ?_ | refine zF ?_ | refine zG rfl ?_ | refine zH rfl ?_ | refine zI rfl rfl rfl ?_ | refine zJ rfl rfl ?_ | refine zK ?_ | refine zL ?_ | refine zM rfl ?_ | refine zN ?_)
    refine WL.loadN rfl rfl rfl rfl rfl (cs := [.slice na 16 nc, .slice ma 16 mc]) rfl (fun q v hq => cell_of_obj (hp14.obj 1 rfl) (by rw [Nat.zero_add]; simpa using hq)) ?_
    refine WL.pure rfl rfl rfl ?_
    refine WL.pure rfl rfl rfl ?_
    refine WL.loadB rfl rfl rfl rfl rfl (hp14.obj 1 rfl) (j := 0) rfl ?_
    refine WL.pure rfl rfl rfl ?_
    refine WL.call rfl rfl rfl rfl rfl ent60 (newSearch_any na nc ma mc (vs16 ma mc) (M16 16) (by decide) hok.mkk p hwp hlk (vs16 ma mc).length w14 (hst hp14 (fun x hx => by simp only [E16, List.mem_cons, List.not_mem_nil, or_false] at hx ⊢; rcases hx with rfl | rfl <;> simp)).mks) ?_
    rintro _ w15 ⟨xb, la, lc, wa, wc, ta, tc, fa, fcap, rfl, hp15⟩
    have hp16 := hp14.call hp15.below
    have hst15 := hst hp16 (fun x hx => by simp only [E16, List.mem_cons, List.not_mem_nil, or_false] at hx ⊢; rcases hx with rfl | rfl <;> simp)
    rcases srch16 ma mc hwp hgp with ⟨hM, hN⟩ | ⟨stem, loop, hM, k1, k2, k3, k4, k5, k6⟩
    · refine WL.call rfl rfl rfl rfl rfl ent61 (srch_any hok na nc ma mc p hwp hlk (vs16 ma mc).length (Nat.le_refl _) 1099511627776 1048576 (Nat.le_refl _) (Nat.le_refl _) none hM xb la lc wa wc ta tc fa fcap w15 hst15 hp15) ?_
      rintro _ w16 ⟨rfl, hp17⟩
      have hp18 := hp16.call hp17.below
      repeat (first | refine zA ?_ | refine zB ?_ | refine zC rfl rfl rfl ?_ | refine zD ?_ | refine zE ?_ | refine zF ?_ | refine zG rfl ?_ | refine zH rfl ?_ | refine zI rfl rfl rfl ?_ | refine zJ rfl rfl ?_ | refine zK ?_ | refine zL ?_ | refine zM rfl ?_ | refine zN ?_)
      refine ⟨k + 1, (by omega), ⟨rfl, rfl, rfl, rfl, congrArg (fun z => some (Value.int .i64 z)) step, rfl⟩, hk, fun j hj => ?_, hp18⟩
      rcases Nat.lt_or_ge j k with h | h
      · exact hno j h
      · rw [show j = k by omega, hp0]; exact hN
    · refine WL.call rfl rfl rfl rfl rfl ent61 (srch_any hok na nc ma mc p hwp hlk (vs16 ma mc).length (Nat.le_refl _) 1099511627776 1048576 (Nat.le_refl _) (Nat.le_refl _) (some (stem, loop)) hM xb la lc wa wc ta tc fa fcap w15 hst15 hp15) ?_
      rintro _ w16 ⟨sa, sc, pa, pc, rfl, hp17⟩
      have hp18 := hp16.comb hp17
      repeat (first | refine zA ?_ | refine zB ?_ | refine zC rfl rfl rfl ?_ | refine zD ?_ | refine zE ?_ | refine zF ?_ | refine zG rfl ?_ | refine zH rfl ?_ | refine zI rfl rfl rfl ?_ | refine zJ rfl rfl ?_ | refine zK ?_ | refine zL ?_ | refine zM rfl ?_ | refine zN ?_)
      refine WL.buildT (cs := [.bool false, .slice sa stem.length sc, .slice pa loop.length pc]) rfl rfl rfl rfl rfl rfl ?_
      refine WL.storeN rfl rfl rfl rfl rfl (by simp [Value.oneCell']) (hp18.obj 6 rfl) (Nat.le_refl _) rfl (fun w17 h17 => ?_)
      have hp19 := hp18.set 6 rfl rfl h17
      repeat (first | refine zA ?_ | refine zB ?_ | refine zC rfl rfl rfl ?_ | refine zD ?_ | refine zE ?_ | refine zF ?_ | refine zG rfl ?_ | refine zH rfl ?_ | refine zI rfl rfl rfl ?_ | refine zJ rfl rfl ?_ | refine zK ?_ | refine zL ?_ | refine zM rfl ?_ | refine zN ?_)
      refine Res.cellT rfl rfl rfl rfl rfl rfl rfl (hp19.obj 6 rfl) ⟨false, sa, stem.length, sc, pa, loop.length, pc, 0, _, rfl, hp19.pick [0, 1] (by decide), .inr ⟨a, b, ha, hb, .inr ⟨hsz, rfl, .inr ⟨rfl, stem, loop, ⟨k1, k2, k3, k4, k5, ?_⟩, rfl, rfl, rfl⟩⟩⟩⟩
      rw [← hp0, tell_sat hwa hwb] at k6
      intro h
      split at k6
      · exact k6.2 (h.1 k6.1)
      · exact k6.1 (h.2 k6.2)
  have hk : k = 2 := by have := of_decide_eq_false g; omega
  have hS : SameA a b := fun σ hσ => by
    have h0 := hno 0 (by omega) σ hσ
    have h1 := hno 1 (by omega) σ hσ
    rw [tell_sat hwa hwb, if_pos rfl] at h0
    rw [tell_sat hwa hwb, if_neg (by decide)] at h1
    exact ⟨fun h => Classical.byContradiction fun hn => h0 ⟨h, hn⟩, fun h => Classical.byContradiction fun hn => h1 ⟨hn, h⟩⟩
  repeat (first | refine zA ?_ | refine zB ?_ | refine zC rfl rfl rfl ?_ | refine zD ?_ | refine zE ?_ | refine zF ?_ | refine zG rfl ?_ | refine zH rfl ?_ | refine zI rfl rfl rfl ?_ | refine zJ rfl rfl ?_ | refine zK ?_ | refine zL ?_ | refine zM rfl ?_ | refine zN ?_)
  refine WL.buildT (cs := [.bool true, .slice none 0 0, .slice none 0 0]) rfl rfl rfl rfl rfl rfl ?_
  refine WL.storeN rfl rfl rfl rfl rfl (by simp [Value.oneCell']) (hp14.obj 4 rfl) (Nat.le_refl _) rfl (fun w15 h15 => ?_)
  have hp15 := hp14.set 4 rfl rfl h15
  repeat (first | refine zA ?_ | refine zB ?_ | refine zC rfl rfl rfl ?_ | refine zD ?_ | refine zE ?_ | refine zF ?_ | refine zG rfl ?_ | refine zH rfl ?_ | refine zI rfl rfl rfl ?_ | refine zJ rfl rfl ?_ | refine zK ?_ | refine zL ?_ | refine zM rfl ?_ | refine zN ?_)
  exact Res.cellT rfl rfl rfl rfl rfl rfl rfl (hp15.obj 4 rfl) ⟨true, none, 0, 0, none, 0, 0, 0, [], rfl, hp15.nil', .inr ⟨a, b, ha, hb, .inr ⟨hsz, rfl, .inl ⟨rfl, hS, rfl, rfl⟩⟩⟩⟩
end Go.Proofs.YtpbbneclkhfgoaaDoor
end
section
/- ltl, sixtieth: LtlSymmetric. -/
namespace Go.Proofs.YtpbbneclkhfgoaaDoor
open Go.W Go.Ltl Go.RowKit
set_option maxRecDepth 100000
set_option linter.unusedSectionVars false
attribute [local irreducible] WC WL WQ WS WH

theorem SameA.symm {a b : Fm} (h : SameA a b) : SameA b a := fun σ hσ => (h σ hσ).symm
theorem SameA.refl (a : Fm) : SameA a a := fun _ _ => Iff.rfl
theorem same_not (a : Fm) : ¬ SameA a (.on_ wNot a) := fun h => by
  have := h (fun _ => 0) (fun _ => ⟨by decide, by decide⟩)
  simp only [satS, if_true] at this
  by_cases hs : satS (fun _ => 0) a 0
  · exact this.1 hs hs
  · exact hs (this.2 hs)
theorem same_holds {vs : Vs} {ms : List Int} (hok : StrOk vs ms) {a b : Fm} (h : SameA a b) : HoldsA vs ms a ↔ HoldsA vs ms b := by
  have hm : ∀ τ : Nat → Nat, ∀ i, 0 ≤ ms.getD (τ i) 0 ∧ ms.getD (τ i) 0 ≤ 15 := fun τ i => by
    rw [List.getD_eq_getElem?_getD]
    cases hv : ms[τ i]? with
    | none => decide
    | some x => exact hok.mkk x (List.mem_of_getElem? hv)
  exact ⟨fun k τ hτ => (h _ (hm τ)).1 (k τ hτ), fun k τ hτ => (h _ (hm τ)).2 (k τ hτ)⟩
abbrev Twb (b : Nat) (s t : Str) : Ent := .blk b (.cells #[st s, st t] 67 (0, 0))
theorem LtlSymmetric_any (an : Option Addr) (cn : Nat) (am : Option Addr) (cm : Nat) (vs : Vs) (ms : List Int) (hB : StcB an cn am cm vs ms) (s0 t0 : Str) (hsl : s0.length ≤ 9223372036854775807) (htl : t0.length ≤ 9223372036854775807) (w : World) (hG : Gl w) (hst : Stc w an am vs ms) :
    Ret Tryd.prog 11 [stV an cn am cm vs ms, .agg #[st s0, st t0]] w fun u w' => u = .bool true ∧ Hp w w' [] := by
  refine enter Tryd.func11 rfl rfl ⟨rfl, rfl⟩ rfl ?_
  repeat (first | refine zA ?_ | refine zB ?_ | refine zC rfl rfl rfl ?_ | refine zD ?_ | refine zE ?_ | refine zF ?_ | refine zG rfl ?_ | refine zH rfl ?_ | refine zI rfl rfl rfl ?_ | refine zJ rfl rfl ?_ | refine zK ?_ | refine zL ?_ | refine zM rfl ?_ | refine zN ?_)
  refine WL.box rfl rfl rfl (fun b2 w1 hb2 => ?_)
  have hp1 : Hp w w1 [Sb b2 an cn am cm vs ms] := (Hp.start w).new hb2
  refine WL.box rfl rfl rfl (fun b3 w2 hb3 => ?_)
  have hp2 : Hp w w2 [Twb b3 s0 t0, Sb b2 an cn am cm vs ms] := hp1.new hb3
  obtain ⟨hC1, hC2, hC3⟩ := tameC_ok (takeV (rowsOf vs)) (ms.take 20) (most := 6) (by decide) (by decide)
  have hT := fun w' (h : Stc w' an am vs ms) => tame_any an cn am cm vs ms hB 6 (by decide) (by decide) w' h
  obtain ⟨R, hR⟩ : ∃ R, R = (tameC (takeV (rowsOf vs)) (ms.take 20) 6).1 := ⟨_, rfl⟩
  obtain ⟨M, hM⟩ : ∃ M, M = (tameC (takeV (rowsOf vs)) (ms.take 20) 6).2 := ⟨_, rfl⟩
  rw [← hR, ← hM] at hC1 hC3
  rw [← hR] at hC2
  simp only [← hR, ← hM] at hT
  clear hR hM hp1 hb2 hb3
  repeat (first | refine zA ?_ | refine zB ?_ | refine zC rfl rfl rfl ?_ | refine zD ?_ | refine zE ?_ | refine zF ?_ | refine zG rfl ?_ | refine zH rfl ?_ | refine zI rfl rfl rfl ?_ | refine zJ rfl rfl ?_ | refine zK ?_ | refine zL ?_ | refine zM rfl ?_ | refine zN ?_)
  refine WL.loadN rfl rfl rfl rfl rfl (cs := [.slice an vs.length cn, .slice am ms.length cm]) rfl (fun q v hq => cell_of_obj (hp2.obj 1 rfl) (by rw [Nat.zero_add]; simpa using hq)) ?_
  refine WL.call rfl rfl rfl rfl rfl ent24 (hT w2 (hst.hp hp2)) ?_
  rintro _ w3 ⟨na, nc, ma, mc, v1, rfl, hv1, hp3⟩
  have hp3 := Hp.pickT (T := OwnS na nc ma mc v1 M) [_, _] [0] (permE (hp2.comb hp3) List.perm_append_comm) (by decide)
  refine WL.alloc rfl rfl rfl (fun b5 w4 h4 => ?_)
  have hp4 := hp3.new h4
  refine WL.storeN rfl rfl rfl rfl rfl (by simp [Value.oneCell']) (hp4.obj 0 rfl) (Nat.le_refl _) rfl (fun w5 h5 => ?_)
  have hp5 : Hp w w5 ([Stb b5 na v1.length nc ma M.length mc, Twb b3 s0 t0] ++ OwnS na nc ma mc v1 M) := hp4.set 0 rfl rfl h5
  clear hp2 hp3 hp4 h4 h5 hT
  obtain ⟨Y, hY⟩ : ∃ Y, Y = OwnS na nc ma mc v1 M := ⟨_, rfl⟩
  have hstY : ∀ {w' : World} {L : List Ent}, Hp w w' L → (∀ x ∈ Y, x ∈ L) → Stc w' na ma v1 M := fun {w' L} h hsub => by
    subst hY
    exact Stc.own (n := v1.length) (nc := nc) (m := M.length) (mc := mc) h (hsub _ (by simp)) (hsub _ (by simp)) (fun x hx => hsub x (by simp [hx]))
  have hsb1 : strB v1 M = true := by rw [strB_R, hv1]; exact hC1
  have hok1 := strB_ok hsb1
  have hr1 : ∀ x ∈ v1, x.2.2.length ≤ 1000000 := fun x hx => by have := hok1.len x hx; omega
  have hM6 : M.length ≤ 6 := by omega
  rw [← hY] at hp5
  clear hY
  obtain ⟨s, hs⟩ : ∃ s, s = shortM s0 := ⟨_, rfl⟩
  obtain ⟨t, ht⟩ : ∃ t, t = shortM t0 := ⟨_, rfl⟩
  have hsq : s.length ≤ 400 := by rw [hs]; exact shortM_len s0
  have htq : t.length ≤ 400 := by rw [ht]; exact shortM_len t0
  have hnl : (notS s).length ≤ 406 := by unfold notS; rw [List.length_append, List.length_append]; show 5 + s.length + 1 ≤ _; omega
  repeat (first | refine zA ?_ | refine zB ?_ | refine zC rfl rfl rfl ?_ | refine zD ?_ | refine zE ?_ | refine zF ?_ | refine zG rfl ?_ | refine zH rfl ?_ | refine zI rfl rfl rfl ?_ | refine zJ rfl rfl ?_ | refine zK ?_ | refine zL ?_ | refine zM rfl ?_ | refine zN ?_)
  refine WC.mid Unit (fun _ => [(5, ptr b5), (6, st s), (7, st t)]) (fun _ w' => Hp w w' ([Stb b5 na v1.length nc ma M.length mc] ++ Y)) ?_ ?_
  · refine WC.regQ (fun w' => Hp w w' ([Stb b5 na v1.length nc ma M.length mc, Twb b3 s0 t0] ++ Y)) mixed (by kernel_rfl) (fun w' hw' => hp5.keep hw') ?_
    repeat (first | refine WQ.pure rfl rfl rfl ?_ | refine WQ.off rfl rfl rfl ?_ | refine WQ.nil ?_)
    refine WQ.load rfl rfl rfl rfl rfl (fun w' h => cell_of_obj (h.obj 1 rfl) (j := 0) rfl) ?_
    refine WQ.call rfl rfl rfl rfl rfl ent16 (fun w' h => (short_any s0 hsl w').mono fun v w'' hh => ⟨hh.1, by rw [hh.2]; exact h⟩) ?_
    repeat (first | refine WQ.pure rfl rfl rfl ?_ | refine WQ.off rfl rfl rfl ?_ | refine WQ.nil ?_)
    refine WQ.load rfl rfl rfl rfl rfl (fun w' h => cell_of_obj (h.obj 1 rfl) (j := 1) rfl) ?_
    refine WQ.call rfl rfl rfl rfl rfl ent16 (fun w' h => (short_any t0 htl w').mono fun v w'' hh => ⟨hh.1, by rw [hh.2]; exact h⟩) ?_
    rw [← hs, ← ht]
    repeat (first | refine WQ.pure rfl rfl rfl ?_ | refine WQ.off rfl rfl rfl ?_ | refine WQ.nil ?_)
    intro w' h
    exact ⟨(), ⟨rfl, rfl, rfl, rfl⟩, Hp.pickT (T := Y) [_, _] [0] h (by decide)⟩
  rintro _ e6 w6 hsub hp6
  refine WC.sub hsub ?_
  clear hsub e6 hp5 hs ht
  replace hp6 : Hp w w6 ([Stb b5 na v1.length nc ma M.length mc] ++ Y) := hp6
  repeat (first | refine zA ?_ | refine zB ?_ | refine zC rfl rfl rfl ?_ | refine zD ?_ | refine zE ?_ | refine zF ?_ | refine zG rfl ?_ | refine zH rfl ?_ | refine zI rfl rfl rfl ?_ | refine zJ rfl rfl ?_ | refine zK ?_ | refine zL ?_ | refine zM rfl ?_ | refine zN ?_)
  refine WL.call rfl rfl rfl rfl rfl ent30 (Same_any s t (by omega) (by omega) w6 (hG.hp hp6)) ?_
  rintro _ w7 ⟨hb1, sa1, sl1, sc1, qa1, ql1, qc1, e1, E1, rfl, hp7, hS1⟩
  have hp7 := hp6.call hp7.below
  clear hp6
  repeat (first | refine zA ?_ | refine zB ?_ | refine zC rfl rfl rfl ?_ | refine zD ?_ | refine zE ?_ | refine zF ?_ | refine zG rfl ?_ | refine zH rfl ?_ | refine zI rfl rfl rfl ?_ | refine zJ rfl rfl ?_ | refine zK ?_ | refine zL ?_ | refine zM rfl ?_ | refine zN ?_)
  refine WL.alloc rfl rfl rfl (fun b8 w8 h8 => ?_)
  have hp8 := hp7.new h8
  refine WL.storeN rfl rfl rfl rfl rfl (by simp [Value.oneCell']) (hp8.obj 0 rfl) (Nat.le_refl _) rfl (fun w9 h9 => ?_)
  have hp9 : Hp w w9 ([Rb b8 hb1 sa1 sl1 sc1 qa1 ql1 qc1, Stb b5 na v1.length nc ma M.length mc] ++ Y) := hp8.set 0 rfl rfl h9
  clear hp7 hp8 h8 h9
  repeat (first | refine zA ?_ | refine zB ?_ | refine zC rfl rfl rfl ?_ | refine zD ?_ | refine zE ?_ | refine zF ?_ | refine zG rfl ?_ | refine zH rfl ?_ | refine zI rfl rfl rfl ?_ | refine zJ rfl rfl ?_ | refine zK ?_ | refine zL ?_ | refine zM rfl ?_ | refine zN ?_)
  refine WL.call rfl rfl rfl rfl rfl ent30 (Same_any t s (by omega) (by omega) w9 (hG.hp hp9)) ?_
  rintro _ w10 ⟨hb2, sa2, sl2, sc2, qa2, ql2, qc2, e2, E2, rfl, hp10, hS2⟩
  have hp10 := hp9.call hp10.below
  clear hp9
  repeat (first | refine zA ?_ | refine zB ?_ | refine zC rfl rfl rfl ?_ | refine zD ?_ | refine zE ?_ | refine zF ?_ | refine zG rfl ?_ | refine zH rfl ?_ | refine zI rfl rfl rfl ?_ | refine zJ rfl rfl ?_ | refine zK ?_ | refine zL ?_ | refine zM rfl ?_ | refine zN ?_)
  refine WL.alloc rfl rfl rfl (fun b10 w11 h11 => ?_)
  have hp11 := hp10.new h11
  refine WL.storeN rfl rfl rfl rfl rfl (by simp [Value.oneCell']) (hp11.obj 0 rfl) (Nat.le_refl _) rfl (fun w12 h12 => ?_)
  have hp12 : Hp w w12 ([Rb b10 hb2 sa2 sl2 sc2 qa2 ql2 qc2, Rb b8 hb1 sa1 sl1 sc1 qa1 ql1 qc1, Stb b5 na v1.length nc ma M.length mc] ++ Y) := hp11.set 0 rfl rfl h12
  clear hp10 hp11 h11 h12
  repeat (first | refine zA ?_ | refine zB ?_ | refine zC rfl rfl rfl ?_ | refine zD ?_ | refine zE ?_ | refine zF ?_ | refine zG rfl ?_ | refine zH rfl ?_ | refine zI rfl rfl rfl ?_ | refine zJ rfl rfl ?_ | refine zK ?_ | refine zL ?_ | refine zM rfl ?_ | refine zN ?_)
  refine WL.call rfl rfl rfl rfl rfl ent30 (Same_any s s (by omega) (by omega) w12 (hG.hp hp12)) ?_
  rintro _ w13 ⟨hb3, sa3, sl3, sc3, qa3, ql3, qc3, e3, E3, rfl, hp13, hS3⟩
  have hp13 := hp12.call hp13.below
  clear hp12
  repeat (first | refine zA ?_ | refine zB ?_ | refine zC rfl rfl rfl ?_ | refine zD ?_ | refine zE ?_ | refine zF ?_ | refine zG rfl ?_ | refine zH rfl ?_ | refine zI rfl rfl rfl ?_ | refine zJ rfl rfl ?_ | refine zK ?_ | refine zL ?_ | refine zM rfl ?_ | refine zN ?_)
  refine WL.alloc rfl rfl rfl (fun b12 w14 h14 => ?_)
  have hp14 := hp13.new h14
  refine WL.storeN rfl rfl rfl rfl rfl (by simp [Value.oneCell']) (hp14.obj 0 rfl) (Nat.le_refl _) rfl (fun w15 h15 => ?_)
  have hp15 : Hp w w15 ([Rb b12 hb3 sa3 sl3 sc3 qa3 ql3 qc3, Rb b10 hb2 sa2 sl2 sc2 qa2 ql2 qc2, Rb b8 hb1 sa1 sl1 sc1 qa1 ql1 qc1, Stb b5 na v1.length nc ma M.length mc] ++ Y) := hp14.set 0 rfl rfl h15
  clear hp13 hp14 h14 h15
  have key : (e1 = 4 ∨ e1 = 5) ∨ (e1 = 0 ∧ (e2 = 4 ∨ e2 = 5)) ∨ (e1 = 0 ∧ e2 = 0 ∧ (e3 = 4 ∨ e3 = 5)) ∨ (e1 = 0 ∧ e2 = 0 ∧ e3 = 0 ∧ ∃ a b, parseM s = some a ∧ parseM t = some b ∧ hb2 = hb1 ∧ hb3 = true ∧ (hb1 = true → SameA a b)) := by
    rcases hS1 with ⟨_, h, _⟩ | ⟨a, b, ha, hb, ⟨_, h, _⟩ | ⟨_, h, k1⟩⟩
    · exact .inl (.inl h)
    · exact .inl (.inr h)
    rcases hS2 with ⟨_, h2, _⟩ | ⟨b', a', hb', ha', ⟨_, h2, _⟩ | ⟨_, h2, k2⟩⟩
    · exact .inr (.inl ⟨h, .inl h2⟩)
    · exact .inr (.inl ⟨h, .inr h2⟩)
    rcases hS3 with ⟨_, h3, _⟩ | ⟨a1, a2, ha1, ha2, ⟨_, h3, _⟩ | ⟨_, h3, k3⟩⟩
    · exact .inr (.inr (.inl ⟨h, h2, .inl h3⟩))
    · exact .inr (.inr (.inl ⟨h, h2, .inr h3⟩))
    refine .inr (.inr (.inr ⟨h, h2, h3, a, b, ha, hb, ?_, ?_, ?_⟩))
    · rw [ha] at ha'; rw [hb] at hb'
      simp only [Option.some.injEq] at ha' hb'
      subst ha'; subst hb'
      rcases k1 with ⟨r1, q1, _⟩ | ⟨r1, st1, lo1, q1, _⟩
      · rcases k2 with ⟨r2, q2, _⟩ | ⟨r2, st2, lo2, q2, _⟩
        · rw [r1, r2]
        · exact absurd q1.symm q2.not
      · rcases k2 with ⟨r2, q2, _⟩ | ⟨r2, st2, lo2, q2, _⟩
        · exact absurd q2.symm q1.not
        · rw [r1, r2]
    · rw [ha1] at ha2
      simp only [Option.some.injEq] at ha2
      subst ha2
      rcases k3 with ⟨r1, q1, _⟩ | ⟨r1, st1, lo1, q1, _⟩
      · exact r1
      · exact absurd (SameA.refl _) q1.not
    · intro hh
      rcases k1 with ⟨_, q1, _⟩ | ⟨r1, _⟩
      · exact q1
      · rw [hh] at r1; cases r1
  clear hS1 hS2 hS3
  rcases key with (rfl | rfl) | ⟨rfl, rfl | rfl⟩ | ⟨rfl, rfl, rfl | rfl⟩ | ⟨rfl, rfl, rfl, a, b, ha, hb, rfl, rfl, hSa⟩
  iterate 6
    · repeat (first | refine zA ?_ | refine zB ?_ | refine zC rfl rfl rfl ?_ | refine zD ?_ | refine zE ?_ | refine zF ?_ | refine zG rfl ?_ | refine zH rfl ?_ | refine zI rfl rfl rfl ?_ | refine zJ rfl rfl ?_ | refine zK ?_ | refine zL ?_ | refine zM rfl ?_ | refine zN ?_)
      refine WL.call rfl rfl rfl rfl rfl ent20 (awake_any w15 (hG.hp hp15)) ?_
      rintro _ w16 ⟨rfl, hp16⟩
      repeat (first | refine zA ?_ | refine zB ?_ | refine zC rfl rfl rfl ?_ | refine zD ?_ | refine zE ?_ | refine zF ?_ | refine zG rfl ?_ | refine zH rfl ?_ | refine zI rfl rfl rfl ?_ | refine zJ rfl rfl ?_ | refine zK ?_ | refine zL ?_ | refine zM rfl ?_ | refine zN ?_)
      exact Res.one rfl rfl rfl ⟨rfl, (hp15.call hp16.below).nil'⟩
  repeat (first | refine zA ?_ | refine zB ?_ | refine zC rfl rfl rfl ?_ | refine zD ?_ | refine zE ?_ | refine zF ?_ | refine zG rfl ?_ | refine zH rfl ?_ | refine zI rfl rfl rfl ?_ | refine zJ rfl rfl ?_ | refine zK ?_ | refine zL ?_ | refine zM rfl ?_ | refine zN ?_)
  refine WL.loadB rfl rfl rfl rfl rfl (hp15.obj 2 rfl) (j := 0) rfl ?_
  refine WL.pure rfl rfl rfl ?_
  refine WL.loadB rfl rfl rfl rfl rfl (hp15.obj 1 rfl) (j := 0) rfl ?_
  refine WL.pure rfl rfl rfl ?_
  refine WL.known (d := 61) (v := .bool false) (by cases hb2 <;> rfl) ?_
  repeat (first | refine zA ?_ | refine zB ?_ | refine zC rfl rfl rfl ?_ | refine zD ?_ | refine zE ?_ | refine zF ?_ | refine zG rfl ?_ | refine zH rfl ?_ | refine zI rfl rfl rfl ?_ | refine zJ rfl rfl ?_ | refine zK ?_ | refine zL ?_ | refine zM rfl ?_ | refine zN ?_)
  refine WL.loadB rfl rfl rfl rfl rfl (hp15.obj 0 rfl) (j := 0) rfl ?_
  repeat (first | refine zA ?_ | refine zB ?_ | refine zC rfl rfl rfl ?_ | refine zD ?_ | refine zE ?_ | refine zF ?_ | refine zG rfl ?_ | refine zH rfl ?_ | refine zI rfl rfl rfl ?_ | refine zJ rfl rfl ?_ | refine zK ?_ | refine zL ?_ | refine zM rfl ?_ | refine zN ?_)
  refine WL.sCat (a := [40, 110, 111, 116, 32]) (b := s) rfl rfl rfl rfl (by show 5 + s.length ≤ _; omega) ?_
  refine WL.sCat (a := [40, 110, 111, 116, 32] ++ s) (b := [41]) rfl rfl rfl rfl (by rw [List.length_append]; show 5 + s.length + 1 ≤ _; omega) ?_
  rw [show [40, 110, 111, 116, 32] ++ s ++ [41] = notS s from rfl]
  refine WL.call rfl rfl rfl rfl rfl ent30 (Same_any s (notS s) (by omega) (by omega) w15 (hG.hp hp15)) ?_
  rintro _ w16 ⟨hb4, sa4, sl4, sc4, qa4, ql4, qc4, e4, E4, rfl, hp16, hS4⟩
  have hp16 := hp15.call hp16.below
  obtain ⟨rfl, he4⟩ : hb4 = false ∧ (e4 = 4 ∨ e4 = 5 ∨ e4 = 0) := by
    rcases hS4 with ⟨_, h, h2, _⟩ | ⟨a1, b1, ha1, hb1, ⟨_, h, h2, _⟩ | ⟨_, h, k1⟩⟩
    · exact ⟨h2, .inl h⟩
    · exact ⟨h2, .inr (.inl h)⟩
    · rcases k1 with ⟨_, q1, _⟩ | ⟨r1, _⟩
      · obtain rfl := parse_one (by decide) (tok_not s) ha1 hb1
        exact absurd q1 (same_not _)
      · exact ⟨r1, .inr (.inr h)⟩
  clear hS4 hp15
  repeat (first | refine zA ?_ | refine zB ?_ | refine zC rfl rfl rfl ?_ | refine zD ?_ | refine zE ?_ | refine zF ?_ | refine zG rfl ?_ | refine zH rfl ?_ | refine zI rfl rfl rfl ?_ | refine zJ rfl rfl ?_ | refine zK ?_ | refine zL ?_ | refine zM rfl ?_ | refine zN ?_)
  refine WL.alloc rfl rfl rfl (fun b14 w17 h17 => ?_)
  have hp17 := hp16.new h17
  refine WL.storeN rfl rfl rfl rfl rfl (by simp [Value.oneCell']) (hp17.obj 0 rfl) (Nat.le_refl _) rfl (fun w18 h18 => ?_)
  have hp18 : Hp w w18 ([Rb b14 false sa4 sl4 sc4 qa4 ql4 qc4, Rb b12 true sa3 sl3 sc3 qa3 ql3 qc3, Rb b10 hb2 sa2 sl2 sc2 qa2 ql2 qc2, Rb b8 hb2 sa1 sl1 sc1 qa1 ql1 qc1, Stb b5 na v1.length nc ma M.length mc] ++ Y) := hp17.set 0 rfl rfl h18
  clear hp16 hp17 h17 h18
  refine WL.pure rfl rfl rfl ?_
  refine WL.nil ?_
  refine WC.mid Unit (fun _ => [(5, ptr b5), (6, st s), (7, st t), (8, ptr b8)]) (fun _ w' => Hp w w' ([Rb b8 hb2 sa1 sl1 sc1 qa1 ql1 qc1, Stb b5 na v1.length nc ma M.length mc] ++ Y)) ?_ ?_
  · have hz := Hp.pickT (T := Y) [_, _, _, _, _] [3, 4] hp18 (by decide)
    rcases he4 with rfl | rfl | rfl <;>
    · repeat (first | refine zA ?_ | refine zB ?_ | refine zC rfl rfl rfl ?_ | refine zD ?_ | refine zE ?_ | refine zF ?_ | refine zG rfl ?_ | refine zH rfl ?_ | refine zI rfl rfl rfl ?_ | refine zJ rfl rfl ?_ | refine zK ?_ | refine zL ?_ | refine zM rfl ?_ | refine zN ?_)
      refine WL.loadB rfl rfl rfl rfl rfl (hp18.obj 0 rfl) (j := 0) rfl ?_
      repeat (first | refine zA ?_ | refine zB ?_ | refine zC rfl rfl rfl ?_ | refine zD ?_ | refine zE ?_ | refine zF ?_ | refine zG rfl ?_ | refine zH rfl ?_ | refine zI rfl rfl rfl ?_ | refine zJ rfl rfl ?_ | refine zK ?_ | refine zL ?_ | refine zM rfl ?_ | refine zN ?_)
      exact ⟨(), ⟨rfl, rfl, rfl, rfl, rfl⟩, hz⟩
  rintro _ e19 w19 hsub hp19
  refine WC.sub hsub ?_
  clear hsub e19 hp18
  replace hp19 : Hp w w19 ([Rb b8 hb2 sa1 sl1 sc1 qa1 ql1 qc1, Stb b5 na v1.length nc ma M.length mc] ++ Y) := hp19
  repeat (first | refine zA ?_ | refine zB ?_ | refine zC rfl rfl rfl ?_ | refine zD ?_ | refine zE ?_ | refine zF ?_ | refine zG rfl ?_ | refine zH rfl ?_ | refine zI rfl rfl rfl ?_ | refine zJ rfl rfl ?_ | refine zK ?_ | refine zL ?_ | refine zM rfl ?_ | refine zN ?_)
  refine WL.loadB rfl rfl rfl rfl rfl (hp19.obj 0 rfl) (j := 0) rfl ?_
  cases hb2 with
  | false =>
    repeat (first | refine zA ?_ | refine zB ?_ | refine zC rfl rfl rfl ?_ | refine zD ?_ | refine zE ?_ | refine zF ?_ | refine zG rfl ?_ | refine zH rfl ?_ | refine zI rfl rfl rfl ?_ | refine zJ rfl rfl ?_ | refine zK ?_ | refine zL ?_ | refine zM rfl ?_ | refine zN ?_)
    refine WL.call rfl rfl rfl rfl rfl ent20 (awake_any w19 (hG.hp hp19)) ?_
    rintro _ w20 ⟨rfl, hp20⟩
    repeat (first | refine zA ?_ | refine zB ?_ | refine zC rfl rfl rfl ?_ | refine zD ?_ | refine zE ?_ | refine zF ?_ | refine zG rfl ?_ | refine zH rfl ?_ | refine zI rfl rfl rfl ?_ | refine zJ rfl rfl ?_ | refine zK ?_ | refine zL ?_ | refine zM rfl ?_ | refine zN ?_)
    exact Res.one rfl rfl rfl ⟨rfl, (hp19.call hp20.below).nil'⟩
  | true =>
  have hAB := same_holds hok1 (hSa rfl)
  repeat (first | refine zA ?_ | refine zB ?_ | refine zC rfl rfl rfl ?_ | refine zD ?_ | refine zE ?_ | refine zF ?_ | refine zG rfl ?_ | refine zH rfl ?_ | refine zI rfl rfl rfl ?_ | refine zJ rfl rfl ?_ | refine zK ?_ | refine zL ?_ | refine zM rfl ?_ | refine zN ?_)
  refine WL.loadN rfl rfl rfl rfl rfl (cs := [.slice na v1.length nc, .slice ma M.length mc]) rfl (fun q v hq => cell_of_obj (hp19.obj 1 rfl) (by rw [Nat.zero_add]; simpa using hq)) ?_
  refine WL.pure rfl rfl rfl ?_
  refine WL.call rfl rfl rfl rfl rfl ent26 (HoldsT_any na nc ma mc v1 M (by omega) hr1 s (by omega) w19 (hG.hp hp19) (hstY hp19 (fun x hx => by simp [hx]))) ?_
  intro hv w20 hHW
  obtain ⟨hu, ua, ul, uc, va, vl, vc, ec, E5, rfl, hpE, hsh⟩ := hHW.shape hsb1
  have hp20 := hp19.call hpE.below
  obtain ⟨rfl, hu1⟩ : ec = 0 ∧ (hu = true ↔ HoldsA v1 M a) := by
    rcases hsh with ⟨h, _⟩ | ⟨f, h, h2, h3⟩
    · rw [ha] at h; cases h
    · rw [ha] at h
      simp only [Option.some.injEq] at h
      subst h
      refine ⟨h2, ?_⟩
      rcases h3 with ⟨r, q, _⟩ | ⟨r, st1, lo1, q, _⟩
      · exact ⟨fun _ => q, fun _ => r⟩
      · exact ⟨fun k => (by rw [r] at k; cases k), fun k => absurd k q.not⟩
  clear hHW hpE hsh hp19
  repeat (first | refine zA ?_ | refine zB ?_ | refine zC rfl rfl rfl ?_ | refine zD ?_ | refine zE ?_ | refine zF ?_ | refine zG rfl ?_ | refine zH rfl ?_ | refine zI rfl rfl rfl ?_ | refine zJ rfl rfl ?_ | refine zK ?_ | refine zL ?_ | refine zM rfl ?_ | refine zN ?_)
  refine WL.alloc rfl rfl rfl (fun b16 w21 h21 => ?_)
  have hp21 := hp20.new h21
  refine WL.storeN rfl rfl rfl rfl rfl (by simp [Value.oneCell']) (hp21.obj 0 rfl) (Nat.le_refl _) rfl (fun w22 h22 => ?_)
  have hp22 : Hp w w22 ([Rb b16 hu ua ul uc va vl vc, Rb b8 true sa1 sl1 sc1 qa1 ql1 qc1, Stb b5 na v1.length nc ma M.length mc] ++ Y) := hp21.set 0 rfl rfl h22
  clear hp20 hp21 h21 h22
  repeat (first | refine zA ?_ | refine zB ?_ | refine zC rfl rfl rfl ?_ | refine zD ?_ | refine zE ?_ | refine zF ?_ | refine zG rfl ?_ | refine zH rfl ?_ | refine zI rfl rfl rfl ?_ | refine zJ rfl rfl ?_ | refine zK ?_ | refine zL ?_ | refine zM rfl ?_ | refine zN ?_)
  refine WL.loadN rfl rfl rfl rfl rfl (cs := [.slice na v1.length nc, .slice ma M.length mc]) rfl (fun q v hq => cell_of_obj (hp22.obj 2 rfl) (by rw [Nat.zero_add]; simpa using hq)) ?_
  refine WL.pure rfl rfl rfl ?_
  refine WL.call rfl rfl rfl rfl rfl ent26 (HoldsT_any na nc ma mc v1 M (by omega) hr1 t (by omega) w22 (hG.hp hp22) (hstY hp22 (fun x hx => by simp [hx]))) ?_
  intro hv w23 hHW
  obtain ⟨hu2, ua2, ul2, uc2, va2, vl2, vc2, ec2, E6, rfl, hpE, hsh⟩ := hHW.shape hsb1
  have hp23 := hp22.call hpE.below
  obtain ⟨rfl, hu3⟩ : ec2 = 0 ∧ (hu2 = true ↔ HoldsA v1 M b) := by
    rcases hsh with ⟨h, _⟩ | ⟨f, h, h2, h3⟩
    · rw [hb] at h; cases h
    · rw [hb] at h
      simp only [Option.some.injEq] at h
      subst h
      refine ⟨h2, ?_⟩
      rcases h3 with ⟨r, q, _⟩ | ⟨r, st1, lo1, q, _⟩
      · exact ⟨fun _ => q, fun _ => r⟩
      · exact ⟨fun k => (by rw [r] at k; cases k), fun k => absurd k q.not⟩
  clear hHW hpE hsh hp22
  obtain rfl : hu2 = hu := bool_iff hu3 (hu1.trans hAB)
  repeat (first | refine zA ?_ | refine zB ?_ | refine zC rfl rfl rfl ?_ | refine zD ?_ | refine zE ?_ | refine zF ?_ | refine zG rfl ?_ | refine zH rfl ?_ | refine zI rfl rfl rfl ?_ | refine zJ rfl rfl ?_ | refine zK ?_ | refine zL ?_ | refine zM rfl ?_ | refine zN ?_)
  refine WL.alloc rfl rfl rfl (fun b18 w24 h24 => ?_)
  have hp24 := hp23.new h24
  refine WL.storeN rfl rfl rfl rfl rfl (by simp [Value.oneCell']) (hp24.obj 0 rfl) (Nat.le_refl _) rfl (fun w25 h25 => ?_)
  have hp25 : Hp w w25 ([Rb b18 hu2 ua2 ul2 uc2 va2 vl2 vc2, Rb b16 hu2 ua ul uc va vl vc, Rb b8 true sa1 sl1 sc1 qa1 ql1 qc1, Stb b5 na v1.length nc ma M.length mc] ++ Y) := hp24.set 0 rfl rfl h25
  clear hp23 hp24 h24 h25
  repeat (first | refine zA ?_ | refine zB ?_ | refine zC rfl rfl rfl ?_ | refine zD ?_ | refine zE ?_ | refine zF ?_ | refine zG rfl ?_ | refine zH rfl ?_ | refine zI rfl rfl rfl ?_ | refine zJ rfl rfl ?_ | refine zK ?_ | refine zL ?_ | refine zM rfl ?_ | refine zN ?_)
  refine WL.loadB rfl rfl rfl rfl rfl (hp25.obj 1 rfl) (j := 0) rfl ?_
  refine WL.pure rfl rfl rfl ?_
  refine WL.loadB rfl rfl rfl rfl rfl (hp25.obj 0 rfl) (j := 0) rfl ?_
  cases hu2 <;>
  · repeat (first | refine zA ?_ | refine zB ?_ | refine zC rfl rfl rfl ?_ | refine zD ?_ | refine zE ?_ | refine zF ?_ | refine zG rfl ?_ | refine zH rfl ?_ | refine zI rfl rfl rfl ?_ | refine zJ rfl rfl ?_ | refine zK ?_ | refine zL ?_ | refine zM rfl ?_ | refine zN ?_)
    refine WL.call rfl rfl rfl rfl rfl ent20 (awake_any w25 (hG.hp hp25)) ?_
    rintro _ w26 ⟨rfl, hp26⟩
    repeat (first | refine zA ?_ | refine zB ?_ | refine zC rfl rfl rfl ?_ | refine zD ?_ | refine zE ?_ | refine zF ?_ | refine zG rfl ?_ | refine zH rfl ?_ | refine zI rfl rfl rfl ?_ | refine zJ rfl rfl ?_ | refine zK ?_ | refine zL ?_ | refine zM rfl ?_ | refine zN ?_)
    exact Res.one rfl rfl rfl ⟨rfl, (hp25.call hp26.below).nil'⟩
end Go.Proofs.YtpbbneclkhfgoaaDoor
end
section
/- The arguments of the laws on formulas, opened; what the package's variables hold. -/
namespace Go.Proofs.YtpbbneclkhfgoaaDoor
set_option maxRecDepth 100000
open Go.W Go.Ltl Go.RowKit Go.ChangeShapes Go.WideShapes Go.Deep

theorem own : ownKnob Tryd.prog.godebug = none := by kernel_rfl
theorem laidOut : laidOutB Tryd.prog = true := by kernel_rfl
theorem cellsStr : Tryd.prog.cellsOf 9 = 1 := by kernel_rfl
theorem cellsInt : Tryd.prog.cellsOf 3 = 1 := by kernel_rfl
theorem cellsInts : Tryd.prog.cellsOf 22 = 1 := by kernel_rfl
section
variable {H : Type} {enc : TypeId × Value → H} {w : World}
theorem sl_of_cells {a : Addr} {cs : List Value} (h : ∀ (i : Nat) (u : Value), cs[i]? = some u → w.cell? (a.add i) = some u) : Sl w (some a) cs := by
  intro i u hi
  have hc := h i u hi
  obtain ⟨b, o, s⟩ := a
  cases s with
  | none => exact ⟨b, o, rfl, by rw [Addr.add_lit] at hc; exact hc⟩
  | some q =>
    exfalso
    obtain ⟨hlt, _⟩ := List.getElem?_eq_some_iff.1 hi
    have h0 := h 0 cs[0] (by simp)
    have e0 : (⟨b, o, some q⟩ : Addr).add 0 = ⟨b, o, some q⟩ := by simp [Addr.add]
    rw [e0] at h0
    unfold World.cell? at h0
    simp at h0
    split at h0 <;> cases h0
/-- A string. -/
theorem open_str {fuel : Nat} {cs : List Value} {x : DataW H × List MemPlace} (h : DataW.trod enc Tryd.prog w 0 (fun _ => true) true fuel 9 cs = some x) : ∃ s : Str, cs = [st s] ∧ s.length ≤ 9223372036854775807 := by
  obtain ⟨s, hc, _, hl⟩ := DataW.trod_string Tryd.underlying9 h
  obtain ⟨l, rfl⟩ := sb_ex s
  unfold maxLen at hl
  rw [sb_size] at hl
  exact ⟨l, hc, hl⟩
theorem open_ints {fuel : Nat} {cs : List Value} {x : DataW H × List MemPlace} (h : DataW.trod enc Tryd.prog w 0 (fun _ => true) true fuel 22 cs = some x) :
    ∃ (a : Option Addr) (xs : List Int) (cap : Nat), cs = [.slice a xs.length cap] ∧ Sl w a (zs xs) ∧ xs.length ≤ cap ∧ xs.length ≤ 9223372036854775807 := by
  rcases open_slice1 Tryd.underlying22 cellsInt h with ⟨rfl, _⟩ | ⟨a, len, cap, m, n, V, D, Pl, rfl, _, hl, hm, hmm, _, hx⟩
  · exact ⟨none, [], 0, rfl, (fun i u hi => by cases hi), Nat.le_refl _, Nat.zero_le _⟩
  · have hlm : len ≤ m := by rw [hmm]; split <;> omega
    have each : ∀ i, i < len → ∃ e : Int, w.cell? (a.add i) = some (.int .i64 e) := by
      intro i hi
      obtain ⟨h1, h2⟩ := hx i (by omega)
      obtain ⟨n0, e0, _, _⟩ := DataW.trod_int Tryd.underlying3 h2
      simp only [List.cons.injEq, and_true] at e0
      exact ⟨n0, by rw [h1, e0]⟩
    obtain ⟨e, he⟩ := choose_lt each
    refine ⟨some a, (List.range len).map e, cap, by simp, ?_, by simpa using hl, by simp; unfold maxLen at hm; omega⟩
    refine sl_of_cells ?_
    intro i u hi
    have hlt : i < len := by
      have := (List.getElem?_eq_some_iff.1 hi).1
      simpa [zs] using this
    rw [he i hlt]
    rw [← hi]
    simp [zs, hlt]
end

/-! ### The package's variables -/
theorem var_cell {w : World} {n : String} {g : Nat} {cs : Array Value} {v : Value} (hg : Tryd.prog.globalNamed n = some g) (h : w.var? Tryd.prog n = some cs) (hv : cs[0]? = some v) : w.cell? ⟨g, 0, none⟩ = some v := by
  unfold World.var? at h
  rw [hg] at h
  simp only [Option.bind_some] at h
  split at h
  · rename_i cs' t fr hh
    simp only [Option.some.injEq] at h
    subst h
    exact cell_of_obj hh hv
  · cases h
/-- A variable that is a list of strings. -/
theorem laid_strs {w : World} {n : String} {g : Nat} (L : List Str) (hg : Tryd.prog.globalNamed n = some g) (ht : (Tryd.prog.globals[g]?).map (·.type) = some 92) (h : Lib.VarReads Tryd.prog w n (.slice (L.map fun s => .lit (.string s)) [])) (hL : 0 < L.length) :
    ∃ a c, w.cell? ⟨g, 0, none⟩ = some (.slice a L.length c) ∧ Sl w a (L.map st) := by
  obtain ⟨g', t', cs, fuel, p, h1, h2, h3, h4⟩ := h
  rw [hg] at h1
  simp only [Option.some.injEq] at h1
  subst h1
  rw [ht] at h2
  simp only [Option.some.injEq] at h2
  subst h2
  rcases open_slice1 Tryd.underlying92 cellsStr h4 with ⟨_, hx⟩ | ⟨a, len, cap, m, k, V, D, Pl, hcs, _, hl, hm, hmm, hx, hcell⟩
  · simp only [Prod.mk.injEq] at hx
    cases hx.1
  · simp only [Prod.mk.injEq, DataW.slice.injEq] at hx
    obtain ⟨⟨hD, hrest⟩, _⟩ := hx
    have hlen : len = L.length := by have := congrArg List.length hD; simpa using this.symm
    subst hlen
    have hv : cs[0]? = some (.slice (some a) L.length cap) := by
      have := congrArg (fun l : List Value => l[0]?) hcs
      simpa using this
    refine ⟨some a, cap, var_cell hg h3 hv, ?_⟩
    refine sl_of_cells ?_
    intro i u hi
    have hlt : i < L.length := by
      have := (List.getElem?_eq_some_iff.1 hi).1
      simpa using this
    have hlm : L.length ≤ m := by rw [hmm]; split <;> omega
    obtain ⟨c1, c2⟩ := hcell i (by omega)
    obtain ⟨s, e1, e2, _⟩ := DataW.trod_string Tryd.underlying9 c2
    obtain ⟨l, rfl⟩ := sb_ex s
    have hDi : D i = .lit (.string L[i]) := by
      have := congrArg (fun l => l[i]?) hD
      simpa [hlt] using this.symm
    simp only [Prod.mk.injEq] at e2
    rw [hDi] at e2
    have hll : L[i] = l := by
      have := e2.1
      simp only [DataW.lit.injEq, Lit.string.injEq] at this
      rw [this]; rfl
    simp only [List.cons.injEq, and_true] at e1
    rw [c1, e1, ← hi]
    simp [hlt, hll, st]
def dualS : List (Str × Str) := [(wAlways, wFinally), (wAnd, wOr), (wFalse, wTrue), (wFinally, wAlways), (wNext, wNext), (wOr, wAnd), (wRelease, wUntil), (wTrue, wFalse), (wUntil, wRelease)]
theorem laid_dual_is : (Rows.laid_olivette_ltl_dual : DataW Unit) = .map (dualS.map fun p => (.string p.1, .lit (.string p.2))) := rfl
theorem dualS_iff : ∀ p, p ∈ dualS ↔ p ∈ dualL := by
  intro p
  simp only [dualS, dualL, List.mem_cons, List.not_mem_nil, or_false]
  constructor <;> (intro h; rcases h with h | h | h | h | h | h | h | h | h <;> simp [h])
theorem dualL_key : ∀ p ∈ dualL, ∀ q ∈ dualL, p.1 = q.1 → p = q := by decide
theorem fndS_dual {P : List (Str × Str)} (h : ∀ p, p ∈ P ↔ p ∈ dualL) (s : Str) : fndS P s = dualM s := by
  unfold fndS dualM
  cases h1 : P.find? (fun p => decide (p.1 = s)) with
  | none =>
    cases h2 : dualL.find? (fun p => decide (p.1 = s)) with
    | none => rfl
    | some q =>
      exfalso
      have hq := List.mem_of_find?_eq_some h2
      have hs := List.find?_some h2
      exact absurd hs (List.find?_eq_none.1 h1 q ((h q).2 hq))
  | some p =>
    have hp := (h p).1 (List.mem_of_find?_eq_some h1)
    have hs : p.1 = s := by simpa using List.find?_some h1
    cases h2 : dualL.find? (fun p => decide (p.1 = s)) with
    | none => exact absurd (by simpa using hs) (List.find?_eq_none.1 h2 p hp)
    | some q =>
      have hq := List.mem_of_find?_eq_some h2
      have hs2 : q.1 = s := by simpa using List.find?_some h2
      rw [dualL_key p hp q hq (hs.trans hs2.symm)]
theorem se_of {es : List MapEntry} {rgf : MapEntry → Lit × DataW Unit} (h : ∀ y ∈ es, ∃ s t : Str, y.key = st s ∧ y.val = st t ∧ rgf y = (.string s, .lit (.string t))) : ∃ P, SE es P ∧ es.map rgf = P.map fun p => (.string p.1, .lit (.string p.2)) := by
  induction es with
  | nil => exact ⟨[], trivial, rfl⟩
  | cons y es ih =>
    obtain ⟨P, h1, h2⟩ := ih (fun z hz => h z (List.mem_cons_of_mem _ hz))
    obtain ⟨s, t, k1, k2, k3⟩ := h y (by simp)
    exact ⟨(s, t) :: P, ⟨k1, k2, h1⟩, by rw [List.map_cons, List.map_cons, k3, h2]⟩
theorem laid_map {w : World} {n : String} {g : Nat} (hg : Tryd.prog.globalNamed n = some g) (ht : (Tryd.prog.globals[g]?).map (·.type) = some 136) (h : Lib.VarReads Tryd.prog w n Rows.laid_olivette_ltl_dual) :
    ∃ mb es c P, w.cell? ⟨g, 0, none⟩ = some (.map (some mb)) ∧ mb < w.heap.size ∧ w.heap[mb]? = some (.map es c) ∧ SE es.toList P ∧ ∀ s, fndS P s = dualM s := by
  obtain ⟨g', t', cs, fuel, p, h1, h2, h3, h4⟩ := h
  rw [hg] at h1
  simp only [Option.some.injEq] at h1
  subst h1
  rw [ht] at h2
  simp only [Option.some.injEq] at h2
  subst h2
  rw [laid_dual_is] at h4
  rcases WideElems.open_map Tryd.underlying136 h4 with ⟨_, hx⟩ | ⟨b, es, clock, m, _, hcs, hb, _, hfit, hx⟩
  · simp only [Prod.mk.injEq] at hx
    cases hx.1
  · have hv : cs[0]? = some (.map (some b)) := by
      have := congrArg (fun l : List Value => l[0]?) hcs
      simpa using this
    have hread : ∀ y ∈ es.toList, ∃ s t : Str, y.key = st s ∧ y.val = st t ∧ WideElems.rg Tryd.prog 9 (WideElems.elemAt (fun _ => ()) Tryd.prog w 0 (fun _ => true) false m 9) y = (.string s, .lit (.string t)) := by
      intro y hy
      obtain ⟨z, hz⟩ := hfit.reads y hy
      have hk := WideElems.rd_key hz
      obtain ⟨q, hq, hq2⟩ := WideElems.rd_val hz
      have hk2 : ∃ s : Str, y.key = st s ∧ z.1 = .string s := by
        unfold keyOf at hk
        rw [Tryd.underlying9] at hk
        simp only at hk
        cases hkey : y.key <;> rw [hkey] at hk <;> simp only [mapKey, Tryd.underlying9] at hk <;> try (cases hk; done)
        rename_i s
        split at hk
        · obtain ⟨l, rfl⟩ := sb_ex s
          simp only [Option.some.injEq] at hk
          exact ⟨l, rfl, hk.symm⟩
        · cases hk
      obtain ⟨s, ks, zs1⟩ := hk2
      have hv2 : ∃ t : Str, y.val = st t ∧ z.2 = .lit (.string t) := by
        unfold WideElems.elemAt at hq
        split at hq
        · rename_i hform
          obtain ⟨s2, e1, e2, _⟩ := DataW.trod_string Tryd.underlying9 hq
          obtain ⟨l, rfl⟩ := sb_ex s2
          refine ⟨l, ?_, ?_⟩
          · cases hval : y.val <;> rw [hval] at e1 hform <;> simp [Value.cells] at e1
            · rw [e1]; rfl
            · rename_i vs
              exfalso
              unfold Value.formed at hform
              rw [Tryd.underlying9] at hform
              simp at hform
          · rw [hq2, e2]; rfl
        · cases hq
      obtain ⟨t, kt, zt⟩ := hv2
      exact ⟨s, t, ks, kt, by rw [WideElems.rg_of hz]; exact Prod.ext zs1 zt⟩
    obtain ⟨P, hSE, hP⟩ := se_of hread
    simp only [Prod.mk.injEq, DataW.map.injEq] at hx
    rw [hP] at hx
    have hperm := (sorted_perm (P.map fun p => ((Lit.string p.1, DataW.lit (Lit.string p.2)) : Lit × DataW Unit)))
    rw [← hx.1] at hperm
    have hmem : ∀ q, q ∈ P ↔ q ∈ dualL := by
      intro q
      rw [← dualS_iff]
      have h1 : ∀ (L : List (Str × Str)), q ∈ L ↔ ((Lit.string q.1, DataW.lit (Lit.string q.2)) : Lit × DataW Unit) ∈ L.map fun p => (Lit.string p.1, DataW.lit (Lit.string p.2)) := by
        intro L
        constructor
        · intro h; exact List.mem_map.2 ⟨q, h, rfl⟩
        · intro h
          obtain ⟨q2, h3, h4⟩ := List.mem_map.1 h
          simp only [Prod.mk.injEq, Lit.string.injEq, DataW.lit.injEq] at h4
          have : q2 = q := Prod.ext h4.1 h4.2
          rw [← this]; exact h3
      rw [h1 P, h1 dualS]
      exact hperm.mem_iff.symm
    exact ⟨b, es, clock, P, var_cell hg h3 hv, (Array.getElem?_eq_some_iff.1 hb).1, hb, hSE, fndS_dual hmem⟩
def laidAll : List (String × DataW Unit) := [("olivette/ltl.atoms", Rows.laid_olivette_ltl_atoms), ("olivette/ltl.ones", Rows.laid_olivette_ltl_ones), ("olivette/ltl.twos", Rows.laid_olivette_ltl_twos), ("olivette/ltl.dual", Rows.laid_olivette_ltl_dual)]
theorem gl_of {w : World} (h : laidMetH Tryd.prog laidAll w) : Gl w := by
  have h1 : laidMet Tryd.prog laidAll w := h
  refine ⟨?_, ?_, ?_, ?_⟩
  · exact laid_strs atomsL (n := "olivette/ltl.atoms") (by kernel_rfl) (by kernel_rfl) (Lib.laidMet.reads h1 (by simp [laidAll]; rfl)) (by decide)
  · exact laid_strs onesL (n := "olivette/ltl.ones") (by kernel_rfl) (by kernel_rfl) (Lib.laidMet.reads h1 (by simp [laidAll]; rfl)) (by decide)
  · exact laid_strs twosL (n := "olivette/ltl.twos") (by kernel_rfl) (by kernel_rfl) (Lib.laidMet.reads h1 (by simp [laidAll]; rfl)) (by decide)
  · exact laid_map (n := "olivette/ltl.dual") (by kernel_rfl) (by kernel_rfl) (Lib.laidMet.reads h1 (by simp [laidAll]))
end Go.Proofs.YtpbbneclkhfgoaaDoor
end
section
/- A world in which the package's variables hold what its text lays. -/
namespace Go.Proofs.YtpbbneclkhfgoaaDoor
set_option maxRecDepth 100000
open Go.W Go.Ltl Go.RowKit Go.ChangeShapes Go.WideShapes Go.Deep
def putV (v : Value) : Obj → Obj
  | .cells _ t fr => .cells #[v] t fr
  | o => o
def strBlk (l : List Str) : Obj := .cells (l.map st).toArray 9
def dualEs : List (Str × Str) → Nat → List MapEntry
  | [], _ => []
  | p :: r, i => { key := st p.1, val := st p.2, born := i } :: dualEs r (i + 1)
noncomputable def laidWorld (os : Os) : World :=
  { World.holding Tryd.prog os ⟨#[], #[], []⟩ with heap := (((((World.holding Tryd.prog os ⟨#[], #[], []⟩).heap.modify 0 (putV (.map (some 9)))).modify 1 (putV (.slice (some ⟨10, 0, none⟩) 6 6))).modify 2 (putV (.slice (some ⟨11, 0, none⟩) 4 4))).modify 3 (putV (.slice (some ⟨12, 0, none⟩) 4 4))) ++ #[.map (dualEs dualL 0).toArray 9, strBlk atomsL, strBlk onesL, strBlk twosL] }
theorem laid_met0 (os : Os) (args : Array Value) : laidMet Tryd.prog laidAll ((laidWorld os).forCall (fun _ _ => 0) ⟨#[], args, []⟩).memory :=
  laidMet_of_run' 8 (by kernel_rfl) (by kernel_rfl)
end Go.Proofs.YtpbbneclkhfgoaaDoor
end
section
/- Structures, results, pairs of formulas and of numbers as arguments, opened. -/
namespace Go.Proofs.YtpbbneclkhfgoaaDoor
set_option maxRecDepth 100000
open Go.W Go.Ltl Go.RowKit Go.ChangeShapes Go.WideShapes Go.Deep

theorem cellsRows : Tryd.prog.cellsOf 42 = 1 := by kernel_rfl
theorem cellsStructure : Tryd.prog.cellsOf 44 = 2 := by kernel_rfl
section
variable {H : Type} {enc : TypeId × Value → H} {w : World}
theorem open_rows {fuel : Nat} {cs : List Value} {x : DataW H × List MemPlace} (h : DataW.trod enc Tryd.prog w 0 (fun _ => true) true fuel 42 cs = some x) :
    ∃ (a : Option Addr) (vs : Vs) (cap : Nat), cs = [.slice a vs.length cap] ∧ Sl w a (catV vs) ∧ (∀ x ∈ vs, Sl w x.1 (zs x.2.2) ∧ x.2.2.length ≤ x.2.1 ∧ x.2.2.length ≤ 9223372036854775807) ∧ vs.length ≤ 9223372036854775807 := by
  rcases open_slice1 Tryd.underlying42 cellsInts h with ⟨rfl, _⟩ | ⟨a, len, cap, m, n, V, D, Pl, rfl, _, hl, hm, hmm, _, hx⟩
  · exact ⟨none, [], 0, rfl, Sl.nil, (fun b hb => by cases hb), Nat.zero_le _⟩
  · have hlm : len ≤ m := by rw [hmm]; split <;> omega
    have each : ∀ i, i < len → ∃ b : Option Addr × Nat × List Int, w.cell? (a.add i) = some (.slice b.1 b.2.2.length b.2.1) ∧ Sl w b.1 (zs b.2.2) ∧ b.2.2.length ≤ b.2.1 ∧ b.2.2.length ≤ 9223372036854775807 := by
      intro i hi
      obtain ⟨h1, h2⟩ := hx i (by omega)
      obtain ⟨ai, xs, ci, e0, hs, hc, hc2⟩ := open_ints h2
      simp only [List.cons.injEq, and_true] at e0
      exact ⟨(ai, ci, xs), by rw [h1, e0], hs, hc, hc2⟩
    obtain ⟨e, he⟩ := choose_lt each
    refine ⟨some a, (List.range len).map e, cap, by simp, sl_of_cells ?_, ?_, by simp; unfold maxLen at hm; omega⟩
    · intro i u hi
      have hlt : i < len := by
        have := (List.getElem?_eq_some_iff.1 hi).1
        simpa [catV] using this
      rw [(he i hlt).1]
      rw [← hi]
      simp [catV, hlt]
    · intro b hb
      obtain ⟨i, hi, rfl⟩ := List.mem_map.1 hb
      exact (he i (by simpa using hi)).2
/-- A structure. -/
theorem open_structure {fuel : Nat} {cs : List Value} {x : DataW H × List MemPlace} (h : DataW.trod enc Tryd.prog w 0 (fun _ => true) true fuel 44 cs = some x) :
    ∃ (an : Option Addr) (cn : Nat) (am : Option Addr) (cm : Nat) (vs : Vs) (ms : List Int), cs = [.slice an vs.length cn, .slice am ms.length cm] ∧ Stc w an am vs ms ∧ StcB an cn am cm vs ms := by
  obtain ⟨xs, k, _, _, hcl, hxl, hf⟩ := DataW.trod_struct Tryd.underlying44 h
  rw [cellsStructure] at hcl
  match cs, hcl with
  | [v0, v1], _ =>
    match xs, hxl with
    | [y0, y1], _ =>
      have g0 : DataW.trod enc Tryd.prog w 0 (fun _ => true) true k 42 (List.take (Tryd.prog.cellsOf 42) (List.drop 0 [v0, v1])) = some y0 := hf 0 _ rfl
      have g1 : DataW.trod enc Tryd.prog w 0 (fun _ => true) true k 22 (List.take (Tryd.prog.cellsOf 22) (List.drop 1 [v0, v1])) = some y1 := hf 1 _ rfl
      rw [cellsRows] at g0
      rw [cellsInts] at g1
      obtain ⟨an, vs, cn, e0, hA, hr, hl⟩ := open_rows (show DataW.trod enc Tryd.prog w 0 (fun _ => true) true k 42 [v0] = some y0 from g0)
      obtain ⟨am, ms, cm, e1, hM, hmc, hml⟩ := open_ints (show DataW.trod enc Tryd.prog w 0 (fun _ => true) true k 22 [v1] = some y1 from g1)
      simp only [List.cons.injEq, and_true] at e0 e1
      exact ⟨an, cn, am, cm, vs, ms, by rw [e0, e1], ⟨hA, fun x hx => (hr x hx).1, hM⟩, ⟨hl, fun x hx => (hr x hx).2.2, fun x hx => (hr x hx).2.1, hml, hmc⟩⟩
theorem cellsTwo : Tryd.prog.cellsOf 67 = 2 := by kernel_rfl
/-- Two formulas. -/
theorem open_two {fuel : Nat} {cs : List Value} {x : DataW H × List MemPlace} (h : DataW.trod enc Tryd.prog w 0 (fun _ => true) true fuel 67 cs = some x) :
    ∃ s t : Str, cs = [st s, st t] ∧ s.length ≤ 9223372036854775807 ∧ t.length ≤ 9223372036854775807 := by
  obtain ⟨xs, k, _, _, hcl, hxl, hf⟩ := DataW.trod_struct Tryd.underlying67 h
  rw [cellsTwo] at hcl
  match cs, hcl with
  | [v0, v1], _ =>
    match xs, hxl with
    | [y0, y1], _ =>
      have g0 : DataW.trod enc Tryd.prog w 0 (fun _ => true) true k 9 (List.take (Tryd.prog.cellsOf 9) (List.drop 0 [v0, v1])) = some y0 := hf 0 _ rfl
      have g1 : DataW.trod enc Tryd.prog w 0 (fun _ => true) true k 9 (List.take (Tryd.prog.cellsOf 9) (List.drop 1 [v0, v1])) = some y1 := hf 1 _ rfl
      rw [cellsStr] at g0 g1
      obtain ⟨s0, e0, l0⟩ := open_str (show DataW.trod enc Tryd.prog w 0 (fun _ => true) true k 9 [v0] = some y0 from g0)
      obtain ⟨s1, e1, l1⟩ := open_str (show DataW.trod enc Tryd.prog w 0 (fun _ => true) true k 9 [v1] = some y1 from g1)
      simp only [List.cons.injEq, and_true] at e0 e1
      exact ⟨s0, s1, by rw [e0, e1], l0, l1⟩
end
end Go.Proofs.YtpbbneclkhfgoaaDoor
end
