/- Texts on the way to LtlLess, one behind the other: U44 U45 U46 U49 Yk Zc U52 U54 U55 U47 U56 U57. -/
import Derived.Test.YtpbbneclkhfgoaaDoorG6
section
/- ltl, forty-fourth: machine, the reference's Structure. -/
namespace Go.Proofs.YtpbbneclkhfgoaaDoor
open Go.W Go.Ltl Go.RowKit
set_option maxRecDepth 100000
set_option linter.unusedSectionVars false
attribute [local irreducible] WC WL WQ WS WH

abbrev rowsOf (vs : Vs) : List (List Int) := vs.map fun x => x.2.2
def takeV (rows : List (List Int)) : List (List Int) := (rows.take 20).map (·.take 20)
theorem takeV_succ {rows : List (List Int)} {i : Nat} (h : i < rows.length) : (rows.take (i + 1)).map (·.take 20) = (rows.take i).map (·.take 20) ++ [(rows[i]).take 20] := by
  rw [List.take_succ_eq_append_getElem h, List.map_append]; rfl
/-- Structures that are read, with their bounds. -/
structure StcB (an : Option Addr) (cn : Nat) (am : Option Addr) (cm : Nat) (vs : Vs) (ms : List Int) : Prop where
  nl : vs.length ≤ 9223372036854775807
  rl : ∀ x ∈ vs, x.2.2.length ≤ 9223372036854775807
  rc : ∀ x ∈ vs, x.2.2.length ≤ x.2.1
  ml : ms.length ≤ 9223372036854775807
  mc : ms.length ≤ cm
theorem machine_any (an : Option Addr) (cn : Nat) (am : Option Addr) (cm : Nat) (vs : Vs) (ms : List Int) (hB : StcB an cn am cm vs ms) (w : World) (hst : Stc w an am vs ms) :
    Ret Tryd.prog 37 [stV an cn am cm vs ms] w fun u w' => ∃ na nc ma mc vs2, u = .agg #[.slice na vs2.length nc, .slice ma (ms.take 20).length mc] ∧ rowsOf vs2 = takeV (rowsOf vs) ∧
      Hp w w' (Rvs (.slice na vs2.length nc) vs2 :: Ri (.slice ma (ms.take 20).length mc) (ms.take 20) :: vsE vs2) := by
  have hnl := hB.nl
  have hml := hB.ml
  have hmc := hB.mc
  refine enter Tryd.func37 rfl rfl ⟨rfl, rfl⟩ rfl ?_
  repeat (first | refine zA ?_ | refine zB ?_ | refine zC rfl rfl rfl ?_ | refine zD ?_ | refine zE ?_ | refine zF ?_ | refine zG rfl ?_ | refine zH rfl ?_ | refine zI rfl rfl rfl ?_ | refine zJ rfl rfl ?_ | refine zK ?_ | refine zL ?_ | refine zM rfl ?_ | refine zN ?_)
  refine WL.box rfl rfl rfl (fun b1 w1 hb1 => ?_)
  have hp1 : Hp w w1 [Sb b1 an cn am cm vs ms] := (Hp.start w).new hb1
  refine WL.alloc rfl rfl rfl (fun b2 w2 hb2 => ?_)
  have hp2 : Hp w w2 [Stb b2 none 0 0 none 0 0, Sb b1 an cn am cm vs ms] := hp1.new hb2
  repeat (first | refine zA ?_ | refine zB ?_ | refine zC rfl rfl rfl ?_ | refine zD ?_ | refine zE ?_ | refine zF ?_ | refine zG rfl ?_ | refine zH rfl ?_ | refine zI rfl rfl rfl ?_ | refine zJ rfl rfl ?_ | refine zK ?_ | refine zL ?_ | refine zM rfl ?_ | refine zN ?_)
  refine WL.alloc rfl rfl rfl (fun b3 w3 hb3 => ?_)
  have hp3 : Hp w w3 [Stb b3 none 0 0 none 0 0, Stb b2 none 0 0 none 0 0, Sb b1 an cn am cm vs ms] := hp2.new hb3
  refine WL.nil ?_
  refine WC.seq ?_
  refine WC.mid (Option Addr × Nat × Vs) (fun (na, nc, vs2) => [(1, ptr b1), (2, ptr b2), (3, ptr b3)])
    (fun (na, nc, vs2) w' => rowsOf vs2 = takeV (rowsOf vs) ∧ Hp w w' (Stb b3 na vs2.length nc none 0 0 :: Rvs (.slice na vs2.length nc) vs2 :: Sb b1 an cn am cm vs ms :: Stb b2 none 0 0 none 0 0 :: vsE vs2)) ?_ ?_
  · repeat (first | refine zA ?_ | refine zB ?_ | refine zC rfl rfl rfl ?_ | refine zD ?_ | refine zE ?_ | refine zF ?_ | refine zG rfl ?_ | refine zH rfl ?_ | refine zI rfl rfl rfl ?_ | refine zJ rfl rfl ?_ | refine zK ?_ | refine zL ?_ | refine zM rfl ?_ | refine zN ?_)
    refine WC.loop (Nat × Option Addr × Nat × Vs) (fun (i, na, nc, vs2) => [(1, ptr b1), (2, ptr b2), (3, ptr b3), (4, .int .i64 (i : Nat))])
      (fun (i, na, nc, vs2) w' => i ≤ vs.length ∧ i ≤ 20 ∧ rowsOf vs2 = ((rowsOf vs).take i).map (·.take 20) ∧ Hp w w' (Stb b3 na vs2.length nc none 0 0 :: Rvs (.slice na vs2.length nc) vs2 :: Sb b1 an cn am cm vs ms :: Stb b2 none 0 0 none 0 0 :: vsE vs2)) (fun (i, _) => 20 - i) (0, none, 0, []) ⟨rfl, rfl, rfl, rfl, rfl⟩
      ⟨Nat.zero_le _, Nat.zero_le _, rfl, (hp3.nilrow 22 1).pick [1, 0, 3, 2] (by decide)⟩ ?_
    clear hp1 hp2 hp3 hb1 hb2 hb3
    rintro ⟨i, na, nc, vs2⟩ w4 ⟨hi, hi20, hvs, hp4⟩
    replace hi : i ≤ vs.length := hi
    replace hi20 : i ≤ 20 := hi20
    replace hvs : rowsOf vs2 = ((rowsOf vs).take i).map (·.take 20) := hvs
    replace hp4 : Hp w w4 (Stb b3 na vs2.length nc none 0 0 :: Rvs (.slice na vs2.length nc) vs2 :: Sb b1 an cn am cm vs ms :: Stb b2 none 0 0 none 0 0 :: vsE vs2) := hp4
    have hl2 : vs2.length = i := by
      have := congrArg List.length hvs
      rw [List.length_map, List.length_map, List.length_take, List.length_map] at this
      omega
    have fin : (¬ i < vs.length ∨ ¬ i < 20) → rowsOf vs2 = takeV (rowsOf vs) := by
      intro h
      rw [hvs]
      unfold takeV
      rcases h with h | h
      · rw [List.take_of_length_le (by rw [List.length_map]; omega), List.take_of_length_le (by rw [List.length_map]; omega)]
      · rw [show i = 20 by omega]
    repeat (first | refine zA ?_ | refine zB ?_ | refine zC rfl rfl rfl ?_ | refine zD ?_ | refine zE ?_ | refine zF ?_ | refine zG rfl ?_ | refine zH rfl ?_ | refine zI rfl rfl rfl ?_ | refine zJ rfl rfl ?_ | refine zK ?_ | refine zL ?_ | refine zM rfl ?_ | refine zN ?_)
    refine WL.loadB rfl rfl rfl rfl rfl (hp4.obj 2 rfl) (j := 0) rfl ?_
    repeat (first | refine zA ?_ | refine zB ?_ | refine zC rfl rfl rfl ?_ | refine zD ?_ | refine zE ?_ | refine zF ?_ | refine zG rfl ?_ | refine zH rfl ?_ | refine zI rfl rfl rfl ?_ | refine zJ rfl rfl ?_ | refine zK ?_ | refine zL ?_ | refine zM rfl ?_ | refine zN ?_)
    refine WL.split 11 rfl (fun c1 => ?_) (fun c1 => ?_)
    · have c1 : i < vs.length := by have := of_decide_eq_true c1; omega
      repeat (first | refine zA ?_ | refine zB ?_ | refine zC rfl rfl rfl ?_ | refine zD ?_ | refine zE ?_ | refine zF ?_ | refine zG rfl ?_ | refine zH rfl ?_ | refine zI rfl rfl rfl ?_ | refine zJ rfl rfl ?_ | refine zK ?_ | refine zL ?_ | refine zM rfl ?_ | refine zN ?_)
      refine WC.cond rfl (fun c2 => ?_) (fun c2 => ?_)
      · have c2 : i < 20 := by have h : ((i : Nat) : Int) < 20 := of_decide_eq_true c2; omega
        have step := wrap_succ (i := i) (n := i + 1) (by omega) (by omega)
        have hx := List.getElem_mem c1
        have hxr := hB.rl _ hx
        have hxc := hB.rc _ hx
        obtain ⟨ba, oa, hae, hac⟩ := hst.nx i _ (catV_at c1)
        subst hae
        obtain ⟨m, hm⟩ : ∃ m, m = min vs[i].2.2.length 20 := ⟨_, rfl⟩
        have hm2 : (vs[i].2.2.take 20).length = m := by rw [List.length_take, hm, Nat.min_comm]
        have e14 : min ((vs[i].2.2.length : Nat) : Int) 20 = ((m : Nat) : Int) := by rw [hm]; omega
        repeat (first | refine zA ?_ | refine zB ?_ | refine zC rfl rfl rfl ?_ | refine zD ?_ | refine zE ?_ | refine zF ?_ | refine zG rfl ?_ | refine zH rfl ?_ | refine zI rfl rfl rfl ?_ | refine zJ rfl rfl ?_ | refine zK ?_ | refine zL ?_ | refine zM rfl ?_ | refine zN ?_)
        refine WC.mid (Option Addr × Nat × Vs) (fun (_, _, _) => [(1, ptr b1), (2, ptr b2), (3, ptr b3), (4, .int .i64 (i : Nat))])
          (fun (pa, pc, vs3) w' => rowsOf vs3 = ((rowsOf vs).take (i + 1)).map (·.take 20) ∧ Hp w w' (Stb b3 pa vs3.length pc none 0 0 :: Rvs (.slice pa vs3.length pc) vs3 :: Sb b1 (some ⟨ba, oa, none⟩) cn am cm vs ms :: Stb b2 none 0 0 none 0 0 :: vsE vs3)) ?_ ?_
        · refine WC.regH (fun w' => Hp w w' [Sb b1 (some ⟨ba, oa, none⟩) cn am cm vs ms]) mixed (by kernel_rfl) (fun w5 hw5 hh5 => ?_)
          have hp5 := hp4.keep hw5
          have hS := hp5.pick [2] (by decide)
          refine WH.pure 0 (by kernel_rfl) rfl (by kernel_rfl) rfl rfl rfl (hS) ?_
          refine WH.pure 2 (by kernel_rfl) rfl (by kernel_rfl) rfl rfl rfl (hS) ?_
          refine WH.pure 3 (by kernel_rfl) rfl (by kernel_rfl) rfl rfl rfl (hS) ?_
          refine WH.load 4 (by kernel_rfl) rfl (by kernel_rfl) rfl rfl rfl rfl rfl (fun w' h => cell_of_obj (h.obj 0 rfl) (j := 0) rfl) hS ?_
          refine WH.pure 5 (by kernel_rfl) rfl (by kernel_rfl) rfl rfl rfl (hS) ?_
          refine WH.ix1 6 (by kernel_rfl) rfl (by kernel_rfl) rfl rfl rfl rfl rfl rfl rfl c1 hS ?_
          refine WH.load 7 (by kernel_rfl) rfl (by kernel_rfl) rfl rfl rfl rfl rfl (fun w' h => cell_below h.below hac) hS ?_
          refine WH.pure 8 (by kernel_rfl) rfl (by kernel_rfl) rfl rfl rfl (hS) ?_
          refine WH.load 9 (by kernel_rfl) rfl (by kernel_rfl) rfl rfl rfl rfl rfl (fun w' h => cell_of_obj (h.obj 0 rfl) (j := 0) rfl) hS ?_
          refine WH.pure 10 (by kernel_rfl) rfl (by kernel_rfl) rfl rfl rfl (hS) ?_
          refine WH.ix1 11 (by kernel_rfl) rfl (by kernel_rfl) rfl rfl rfl rfl rfl rfl rfl c1 hS ?_
          refine WH.load 12 (by kernel_rfl) rfl (by kernel_rfl) rfl rfl rfl rfl rfl (fun w' h => cell_below h.below hac) hS ?_
          refine WH.pure 13 (by kernel_rfl) rfl (by kernel_rfl) rfl rfl rfl (hS) ?_
          refine WH.pure 14 (by kernel_rfl) rfl (by kernel_rfl) rfl rfl rfl (hS) ?_
          refine WH.known (d := 31) (congrArg (fun z => some (Value.int .i64 z)) e14) ?_
          refine WH.take 15 (by kernel_rfl) rfl (by kernel_rfl) rfl rfl (fun w' h => ySlHi (h := m) rfl rfl rfl rfl (by omega)) hS ?_
          have hsl : ∀ {w' : World} {L : List Ent}, Hp w w' L → Sl w' vs[i].1 (zs (vs[i].2.2.take 20)) := fun {w' L} h => by
            have := ((hst.hp h).rows _ hx).take 20
            rwa [show (zs vs[i].2.2).take 20 = zs (vs[i].2.2.take 20) from by simp [zs, List.map_take]] at this
          have cl : ∀ {w9 : World} {pa2 pr : Option Addr} {pc2 pk : Nat}, Hp w w9 (.row 3 1 (.slice pr m pk) m ([] ++ zs (vs[i].2.2.take 20)) :: Stb b3 pa2 (vs2.length + 1) pc2 none 0 0 :: .row 22 1 (.slice pa2 (vs2.length + 1) pc2) (vs2.length + 1) (catV vs2 ++ [.slice pr m pk]) :: Sb b1 (some ⟨ba, oa, none⟩) cn am cm vs ms :: Stb b2 none 0 0 none 0 0 :: vsE vs2) →
              rowsOf (vs2 ++ [(pr, pk, vs[i].2.2.take 20)]) = ((rowsOf vs).take (i + 1)).map (·.take 20) ∧ Hp w w9 (Stb b3 pa2 (vs2 ++ [(pr, pk, vs[i].2.2.take 20)]).length pc2 none 0 0 :: Rvs (.slice pa2 (vs2 ++ [(pr, pk, vs[i].2.2.take 20)]).length pc2) (vs2 ++ [(pr, pk, vs[i].2.2.take 20)]) :: Sb b1 (some ⟨ba, oa, none⟩) cn am cm vs ms :: Stb b2 none 0 0 none 0 0 :: vsE (vs2 ++ [(pr, pk, vs[i].2.2.take 20)])) := by
            intro w9 pa2 pr pc2 pk h
            refine ⟨?_, ?_⟩
            · rw [takeV_succ (by rw [List.length_map]; exact c1), ← hvs]; simp [rowsOf]
            · rw [List.nil_append, ← hm2] at h
              have h2 := Hp.pickT (T := vsE vs2) [_, _, _, _, _] [2, 0, 1, 3, 4] h (by decide)
              have h3 := Hp.rowIn (X := [Stb b3 pa2 (vs2.length + 1) pc2 none 0 0, Sb b1 (some ⟨ba, oa, none⟩) cn am cm vs ms, Stb b2 none 0 0 none 0 0]) (x := (pr, pk, vs[i].2.2.take 20)) h2
              rw [show Stb b3 pa2 (vs2 ++ [(pr, pk, vs[i].2.2.take 20)]).length pc2 none 0 0 = Stb b3 pa2 (vs2.length + 1) pc2 none 0 0 by rw [List.length_append]; rfl]
              exact Hp.pickT (T := vsE (vs2 ++ [(pr, pk, vs[i].2.2.take 20)])) [_, _, _, _] [1, 0, 2, 3] h3 (by decide)
          refine WH.two 1 16 rfl rfl (by kernel_rfl) ?_ ?_
          · skip
            refine WL.loadB rfl rfl rfl rfl rfl (hp5.obj 0 rfl) (j := 0) rfl (WL.nil ⟨hp5.pick [2] (by decide), ?_⟩)
            refine WH.one 16 rfl (by kernel_rfl) ?_
            refine WL.append 0 (hp5.nilrow 3 1) rfl rfl rfl rfl rfl (by decide) rfl rfl rfl (news := zs (vs[i].2.2.take 20)) (hsl hp5) (by rw [zs_len, hm2]; exact (Nat.mul_one _).symm) (zs_cells _) (by unfold maxLen; omega) (by show (0 + m) * 8 ≤ _; omega) ?_
            intro pr pk wk0 hk0 _
            rw [Nat.zero_add] at hk0 ⊢
            refine WL.nil ⟨hk0.pick [3] (by decide), ?_⟩
            refine WH.one 17 rfl (by kernel_rfl) ?_
            refine WL.buildS (cs := [.slice pr m pk]) rfl rfl rfl rfl rfl rfl rfl rfl rfl (fun bq1 wq1 hq1 => ?_)
            have hz1 := hk0.new hq1
            refine WL.nil ⟨hz1.pick [4] (by decide), ?_⟩
            refine WH.one 18 rfl (by kernel_rfl) ?_
            refine WL.append 3 hz1 rfl rfl rfl rfl rfl (by decide) rfl rfl rfl (news := [.slice pr m pk]) (Sl.of_obj (hz1.obj 0 rfl) (fun q u hq => by simpa using hq)) rfl (Cells.cons rfl Cells.nil) (by unfold maxLen; omega) (by show (vs2.length + 1) * 24 ≤ _; omega) ?_
            intro paN pcN wN hN _
            have hSN := hN.pick [4] (by decide)
            refine WL.nil ⟨hSN, ?_⟩
            refine WH.pure 19 (by kernel_rfl) rfl (by kernel_rfl) rfl rfl rfl (hSN) ?_
            refine WH.one 20 rfl (by kernel_rfl) ?_
            refine WL.store rfl rfl rfl rfl rfl rfl (hN.obj 2 rfl) (of_decide_eq_true rfl) (fun wM hMs => ?_)
            have hM := (hN.set 2 rfl rfl hMs).tail
            refine WL.nil ⟨hM.pick [3] (by decide), WH.done (by kernel_rfl) ?_⟩
            exact ⟨(paN, pcN, vs2 ++ [(pr, pk, vs[i].2.2.take 20)]), ⟨rfl, rfl, rfl, rfl, rfl⟩, cl hM⟩
          · skip
            refine WL.append 0 (hp5.nilrow 3 1) rfl rfl rfl rfl rfl (by decide) rfl rfl rfl (news := zs (vs[i].2.2.take 20)) (hsl hp5) (by rw [zs_len, hm2]; exact (Nat.mul_one _).symm) (zs_cells _) (by unfold maxLen; omega) (by show (0 + m) * 8 ≤ _; omega) ?_
            intro pr pk wk0 hk0 _
            rw [Nat.zero_add] at hk0 ⊢
            refine WL.nil ⟨hk0.pick [3] (by decide), ?_⟩
            refine WH.two 1 17 rfl rfl (by kernel_rfl) ?_ ?_
            · skip
              refine WL.loadB rfl rfl rfl rfl rfl (hk0.obj 1 rfl) (j := 0) rfl (WL.nil ⟨hk0.pick [3] (by decide), ?_⟩)
              refine WH.one 17 rfl (by kernel_rfl) ?_
              refine WL.buildS (cs := [.slice pr m pk]) rfl rfl rfl rfl rfl rfl rfl rfl rfl (fun bq1 wq1 hq1 => ?_)
              have hz1 := hk0.new hq1
              refine WL.nil ⟨hz1.pick [4] (by decide), ?_⟩
              refine WH.one 18 rfl (by kernel_rfl) ?_
              refine WL.append 3 hz1 rfl rfl rfl rfl rfl (by decide) rfl rfl rfl (news := [.slice pr m pk]) (Sl.of_obj (hz1.obj 0 rfl) (fun q u hq => by simpa using hq)) rfl (Cells.cons rfl Cells.nil) (by unfold maxLen; omega) (by show (vs2.length + 1) * 24 ≤ _; omega) ?_
              intro paN pcN wN hN _
              have hSN := hN.pick [4] (by decide)
              refine WL.nil ⟨hSN, ?_⟩
              refine WH.pure 19 (by kernel_rfl) rfl (by kernel_rfl) rfl rfl rfl (hSN) ?_
              refine WH.one 20 rfl (by kernel_rfl) ?_
              refine WL.store rfl rfl rfl rfl rfl rfl (hN.obj 2 rfl) (of_decide_eq_true rfl) (fun wM hMs => ?_)
              have hM := (hN.set 2 rfl rfl hMs).tail
              refine WL.nil ⟨hM.pick [3] (by decide), WH.done (by kernel_rfl) ?_⟩
              exact ⟨(paN, pcN, vs2 ++ [(pr, pk, vs[i].2.2.take 20)]), ⟨rfl, rfl, rfl, rfl, rfl⟩, cl hM⟩
            · skip
              refine WL.buildS (cs := [.slice pr m pk]) rfl rfl rfl rfl rfl rfl rfl rfl rfl (fun bq1 wq1 hq1 => ?_)
              have hz1 := hk0.new hq1
              refine WL.nil ⟨hz1.pick [4] (by decide), ?_⟩
              refine WH.one 1 rfl (by kernel_rfl) ?_
              refine WL.loadB rfl rfl rfl rfl rfl (hz1.obj 2 rfl) (j := 0) rfl (WL.nil ⟨hz1.pick [4] (by decide), ?_⟩)
              refine WH.one 18 rfl (by kernel_rfl) ?_
              refine WL.append 3 hz1 rfl rfl rfl rfl rfl (by decide) rfl rfl rfl (news := [.slice pr m pk]) (Sl.of_obj (hz1.obj 0 rfl) (fun q u hq => by simpa using hq)) rfl (Cells.cons rfl Cells.nil) (by unfold maxLen; omega) (by show (vs2.length + 1) * 24 ≤ _; omega) ?_
              intro paN pcN wN hN _
              have hSN := hN.pick [4] (by decide)
              refine WL.nil ⟨hSN, ?_⟩
              refine WH.pure 19 (by kernel_rfl) rfl (by kernel_rfl) rfl rfl rfl (hSN) ?_
              refine WH.one 20 rfl (by kernel_rfl) ?_
              refine WL.store rfl rfl rfl rfl rfl rfl (hN.obj 2 rfl) (of_decide_eq_true rfl) (fun wM hMs => ?_)
              have hM := (hN.set 2 rfl rfl hMs).tail
              refine WL.nil ⟨hM.pick [3] (by decide), WH.done (by kernel_rfl) ?_⟩
              exact ⟨(paN, pcN, vs2 ++ [(pr, pk, vs[i].2.2.take 20)]), ⟨rfl, rfl, rfl, rfl, rfl⟩, cl hM⟩
        · rintro ⟨pa, pc, vs3⟩ e5 w5 hsub ⟨hvs3, hp5⟩
          refine WC.sub hsub ?_
          repeat (first | refine zA ?_ | refine zB ?_ | refine zC rfl rfl rfl ?_ | refine zD ?_ | refine zE ?_ | refine zF ?_ | refine zG rfl ?_ | refine zH rfl ?_ | refine zI rfl rfl rfl ?_ | refine zJ rfl rfl ?_ | refine zK ?_ | refine zL ?_ | refine zM rfl ?_ | refine zN ?_)
          exact ⟨(i + 1, pa, pc, vs3), (by show 20 - (i + 1) < 20 - i; omega), ⟨rfl, rfl, rfl, congrArg (fun z => some (Value.int .i64 z)) step, rfl⟩, c1, c2, hvs3, hp5⟩
      · have c2 : ¬ i < 20 := by have h : ¬ ((i : Nat) : Int) < 20 := of_decide_eq_false c2; omega
        repeat (first | refine zA ?_ | refine zB ?_ | refine zC rfl rfl rfl ?_ | refine zD ?_ | refine zE ?_ | refine zF ?_ | refine zG rfl ?_ | refine zH rfl ?_ | refine zI rfl rfl rfl ?_ | refine zJ rfl rfl ?_ | refine zK ?_ | refine zL ?_ | refine zM rfl ?_ | refine zN ?_)
        exact ⟨(na, nc, vs2), ⟨rfl, rfl, rfl, rfl⟩, fin (.inr c2), hp4⟩
    · have c1 : ¬ i < vs.length := by have h : ¬ ((i : Nat) : Int) < ((vs.length : Nat) : Int) := of_decide_eq_false c1; omega
      repeat (first | refine zA ?_ | refine zB ?_ | refine zC rfl rfl rfl ?_ | refine zD ?_ | refine zE ?_ | refine zF ?_ | refine zG rfl ?_ | refine zH rfl ?_ | refine zI rfl rfl rfl ?_ | refine zJ rfl rfl ?_ | refine zK ?_ | refine zL ?_ | refine zM rfl ?_ | refine zN ?_)
      exact ⟨(na, nc, vs2), ⟨rfl, rfl, rfl, rfl⟩, fin (.inl c1), hp4⟩
  rintro ⟨na, nc, vs2⟩ e4 w4 hsub ⟨hvs, hp4⟩
  refine WC.sub hsub ?_
  clear hsub e4 hp3 hp2 hp1
  replace hp4 : Hp w w4 (Stb b3 na vs2.length nc none 0 0 :: Rvs (.slice na vs2.length nc) vs2 :: Sb b1 an cn am cm vs ms :: Stb b2 none 0 0 none 0 0 :: vsE vs2) := hp4
  obtain ⟨m, hm⟩ : ∃ m, m = min ms.length 20 := ⟨_, rfl⟩
  have hm2 : (ms.take 20).length = m := by rw [List.length_take, hm, Nat.min_comm]
  have e7 : min ((ms.length : Nat) : Int) 20 = ((m : Nat) : Int) := by rw [hm]; omega
  refine WC.seq ?_
  refine WC.mid (Option Addr × Nat) (fun _ => [(2, ptr b2), (3, ptr b3)])
    (fun (ma, mc) w' => Hp w w' (Stb b3 na vs2.length nc ma m mc :: Rvs (.slice na vs2.length nc) vs2 :: .row 3 1 (.slice ma m mc) m (zs (ms.take 20)) :: Stb b2 none 0 0 none 0 0 :: vsE vs2)) ?_ ?_
  · refine WC.regH (fun w' => Hp w w' [Sb b1 an cn am cm vs ms]) mixed (by kernel_rfl) (fun w5 hw5 hh5 => ?_)
    have hp5 := hp4.keep hw5
    have hS := hp5.pick [2] (by decide)
    refine WH.pure 0 (by kernel_rfl) rfl (by kernel_rfl) rfl rfl rfl (hS) ?_
    refine WH.pure 2 (by kernel_rfl) rfl (by kernel_rfl) rfl rfl rfl (hS) ?_
    refine WH.load 3 (by kernel_rfl) rfl (by kernel_rfl) rfl rfl rfl rfl rfl (fun w' h => cell_of_obj (h.obj 0 rfl) (j := 1) rfl) hS ?_
    refine WH.pure 4 (by kernel_rfl) rfl (by kernel_rfl) rfl rfl rfl (hS) ?_
    refine WH.load 5 (by kernel_rfl) rfl (by kernel_rfl) rfl rfl rfl rfl rfl (fun w' h => cell_of_obj (h.obj 0 rfl) (j := 1) rfl) hS ?_
    refine WH.pure 6 (by kernel_rfl) rfl (by kernel_rfl) rfl rfl rfl (hS) ?_
    refine WH.pure 7 (by kernel_rfl) rfl (by kernel_rfl) rfl rfl rfl (hS) ?_
    refine WH.known (d := 44) (congrArg (fun z => some (Value.int .i64 z)) e7) ?_
    refine WH.take 8 (by kernel_rfl) rfl (by kernel_rfl) rfl rfl (fun w' h => ySlHi (h := m) rfl rfl rfl rfl (by omega)) hS ?_
    refine WH.one 1 rfl (by kernel_rfl) ?_
    refine WL.loadB rfl rfl rfl rfl rfl (hp5.obj 0 rfl) (j := 1) rfl (WL.nil ⟨hS, ?_⟩)
    refine WH.one 9 rfl (by kernel_rfl) ?_
    refine WL.append 0 (hp5.nilrow 3 1) rfl rfl rfl rfl rfl (by decide) rfl rfl rfl (news := zs (ms.take 20)) (by
      have := ((hst.hp hp5).mks).take 20
      rwa [show (zs ms).take 20 = zs (ms.take 20) from by simp [zs, List.map_take]] at this) (by rw [zs_len, hm2]; exact (Nat.mul_one _).symm) (zs_cells _) (by unfold maxLen; omega) (by show (0 + m) * 8 ≤ _; omega) ?_
    intro ma mc w6 hp6 _
    rw [Nat.zero_add] at hp6 ⊢
    replace hp6 : Hp w w6 (.row 3 1 (.slice ma m mc) m (zs (ms.take 20)) :: Stb b3 na vs2.length nc none 0 0 :: Rvs (.slice na vs2.length nc) vs2 :: Sb b1 an cn am cm vs ms :: Stb b2 none 0 0 none 0 0 :: vsE vs2) := hp6
    have hS := hp6.pick [3] (by decide)
    refine WL.nil ⟨hS, ?_⟩
    refine WH.pure 10 (by kernel_rfl) rfl (by kernel_rfl) rfl rfl rfl (hS) ?_
    refine WH.one 11 rfl (by kernel_rfl) ?_
    refine WL.store rfl rfl rfl rfl rfl rfl (hp6.obj 1 rfl) (Nat.lt_succ_self 1) (fun w7 h7 => ?_)
    have hp7 := hp6.set 1 rfl rfl h7
    refine WL.nil ⟨hp7.pick [3] (by decide), WH.done (by kernel_rfl) ?_⟩
    exact ⟨(ma, mc), ⟨rfl, rfl, rfl⟩, Hp.pickT (T := vsE vs2) [_, _, _, _, _] [1, 2, 0, 4] hp7 (by decide)⟩
  rintro ⟨ma, mc⟩ e5 w5 hsub hp5
  refine WC.sub hsub ?_
  clear hsub e5 hp4
  replace hp5 : Hp w w5 (Stb b3 na vs2.length nc ma m mc :: Rvs (.slice na vs2.length nc) vs2 :: .row 3 1 (.slice ma m mc) m (zs (ms.take 20)) :: Stb b2 none 0 0 none 0 0 :: vsE vs2) := hp5
  repeat (first | refine zA ?_ | refine zB ?_ | refine zC rfl rfl rfl ?_ | refine zD ?_ | refine zE ?_ | refine zF ?_ | refine zG rfl ?_ | refine zH rfl ?_ | refine zI rfl rfl rfl ?_ | refine zJ rfl rfl ?_ | refine zK ?_ | refine zL ?_ | refine zM rfl ?_ | refine zN ?_)
  refine WL.loadN rfl rfl rfl rfl rfl (cs := [.slice na vs2.length nc, .slice ma m mc]) rfl (fun q v hq => cell_of_obj (hp5.obj 0 rfl) (by rw [Nat.zero_add]; simpa using hq)) ?_
  refine WL.storeN rfl rfl rfl rfl rfl (by simp [Value.oneCell']) (hp5.obj 3 rfl) (Nat.le_refl _) rfl (fun w6 h6 => ?_)
  have hp6 := hp5.set 3 rfl rfl h6
  repeat (first | refine zA ?_ | refine zB ?_ | refine zC rfl rfl rfl ?_ | refine zD ?_ | refine zE ?_ | refine zF ?_ | refine zG rfl ?_ | refine zH rfl ?_ | refine zI rfl rfl rfl ?_ | refine zJ rfl rfl ?_ | refine zK ?_ | refine zL ?_ | refine zM rfl ?_ | refine zN ?_)
  rw [hm2]
  refine Res.cell rfl rfl rfl rfl rfl rfl (hp6.obj 3 rfl) ⟨na, nc, ma, mc, vs2, rfl, hvs, ?_⟩
  have := Hp.pickT (T := vsE vs2) [_, _, _, _] [1, 2] hp6 (by decide)
  unfold Ri
  rw [hm2]
  exact this
end Go.Proofs.YtpbbneclkhfgoaaDoor
end
section
/- ltl, forty-fifth: the reference's Structure. -/
namespace Go.Proofs.YtpbbneclkhfgoaaDoor
open Go.W Go.Ltl Go.RowKit
set_option maxRecDepth 100000
set_option linter.unusedSectionVars false
attribute [local irreducible] WC WL WQ WS WH

def rowsOf2 (vs : Vs) (k : Nat) : List Int := (vs.map fun x => x.2.2).getD k []
theorem rStructure_any (an : Option Addr) (cn : Nat) (am : Option Addr) (cm : Nat) (vs : Vs) (ms : List Int) (hvl : vs.length ≤ 1000000) (hms : ms.length ≤ 1000000) (hvs : ∀ x ∈ vs, x.2.2.length ≤ 1000000) (w : World) (hst : Stc w an am vs ms) :
    Ret Tryd.prog 39 [stV an cn am cm vs ms] w fun v w' => v = .bool (strB vs ms) ∧ Hp w w' [] := by
  refine enter Tryd.func39 rfl rfl ⟨rfl, rfl⟩ rfl ?_
  repeat (first | refine zA ?_ | refine zB ?_ | refine zC rfl rfl rfl ?_ | refine zD ?_ | refine zE ?_ | refine zF ?_ | refine zG rfl ?_ | refine zH rfl ?_ | refine zI rfl rfl rfl ?_ | refine zJ rfl rfl ?_ | refine zK ?_ | refine zL ?_ | refine zM rfl ?_ | refine zN ?_)
  refine WL.box rfl rfl rfl (fun b w1 h1 => ?_)
  have hp1 : Hp w w1 [Sb b an cn am cm vs ms] := (Hp.start w).new h1
  repeat (first | refine zA ?_ | refine zB ?_ | refine zC rfl rfl rfl ?_ | refine zD ?_ | refine zE ?_ | refine zF ?_ | refine zG rfl ?_ | refine zH rfl ?_ | refine zI rfl rfl rfl ?_ | refine zJ rfl rfl ?_ | refine zK ?_ | refine zL ?_ | refine zM rfl ?_ | refine zN ?_)
  refine WL.loadB rfl rfl rfl rfl rfl (hp1.obj 0 rfl) (j := 0) rfl ?_
  repeat (first | refine zA ?_ | refine zB ?_ | refine zC rfl rfl rfl ?_ | refine zD ?_ | refine zE ?_ | refine zF ?_ | refine zG rfl ?_ | refine zH rfl ?_ | refine zI rfl rfl rfl ?_ | refine zJ rfl rfl ?_ | refine zK ?_ | refine zL ?_ | refine zM rfl ?_ | refine zN ?_)
  refine WL.split 11 rfl (fun c1 => ?_) (fun c1 => ?_)
  · have c1 : ¬ 1 ≤ vs.length := by have := of_decide_eq_true c1; omega
    have e1 : strB vs ms = false := by unfold strB; rw [decide_eq_false c1]; rfl
    rw [e1]
    repeat (first | refine zA ?_ | refine zB ?_ | refine zC rfl rfl rfl ?_ | refine zD ?_ | refine zE ?_ | refine zF ?_ | refine zG rfl ?_ | refine zH rfl ?_ | refine zI rfl rfl rfl ?_ | refine zJ rfl rfl ?_ | refine zK ?_ | refine zL ?_ | refine zM rfl ?_ | refine zN ?_)
    exact Res.one rfl rfl rfl ⟨rfl, hp1.nil'⟩
  have c1 : 1 ≤ vs.length := by have := of_decide_eq_false c1; omega
  repeat (first | refine zA ?_ | refine zB ?_ | refine zC rfl rfl rfl ?_ | refine zD ?_ | refine zE ?_ | refine zF ?_ | refine zG rfl ?_ | refine zH rfl ?_ | refine zI rfl rfl rfl ?_ | refine zJ rfl rfl ?_ | refine zK ?_ | refine zL ?_ | refine zM rfl ?_ | refine zN ?_)
  refine WL.split 15 rfl (fun c2 => ?_) (fun c2 => ?_)
  · have c2 : ¬ vs.length ≤ 16 := by have := of_decide_eq_true c2; omega
    have e1 : strB vs ms = false := by unfold strB; rw [decide_eq_false c2, Bool.and_false]; rfl
    rw [e1]
    repeat (first | refine zA ?_ | refine zB ?_ | refine zC rfl rfl rfl ?_ | refine zD ?_ | refine zE ?_ | refine zF ?_ | refine zG rfl ?_ | refine zH rfl ?_ | refine zI rfl rfl rfl ?_ | refine zJ rfl rfl ?_ | refine zK ?_ | refine zL ?_ | refine zM rfl ?_ | refine zN ?_)
    exact Res.one rfl rfl rfl ⟨rfl, hp1.nil'⟩
  have c2 : vs.length ≤ 16 := by have := of_decide_eq_false c2; omega
  repeat (first | refine zA ?_ | refine zB ?_ | refine zC rfl rfl rfl ?_ | refine zD ?_ | refine zE ?_ | refine zF ?_ | refine zG rfl ?_ | refine zH rfl ?_ | refine zI rfl rfl rfl ?_ | refine zJ rfl rfl ?_ | refine zK ?_ | refine zL ?_ | refine zM rfl ?_ | refine zN ?_)
  refine WL.loadB rfl rfl rfl rfl rfl (hp1.obj 0 rfl) (j := 1) rfl ?_
  repeat (first | refine zA ?_ | refine zB ?_ | refine zC rfl rfl rfl ?_ | refine zD ?_ | refine zE ?_ | refine zF ?_ | refine zG rfl ?_ | refine zH rfl ?_ | refine zI rfl rfl rfl ?_ | refine zJ rfl rfl ?_ | refine zK ?_ | refine zL ?_ | refine zM rfl ?_ | refine zN ?_)
  cases c3 : decide (ms.length = vs.length) with
  | false =>
    have hne : ms.length ≠ vs.length := of_decide_eq_false c3
    have e1 : strB vs ms = false := by unfold strB; rw [c3, Bool.and_false]; rfl
    refine WC.cond rfl (fun _ => ?_) (fun c => ?_)
    · rw [e1]
      repeat (first | refine zA ?_ | refine zB ?_ | refine zC rfl rfl rfl ?_ | refine zD ?_ | refine zE ?_ | refine zF ?_ | refine zG rfl ?_ | refine zH rfl ?_ | refine zI rfl rfl rfl ?_ | refine zJ rfl rfl ?_ | refine zK ?_ | refine zL ?_ | refine zM rfl ?_ | refine zN ?_)
      exact Res.one rfl rfl rfl ⟨rfl, hp1.nil'⟩
    · have c : (!(((ms.length : Nat) : Int) == ((vs.length : Nat) : Int))) = false := c
      simp only [Bool.not_eq_false', beq_iff_eq] at c
      omega
  | true =>
    have heq : ms.length = vs.length := of_decide_eq_true c3
    refine WC.cond rfl (fun c => ?_) (fun _ => ?_)
    · have c : (!(((ms.length : Nat) : Int) == ((vs.length : Nat) : Int))) = true := c
      rw [heq] at c
      simp at c
    have hstr : strB vs ms = (ms.all markB && vs.all fun x => rowB vs.length x.2.2) := by
      unfold strB; rw [decide_eq_true c1, decide_eq_true c2, decide_eq_true heq]; rfl
    repeat (first | refine zA ?_ | refine zB ?_ | refine zC rfl rfl rfl ?_ | refine zD ?_ | refine zE ?_ | refine zF ?_ | refine zG rfl ?_ | refine zH rfl ?_ | refine zI rfl rfl rfl ?_ | refine zJ rfl rfl ?_ | refine zK ?_ | refine zL ?_ | refine zM rfl ?_ | refine zN ?_)
    refine WC.loop Nat (fun i => [(1, ptr b), (3, .int .i64 (vs.length : Nat)), (4, .int .i64 (i : Nat))])
      (fun i w' => i ≤ vs.length ∧ (∀ k, k < i → markB (ms.getD k 0) = true ∧ rowB vs.length (rowsOf2 vs k) = true) ∧ Hp w w' [Sb b an cn am cm vs ms]) (fun i => vs.length - i) 0 ⟨rfl, rfl, rfl, rfl⟩ ⟨Nat.zero_le _, fun k hk => by omega, hp1⟩ ?_
    clear hp1 h1
    rintro i w2 ⟨hi, hall, hp1⟩
    replace hp1 : Hp w w2 [Sb b an cn am cm vs ms] := hp1
    replace hi : i ≤ vs.length := hi
    repeat (first | refine zA ?_ | refine zB ?_ | refine zC rfl rfl rfl ?_ | refine zD ?_ | refine zE ?_ | refine zF ?_ | refine zG rfl ?_ | refine zH rfl ?_ | refine zI rfl rfl rfl ?_ | refine zJ rfl rfl ?_ | refine zK ?_ | refine zL ?_ | refine zM rfl ?_ | refine zN ?_)
    refine WC.cond rfl (fun h2 => ?_) (fun h2 => ?_)
    · have hi : i < vs.length := by have := of_decide_eq_true h2; omega
      have him : i < ms.length := by omega
      have step := wrap_succ (i := i) (n := i + 1) (by omega) (by omega)
      have hsl := (hst.hp hp1).rows _ (List.getElem_mem hi)
      have hlen := hvs _ (List.getElem_mem hi)
      have hxm := List.getElem_mem hi
      have hrow : rowsOf2 vs i = vs[i].2.2 := by unfold rowsOf2; rw [List.getD_eq_getElem?_getD, List.getElem?_map, List.getElem?_eq_getElem hi]; rfl
      have hmk : ms.getD i 0 = ms[i] := by simp [him]
      have hbad : (markB ms[i] = false ∨ rowB vs.length vs[i].2.2 = false) → strB vs ms = false := by
        rw [hstr]
        rintro (h | h)
        · rw [List.all_eq_false.2 ⟨_, List.getElem_mem him, by rw [h]; simp⟩]; rfl
        · rw [List.all_eq_false.2 ⟨_, List.getElem_mem hi, by rw [h]; simp⟩, Bool.and_false]
      have hstep : markB ms[i] = true → rowB vs.length vs[i].2.2 = true → ∀ k, k < i + 1 → markB (ms.getD k 0) = true ∧ rowB vs.length (rowsOf2 vs k) = true := by
        intro h1 h2 k hk
        rcases Nat.lt_or_ge k i with h | h
        · exact hall k h
        · rw [show k = i by omega, hmk, hrow]; exact ⟨h1, h2⟩
      obtain ⟨x, hx⟩ : ∃ x, x = vs[i] := ⟨_, rfl⟩
      have hcat := catV_at hi
      rw [← hx] at hsl hlen hbad hstep hcat hxm
      clear hrow hx
      obtain ⟨ra, rc, l⟩ := x
      replace hsl : Sl w2 ra (zs l) := hsl
      replace hlen : l.length ≤ 1000000 := hlen
      replace hbad : (markB ms[i] = false ∨ rowB vs.length l = false) → strB vs ms = false := hbad
      replace hstep : markB ms[i] = true → rowB vs.length l = true → ∀ k, k < i + 1 → markB (ms.getD k 0) = true ∧ rowB vs.length (rowsOf2 vs k) = true := hstep
      replace hcat : (catV vs)[i]? = some (.slice ra l.length rc) := hcat
      repeat (first | refine zA ?_ | refine zB ?_ | refine zC rfl rfl rfl ?_ | refine zD ?_ | refine zE ?_ | refine zF ?_ | refine zG rfl ?_ | refine zH rfl ?_ | refine zI rfl rfl rfl ?_ | refine zJ rfl rfl ?_ | refine zK ?_ | refine zL ?_ | refine zM rfl ?_ | refine zN ?_)
      refine WL.loadB rfl rfl rfl rfl rfl (hp1.obj 0 rfl) (j := 1) rfl ?_
      refine WL.pure rfl rfl rfl ?_
      refine WL.ixload rfl (fun _ => rfl) rfl rfl rfl rfl rfl rfl rfl him rfl rfl (hst.hp hp1).mks (zs_at him) ?_
      intro q0
      repeat (first | refine zA ?_ | refine zB ?_ | refine zC rfl rfl rfl ?_ | refine zD ?_ | refine zE ?_ | refine zF ?_ | refine zG rfl ?_ | refine zH rfl ?_ | refine zI rfl rfl rfl ?_ | refine zJ rfl rfl ?_ | refine zK ?_ | refine zL ?_ | refine zM rfl ?_ | refine zN ?_)
      refine WL.split 33 rfl (fun c4 => ?_) (fun c4 => ?_)
      · have c4 : ms[i] < 0 := of_decide_eq_true c4
        rw [hbad (.inl (by unfold markB; rw [decide_eq_false (show ¬ 0 ≤ ms[i] by omega)]; rfl))]
        repeat (first | refine zA ?_ | refine zB ?_ | refine zC rfl rfl rfl ?_ | refine zD ?_ | refine zE ?_ | refine zF ?_ | refine zG rfl ?_ | refine zH rfl ?_ | refine zI rfl rfl rfl ?_ | refine zJ rfl rfl ?_ | refine zK ?_ | refine zL ?_ | refine zM rfl ?_ | refine zN ?_)
        exact Res.one rfl rfl rfl ⟨rfl, hp1.nil'⟩
      have c4 : 0 ≤ ms[i] := by have := of_decide_eq_false c4; omega
      repeat (first | refine zA ?_ | refine zB ?_ | refine zC rfl rfl rfl ?_ | refine zD ?_ | refine zE ?_ | refine zF ?_ | refine zG rfl ?_ | refine zH rfl ?_ | refine zI rfl rfl rfl ?_ | refine zJ rfl rfl ?_ | refine zK ?_ | refine zL ?_ | refine zM rfl ?_ | refine zN ?_)
      refine WL.loadB rfl rfl rfl rfl rfl (hp1.obj 0 rfl) (j := 1) rfl ?_
      refine WL.pure rfl rfl rfl ?_
      refine WL.ixload rfl (fun _ => rfl) rfl rfl rfl rfl rfl rfl rfl him rfl rfl (hst.hp hp1).mks (zs_at him) ?_
      intro q1
      repeat (first | refine zA ?_ | refine zB ?_ | refine zC rfl rfl rfl ?_ | refine zD ?_ | refine zE ?_ | refine zF ?_ | refine zG rfl ?_ | refine zH rfl ?_ | refine zI rfl rfl rfl ?_ | refine zJ rfl rfl ?_ | refine zK ?_ | refine zL ?_ | refine zM rfl ?_ | refine zN ?_)
      refine WL.split 41 rfl (fun c5 => ?_) (fun c5 => ?_)
      · have c5 : 15 < ms[i] := of_decide_eq_true c5
        rw [hbad (.inl (by unfold markB; rw [decide_eq_false (show ¬ ms[i] ≤ 15 by omega), Bool.and_false]))]
        repeat (first | refine zA ?_ | refine zB ?_ | refine zC rfl rfl rfl ?_ | refine zD ?_ | refine zE ?_ | refine zF ?_ | refine zG rfl ?_ | refine zH rfl ?_ | refine zI rfl rfl rfl ?_ | refine zJ rfl rfl ?_ | refine zK ?_ | refine zL ?_ | refine zM rfl ?_ | refine zN ?_)
        exact Res.one rfl rfl rfl ⟨rfl, hp1.nil'⟩
      have c5 : ms[i] ≤ 15 := by have h : ¬ 15 < ms[i] := of_decide_eq_false c5; omega
      have hmb : markB ms[i] = true := by unfold markB; rw [decide_eq_true c4, decide_eq_true c5]; rfl
      repeat (first | refine zA ?_ | refine zB ?_ | refine zC rfl rfl rfl ?_ | refine zD ?_ | refine zE ?_ | refine zF ?_ | refine zG rfl ?_ | refine zH rfl ?_ | refine zI rfl rfl rfl ?_ | refine zJ rfl rfl ?_ | refine zK ?_ | refine zL ?_ | refine zM rfl ?_ | refine zN ?_)
      refine WL.loadB rfl rfl rfl rfl rfl (hp1.obj 0 rfl) (j := 0) rfl ?_
      refine WL.pure rfl rfl rfl ?_
      refine WL.ixload rfl (fun _ => rfl) rfl rfl rfl rfl rfl rfl rfl hi rfl rfl (hst.hp hp1).nx hcat ?_
      intro q2
      repeat (first | refine zA ?_ | refine zB ?_ | refine zC rfl rfl rfl ?_ | refine zD ?_ | refine zE ?_ | refine zF ?_ | refine zG rfl ?_ | refine zH rfl ?_ | refine zI rfl rfl rfl ?_ | refine zJ rfl rfl ?_ | refine zK ?_ | refine zL ?_ | refine zM rfl ?_ | refine zN ?_)
      refine WC.cond rfl (fun h3 => ?_) (fun h3 => ?_)
      · have h3 : l = [] := List.eq_nil_of_length_eq_zero (by have h5 : (((l.length : Nat) : Int) == 0) = true := h3; rw [beq_iff_eq] at h5; omega)
        rw [hbad (.inr (by unfold rowB; rw [h3]; rfl))]
        repeat (first | refine zA ?_ | refine zB ?_ | refine zC rfl rfl rfl ?_ | refine zD ?_ | refine zE ?_ | refine zF ?_ | refine zG rfl ?_ | refine zH rfl ?_ | refine zI rfl rfl rfl ?_ | refine zJ rfl rfl ?_ | refine zK ?_ | refine zL ?_ | refine zM rfl ?_ | refine zN ?_)
        exact Res.one rfl rfl rfl ⟨rfl, hp1.nil'⟩
      have h3 : l ≠ [] := fun h => by rw [h] at h3; cases h3
      repeat (first | refine zA ?_ | refine zB ?_ | refine zC rfl rfl rfl ?_ | refine zD ?_ | refine zE ?_ | refine zF ?_ | refine zG rfl ?_ | refine zH rfl ?_ | refine zI rfl rfl rfl ?_ | refine zJ rfl rfl ?_ | refine zK ?_ | refine zL ?_ | refine zM rfl ?_ | refine zN ?_)
      obtain ⟨ba, oa, hae, hac⟩ := hst.nx i _ hcat
      have hslw : Sl w ra (zs l) := hst.rows _ hxm
      obtain ⟨br, orr, hre, hrc⟩ := hslw 0 (.int .i64 (l.getD 0 0)) (zs_getD (List.length_pos_iff.2 h3))
      subst hae
      subst hre
      refine WC.loop Nat (fun j => [(1, ptr b), (3, .int .i64 (vs.length : Nat)), (4, .int .i64 (i : Nat)), (5, .int .i64 (j : Nat))])
        (fun j w' => j ≤ l.length ∧ (List.range j).all (sucB vs.length l) = true ∧ Hp w w' [Sb b (some ⟨ba, oa, none⟩) cn am cm vs ms]) (fun j => l.length - j) 0 ⟨rfl, rfl, rfl, rfl, rfl⟩ ⟨Nat.zero_le _, by simp, hp1⟩ ?_
      clear hp1 hsl
      rintro j w4 ⟨hj, hsu, hp1⟩
      replace hp1 : Hp w w4 [Sb b (some ⟨ba, oa, none⟩) cn am cm vs ms] := hp1
      replace hsu : (List.range j).all (sucB vs.length l) = true := hsu
      repeat (first | refine zA ?_ | refine zB ?_ | refine zC rfl rfl rfl ?_ | refine zD ?_ | refine zE ?_ | refine zF ?_ | refine zG rfl ?_ | refine zH rfl ?_ | refine zI rfl rfl rfl ?_ | refine zJ rfl rfl ?_ | refine zK ?_ | refine zL ?_ | refine zM rfl ?_ | refine zN ?_)
      refine WL.loadB rfl rfl rfl rfl rfl (hp1.obj 0 rfl) (j := 0) rfl ?_
      refine WL.pure rfl rfl rfl ?_
      refine WL.ixload rfl (fun _ => rfl) rfl rfl rfl rfl rfl rfl rfl hi rfl rfl (hst.hp hp1).nx hcat ?_
      intro q3
      repeat (first | refine zA ?_ | refine zB ?_ | refine zC rfl rfl rfl ?_ | refine zD ?_ | refine zE ?_ | refine zF ?_ | refine zG rfl ?_ | refine zH rfl ?_ | refine zI rfl rfl rfl ?_ | refine zJ rfl rfl ?_ | refine zK ?_ | refine zL ?_ | refine zM rfl ?_ | refine zN ?_)
      refine WC.cond rfl (fun h4 => ?_) (fun h4 => ?_)
      · have hj : j < l.length := by have := of_decide_eq_true h4; omega
        have stepj := wrap_succ (i := j) (n := j + 1) (by omega) (by omega)
        have hgj : l.getD j 0 = l[j] := by simp [hj]
        have hno : sucB vs.length l j = false → rowB vs.length l = false := by
          intro h
          unfold rowB
          rw [List.all_eq_false.2 ⟨j, List.mem_range.2 hj, by rw [h]; simp⟩, Bool.and_false]
        have hyes : sucB vs.length l j = true → (List.range (j + 1)).all (sucB vs.length l) = true := by
          intro h
          rw [List.range_succ, List.all_append, hsu, List.all_cons, h]; rfl
        have hcj := Sl.cell hslw (zs_at hj)
        repeat (first | refine zA ?_ | refine zB ?_ | refine zC rfl rfl rfl ?_ | refine zD ?_ | refine zE ?_ | refine zF ?_ | refine zG rfl ?_ | refine zH rfl ?_ | refine zI rfl rfl rfl ?_ | refine zJ rfl rfl ?_ | refine zK ?_ | refine zL ?_ | refine zM rfl ?_ | refine zN ?_)
        refine WC.mid Bool (fun r => [(1, ptr b), (3, .int .i64 (vs.length : Nat)), (4, .int .i64 (i : Nat)), (5, .int .i64 (j : Nat)), (104, .bool r)])
          (fun r w' => r = !sucB vs.length l j ∧ Hp w w' [Sb b (some ⟨ba, oa, none⟩) cn am cm vs ms]) ?_ ?_
        · refine WC.regQ (fun w' => Hp w w' [Sb b (some ⟨ba, oa, none⟩) cn am cm vs ms]) mixed (by kernel_rfl) (fun w' hw' => hp1.keep hw') ?_
          repeat (first | refine WQ.pure rfl rfl rfl ?_ | refine WQ.off rfl rfl rfl ?_ | refine WQ.nil ?_)
          refine WQ.load rfl rfl rfl rfl rfl (fun w' h => cell_of_obj (h.obj 0 rfl) (j := 0) rfl) ?_
          repeat (first | refine WQ.pure rfl rfl rfl ?_ | refine WQ.off rfl rfl rfl ?_ | refine WQ.nil ?_)
          refine WQ.ixload rfl (fun _ => rfl) rfl rfl rfl rfl rfl rfl rfl hi rfl rfl (fun w' h => cell_below h.below hac) ?_
          repeat (first | refine WQ.pure rfl rfl rfl ?_ | refine WQ.off rfl rfl rfl ?_ | refine WQ.nil ?_)
          refine WQ.ixload rfl (fun _ => rfl) rfl rfl rfl rfl rfl rfl rfl hj rfl rfl (fun w' h => cell_below h.below hcj) ?_
          repeat (first | refine WQ.pure rfl rfl rfl ?_ | refine WQ.off rfl rfl rfl ?_ | refine WQ.nil ?_)
          refine WQ.split 69 rfl (fun c5 => ?_) (fun c5 => ?_)
          · have c5 : l[j] < 0 := of_decide_eq_true c5
            repeat (first | refine WQ.pure rfl rfl rfl ?_ | refine WQ.off rfl rfl rfl ?_ | refine WQ.nil ?_)
            intro w' h
            exact ⟨_, ⟨rfl, rfl, rfl, rfl, rfl, rfl⟩, by unfold sucB; rw [hgj, decide_eq_false (show ¬ 0 ≤ l[j] by omega)]; rfl, h⟩
          have c5 : 0 ≤ l[j] := by have := of_decide_eq_false c5; omega
          repeat (first | refine WQ.pure rfl rfl rfl ?_ | refine WQ.off rfl rfl rfl ?_ | refine WQ.nil ?_)
          refine WQ.load rfl rfl rfl rfl rfl (fun w' h => cell_of_obj (h.obj 0 rfl) (j := 0) rfl) ?_
          repeat (first | refine WQ.pure rfl rfl rfl ?_ | refine WQ.off rfl rfl rfl ?_ | refine WQ.nil ?_)
          refine WQ.ixload rfl (fun _ => rfl) rfl rfl rfl rfl rfl rfl rfl hi rfl rfl (fun w' h => cell_below h.below hac) ?_
          repeat (first | refine WQ.pure rfl rfl rfl ?_ | refine WQ.off rfl rfl rfl ?_ | refine WQ.nil ?_)
          refine WQ.ixload rfl (fun _ => rfl) rfl rfl rfl rfl rfl rfl rfl hj rfl rfl (fun w' h => cell_below h.below hcj) ?_
          repeat (first | refine WQ.pure rfl rfl rfl ?_ | refine WQ.off rfl rfl rfl ?_ | refine WQ.nil ?_)
          refine WQ.split 81 rfl (fun c6 => ?_) (fun c6 => ?_)
          · have c6 : ¬ l[j] < (vs.length : Int) := by have := of_decide_eq_true c6; omega
            repeat (first | refine WQ.pure rfl rfl rfl ?_ | refine WQ.off rfl rfl rfl ?_ | refine WQ.nil ?_)
            intro w' h
            exact ⟨_, ⟨rfl, rfl, rfl, rfl, rfl, rfl⟩, by unfold sucB; rw [hgj, decide_eq_false c6, Bool.and_false]; rfl, h⟩
          have c6 : l[j] < (vs.length : Int) := by have := of_decide_eq_false c6; omega
          repeat (first | refine WQ.pure rfl rfl rfl ?_ | refine WQ.off rfl rfl rfl ?_ | refine WQ.nil ?_)
          refine WQ.split 84 rfl (fun c7 => ?_) (fun c7 => ?_)
          · have c7 : 0 < j := by have := of_decide_eq_true c7; omega
            have e3 : IntKind.i64.wrap (((j : Nat) : Int) - 1) = ((j - 1 : Nat) : Int) := by rw [wrap_mid (by omega) (by omega)]; omega
            have hj2 : j - 1 < l.length := by omega
            have hg2 : l.getD (j - 1) 0 = l[j - 1] := by simp [hj2]
            have hcj2 := Sl.cell hslw (zs_at hj2)
            repeat (first | refine WQ.pure rfl rfl rfl ?_ | refine WQ.off rfl rfl rfl ?_ | refine WQ.nil ?_)
            refine WQ.load rfl rfl rfl rfl rfl (fun w' h => cell_of_obj (h.obj 0 rfl) (j := 0) rfl) ?_
            repeat (first | refine WQ.pure rfl rfl rfl ?_ | refine WQ.off rfl rfl rfl ?_ | refine WQ.nil ?_)
            refine WQ.ixload rfl (fun _ => rfl) rfl rfl rfl rfl rfl rfl rfl hi rfl rfl (fun w' h => cell_below h.below hac) ?_
            repeat (first | refine WQ.pure rfl rfl rfl ?_ | refine WQ.off rfl rfl rfl ?_ | refine WQ.nil ?_)
            refine WQ.known (d := 91) (congrArg (fun z => some (Value.int .i64 z)) e3) ?_
            refine WQ.ixload (j := j - 1) rfl (fun _ => rfl) rfl rfl rfl rfl rfl rfl rfl hj2 rfl rfl (fun w' h => cell_below h.below hcj2) ?_
            repeat (first | refine WQ.pure rfl rfl rfl ?_ | refine WQ.off rfl rfl rfl ?_ | refine WQ.nil ?_)
            refine WQ.load rfl rfl rfl rfl rfl (fun w' h => cell_of_obj (h.obj 0 rfl) (j := 0) rfl) ?_
            repeat (first | refine WQ.pure rfl rfl rfl ?_ | refine WQ.off rfl rfl rfl ?_ | refine WQ.nil ?_)
            refine WQ.ixload rfl (fun _ => rfl) rfl rfl rfl rfl rfl rfl rfl hi rfl rfl (fun w' h => cell_below h.below hac) ?_
            repeat (first | refine WQ.pure rfl rfl rfl ?_ | refine WQ.off rfl rfl rfl ?_ | refine WQ.nil ?_)
            refine WQ.ixload rfl (fun _ => rfl) rfl rfl rfl rfl rfl rfl rfl hj rfl rfl (fun w' h => cell_below h.below hcj) ?_
            repeat (first | refine WQ.pure rfl rfl rfl ?_ | refine WQ.off rfl rfl rfl ?_ | refine WQ.nil ?_)
            intro w' h
            refine ⟨_, ⟨rfl, rfl, rfl, rfl, rfl, rfl⟩, ?_, h⟩
            unfold sucB
            rw [hgj, hg2, decide_eq_true c5, decide_eq_true c6, decide_eq_false (show ¬ j = 0 by omega)]
            rw [Bool.true_and, Bool.true_and, Bool.false_or]
            by_cases c8 : l[j - 1] < l[j]
            · rw [decide_eq_true c8, decide_eq_false (by omega)]; rfl
            · rw [decide_eq_false c8, decide_eq_true (by omega)]; rfl
          · have c7 : j = 0 := by have := of_decide_eq_false c7; omega
            repeat (first | refine WQ.pure rfl rfl rfl ?_ | refine WQ.off rfl rfl rfl ?_ | refine WQ.nil ?_)
            intro w' h
            exact ⟨_, ⟨rfl, rfl, rfl, rfl, rfl, rfl⟩, by unfold sucB; rw [hgj, decide_eq_true c5, decide_eq_true c6, decide_eq_true c7]; rfl, h⟩
        · rintro r e5 w5 hsub ⟨hr, hp5⟩
          refine WC.sub hsub ?_
          clear hsub e5
          replace hp5 : Hp w w5 [Sb b (some ⟨ba, oa, none⟩) cn am cm vs ms] := hp5
          have hr : r = !sucB vs.length l j := hr
          subst hr
          cases hs : sucB vs.length l j with
          | false =>
            rw [hbad (.inr (hno hs))]
            repeat (first | refine zA ?_ | refine zB ?_ | refine zC rfl rfl rfl ?_ | refine zD ?_ | refine zE ?_ | refine zF ?_ | refine zG rfl ?_ | refine zH rfl ?_ | refine zI rfl rfl rfl ?_ | refine zJ rfl rfl ?_ | refine zK ?_ | refine zL ?_ | refine zM rfl ?_ | refine zN ?_)
            exact Res.one rfl rfl rfl ⟨rfl, hp5.nil'⟩
          | true =>
            repeat (first | refine zA ?_ | refine zB ?_ | refine zC rfl rfl rfl ?_ | refine zD ?_ | refine zE ?_ | refine zF ?_ | refine zG rfl ?_ | refine zH rfl ?_ | refine zI rfl rfl rfl ?_ | refine zJ rfl rfl ?_ | refine zK ?_ | refine zL ?_ | refine zM rfl ?_ | refine zN ?_)
            exact ⟨j + 1, (by omega), ⟨rfl, rfl, rfl, congrArg (fun z => some (Value.int .i64 z)) stepj, rfl⟩, hj, hyes hs, hp5⟩
      · have hj : j = l.length := by have := of_decide_eq_false h4; omega
        have hrow : rowB vs.length l = true := by unfold rowB; rw [decide_eq_true h3, ← hj, hsu]; rfl
        repeat (first | refine zA ?_ | refine zB ?_ | refine zC rfl rfl rfl ?_ | refine zD ?_ | refine zE ?_ | refine zF ?_ | refine zG rfl ?_ | refine zH rfl ?_ | refine zI rfl rfl rfl ?_ | refine zJ rfl rfl ?_ | refine zK ?_ | refine zL ?_ | refine zM rfl ?_ | refine zN ?_)
        exact ⟨i + 1, (by omega), ⟨rfl, rfl, congrArg (fun z => some (Value.int .i64 z)) step, rfl⟩, hi, hstep hmb hrow, hp1⟩
    · have hi : i = vs.length := by have := of_decide_eq_false h2; omega
      have hok : strB vs ms = true := by
        rw [hstr, Bool.and_eq_true, List.all_eq_true, List.all_eq_true]
        constructor
        · intro m hm
          obtain ⟨k, hk, rfl⟩ := List.getElem_of_mem hm
          have := (hall k (by omega)).1
          rwa [show ms.getD k 0 = ms[k] by simp [hk]] at this
        · intro x hx
          obtain ⟨k, hk, rfl⟩ := List.getElem_of_mem hx
          have := (hall k (by omega)).2
          unfold rowsOf2 at this
          rw [List.getD_eq_getElem?_getD, List.getElem?_map, List.getElem?_eq_getElem hk] at this
          exact this
      rw [hok]
      repeat (first | refine zA ?_ | refine zB ?_ | refine zC rfl rfl rfl ?_ | refine zD ?_ | refine zE ?_ | refine zF ?_ | refine zG rfl ?_ | refine zH rfl ?_ | refine zI rfl rfl rfl ?_ | refine zJ rfl rfl ?_ | refine zK ?_ | refine zL ?_ | refine zM rfl ?_ | refine zN ?_)
      exact Res.one rfl rfl rfl ⟨rfl, hp1.nil'⟩
end Go.Proofs.YtpbbneclkhfgoaaDoor
end
section
/- ltl, forty-sixth: tame. -/
namespace Go.Proofs.YtpbbneclkhfgoaaDoor
open Go.W Go.Ltl Go.RowKit
set_option maxRecDepth 100000
set_option linter.unusedSectionVars false
attribute [local irreducible] WC WL WQ WS WH

/-- What a structure's test says, of its rows. -/
def strR (R : List (List Int)) (M : List Int) : Bool := decide (1 ≤ R.length) && decide (R.length ≤ 16) && decide (M.length = R.length) && M.all markB && R.all (rowB R.length)
theorem strB_R (vs : Vs) (ms : List Int) : strB vs ms = strR (rowsOf vs) ms := by
  unfold strB strR rowsOf
  rw [List.length_map, List.all_map]
  rfl
def tmN (L most : Nat) : Nat := if 0 < L then 1 + (L - 1) % most else 1
def isJ0 (R : List (List Int)) (n i j : Nat) : Bool := decide (j = (i + 1) % n) && decide (R.getD i [] = [])
def isJ (R : List (List Int)) (n i j : Nat) : Bool := isJ0 R n i j || (R.getD i []).any fun z => decide (modN z n = j)
def tmAcc (R : List (List Int)) (n i j : Nat) : List Int := ((List.range j).filter (isJ R n i)).map fun k : Nat => (k : Int)
def tmRow (R : List (List Int)) (n i : Nat) : List Int := tmAcc R n i n
def tmMark (M : List Int) (i : Nat) : Int := if i < M.length then mod16 (M.getD i 0) else ((i % 16 : Nat) : Int)
def tmMs (M : List Int) (n : Nat) : List Int := (List.range n).map (tmMark M)
def tameC (R : List (List Int)) (M : List Int) (most : Nat) : List (List Int) × List Int :=
  if (strR R M && decide (R.length ≤ most)) = true then (R, M) else ((List.range (tmN R.length most)).map (tmRow R (tmN R.length most)), tmMs M (tmN R.length most))
theorem tmN_ok {L most : Nat} (h : 0 < most) : 1 ≤ tmN L most ∧ tmN L most ≤ most ∧ (0 < L → tmN L most ≤ L) := by
  unfold tmN
  have h1 := Nat.mod_lt (L - 1) h
  have h2 := Nat.mod_le (L - 1) most
  split <;> omega
theorem tmAcc_succ (R : List (List Int)) (n i j : Nat) : tmAcc R n i (j + 1) = tmAcc R n i j ++ if isJ R n i j then [((j : Nat) : Int)] else [] := by
  unfold tmAcc
  rw [List.range_succ, List.filter_append, List.map_append, List.filter_cons, List.filter_nil]
  split <;> rfl
theorem tmMs_succ (M : List Int) (n : Nat) : tmMs M (n + 1) = tmMs M n ++ [tmMark M n] := by
  unfold tmMs; rw [List.range_succ, List.map_append]; rfl
theorem tmMs_len (M : List Int) (n : Nat) : (tmMs M n).length = n := by simp [tmMs]
theorem tmMark_ok (M : List Int) (i : Nat) : 0 ≤ tmMark M i ∧ tmMark M i ≤ 15 := by
  unfold tmMark
  split
  · exact mod16_ok _
  · omega
theorem acc_ok (R : List (List Int)) (n i : Nat) : ∀ j, j ≤ n → (∀ q, q < (tmAcc R n i j).length → 0 ≤ (tmAcc R n i j).getD q 0 ∧ (tmAcc R n i j).getD q 0 < (j : Int) ∧ (q = 0 ∨ (tmAcc R n i j).getD (q - 1) 0 < (tmAcc R n i j).getD q 0)) := by
  intro j
  induction j with
  | zero => intro _ q hq; simp [tmAcc] at hq
  | succ j ih =>
    intro hj q hq
    have ih := ih (by omega)
    rw [tmAcc_succ] at hq ⊢
    by_cases hJ : isJ R n i j = true
    · rw [if_pos hJ] at hq ⊢
      rw [List.length_append] at hq
      simp only [List.length_cons, List.length_nil] at hq
      by_cases hq2 : q < (tmAcc R n i j).length
      · have h1 := ih q hq2
        have e1 : (tmAcc R n i j ++ [((j : Nat) : Int)]).getD q 0 = (tmAcc R n i j).getD q 0 := by simp [List.getElem?_append_left hq2]
        have e2 : (tmAcc R n i j ++ [((j : Nat) : Int)]).getD (q - 1) 0 = (tmAcc R n i j).getD (q - 1) 0 := by
          have : q - 1 < (tmAcc R n i j).length := by omega
          simp [List.getElem?_append_left this]
        rw [e1, e2]
        exact ⟨h1.1, by omega, h1.2.2⟩
      · obtain rfl : q = (tmAcc R n i j).length := by omega
        have e1 : (tmAcc R n i j ++ [((j : Nat) : Int)]).getD (tmAcc R n i j).length 0 = (j : Int) := by simp
        rw [e1]
        refine ⟨by omega, by omega, ?_⟩
        by_cases h0 : (tmAcc R n i j).length = 0
        · exact .inl h0
        · refine .inr ?_
          have hlt : (tmAcc R n i j).length - 1 < (tmAcc R n i j).length := by omega
          have e2 : (tmAcc R n i j ++ [((j : Nat) : Int)]).getD ((tmAcc R n i j).length - 1) 0 = (tmAcc R n i j).getD ((tmAcc R n i j).length - 1) 0 := by simp [List.getElem?_append_left hlt]
          rw [e2]
          exact (ih _ hlt).2.1
    · rw [if_neg hJ, List.append_nil] at hq ⊢
      have h1 := ih q hq
      exact ⟨h1.1, by omega, h1.2.2⟩
theorem tmRow_ok (R : List (List Int)) {n i : Nat} (hn : 0 < n) : rowB n (tmRow R n i) = true := by
  have hne : tmRow R n i ≠ [] := by
    have key : ∀ j, j < n → isJ R n i j = true → tmRow R n i ≠ [] := by
      intro j hj h he
      have h2 : ((j : Nat) : Int) ∈ tmRow R n i := List.mem_map_of_mem (f := fun k : Nat => (k : Int)) (List.mem_filter.2 ⟨List.mem_range.2 hj, h⟩)
      rw [he] at h2
      cases h2
    cases hr : R.getD i [] with
    | nil => exact key ((i + 1) % n) (Nat.mod_lt _ hn) (by unfold isJ isJ0; rw [hr]; simp)
    | cons z r => exact key (modN z n) (modN_lt hn z) (by unfold isJ; rw [hr]; simp)
  have h := acc_ok R n i n (Nat.le_refl _)
  unfold rowB
  rw [decide_eq_true hne, Bool.true_and, List.all_eq_true]
  intro q hq
  rw [List.mem_range] at hq
  obtain ⟨h1, h2, h3⟩ := h q hq
  unfold sucB
  unfold tmRow
  rw [decide_eq_true h1, decide_eq_true h2]
  rcases h3 with h3 | h3
  · rw [decide_eq_true h3]; rfl
  · rw [decide_eq_true h3, Bool.or_true]; rfl
theorem tameC_ok (R : List (List Int)) (M : List Int) {most : Nat} (h0 : 0 < most) (h16 : most ≤ 16) : strR (tameC R M most).1 (tameC R M most).2 = true ∧ (tameC R M most).1.length ≤ most ∧ (tameC R M most).2.length = (tameC R M most).1.length := by
  unfold tameC
  split
  · rename_i h
    rw [Bool.and_eq_true, decide_eq_true_eq] at h
    refine ⟨h.1, h.2, ?_⟩
    have := h.1
    simp only [strR, Bool.and_eq_true, decide_eq_true_eq] at this
    exact this.1.1.2
  · obtain ⟨h1, h2, _⟩ := tmN_ok (L := R.length) h0
    generalize tmN R.length most = n at *
    refine ⟨?_, by rw [List.length_map, List.length_range]; exact h2, by rw [tmMs_len, List.length_map, List.length_range]⟩
    simp only [strR, Bool.and_eq_true, decide_eq_true_eq, List.length_map, List.length_range, tmMs_len, List.all_eq_true]
    refine ⟨⟨⟨⟨h1, by omega⟩, trivial⟩, fun m hm => ?_⟩, fun r hr => ?_⟩
    · obtain ⟨i, _, rfl⟩ := List.mem_map.1 hm
      have := tmMark_ok M i
      simp only [markB, Bool.and_eq_true, decide_eq_true_eq]
      exact this
    · obtain ⟨i, _, rfl⟩ := List.mem_map.1 hr
      exact tmRow_ok R (by omega)
end Go.Proofs.YtpbbneclkhfgoaaDoor
end
section
/- ltl, forty-ninth: lassos that are runs, in plain words. -/
namespace Go.Proofs.YtpbbneclkhfgoaaDoor
open Go.W Go.Ltl Go.RowKit
set_option maxRecDepth 100000

theorem get_getD {l : List Int} {q : Nat} (hq : q < l.length) : l[q] = l.getD q 0 := by simp [hq]
def upN (l : List Nat) : List Int := l.map fun n : Nat => (n : Int)
theorem upN_len (l : List Nat) : (upN l).length = l.length := List.length_map _
theorem upN_get (l : List Nat) (i : Nat) : (upN l).getD i 0 = ((l.getD i 0 : Nat) : Int) := by
  unfold upN
  rw [List.getD_eq_getElem?_getD, List.getElem?_map, List.getD_eq_getElem?_getD]
  cases l[i]? <;> rfl
theorem upN_app (a b : List Nat) : upN (a ++ b) = upN a ++ upN b := List.map_append
theorem nx_mem {vs : Vs} {ms : List Int} (hok : StrOk vs ms) (v u : Nat) : u ∈ (nxOf vs).getD v [] ↔ ((u : Nat) : Int) ∈ (rowsOf vs).getD v [] := by
  by_cases hv : v < vs.length
  · have e1 : (nxOf vs).getD v [] = vs[v].2.2.map Int.toNat := by
      unfold nxOf; rw [List.getD_eq_getElem?_getD, List.getElem?_map, List.getElem?_eq_getElem hv]; rfl
    have e2 : (rowsOf vs).getD v [] = vs[v].2.2 := by
      rw [List.getD_eq_getElem?_getD, List.getElem?_map, List.getElem?_eq_getElem hv]; rfl
    rw [e1, e2, List.mem_map]
    constructor
    · rintro ⟨z, hz, rfl⟩
      rwa [Int.toNat_of_nonneg (hok.ent _ (List.getElem_mem hv) z hz).1]
    · intro h
      exact ⟨_, h, Int.toNat_natCast u⟩
  · have e1 : (nxOf vs).getD v [] = [] := by rw [List.getD_eq_getElem?_getD, List.getElem?_eq_none (by rw [nxOf_len]; omega)]; rfl
    have e2 : (rowsOf vs).getD v [] = [] := by rw [List.getD_eq_getElem?_getD, List.getElem?_eq_none (by rw [List.length_map]; omega)]; rfl
    rw [e1, e2]
    simp
theorem pos_small {n lp i : Nat} (h : lp < n) (hi : i < n) : pos n lp i = i := by
  rw [pos_eq h]
  split
  · rfl
  · rw [Nat.mod_eq_of_lt (by omega)]; omega
/-- The lists of a lasso, closed by the loop's first state. -/
theorem clo_get (stem loop : List Nat) (h2 : 1 ≤ loop.length) {q : Nat} (hq : q < (stem ++ loop).length) :
    (upN stem ++ upN loop ++ [(upN loop).getD 0 0]).getD q 0 = (((stem ++ loop).getD q 0 : Nat) : Int) ∧ (upN stem ++ upN loop ++ [(upN loop).getD 0 0]).getD (q + 1) 0 = (((stem ++ loop).getD (aft (stem ++ loop).length stem.length q) 0 : Nat) : Int) := by
  rw [← upN_app]
  have hl := upN_len (stem ++ loop)
  have g : ∀ k, k < (stem ++ loop).length → (upN (stem ++ loop) ++ [(upN loop).getD 0 0]).getD k 0 = (((stem ++ loop).getD k 0 : Nat) : Int) := fun k hk => by
    rw [← upN_get, List.getD_eq_getElem?_getD, List.getElem?_append_left (by omega), List.getD_eq_getElem?_getD]
  refine ⟨g q hq, ?_⟩
  unfold aft
  by_cases h : q + 1 < (stem ++ loop).length
  · rw [if_pos h]; exact g _ h
  · rw [if_neg h, List.getD_eq_getElem?_getD, List.getElem?_append_right (by omega), show q + 1 - (upN (stem ++ loop)).length = 0 by omega]
    show (upN loop).getD 0 0 = _
    rw [upN_get]
    congr 1
    rw [List.getD_eq_getElem?_getD, List.getD_eq_getElem?_getD, List.getElem?_append_right (Nat.le_refl _), Nat.sub_self]
theorem run_nat {vs : Vs} {ms : List Int} (hok : StrOk vs ms) (stem loop : List Nat) (h1 : stem.length ≤ 65536) (h2 : 1 ≤ loop.length) (h3 : loop.length ≤ 65536) :
    runB (rowsOf vs) (upN stem) (upN loop) = true ↔ RunS (nxOf vs) 1 (fun i => (stem ++ loop).getD (pos (stem ++ loop).length stem.length i) 0) := by
  have hlp : stem.length < (stem ++ loop).length := by rw [List.length_append]; omega
  have hla : lassoB (upN stem).length (upN loop).length = true := by
    unfold lassoB; rw [upN_len, upN_len, decide_eq_true h1, decide_eq_true h2, decide_eq_true h3]; rfl
  have hlen : (upN stem ++ upN loop ++ [(upN loop).getD 0 0]).length = (stem ++ loop).length + 1 := by
    rw [List.length_append, List.length_append, upN_len, upN_len, List.length_append]; rfl
  have hn : 0 < (stem ++ loop).length := by omega
  have h0 := (clo_get stem loop h2 hn).1
  have hst : ∀ q, q < (stem ++ loop).length → (stepB (rowsOf vs) (upN stem ++ upN loop ++ [(upN loop).getD 0 0]) q = true ↔ (stem ++ loop).getD (aft (stem ++ loop).length stem.length q) 0 ∈ (nxOf vs).getD ((stem ++ loop).getD q 0) []) := fun q hq => by
    obtain ⟨k1, k2⟩ := clo_get stem loop h2 hq
    unfold stepB
    rw [k1, k2, Int.toNat_natCast, List.any_eq_true, nx_mem hok]
    constructor
    · rintro ⟨z, hz, he⟩; rw [decide_eq_true_eq] at he; rwa [← he]
    · intro h; exact ⟨_, h, decide_eq_true rfl⟩
  unfold runB
  rw [hla, Bool.true_and]
  unfold walkB
  rw [Bool.and_eq_true, Bool.and_eq_true, decide_eq_true_eq, List.all_eq_true, List.all_eq_true, hlen, Nat.add_sub_cancel, h0]
  constructor
  · rintro ⟨⟨k1, _⟩, k3⟩
    refine ⟨by show (stem ++ loop).getD 0 0 < 1; omega, fun i => ?_⟩
    have hp := pos_lt hlp i
    exact (hst _ hp).1 (k3 _ (List.mem_range.2 hp))
  · rintro ⟨k1, k2⟩
    have k1 : (stem ++ loop).getD 0 0 < 1 := k1
    have edge : ∀ q, q < (stem ++ loop).length → (stem ++ loop).getD (aft (stem ++ loop).length stem.length q) 0 ∈ (nxOf vs).getD ((stem ++ loop).getD q 0) [] := fun q hq => by
      have := k2 q
      simp only [pos_small hlp hq] at this
      rw [show pos (stem ++ loop).length stem.length (q + 1) = aft (stem ++ loop).length stem.length q from by
        show aft _ _ (pos _ _ q) = _; rw [pos_small hlp hq]] at this
      exact this
    have hin : ∀ q, q < (stem ++ loop).length → inB (rowsOf vs).length (((stem ++ loop).getD q 0 : Nat) : Int) = true := fun q hq => by
      have := (getD_row (edge q hq)).1
      rw [nxOf_len] at this
      unfold inB
      rw [decide_eq_true (by omega), decide_eq_true (by rw [List.length_map]; omega)]; rfl
    refine ⟨⟨by omega, fun z hz => ?_⟩, fun q hq => (hst q (List.mem_range.1 hq)).2 (edge q (List.mem_range.1 hq))⟩
    obtain ⟨q, hq, rfl⟩ := List.getElem_of_mem hz
    have e : (upN stem ++ upN loop ++ [(upN loop).getD 0 0])[q] = (upN stem ++ upN loop ++ [(upN loop).getD 0 0]).getD q 0 := get_getD hq
    rw [hlen] at hq
    rw [e]
    by_cases h : q < (stem ++ loop).length
    · rw [(clo_get stem loop h2 h).1]; exact hin q h
    · obtain ⟨q2, rfl⟩ : ∃ q2, q = q2 + 1 := ⟨q - 1, by omega⟩
      rw [(clo_get stem loop h2 (q := q2) (by omega)).2]
      exact hin _ (aft_lt hlp)
theorem LassoA.runs {vs : Vs} {ms : List Int} (hok : StrOk vs ms) {f : Fm} {stem loop : List Nat} (h : LassoA vs ms f stem loop) : runB (rowsOf vs) (upN stem) (upN loop) = true :=
  (run_nat hok stem loop (by have := h.l1; omega) (List.length_pos_iff.2 h.ne2) (by have := h.l2; omega)).2 h.run
end Go.Proofs.YtpbbneclkhfgoaaDoor
end
section
/- The reference's formulas: lists of nodes; what it parses. -/
namespace Go.Ltl
open Go.W
end Go.Ltl
end
section
/- The words of a formula, and what is read out of them. -/
namespace Go.Ltl
open Go.W
theorem tokN_cons (c : UInt8) (s cur : Str) : tokN (c :: s) cur = if c = 32 ∨ c = 10 then flush cur ++ tokN s [] else if c = 40 ∨ c = 41 then flush cur ++ ([c] :: tokN s []) else tokN s (cur ++ [c]) := rfl
theorem tokN_sp : ∀ (s r cur : Str), tokN (s ++ 32 :: r) cur = tokN s cur ++ tokN r [] := by
  intro s
  induction s with
  | nil => intro r cur; show tokN (32 :: r) cur = flush cur ++ _; rw [tokN_cons, if_pos (by decide)]
  | cons c s ih =>
    intro r cur
    show tokN (c :: (s ++ 32 :: r)) cur = _
    rw [tokN_cons, tokN_cons, ih, ih]
    split
    · rw [List.append_assoc]
    · split
      · rw [List.append_assoc]; rfl
      · rfl
end Go.Ltl
end
section
/- ltl, fifty-second: what Holds answers, in one shape; the values of a formula's text. -/
namespace Go.Proofs.YtpbbneclkhfgoaaDoor
open Go.W Go.Ltl Go.RowKit
set_option maxRecDepth 100000

abbrev Rb (b : Nat) (hb : Bool) (sa : Option Addr) (sl sc : Nat) (pa : Option Addr) (pl pc : Nat) : Ent := .blk b (.cells #[.bool hb, .slice sa sl sc, .slice pa pl pc] 48 (0, 0))
/-- The answer is a result and an error. -/
def ShapeW (vs : Vs) (ms : List Int) (s : Str) (hb : Bool) (sa : Option Addr) (sl sc : Nat) (qa : Option Addr) (ql qc : Nat) (ec : Int) (E : List Ent) : Prop :=
  (parseM s = none ∧ ec = 4 ∧ hb = false ∧ sl = 0 ∧ ql = 0) ∨ ∃ f, parseM s = some f ∧ ec = 0 ∧ ((hb = true ∧ HoldsA vs ms f ∧ sl = 0 ∧ ql = 0) ∨ (hb = false ∧ ∃ stem loop, LassoA vs ms f stem loop ∧ sl = stem.length ∧ ql = loop.length ∧ E = [Rna (.slice qa loop.length qc) loop.length loop, Rna (.slice sa stem.length sc) stem.length stem]))
theorem HoldsW.shape {vs : Vs} {ms : List Int} {s : Str} {w w' : World} {v : Value} (h : HoldsW vs ms s w v w') (hsb : strB vs ms = true) :
    ∃ (hb : Bool) (sa : Option Addr) (sl sc : Nat) (qa : Option Addr) (ql qc : Nat) (ec : Int) (E : List Ent), v = .tuple #[.agg #[.bool hb, .slice sa sl sc, .slice qa ql qc], .int .i64 ec] ∧ Hp w w' E ∧ ShapeW vs ms s hb sa sl sc qa ql qc ec E := by
  unfold HoldsW at h
  rw [if_pos hsb] at h
  cases hf : parseM s with
  | none =>
    rw [hf] at h
    obtain ⟨rfl, hp⟩ := h
    exact ⟨false, none, 0, 0, none, 0, 0, 4, [], rfl, hp, .inl ⟨hf, rfl, rfl, rfl, rfl⟩⟩
  | some f =>
    rw [hf] at h
    rcases h with ⟨hA, rfl, hp⟩ | ⟨stem, loop, sa, sc, pa, pc, hA, rfl, hp⟩
    · exact ⟨true, none, 0, 0, none, 0, 0, 0, [], rfl, hp, .inr ⟨f, hf, rfl, .inl ⟨rfl, hA, rfl, rfl⟩⟩⟩
    · exact ⟨false, sa, stem.length, sc, pa, loop.length, pc, 0, _, rfl, hp, .inr ⟨f, hf, rfl, .inr ⟨rfl, stem, loop, hA, rfl, rfl, rfl⟩⟩⟩
end Go.Proofs.YtpbbneclkhfgoaaDoor
end
section
/- ltl, fifty-fourth: Contains over ints, isRun. -/
namespace Go.Proofs.YtpbbneclkhfgoaaDoor
open Go.W Go.Ltl Go.RowKit
set_option maxRecDepth 100000
set_option linter.unusedSectionVars false
attribute [local irreducible] WC WL WQ WS WH

theorem indexI_any (a : Option Addr) (cap : Nat) (l : List Int) (z : Int) (hl : l.length ≤ 1000000) (w : World) (hs : Sl w a (zs l)) :
    Ret Tryd.prog 104 [.slice a l.length cap, .int .i64 z] w fun v w' => (∃ k : Int, v = .int .i64 k ∧ (0 ≤ k ↔ z ∈ l)) ∧ w' = w := by
  refine enter Tryd.func104 rfl rfl ⟨rfl, rfl⟩ rfl ?_
  repeat (first | refine zA ?_ | refine zB ?_ | refine zC rfl rfl rfl ?_ | refine zD ?_ | refine zE ?_ | refine zF ?_ | refine zG rfl ?_ | refine zH rfl ?_ | refine zI rfl rfl rfl ?_ | refine zJ rfl rfl ?_ | refine zK ?_ | refine zL ?_ | refine zM rfl ?_ | refine zN ?_)
  refine WC.loop Nat (fun i => [(0, .slice a l.length cap), (1, .int .i64 z), (7, .int .i64 (l.length : Nat)), (8, .int .i64 (i : Nat))]) (fun i w' => i ≤ l.length ∧ z ∉ l.take i ∧ w' = w) (fun i => l.length - i) 0 ⟨rfl, rfl, rfl, rfl, rfl⟩ ⟨Nat.zero_le _, by simp, rfl⟩ ?_
  rintro i w1 ⟨hi, hno, rfl⟩
  repeat (first | refine zA ?_ | refine zB ?_ | refine zC rfl rfl rfl ?_ | refine zD ?_ | refine zE ?_ | refine zF ?_ | refine zG rfl ?_ | refine zH rfl ?_ | refine zI rfl rfl rfl ?_ | refine zJ rfl rfl ?_ | refine zK ?_ | refine zL ?_ | refine zM rfl ?_ | refine zN ?_)
  refine WC.cond rfl (fun hc => ?_) (fun hc => ?_)
  · have hi : i < l.length := by have := of_decide_eq_true hc; omega
    have step := wrap_succ (i := i) (n := i + 1) (by omega) (by omega)
    repeat (first | refine zA ?_ | refine zB ?_ | refine zC rfl rfl rfl ?_ | refine zD ?_ | refine zE ?_ | refine zF ?_ | refine zG rfl ?_ | refine zH rfl ?_ | refine zI rfl rfl rfl ?_ | refine zJ rfl rfl ?_ | refine zK ?_ | refine zL ?_ | refine zM rfl ?_ | refine zN ?_)
    refine WL.ixload rfl (fun _ => rfl) rfl rfl rfl rfl rfl rfl rfl hi rfl rfl hs (zs_at hi) ?_
    intro p
    repeat (first | refine zA ?_ | refine zB ?_ | refine zC rfl rfl rfl ?_ | refine zD ?_ | refine zE ?_ | refine zF ?_ | refine zG rfl ?_ | refine zH rfl ?_ | refine zI rfl rfl rfl ?_ | refine zJ rfl rfl ?_ | refine zK ?_ | refine zL ?_ | refine zM rfl ?_ | refine zN ?_)
    refine WC.cond rfl (fun h1 => ?_) (fun h1 => ?_)
    · have h1 : z = l[i] := beq_iff_eq.1 h1
      repeat (first | refine zA ?_ | refine zB ?_ | refine zC rfl rfl rfl ?_ | refine zD ?_ | refine zE ?_ | refine zF ?_ | refine zG rfl ?_ | refine zH rfl ?_ | refine zI rfl rfl rfl ?_ | refine zJ rfl rfl ?_ | refine zK ?_ | refine zL ?_ | refine zM rfl ?_ | refine zN ?_)
      exact Res.one rfl rfl rfl ⟨⟨_, rfl, ⟨fun _ => by rw [h1]; exact List.getElem_mem hi, fun _ => by omega⟩⟩, rfl⟩
    · have h1 : ¬ z = l[i] := beq_eq_false_iff_ne.1 h1
      repeat (first | refine zA ?_ | refine zB ?_ | refine zC rfl rfl rfl ?_ | refine zD ?_ | refine zE ?_ | refine zF ?_ | refine zG rfl ?_ | refine zH rfl ?_ | refine zI rfl rfl rfl ?_ | refine zJ rfl rfl ?_ | refine zK ?_ | refine zL ?_ | refine zM rfl ?_ | refine zN ?_)
      refine ⟨i + 1, (by show l.length - (i + 1) < l.length - i; omega), ⟨rfl, rfl, rfl, congrArg (fun z => some (Value.int .i64 z)) step, rfl⟩, by omega, ?_, rfl⟩
      rw [List.take_succ_eq_append_getElem hi, List.mem_append, List.mem_singleton]
      rintro (h | h)
      · exact hno h
      · exact h1 h
  · have hi : i = l.length := by have := of_decide_eq_false hc; omega
    repeat (first | refine zA ?_ | refine zB ?_ | refine zC rfl rfl rfl ?_ | refine zD ?_ | refine zE ?_ | refine zF ?_ | refine zG rfl ?_ | refine zH rfl ?_ | refine zI rfl rfl rfl ?_ | refine zJ rfl rfl ?_ | refine zK ?_ | refine zL ?_ | refine zM rfl ?_ | refine zN ?_)
    refine Res.one rfl rfl rfl ⟨⟨_, rfl, ⟨fun h => by omega, fun h => ?_⟩⟩, rfl⟩
    rw [hi, List.take_of_length_le (Nat.le_refl _)] at hno
    exact absurd h hno
theorem containsI_any (a : Option Addr) (cap : Nat) (l : List Int) (z : Int) (hl : l.length ≤ 1000000) (w : World) (hs : Sl w a (zs l)) :
    Ret Tryd.prog 95 [.slice a l.length cap, .int .i64 z] w fun v w' => v = .bool (l.any fun y => decide (y = z)) ∧ w' = w := by
  refine enter Tryd.func95 rfl rfl ⟨rfl, rfl⟩ rfl ?_
  repeat (first | refine zA ?_ | refine zB ?_ | refine zC rfl rfl rfl ?_ | refine zD ?_ | refine zE ?_ | refine zF ?_ | refine zG rfl ?_ | refine zH rfl ?_ | refine zI rfl rfl rfl ?_ | refine zJ rfl rfl ?_ | refine zK ?_ | refine zL ?_ | refine zM rfl ?_ | refine zN ?_)
  refine WL.call rfl rfl rfl rfl rfl ent104 (indexI_any a cap l z hl w hs) ?_
  rintro v w2 ⟨⟨k, rfl, hk⟩, rfl⟩
  repeat (first | refine zA ?_ | refine zB ?_ | refine zC rfl rfl rfl ?_ | refine zD ?_ | refine zE ?_ | refine zF ?_ | refine zG rfl ?_ | refine zH rfl ?_ | refine zI rfl rfl rfl ?_ | refine zJ rfl rfl ?_ | refine zK ?_ | refine zL ?_ | refine zM rfl ?_ | refine zN ?_)
  refine Res.one rfl rfl rfl ⟨?_, rfl⟩
  congr 1
  rw [Bool.eq_iff_iff, List.any_eq_true, decide_eq_true_eq]
  constructor
  · intro h; exact ⟨z, hk.1 h, decide_eq_true rfl⟩
  · rintro ⟨y, hy, he⟩
    rw [decide_eq_true_eq] at he
    rw [← he] at hk
    exact hk.2 hy
theorem walk_false0 {R : List (List Int)} {l : List Int} (h : l.getD 0 0 ≠ 0) : walkB R l = false := by unfold walkB; rw [decide_eq_false h]; rfl
theorem walk_falseI {R : List (List Int)} {l : List Int} {i : Nat} (hi : i < l.length) (h : inB R.length (l.getD i 0) = false) : walkB R l = false := by
  unfold walkB
  rw [List.all_eq_false.2 ⟨l[i], List.getElem_mem hi, by rw [get_getD hi, h]; simp⟩, Bool.and_false]
  rfl
theorem walk_falseS {R : List (List Int)} {l : List Int} {i : Nat} (hi : i + 1 < l.length) (h : stepB R l i = false) : walkB R l = false := by
  unfold walkB
  rw [List.all_eq_false.2 ⟨i, List.mem_range.2 (by omega), by rw [h]; simp⟩, Bool.and_false]
theorem walk_true {R : List (List Int)} {l : List Int} (h0 : l.getD 0 0 = 0) (h1 : ∀ k, k < l.length → inB R.length (l.getD k 0) = true) (h2 : ∀ k, k + 1 < l.length → stepB R l k = true) : walkB R l = true := by
  unfold walkB
  rw [decide_eq_true h0, Bool.true_and, Bool.and_eq_true, List.all_eq_true, List.all_eq_true]
  refine ⟨fun z hz => ?_, fun i hi => h2 i (by have := List.mem_range.1 hi; omega)⟩
  obtain ⟨k, hk, rfl⟩ := List.getElem_of_mem hz
  rw [get_getD hk]
  exact h1 k hk
/-- The state looked at last. -/
def lastI (l : List Int) (i : Nat) : Int := if i = 0 then 0 else l.getD (i - 1) 0
theorem isRun_any (an : Option Addr) (cn : Nat) (am : Option Addr) (cm : Nat) (vs : Vs) (ms : List Int) (hvl : vs.length ≤ 1000000) (hvs : ∀ x ∈ vs, x.2.2.length ≤ 1000000) (a1 a2 : Option Addr) (c1 c2 : Nat) (stem loop : List Int) (w : World) (hst : Stc w an am vs ms) (hs1 : Sl w a1 (zs stem)) (hs2 : Sl w a2 (zs loop)) :
    Ret Tryd.prog 68 [stV an cn am cm vs ms, .slice a1 stem.length c1, .slice a2 loop.length c2] w fun v w' => v = .bool (runB (rowsOf vs) stem loop) ∧ Hp w w' [] := by
  refine enter Tryd.func68 rfl rfl ⟨rfl, rfl⟩ rfl ?_
  repeat (first | refine zA ?_ | refine zB ?_ | refine zC rfl rfl rfl ?_ | refine zD ?_ | refine zE ?_ | refine zF ?_ | refine zG rfl ?_ | refine zH rfl ?_ | refine zI rfl rfl rfl ?_ | refine zJ rfl rfl ?_ | refine zK ?_ | refine zL ?_ | refine zM rfl ?_ | refine zN ?_)
  refine WL.box rfl rfl rfl (fun b w1 h1 => ?_)
  have hp1 : Hp w w1 [Sb b an cn am cm vs ms] := (Hp.start w).new h1
  repeat (first | refine zA ?_ | refine zB ?_ | refine zC rfl rfl rfl ?_ | refine zD ?_ | refine zE ?_ | refine zF ?_ | refine zG rfl ?_ | refine zH rfl ?_ | refine zI rfl rfl rfl ?_ | refine zJ rfl rfl ?_ | refine zK ?_ | refine zL ?_ | refine zM rfl ?_ | refine zN ?_)
  refine WL.call rfl rfl rfl rfl rfl ent44 (isLasso_any a1 a2 stem.length c1 loop.length c2 w1) ?_
  rintro _ w2 ⟨rfl, hw2⟩
  obtain rfl := hw2.symm
  cases hla : lassoB stem.length loop.length with
  | false =>
    repeat (first | refine zA ?_ | refine zB ?_ | refine zC rfl rfl rfl ?_ | refine zD ?_ | refine zE ?_ | refine zF ?_ | refine zG rfl ?_ | refine zH rfl ?_ | refine zI rfl rfl rfl ?_ | refine zJ rfl rfl ?_ | refine zK ?_ | refine zL ?_ | refine zM rfl ?_ | refine zN ?_)
    exact Res.one rfl rfl rfl ⟨by unfold runB; rw [hla]; rfl, hp1.nil'⟩
  | true =>
  have hl3 : stem.length ≤ 65536 ∧ 1 ≤ loop.length ∧ loop.length ≤ 65536 := by
    unfold lassoB at hla
    simp only [Bool.and_eq_true, decide_eq_true_eq] at hla
    exact ⟨hla.1.1, hla.1.2, hla.2⟩
  obtain ⟨l1, l2, l3⟩ := hl3
  have hcat : catL [(a1, c1, stem), (a2, c2, loop)] = stem ++ loop := by simp [catL]
  obtain ⟨lc, hlc⟩ : ∃ lc, lc = stem ++ loop ++ [loop.getD 0 0] := ⟨_, rfl⟩
  obtain ⟨l, hl⟩ : ∃ l, l = stem ++ loop := ⟨_, rfl⟩
  have hN : l.length = stem.length + loop.length := by rw [hl, List.length_append]
  have hNc : lc.length = l.length + 1 := by rw [hlc, hl, List.length_append]; rfl
  have hget : ∀ k, k < l.length → lc.getD k 0 = l.getD k 0 := fun k hk => by
    rw [hlc, ← hl, List.getD_eq_getElem?_getD, List.getElem?_append_left hk, List.getD_eq_getElem?_getD]
  have hgetN : lc.getD l.length 0 = loop.getD 0 0 := by
    rw [hlc, ← hl, List.getD_eq_getElem?_getD, List.getElem?_append_right (Nat.le_refl _), Nat.sub_self]; rfl
  have hrun : runB (rowsOf vs) stem loop = walkB (rowsOf vs) lc := by unfold runB; rw [hla, hlc]; rfl
  rw [hrun]
  have hRl : (rowsOf vs).length = vs.length := List.length_map _
  repeat (first | refine zA ?_ | refine zB ?_ | refine zC rfl rfl rfl ?_ | refine zD ?_ | refine zE ?_ | refine zF ?_ | refine zG rfl ?_ | refine zH rfl ?_ | refine zI rfl rfl rfl ?_ | refine zJ rfl rfl ?_ | refine zK ?_ | refine zL ?_ | refine zM rfl ?_ | refine zN ?_)
  refine WL.buildS (cs := catV [(a1, c1, stem), (a2, c2, loop)]) rfl rfl rfl rfl rfl rfl rfl rfl rfl ?_
  intro b17 w2 h17
  have hp2 := hp1.new h17
  have hC := Concat_any (some ⟨b17, 0, none⟩) 2 [(a1, c1, stem), (a2, c2, loop)] (by show 2 ≤ 1000; omega) (by rw [hcat, List.length_append]; omega) w2 (Sl.of_obj (hp2.obj 0 rfl) (fun q u hq => by simpa using hq))
    (by
      intro x hx
      simp only [List.mem_cons, List.not_mem_nil, or_false] at hx
      rcases hx with rfl | rfl
      · exact hs1.hp hp2
      · exact hs2.hp hp2)
  rw [hcat, ← hl] at hC
  refine WL.call rfl rfl rfl rfl rfl ent43 hC ?_
  rintro v w3 ⟨pa, pc, rfl, hp3⟩
  have hp3 := (hp2.comb hp3).pick [0, 2] (by decide)
  clear hp1 hp2 h1 h17 hC hcat hrun
  repeat (first | refine zA ?_ | refine zB ?_ | refine zC rfl rfl rfl ?_ | refine zD ?_ | refine zE ?_ | refine zF ?_ | refine zG rfl ?_ | refine zH rfl ?_ | refine zI rfl rfl rfl ?_ | refine zJ rfl rfl ?_ | refine zK ?_ | refine zL ?_ | refine zM rfl ?_ | refine zN ?_)
  obtain ⟨bl, ol, rfl, _⟩ := (Hp.sl hp3 0 rfl) 0 _ (zs_getD (by omega))
  refine WC.loop Nat (fun i => [(2, .slice a2 loop.length c2), (3, ptr b), (8, .int .i64 (lastI l i)), (19, .slice (some ⟨bl, ol, none⟩) l.length pc), (20, .int .i64 (l.length : Nat)), (21, .int .i64 (i : Nat))])
    (fun i w' => i ≤ l.length ∧ (∀ k, k < i → inB vs.length (l.getD k 0) = true) ∧ (0 < i → l.getD 0 0 = 0) ∧ (∀ k, k + 1 < i → stepB (rowsOf vs) lc k = true) ∧ Hp w w' [Ri (.slice (some ⟨bl, ol, none⟩) l.length pc) l, Sb b an cn am cm vs ms]) (fun i => l.length - i) 0 ⟨rfl, rfl, rfl, rfl, rfl, rfl, rfl⟩ ⟨Nat.zero_le _, fun k hk => by omega, fun h => by omega, fun k hk => by omega, hp3⟩ ?_
  clear hp3
  rintro i w3 ⟨hi, hin, hz0, hsa, hp3⟩
  replace hi : i ≤ l.length := hi
  replace hin : ∀ k, k < i → inB vs.length (l.getD k 0) = true := hin
  replace hz0 : 0 < i → l.getD 0 0 = 0 := hz0
  replace hsa : ∀ k, k + 1 < i → stepB (rowsOf vs) lc k = true := hsa
  replace hp3 : Hp w w3 [Ri (.slice (some ⟨bl, ol, none⟩) l.length pc) l, Sb b an cn am cm vs ms] := hp3
  repeat (first | refine zA ?_ | refine zB ?_ | refine zC rfl rfl rfl ?_ | refine zD ?_ | refine zE ?_ | refine zF ?_ | refine zG rfl ?_ | refine zH rfl ?_ | refine zI rfl rfl rfl ?_ | refine zJ rfl rfl ?_ | refine zK ?_ | refine zL ?_ | refine zM rfl ?_ | refine zN ?_)
  refine WC.cond rfl (fun g => ?_) (fun g => ?_)
  · have hi : i < l.length := by have := of_decide_eq_true g; omega
    have step := wrap_succ (i := i) (n := i + 1) (by omega) (by omega)
    have hgi := hget i hi
    have hla2 : lastI l (i + 1) = l.getD i 0 := rfl
    repeat (first | refine zA ?_ | refine zB ?_ | refine zC rfl rfl rfl ?_ | refine zD ?_ | refine zE ?_ | refine zF ?_ | refine zG rfl ?_ | refine zH rfl ?_ | refine zI rfl rfl rfl ?_ | refine zJ rfl rfl ?_ | refine zK ?_ | refine zL ?_ | refine zM rfl ?_ | refine zN ?_)
    refine WL.ixload rfl (fun _ => rfl) rfl rfl rfl rfl rfl rfl rfl hi rfl rfl (Hp.sl hp3 0 rfl) (zs_getD hi) ?_
    intro q0
    repeat (first | refine zA ?_ | refine zB ?_ | refine zC rfl rfl rfl ?_ | refine zD ?_ | refine zE ?_ | refine zF ?_ | refine zG rfl ?_ | refine zH rfl ?_ | refine zI rfl rfl rfl ?_ | refine zJ rfl rfl ?_ | refine zK ?_ | refine zL ?_ | refine zM rfl ?_ | refine zN ?_)
    refine WL.split 28 rfl (fun c1 => ?_) (fun c1 => ?_)
    · have c1 : l.getD i 0 < 0 := of_decide_eq_true c1
      rw [walk_falseI (R := rowsOf vs) (l := lc) (i := i) (by omega) (by rw [hgi]; unfold inB; rw [decide_eq_false (show ¬ 0 ≤ l.getD i 0 by omega)]; rfl)]
      repeat (first | refine zA ?_ | refine zB ?_ | refine zC rfl rfl rfl ?_ | refine zD ?_ | refine zE ?_ | refine zF ?_ | refine zG rfl ?_ | refine zH rfl ?_ | refine zI rfl rfl rfl ?_ | refine zJ rfl rfl ?_ | refine zK ?_ | refine zL ?_ | refine zM rfl ?_ | refine zN ?_)
      exact Res.one rfl rfl rfl ⟨rfl, hp3.nil'⟩
    have c1 : 0 ≤ l.getD i 0 := by have := of_decide_eq_false c1; omega
    repeat (first | refine zA ?_ | refine zB ?_ | refine zC rfl rfl rfl ?_ | refine zD ?_ | refine zE ?_ | refine zF ?_ | refine zG rfl ?_ | refine zH rfl ?_ | refine zI rfl rfl rfl ?_ | refine zJ rfl rfl ?_ | refine zK ?_ | refine zL ?_ | refine zM rfl ?_ | refine zN ?_)
    refine WL.loadB rfl rfl rfl rfl rfl (hp3.obj 1 rfl) (j := 0) rfl ?_
    repeat (first | refine zA ?_ | refine zB ?_ | refine zC rfl rfl rfl ?_ | refine zD ?_ | refine zE ?_ | refine zF ?_ | refine zG rfl ?_ | refine zH rfl ?_ | refine zI rfl rfl rfl ?_ | refine zJ rfl rfl ?_ | refine zK ?_ | refine zL ?_ | refine zM rfl ?_ | refine zN ?_)
    refine WL.split 35 rfl (fun c2 => ?_) (fun c2 => ?_)
    · have c2 : ¬ l.getD i 0 < (vs.length : Int) := by have := of_decide_eq_true c2; omega
      rw [walk_falseI (R := rowsOf vs) (l := lc) (i := i) (by omega) (by rw [hgi, hRl]; unfold inB; rw [decide_eq_false c2, Bool.and_false])]
      repeat (first | refine zA ?_ | refine zB ?_ | refine zC rfl rfl rfl ?_ | refine zD ?_ | refine zE ?_ | refine zF ?_ | refine zG rfl ?_ | refine zH rfl ?_ | refine zI rfl rfl rfl ?_ | refine zJ rfl rfl ?_ | refine zK ?_ | refine zL ?_ | refine zM rfl ?_ | refine zN ?_)
      exact Res.one rfl rfl rfl ⟨rfl, hp3.nil'⟩
    have c2 : l.getD i 0 < (vs.length : Int) := by have := of_decide_eq_false c2; omega
    have hini : inB vs.length (l.getD i 0) = true := by unfold inB; rw [decide_eq_true c1, decide_eq_true c2]; rfl
    have hin2 : ∀ k, k < i + 1 → inB vs.length (l.getD k 0) = true := fun k hk => by
      rcases Nat.lt_or_ge k i with h | h
      · exact hin k h
      · rw [show k = i by omega]; exact hini
    repeat (first | refine zA ?_ | refine zB ?_ | refine zC rfl rfl rfl ?_ | refine zD ?_ | refine zE ?_ | refine zF ?_ | refine zG rfl ?_ | refine zH rfl ?_ | refine zI rfl rfl rfl ?_ | refine zJ rfl rfl ?_ | refine zK ?_ | refine zL ?_ | refine zM rfl ?_ | refine zN ?_)
    refine WL.split 38 rfl (fun c3 => ?_) (fun c3 => ?_)
    · have c3 : i = 0 := by have c3 : (((i : Nat) : Int) == 0) = true := c3; rw [beq_iff_eq] at c3; omega
      subst c3
      repeat (first | refine zA ?_ | refine zB ?_ | refine zC rfl rfl rfl ?_ | refine zD ?_ | refine zE ?_ | refine zF ?_ | refine zG rfl ?_ | refine zH rfl ?_ | refine zI rfl rfl rfl ?_ | refine zJ rfl rfl ?_ | refine zK ?_ | refine zL ?_ | refine zM rfl ?_ | refine zN ?_)
      refine WL.split 43 rfl (fun c4 => ?_) (fun c4 => ?_)
      · have c4 : l.getD 0 0 ≠ 0 := by have c4 : (!(l.getD 0 0 == 0)) = true := c4; simpa using c4
        rw [walk_false0 (R := rowsOf vs) (l := lc) (by rw [hgi]; exact c4)]
        repeat (first | refine zA ?_ | refine zB ?_ | refine zC rfl rfl rfl ?_ | refine zD ?_ | refine zE ?_ | refine zF ?_ | refine zG rfl ?_ | refine zH rfl ?_ | refine zI rfl rfl rfl ?_ | refine zJ rfl rfl ?_ | refine zK ?_ | refine zL ?_ | refine zM rfl ?_ | refine zN ?_)
        exact Res.one rfl rfl rfl ⟨rfl, hp3.nil'⟩
      · have c4 : l.getD 0 0 = 0 := by have c4 : (!(l.getD 0 0 == 0)) = false := c4; simpa using c4
        repeat (first | refine zA ?_ | refine zB ?_ | refine zC rfl rfl rfl ?_ | refine zD ?_ | refine zE ?_ | refine zF ?_ | refine zG rfl ?_ | refine zH rfl ?_ | refine zI rfl rfl rfl ?_ | refine zJ rfl rfl ?_ | refine zK ?_ | refine zL ?_ | refine zM rfl ?_ | refine zN ?_)
        exact ⟨1, (by omega), ⟨rfl, rfl, rfl, rfl, rfl, congrArg (fun z => some (Value.int .i64 z)) step, rfl⟩, hi, hin2, fun _ => c4, fun k hk => by omega, hp3⟩
    · have c3 : 0 < i := by have c3 : (((i : Nat) : Int) == 0) = false := c3; rw [beq_eq_false_iff_ne] at c3; omega
      obtain ⟨j, rfl⟩ : ∃ j, i = j + 1 := ⟨i - 1, by omega⟩
      have hlj : lastI l (j + 1) = l.getD j 0 := rfl
      obtain ⟨q, hq⟩ : ∃ q : Nat, l.getD j 0 = ((q : Nat) : Int) := ⟨(l.getD j 0).toNat, by
        have := hin j (by omega)
        simp only [inB, Bool.and_eq_true, decide_eq_true_eq] at this
        omega⟩
      have hqv : q < vs.length := by
        have := hin j (by omega)
        simp only [inB, Bool.and_eq_true, decide_eq_true_eq, hq] at this
        omega
      have hst2 := stepB_row (vs := vs) (l := lc) (i := j) hqv (by rw [hget j (by omega)]; exact hq)
      rw [hgi] at hst2
      replace hst2 : stepB (rowsOf vs) lc j = vs[q].2.2.any fun z => decide (z = l.getD (j + 1) 0) := hst2
      repeat (first | refine zA ?_ | refine zB ?_ | refine zC rfl rfl rfl ?_ | refine zD ?_ | refine zE ?_ | refine zF ?_ | refine zG rfl ?_ | refine zH rfl ?_ | refine zI rfl rfl rfl ?_ | refine zJ rfl rfl ?_ | refine zK ?_ | refine zL ?_ | refine zM rfl ?_ | refine zN ?_)
      refine WL.split 46 rfl (fun c5 => ?_) (fun c5 => ?_)
      · repeat (first | refine zA ?_ | refine zB ?_ | refine zC rfl rfl rfl ?_ | refine zD ?_ | refine zE ?_ | refine zF ?_ | refine zG rfl ?_ | refine zH rfl ?_ | refine zI rfl rfl rfl ?_ | refine zJ rfl rfl ?_ | refine zK ?_ | refine zL ?_ | refine zM rfl ?_ | refine zN ?_)
        refine WL.loadB rfl rfl rfl rfl rfl (hp3.obj 1 rfl) (j := 0) rfl ?_
        refine WL.pure rfl rfl rfl ?_
        refine WL.known (d := 49) (congrArg (fun z => some (Value.int .i64 z)) (hlj.trans hq)) ?_
        refine WL.ixload (j := q) rfl (fun _ => rfl) rfl rfl rfl rfl rfl rfl rfl hqv rfl rfl (hst.hp hp3).nx (catV_at hqv) ?_
        intro q1
        refine WL.pure rfl rfl rfl ?_
        refine WL.call rfl rfl rfl rfl rfl ent95 (containsI_any vs[q].1 vs[q].2.1 vs[q].2.2 (l.getD (j + 1) 0) (hvs _ (List.getElem_mem hqv)) w3 ((hst.hp hp3).rows _ (List.getElem_mem hqv))) ?_
        rintro _ w4 ⟨rfl, hw4⟩
        obtain rfl := hw4.symm
        rw [← hst2]
        cases hsb : stepB (rowsOf vs) lc j with
        | false =>
          rw [walk_falseS (i := j) (by omega) hsb]
          repeat (first | refine zA ?_ | refine zB ?_ | refine zC rfl rfl rfl ?_ | refine zD ?_ | refine zE ?_ | refine zF ?_ | refine zG rfl ?_ | refine zH rfl ?_ | refine zI rfl rfl rfl ?_ | refine zJ rfl rfl ?_ | refine zK ?_ | refine zL ?_ | refine zM rfl ?_ | refine zN ?_)
          exact Res.one rfl rfl rfl ⟨rfl, hp3.nil'⟩
        | true =>
          repeat (first | refine zA ?_ | refine zB ?_ | refine zC rfl rfl rfl ?_ | refine zD ?_ | refine zE ?_ | refine zF ?_ | refine zG rfl ?_ | refine zH rfl ?_ | refine zI rfl rfl rfl ?_ | refine zJ rfl rfl ?_ | refine zK ?_ | refine zL ?_ | refine zM rfl ?_ | refine zN ?_)
          refine ⟨j + 1 + 1, (by omega), ⟨rfl, rfl, rfl, rfl, rfl, congrArg (fun z => some (Value.int .i64 z)) step, rfl⟩, hi, hin2, fun _ => hz0 (by omega), fun k hk => ?_, hp3⟩
          rcases Nat.lt_or_ge k j with h | h
          · exact hsa k (by omega)
          · rw [show k = j by omega]; exact hsb
      · exfalso
        have c5 : ¬ (0 : Int) < ((j + 1 : Nat) : Int) := of_decide_eq_false c5
        omega
  · have hi : i = l.length := by have := of_decide_eq_false g; omega
    subst hi
    obtain ⟨j, hj⟩ : ∃ j, l.length = j + 1 := ⟨l.length - 1, by omega⟩
    have hlj : lastI l l.length = l.getD j 0 := by rw [hj]; rfl
    obtain ⟨q, hq⟩ : ∃ q : Nat, l.getD j 0 = ((q : Nat) : Int) := ⟨(l.getD j 0).toNat, by
      have := hin j (by omega)
      simp only [inB, Bool.and_eq_true, decide_eq_true_eq] at this
      omega⟩
    have hqv : q < vs.length := by
      have := hin j (by omega)
      simp only [inB, Bool.and_eq_true, decide_eq_true_eq, hq] at this
      omega
    have hst2 := stepB_row (vs := vs) (l := lc) (i := j) hqv (by rw [hget j (by omega)]; exact hq)
    rw [show j + 1 = l.length from hj.symm, hgetN] at hst2
    replace hst2 : stepB (rowsOf vs) lc j = vs[q].2.2.any fun z => decide (z = loop.getD 0 0) := hst2
    have hend : walkB (rowsOf vs) lc = stepB (rowsOf vs) lc j := by
      cases hsb : stepB (rowsOf vs) lc j with
      | false => exact walk_falseS (i := j) (by omega) hsb
      | true =>
        refine walk_true (by rw [hget 0 (by omega)]; exact hz0 (by omega)) (fun k hk => ?_) (fun k hk => ?_)
        · rw [hRl]
          by_cases h : k < l.length
          · rw [hget k h]; exact hin k h
          · rw [show k = l.length by omega, hgetN]
            have h2 := hin stem.length (by omega)
            rwa [show l.getD stem.length 0 = loop.getD 0 0 by rw [hl, List.getD_eq_getElem?_getD, List.getElem?_append_right (Nat.le_refl _), Nat.sub_self, List.getD_eq_getElem?_getD]] at h2
        · rcases Nat.lt_or_ge k j with h | h
          · exact hsa k (by omega)
          · rw [show k = j by omega]; exact hsb
    obtain ⟨bn, on, hne, hnc⟩ := hst.nx q _ (catV_at hqv)
    subst hne
    obtain ⟨b2, o2, hle, hlc2⟩ := hs2 0 _ (zs_getD (by omega))
    subst hle
    rw [hend, hst2]
    refine WC.exit ?_
    refine blk_hit ?_
    refine WC.seq ?_
    refine WC.mid Unit (fun _ => [(6, .bool (vs[q].2.2.any fun z => decide (z = loop.getD 0 0)))]) (fun _ w' => Hp w w' []) ?_ ?_
    · refine WC.regH (fun w' => Hp w w' [Sb b (some ⟨bn, on, none⟩) cn am cm vs ms]) mixed (by kernel_rfl) (fun w4 hw4 hh4 => ?_)
      have hp4 := hp3.keep hw4
      have hS := hp4.pick [1] (by decide)
      refine WH.pure 0 (by kernel_rfl) rfl (by kernel_rfl) rfl rfl rfl (hS) ?_
      refine WH.load 1 (by kernel_rfl) rfl (by kernel_rfl) rfl rfl rfl rfl rfl (fun w' h => cell_of_obj (h.obj 0 rfl) (j := 0) rfl) hS ?_
      refine WH.pure 2 (by kernel_rfl) rfl (by kernel_rfl) rfl rfl rfl (hS) ?_
      refine WH.known (d := 61) (congrArg (fun z => some (Value.int .i64 z)) (hlj.trans hq)) ?_
      refine WH.ix1 3 (j := q) (by kernel_rfl) rfl (by kernel_rfl) rfl rfl rfl rfl rfl rfl rfl hqv hS ?_
      refine WH.load 4 (by kernel_rfl) rfl (by kernel_rfl) rfl rfl rfl rfl rfl (fun w' h => cell_below h.below hnc) hS ?_
      refine WH.pure 5 (by kernel_rfl) rfl (by kernel_rfl) rfl rfl rfl (hS) ?_
      refine WH.ix1 6 (j := 0) (by kernel_rfl) rfl (by kernel_rfl) rfl rfl rfl rfl rfl rfl rfl (by omega) hS ?_
      refine WH.load 7 (by kernel_rfl) rfl (by kernel_rfl) rfl rfl rfl rfl rfl (fun w' h => cell_below h.below hlc2) hS ?_
      refine WH.one 8 rfl (by kernel_rfl) ?_
      refine WL.call rfl rfl rfl rfl rfl ent95 (containsI_any vs[q].1 vs[q].2.1 vs[q].2.2 (loop.getD 0 0) (hvs _ (List.getElem_mem hqv)) w4 ((hst.hp hp4).rows _ (List.getElem_mem hqv))) ?_
      rintro _ w5 ⟨rfl, hw5⟩
      obtain rfl := hw5.symm
      refine WL.nil ⟨hS, ?_⟩
      refine WH.pure 9 (by kernel_rfl) rfl (by kernel_rfl) rfl rfl rfl (hS) ?_
      refine WH.done (by kernel_rfl) ?_
      exact ⟨(), ⟨rfl, rfl⟩, hp4.nil'⟩
    rintro _ e5 w5 hsub hp5
    refine WC.sub hsub ?_
    repeat (first | refine zA ?_ | refine zB ?_ | refine zC rfl rfl rfl ?_ | refine zD ?_ | refine zE ?_ | refine zF ?_ | refine zG rfl ?_ | refine zH rfl ?_ | refine zI rfl rfl rfl ?_ | refine zJ rfl rfl ?_ | refine zK ?_ | refine zL ?_ | refine zM rfl ?_ | refine zN ?_)
    exact Res.one rfl rfl rfl ⟨rfl, hp5⟩
end Go.Proofs.YtpbbneclkhfgoaaDoor
end
section
/- ltl, fifty-fifth: Check. -/
namespace Go.Proofs.YtpbbneclkhfgoaaDoor
open Go.W Go.Ltl Go.RowKit
set_option maxRecDepth 100000
set_option linter.unusedSectionVars false
attribute [local irreducible] WC WL WQ WS WH

def mkI (ms l : List Int) : List Int := l.map fun z => ms.getD z.toNat 0
theorem mkI_take {ms l : List Int} {i : Nat} (h : i < l.length) : zs (mkI ms (l.take (i + 1))) = zs (mkI ms (l.take i)) ++ [.int .i64 (ms.getD (l.getD i 0).toNat 0)] := by
  unfold mkI
  rw [List.take_succ_eq_append_getElem h, List.map_append, zs_app, show l.getD i 0 = l[i] by simp [h]]
  rfl
theorem mkI_ok {ms : List Int} (h : ∀ m ∈ ms, 0 ≤ m ∧ m ≤ 15) (l : List Int) : ∀ m ∈ mkI ms l, 0 ≤ m ∧ m ≤ 15 := by
  intro m hm
  obtain ⟨v, _, rfl⟩ := List.mem_map.1 hm
  rw [List.getD_eq_getElem?_getD]
  cases hv : ms[v.toNat]? with
  | none => decide
  | some x => exact h x (List.mem_of_getElem? hv)
/-- What a right result is. -/
def rightP (vs : Vs) (ms : List Int) (f : Fm) (hb : Bool) (xs ys : List Int) : Prop :=
  (hb = true ∧ xs = [] ∧ ys = [] ∧ HoldsA vs ms f) ∨ (hb = false ∧ runB (rowsOf vs) xs ys = true ∧ ¬ satS (seqL (mkI ms (xs ++ ys)) xs.length) f 0)
def CheckR (vs : Vs) (ms : List Int) (s : Str) (hb : Bool) (xs ys : List Int) (ec : Int) : Prop :=
  if strB vs ms = true then match parseM s with
    | none => ec = 4
    | some f => (ec = 0 ∧ rightP vs ms f hb xs ys) ∨ (ec = 10 ∧ ¬ rightP vs ms f hb xs ys)
  else ec = 2
theorem Check_any (an : Option Addr) (cn : Nat) (am : Option Addr) (cm : Nat) (vs : Vs) (ms : List Int) (hms : ms.length ≤ 1000000) (hvl : vs.length ≤ 1000000) (hvs : ∀ x ∈ vs, x.2.2.length ≤ 1000000) (s : Str) (hs : s.length ≤ 1000)
    (hb : Bool) (a1 a2 : Option Addr) (c1 c2 : Nat) (xs ys : List Int) (hxl : xs.length ≤ 400000) (hyl : ys.length ≤ 400000) (w : World) (hG : Gl w) (hst : Stc w an am vs ms) (hs1 : Sl w a1 (zs xs)) (hs2 : Sl w a2 (zs ys)) :
    Ret Tryd.prog 40 [stV an cn am cm vs ms, st s, .agg #[.bool hb, .slice a1 xs.length c1, .slice a2 ys.length c2]] w fun v w' => ∃ ec, v = .int .i64 ec ∧ CheckR vs ms s hb xs ys ec ∧ Hp w w' [] := by
  refine enter Tryd.func40 rfl rfl ⟨rfl, rfl⟩ rfl ?_
  repeat (first | refine zA ?_ | refine zB ?_ | refine zC rfl rfl rfl ?_ | refine zD ?_ | refine zE ?_ | refine zF ?_ | refine zG rfl ?_ | refine zH rfl ?_ | refine zI rfl rfl rfl ?_ | refine zJ rfl rfl ?_ | refine zK ?_ | refine zL ?_ | refine zM rfl ?_ | refine zN ?_)
  refine WL.box rfl rfl rfl (fun b3 w1 h1 => ?_)
  have hp1 : Hp w w1 [Sb b3 an cn am cm vs ms] := (Hp.start w).new h1
  refine WL.box rfl rfl rfl (fun b5 w2 h2 => ?_)
  have hp2 : Hp w w2 [Rb b5 hb a1 xs.length c1 a2 ys.length c2, Sb b3 an cn am cm vs ms] := hp1.new h2
  clear hp1 h1 h2
  repeat (first | refine zA ?_ | refine zB ?_ | refine zC rfl rfl rfl ?_ | refine zD ?_ | refine zE ?_ | refine zF ?_ | refine zG rfl ?_ | refine zH rfl ?_ | refine zI rfl rfl rfl ?_ | refine zJ rfl rfl ?_ | refine zK ?_ | refine zL ?_ | refine zM rfl ?_ | refine zN ?_)
  refine WL.loadN rfl rfl rfl rfl rfl (cs := [.slice an vs.length cn, .slice am ms.length cm]) rfl (fun q v hq => cell_of_obj (hp2.obj 1 rfl) (by rw [Nat.zero_add]; simpa using hq)) ?_
  refine WL.call rfl rfl rfl rfl rfl ent56 (isStructure_any an cn am cm vs ms hms hvs w2 (hst.hp hp2)) ?_
  rintro _ w3 ⟨rfl, hp3⟩
  have hp3 := hp2.call hp3.below
  cases hsb : strB vs ms with
  | false =>
    repeat (first | refine zA ?_ | refine zB ?_ | refine zC rfl rfl rfl ?_ | refine zD ?_ | refine zE ?_ | refine zF ?_ | refine zG rfl ?_ | refine zH rfl ?_ | refine zI rfl rfl rfl ?_ | refine zJ rfl rfl ?_ | refine zK ?_ | refine zL ?_ | refine zM rfl ?_ | refine zN ?_)
    exact Res.one rfl rfl rfl ⟨2, rfl, by unfold CheckR; rw [hsb, if_neg (by decide)], hp3.nil'⟩
  | true =>
  have hok := strB_ok hsb
  repeat (first | refine zA ?_ | refine zB ?_ | refine zC rfl rfl rfl ?_ | refine zD ?_ | refine zE ?_ | refine zF ?_ | refine zG rfl ?_ | refine zH rfl ?_ | refine zI rfl rfl rfl ?_ | refine zJ rfl rfl ?_ | refine zK ?_ | refine zL ?_ | refine zM rfl ?_ | refine zN ?_)
  refine WL.call rfl rfl rfl rfl rfl ent48 (parse_any s hs w3 (hG.hp hp3)) ?_
  rintro v w4 ⟨⟨f, hf, rfl⟩ | ⟨hf, x, rfl⟩, hp4⟩
  rotate_left
  · have hp5 := hp3.call hp4.below
    repeat (first | refine zA ?_ | refine zB ?_ | refine zC rfl rfl rfl ?_ | refine zD ?_ | refine zE ?_ | refine zF ?_ | refine zG rfl ?_ | refine zH rfl ?_ | refine zI rfl rfl rfl ?_ | refine zJ rfl rfl ?_ | refine zK ?_ | refine zL ?_ | refine zM rfl ?_ | refine zN ?_)
    exact Res.one rfl rfl rfl ⟨4, rfl, by unfold CheckR; rw [hsb, if_pos rfl, hf], hp5.nil'⟩
  have hp5 := hp3.call hp4.below
  clear hp2 hp3 hp4
  have hwf := parseM_wf hf
  have hsz := (parseM_sz hf).2
  repeat (first | refine WL.pure rfl rfl rfl ?_)
  refine WL.nil ?_
  refine WC.seq ?_
  refine WC.seq ?_
  refine WC.reg ?_
  repeat (first | refine WL.pure rfl rfl rfl ?_)
  refine WL.nil ?_
  refine WC.condF rfl ?_
  refine WC.skip ?_
  refine WC.seq ?_
  refine WC.reg ?_
  refine WL.pure rfl rfl rfl ?_
  refine WL.nil ?_
  refine WC.seq ?_
  refine WC.mid Bool (fun r => [(9, .bool r)]) (fun r w' => (r = true ↔ rightP vs ms f hb xs ys) ∧ Hp w w' []) ?_ ?_
  · repeat (first | refine zA ?_ | refine zB ?_ | refine zC rfl rfl rfl ?_ | refine zD ?_ | refine zE ?_ | refine zF ?_ | refine zG rfl ?_ | refine zH rfl ?_ | refine zI rfl rfl rfl ?_ | refine zJ rfl rfl ?_ | refine zK ?_ | refine zL ?_ | refine zM rfl ?_ | refine zN ?_)
    refine WL.loadB rfl rfl rfl rfl rfl (hp5.obj 0 rfl) (j := 0) rfl ?_
    cases hb with
    | true =>
      repeat (first | refine zA ?_ | refine zB ?_ | refine zC rfl rfl rfl ?_ | refine zD ?_ | refine zE ?_ | refine zF ?_ | refine zG rfl ?_ | refine zH rfl ?_ | refine zI rfl rfl rfl ?_ | refine zJ rfl rfl ?_ | refine zK ?_ | refine zL ?_ | refine zM rfl ?_ | refine zN ?_)
      refine WL.loadB rfl rfl rfl rfl rfl (hp5.obj 0 rfl) (j := 1) rfl ?_
      repeat (first | refine zA ?_ | refine zB ?_ | refine zC rfl rfl rfl ?_ | refine zD ?_ | refine zE ?_ | refine zF ?_ | refine zG rfl ?_ | refine zH rfl ?_ | refine zI rfl rfl rfl ?_ | refine zJ rfl rfl ?_ | refine zK ?_ | refine zL ?_ | refine zM rfl ?_ | refine zN ?_)
      refine WL.loadB rfl rfl rfl rfl rfl (hp5.obj 0 rfl) (j := 2) rfl ?_
      refine WL.pure rfl rfl rfl ?_
      refine WL.pure rfl rfl rfl ?_
      refine WL.known (d := 32) (congrArg (fun z => some (Value.int .i64 z)) (show IntKind.i64.wrap (((xs.length : Nat) : Int) + ((ys.length : Nat) : Int)) = ((xs.length + ys.length : Nat) : Int) by rw [wrap_mid (by omega) (by omega)]; omega)) ?_
      repeat (first | refine zA ?_ | refine zB ?_ | refine zC rfl rfl rfl ?_ | refine zD ?_ | refine zE ?_ | refine zF ?_ | refine zG rfl ?_ | refine zH rfl ?_ | refine zI rfl rfl rfl ?_ | refine zJ rfl rfl ?_ | refine zK ?_ | refine zL ?_ | refine zM rfl ?_ | refine zN ?_)
      refine WL.split 34 rfl (fun c => ?_) (fun c => ?_)
      · have c : xs.length + ys.length = 0 := by have c : (((xs.length + ys.length : Nat) : Int) == 0) = true := c; rw [beq_iff_eq] at c; omega
        have hx0 : xs = [] := List.eq_nil_of_length_eq_zero (by omega)
        have hy0 : ys = [] := List.eq_nil_of_length_eq_zero (by omega)
        repeat (first | refine zA ?_ | refine zB ?_ | refine zC rfl rfl rfl ?_ | refine zD ?_ | refine zE ?_ | refine zF ?_ | refine zG rfl ?_ | refine zH rfl ?_ | refine zI rfl rfl rfl ?_ | refine zJ rfl rfl ?_ | refine zK ?_ | refine zL ?_ | refine zM rfl ?_ | refine zN ?_)
        refine WL.loadN rfl rfl rfl rfl rfl (cs := [.slice an vs.length cn, .slice am ms.length cm]) rfl (fun q v hq => cell_of_obj (hp5.obj 1 rfl) (by rw [Nat.zero_add]; simpa using hq)) ?_
        refine WL.pure rfl rfl rfl ?_
        rcases refute_ok hok hwf hsz with ⟨hM, hA⟩ | ⟨stem, loop, hM, hA⟩
        · refine WL.call rfl rfl rfl rfl rfl ent57 (refute_any an cn am cm vs ms hok f hwf hsz 1099511627776 1048576 (Nat.le_refl _) (Nat.le_refl _) none hM w4 (hG.hp hp5) (hst.hp hp5)) ?_
          rintro _ w5 ⟨rfl, hp6⟩
          repeat (first | refine zA ?_ | refine zB ?_ | refine zC rfl rfl rfl ?_ | refine zD ?_ | refine zE ?_ | refine zF ?_ | refine zG rfl ?_ | refine zH rfl ?_ | refine zI rfl rfl rfl ?_ | refine zJ rfl rfl ?_ | refine zK ?_ | refine zL ?_ | refine zM rfl ?_ | refine zN ?_)
          exact ⟨true, ⟨rfl, rfl⟩, ⟨fun _ => .inl ⟨rfl, hx0, hy0, hA⟩, fun _ => rfl⟩, (hp5.call hp6.below).nil'⟩
        · refine WL.call rfl rfl rfl rfl rfl ent57 (refute_any an cn am cm vs ms hok f hwf hsz 1099511627776 1048576 (Nat.le_refl _) (Nat.le_refl _) (some (stem, loop)) hM w4 (hG.hp hp5) (hst.hp hp5)) ?_
          rintro _ w5 ⟨sa, sc, pa, pc, rfl, hp6⟩
          repeat (first | refine zA ?_ | refine zB ?_ | refine zC rfl rfl rfl ?_ | refine zD ?_ | refine zE ?_ | refine zF ?_ | refine zG rfl ?_ | refine zH rfl ?_ | refine zI rfl rfl rfl ?_ | refine zJ rfl rfl ?_ | refine zK ?_ | refine zL ?_ | refine zM rfl ?_ | refine zN ?_)
          refine ⟨false, ⟨rfl, rfl⟩, ⟨fun h => Bool.noConfusion h, ?_⟩, (hp5.call hp6.below).nil'⟩
          rintro (⟨_, _, _, h⟩ | ⟨h, _⟩)
          · exact absurd h hA.not
          · cases h
      · have c : ¬ xs.length + ys.length = 0 := by have c : (((xs.length + ys.length : Nat) : Int) == 0) = false := c; rw [beq_eq_false_iff_ne] at c; omega
        repeat (first | refine zA ?_ | refine zB ?_ | refine zC rfl rfl rfl ?_ | refine zD ?_ | refine zE ?_ | refine zF ?_ | refine zG rfl ?_ | refine zH rfl ?_ | refine zI rfl rfl rfl ?_ | refine zJ rfl rfl ?_ | refine zK ?_ | refine zL ?_ | refine zM rfl ?_ | refine zN ?_)
        refine ⟨false, ⟨rfl, rfl⟩, ⟨fun h => Bool.noConfusion h, ?_⟩, hp5.nil'⟩
        rintro (⟨_, h1, h2, _⟩ | ⟨h, _⟩)
        · rw [h1, h2] at c; exact absurd rfl c
        · cases h
    | false =>
      have hI := isRun_any an cn am cm vs ms hvl hvs a1 a2 c1 c2 xs ys w4 (hst.hp hp5) (hs1.hp hp5) (hs2.hp hp5)
      repeat (first | refine zA ?_ | refine zB ?_ | refine zC rfl rfl rfl ?_ | refine zD ?_ | refine zE ?_ | refine zF ?_ | refine zG rfl ?_ | refine zH rfl ?_ | refine zI rfl rfl rfl ?_ | refine zJ rfl rfl ?_ | refine zK ?_ | refine zL ?_ | refine zM rfl ?_ | refine zN ?_)
      refine WL.loadN rfl rfl rfl rfl rfl (cs := [.slice an vs.length cn, .slice am ms.length cm]) rfl (fun q v hq => cell_of_obj (hp5.obj 1 rfl) (by rw [Nat.zero_add]; simpa using hq)) ?_
      refine WL.pure rfl rfl rfl ?_
      refine WL.loadB rfl rfl rfl rfl rfl (hp5.obj 0 rfl) (j := 1) rfl ?_
      refine WL.pure rfl rfl rfl ?_
      refine WL.loadB rfl rfl rfl rfl rfl (hp5.obj 0 rfl) (j := 2) rfl ?_
      refine WL.call rfl rfl rfl rfl rfl ent68 hI ?_
      rintro _ w5 ⟨rfl, hp6⟩
      have hp6 := hp5.call hp6.below
      cases hrb : runB (rowsOf vs) xs ys with
      | false =>
        repeat (first | refine zA ?_ | refine zB ?_ | refine zC rfl rfl rfl ?_ | refine zD ?_ | refine zE ?_ | refine zF ?_ | refine zG rfl ?_ | refine zH rfl ?_ | refine zI rfl rfl rfl ?_ | refine zJ rfl rfl ?_ | refine zK ?_ | refine zL ?_ | refine zM rfl ?_ | refine zN ?_)
        refine ⟨false, ⟨rfl, rfl⟩, ⟨fun h => Bool.noConfusion h, ?_⟩, hp6.nil'⟩
        rintro (⟨h, _⟩ | ⟨_, h, _⟩)
        · cases h
        · rw [hrb] at h; cases h
      | true =>
        have hrb2 := hrb
        unfold runB walkB lassoB at hrb2
        simp only [Bool.and_eq_true, decide_eq_true_eq, List.all_eq_true] at hrb2
        obtain ⟨⟨⟨k1, k2⟩, k3⟩, ⟨_, k4⟩, _⟩ := hrb2
        have hlt : ∀ z ∈ xs ++ ys, 0 ≤ z ∧ z < (ms.length : Int) := fun z hz => by
          have := k4 z (List.mem_append_left _ hz)
          simp only [inB, Bool.and_eq_true, decide_eq_true_eq, List.length_map] at this
          rw [hok.ml]; exact this
        have hcat : catL [(a1, c1, xs), (a2, c2, ys)] = xs ++ ys := by simp [catL]
        obtain ⟨l, hl⟩ : ∃ l, l = xs ++ ys := ⟨_, rfl⟩
        have hN : l.length = xs.length + ys.length := by rw [hl, List.length_append]
        rw [← hl] at hlt hcat
        repeat (first | refine zA ?_ | refine zB ?_ | refine zC rfl rfl rfl ?_ | refine zD ?_ | refine zE ?_ | refine zF ?_ | refine zG rfl ?_ | refine zH rfl ?_ | refine zI rfl rfl rfl ?_ | refine zJ rfl rfl ?_ | refine zK ?_ | refine zL ?_ | refine zM rfl ?_ | refine zN ?_)
        refine WL.loadB rfl rfl rfl rfl rfl (hp6.obj 0 rfl) (j := 1) rfl ?_
        repeat (first | refine zA ?_ | refine zB ?_ | refine zC rfl rfl rfl ?_ | refine zD ?_ | refine zE ?_ | refine zF ?_ | refine zG rfl ?_ | refine zH rfl ?_ | refine zI rfl rfl rfl ?_ | refine zJ rfl rfl ?_ | refine zK ?_ | refine zL ?_ | refine zM rfl ?_ | refine zN ?_)
        refine WL.buildT (cs := [.slice none 0 0, .int .i64 (xs.length : Nat)]) rfl rfl rfl rfl rfl rfl ?_
        refine WL.alloc rfl rfl rfl (fun b10 w6 h6 => ?_)
        have hp7 := hp6.new h6
        refine WL.storeN rfl rfl rfl rfl rfl (by simp [Value.oneCell']) (hp7.obj 0 rfl) (Nat.le_refl _) rfl (fun w7 h7 => ?_)
        have hp8 : Hp w w7 [Lx b10 none 0 0 xs.length, Rb b5 false a1 xs.length c1 a2 ys.length c2, Sb b3 an cn am cm vs ms] := hp7.set 0 rfl rfl h7
        clear hp6 hp7 h6 h7
        repeat (first | refine zA ?_ | refine zB ?_ | refine zC rfl rfl rfl ?_ | refine zD ?_ | refine zE ?_ | refine zF ?_ | refine zG rfl ?_ | refine zH rfl ?_ | refine zI rfl rfl rfl ?_ | refine zJ rfl rfl ?_ | refine zK ?_ | refine zL ?_ | refine zM rfl ?_ | refine zN ?_)
        refine WL.loadB rfl rfl rfl rfl rfl (hp8.obj 1 rfl) (j := 1) rfl ?_
        refine WL.pure rfl rfl rfl ?_
        refine WL.loadB rfl rfl rfl rfl rfl (hp8.obj 1 rfl) (j := 2) rfl ?_
        refine WL.buildS (cs := catV [(a1, c1, xs), (a2, c2, ys)]) rfl rfl rfl rfl rfl rfl rfl rfl rfl ?_
        intro b54 w8 h8
        have hp9 := hp8.new h8
        have hC := Concat_any (some ⟨b54, 0, none⟩) 2 [(a1, c1, xs), (a2, c2, ys)] (by show 2 ≤ 1000; omega) (by rw [hcat]; omega) w8 (Sl.of_obj (hp9.obj 0 rfl) (fun q u hq => by simpa using hq))
          (by
            intro x hx
            simp only [List.mem_cons, List.not_mem_nil, or_false] at hx
            rcases hx with rfl | rfl
            · exact hs1.hp hp9
            · exact hs2.hp hp9)
        rw [hcat] at hC
        refine WL.call rfl rfl rfl rfl rfl ent43 hC ?_
        rintro v w9 ⟨la, lcp, rfl, hp10⟩
        have hp10 : Hp w w9 [Lx b10 none 0 0 xs.length, .row 3 1 (.slice none 0 0) 0 (zs (mkI ms (l.take 0))), Ri (.slice la l.length lcp) l, Sb b3 an cn am cm vs ms] := ((hp9.comb hp10).nilrow 3 1).pick [3, 0, 1, 5] (by decide)
        clear hp8 hp9 h8 hC
        obtain ⟨bl, ol, rfl, _⟩ := (Hp.sl hp10 2 rfl) 0 _ (zs_getD (by omega))
        obtain ⟨bm, om, rfl, _⟩ := hst.mks 0 _ (zs_getD (by have := hok.lo; have := hok.ml; omega))
        repeat (first | refine zA ?_ | refine zB ?_ | refine zC rfl rfl rfl ?_ | refine zD ?_ | refine zE ?_ | refine zF ?_ | refine zG rfl ?_ | refine zH rfl ?_ | refine zI rfl rfl rfl ?_ | refine zJ rfl rfl ?_ | refine zK ?_ | refine zL ?_ | refine zM rfl ?_ | refine zN ?_)
        refine WC.loop (Nat × Option Addr × Nat) (fun (i, _) => [(3, ptr b3), (7, fmV f), (10, ptr b10), (55, .slice (some ⟨bl, ol, none⟩) l.length lcp), (56, .int .i64 (l.length : Nat)), (57, .int .i64 (i : Nat))])
          (fun (i, pa, pc) w' => i ≤ l.length ∧ Hp w w' [Lx b10 pa i pc xs.length, .row 3 1 (.slice pa i pc) i (zs (mkI ms (l.take i))), Ri (.slice (some ⟨bl, ol, none⟩) l.length lcp) l, Sb b3 an cn (some ⟨bm, om, none⟩) cm vs ms]) (fun (i, _) => l.length - i) (0, none, 0) ⟨rfl, rfl, rfl, rfl, rfl, rfl, rfl⟩ ⟨Nat.zero_le _, hp10⟩ ?_
        clear hp10
        rintro ⟨i, pa, pc⟩ w10 ⟨hi, hp10⟩
        replace hi : i ≤ l.length := hi
        replace hp10 : Hp w w10 [Lx b10 pa i pc xs.length, .row 3 1 (.slice pa i pc) i (zs (mkI ms (l.take i))), Ri (.slice (some ⟨bl, ol, none⟩) l.length lcp) l, Sb b3 an cn (some ⟨bm, om, none⟩) cm vs ms] := hp10
        repeat (first | refine zA ?_ | refine zB ?_ | refine zC rfl rfl rfl ?_ | refine zD ?_ | refine zE ?_ | refine zF ?_ | refine zG rfl ?_ | refine zH rfl ?_ | refine zI rfl rfl rfl ?_ | refine zJ rfl rfl ?_ | refine zK ?_ | refine zL ?_ | refine zM rfl ?_ | refine zN ?_)
        refine WC.cond rfl (fun g => ?_) (fun g => ?_)
        · have hi : i < l.length := by have := of_decide_eq_true g; omega
          have step := wrap_succ (i := i) (n := i + 1) (by omega) (by omega)
          have hz := hlt (l.getD i 0) (by rw [← get_getD hi]; exact List.getElem_mem hi)
          have hnext := mkI_take (ms := ms) hi
          obtain ⟨q, hq⟩ : ∃ q : Nat, l.getD i 0 = ((q : Nat) : Int) := ⟨(l.getD i 0).toNat, by omega⟩
          have hqm : q < ms.length := by omega
          rw [hq, Int.toNat_natCast] at hnext
          have hmc := Sl.cell hst.mks (zs_getD hqm)
          repeat (first | refine zA ?_ | refine zB ?_ | refine zC rfl rfl rfl ?_ | refine zD ?_ | refine zE ?_ | refine zF ?_ | refine zG rfl ?_ | refine zH rfl ?_ | refine zI rfl rfl rfl ?_ | refine zJ rfl rfl ?_ | refine zK ?_ | refine zL ?_ | refine zM rfl ?_ | refine zN ?_)
          refine WL.ixload rfl (fun _ => rfl) rfl rfl rfl rfl rfl rfl rfl hi rfl rfl (Hp.sl hp10 2 rfl) (zs_getD hi) ?_
          intro q0
          refine WL.known (d := 60) (congrArg (fun z => some (Value.int .i64 z)) hq) ?_
          repeat (first | refine zA ?_ | refine zB ?_ | refine zC rfl rfl rfl ?_ | refine zD ?_ | refine zE ?_ | refine zF ?_ | refine zG rfl ?_ | refine zH rfl ?_ | refine zI rfl rfl rfl ?_ | refine zJ rfl rfl ?_ | refine zK ?_ | refine zL ?_ | refine zM rfl ?_ | refine zN ?_)
          refine WC.mid (Option Addr × Nat) (fun _ => [(3, ptr b3), (7, fmV f), (10, ptr b10), (55, .slice (some ⟨bl, ol, none⟩) l.length lcp), (56, .int .i64 (l.length : Nat)), (57, .int .i64 (i : Nat))])
            (fun (pe, pf) w' => Hp w w' [Lx b10 pe (i + 1) pf xs.length, .row 3 1 (.slice pe (i + 1) pf) (i + 1) (zs (mkI ms (l.take (i + 1)))), Ri (.slice (some ⟨bl, ol, none⟩) l.length lcp) l, Sb b3 an cn (some ⟨bm, om, none⟩) cm vs ms]) ?_ ?_
          · refine WC.regH (fun w' => Hp w w' [Sb b3 an cn (some ⟨bm, om, none⟩) cm vs ms]) mixed (by kernel_rfl) (fun w11 hw11 hh11 => ?_)
            have hp11 := hp10.keep hw11
            have hS := hp11.pick [3] (by decide)
            refine WH.pure 0 (by kernel_rfl) rfl (by kernel_rfl) rfl rfl rfl (hS) ?_
            refine WH.pure 2 (by kernel_rfl) rfl (by kernel_rfl) rfl rfl rfl (hS) ?_
            refine WH.load 3 (by kernel_rfl) rfl (by kernel_rfl) rfl rfl rfl rfl rfl (fun w' h => cell_of_obj (h.obj 0 rfl) (j := 1) rfl) hS ?_
            refine WH.pure 4 (by kernel_rfl) rfl (by kernel_rfl) rfl rfl rfl (hS) ?_
            refine WH.ix1 5 (j := q) (by kernel_rfl) rfl (by kernel_rfl) rfl rfl rfl rfl rfl rfl rfl hqm hS ?_
            refine WH.load 6 (by kernel_rfl) rfl (by kernel_rfl) rfl rfl rfl rfl rfl (fun w' h => cell_below h.below hmc) hS ?_
            have cl : ∀ {w9 : World} {pe : Option Addr} {pf : Nat}, Hp w w9 [Lx b10 pe (i + 1) pf xs.length, .row 3 1 (.slice pe (i + 1) pf) (i + 1) (zs (mkI ms (l.take i)) ++ [.int .i64 (ms.getD q 0)]), Ri (.slice (some ⟨bl, ol, none⟩) l.length lcp) l, Sb b3 an cn (some ⟨bm, om, none⟩) cm vs ms] → Hp w w9 [Lx b10 pe (i + 1) pf xs.length, .row 3 1 (.slice pe (i + 1) pf) (i + 1) (zs (mkI ms (l.take (i + 1)))), Ri (.slice (some ⟨bl, ol, none⟩) l.length lcp) l, Sb b3 an cn (some ⟨bm, om, none⟩) cm vs ms] := fun {w9 pe pf} h => by rw [hnext]; exact h
            refine WH.two 1 7 rfl rfl (by kernel_rfl) ?_ ?_
            · skip
              refine WL.loadB rfl rfl rfl rfl rfl (hp11.obj 0 rfl) (j := 0) rfl (WL.nil ⟨hp11.pick [3] (by decide), ?_⟩)
              refine WH.one 7 rfl (by kernel_rfl) ?_
              refine WL.buildS (cs := [.int .i64 (ms.getD q 0)]) rfl rfl rfl rfl rfl rfl rfl rfl rfl (fun bq0 wq0 hq0 => ?_)
              have hz0 := hp11.new hq0
              refine WL.nil ⟨hz0.pick [4] (by decide), ?_⟩
              refine WH.one 8 rfl (by kernel_rfl) ?_
              refine WL.append 2 hz0 rfl rfl rfl rfl rfl (by decide) rfl rfl rfl (news := [.int .i64 (ms.getD q 0)]) (Sl.of_obj (hz0.obj 0 rfl) (fun q u hq => by simpa using hq)) rfl (zs_cells [_]) (by unfold maxLen; omega) (by show (i + 1) * 8 ≤ _; omega) ?_
              intro paN pcN wN hN _
              have hSN := hN.pick [4] (by decide)
              refine WL.nil ⟨hSN, ?_⟩
              refine WH.pure 9 (by kernel_rfl) rfl (by kernel_rfl) rfl rfl rfl (hSN) ?_
              refine WH.one 10 rfl (by kernel_rfl) ?_
              refine WL.store rfl rfl rfl rfl rfl rfl (hN.obj 1 rfl) (of_decide_eq_true rfl) (fun wM hMs => ?_)
              have hM := (hN.set 1 rfl rfl hMs).tail
              refine WL.nil ⟨hM.pick [3] (by decide), WH.done (by kernel_rfl) ?_⟩
              exact ⟨(paN, pcN), ⟨rfl, rfl, rfl, rfl, rfl, rfl, rfl⟩, cl hM⟩
            · skip
              refine WL.buildS (cs := [.int .i64 (ms.getD q 0)]) rfl rfl rfl rfl rfl rfl rfl rfl rfl (fun bq0 wq0 hq0 => ?_)
              have hz0 := hp11.new hq0
              refine WL.nil ⟨hz0.pick [4] (by decide), ?_⟩
              refine WH.one 1 rfl (by kernel_rfl) ?_
              refine WL.loadB rfl rfl rfl rfl rfl (hz0.obj 1 rfl) (j := 0) rfl (WL.nil ⟨hz0.pick [4] (by decide), ?_⟩)
              refine WH.one 8 rfl (by kernel_rfl) ?_
              refine WL.append 2 hz0 rfl rfl rfl rfl rfl (by decide) rfl rfl rfl (news := [.int .i64 (ms.getD q 0)]) (Sl.of_obj (hz0.obj 0 rfl) (fun q u hq => by simpa using hq)) rfl (zs_cells [_]) (by unfold maxLen; omega) (by show (i + 1) * 8 ≤ _; omega) ?_
              intro paN pcN wN hN _
              have hSN := hN.pick [4] (by decide)
              refine WL.nil ⟨hSN, ?_⟩
              refine WH.pure 9 (by kernel_rfl) rfl (by kernel_rfl) rfl rfl rfl (hSN) ?_
              refine WH.one 10 rfl (by kernel_rfl) ?_
              refine WL.store rfl rfl rfl rfl rfl rfl (hN.obj 1 rfl) (of_decide_eq_true rfl) (fun wM hMs => ?_)
              have hM := (hN.set 1 rfl rfl hMs).tail
              refine WL.nil ⟨hM.pick [3] (by decide), WH.done (by kernel_rfl) ?_⟩
              exact ⟨(paN, pcN), ⟨rfl, rfl, rfl, rfl, rfl, rfl, rfl⟩, cl hM⟩
          · rintro ⟨pe, pf⟩ e11 w11 hsub hp11
            refine WC.sub hsub ?_
            repeat (first | refine zA ?_ | refine zB ?_ | refine zC rfl rfl rfl ?_ | refine zD ?_ | refine zE ?_ | refine zF ?_ | refine zG rfl ?_ | refine zH rfl ?_ | refine zI rfl rfl rfl ?_ | refine zJ rfl rfl ?_ | refine zK ?_ | refine zL ?_ | refine zM rfl ?_ | refine zN ?_)
            exact ⟨(i + 1, pe, pf), (by show l.length - (i + 1) < l.length - i; omega), ⟨rfl, rfl, rfl, rfl, rfl, congrArg (fun z => some (Value.int .i64 z)) step, rfl⟩, hi, hp11⟩
        · have hi : i = l.length := by have := of_decide_eq_false g; omega
          subst hi
          rw [List.take_length] at hp10
          have hmkl : (mkI ms l).length = l.length := List.length_map _
          have hV := values_any pa pc (mkI ms l) xs.length (by omega) (by omega) (mkI_ok hok.mkk l) f hwf w10 (Hp.sl hp10 1 rfl)
          rw [hmkl] at hV
          have hvs2 := vals_sat (mkI ms l) xs.length (by omega) f hwf 0
          repeat (first | refine zA ?_ | refine zB ?_ | refine zC rfl rfl rfl ?_ | refine zD ?_ | refine zE ?_ | refine zF ?_ | refine zG rfl ?_ | refine zH rfl ?_ | refine zI rfl rfl rfl ?_ | refine zJ rfl rfl ?_ | refine zK ?_ | refine zL ?_ | refine zM rfl ?_ | refine zN ?_)
          refine WL.loadN rfl rfl rfl rfl rfl (cs := [.slice pa l.length pc, .int .i64 (xs.length : Nat)]) rfl (fun q v hq => cell_of_obj (hp10.obj 0 rfl) (by rw [Nat.zero_add]; simpa using hq)) ?_
          refine WL.pure rfl rfl rfl ?_
          refine WL.call rfl rfl rfl rfl rfl ent49 hV ?_
          rintro _ w11 ⟨vb, rfl, hp11⟩
          refine WL.ix1 (j := 0) rfl rfl rfl rfl rfl rfl rfl (by omega) ?_
          refine WL.load rfl rfl rfl rfl rfl (lb_obj hp11 (by rw [valsM_len]; omega)) ?_
          repeat (first | refine zA ?_ | refine zB ?_ | refine zC rfl rfl rfl ?_ | refine zD ?_ | refine zE ?_ | refine zF ?_ | refine zG rfl ?_ | refine zH rfl ?_ | refine zI rfl rfl rfl ?_ | refine zJ rfl rfl ?_ | refine zK ?_ | refine zL ?_ | refine zM rfl ?_ | refine zN ?_)
          refine ⟨!(valsM (mkI ms l) xs.length f).getD 0 false, ⟨rfl, rfl⟩, ?_, (hp10.comb hp11).nil'⟩
          have e0 : pos (mkI ms l).length xs.length 0 = 0 := rfl
          rw [e0] at hvs2
          constructor
          · intro h
            refine .inr ⟨rfl, hrb, fun hs => ?_⟩
            rw [← hl] at hs
            rw [hvs2.2 hs] at h
            cases h
          · rintro (⟨h, _⟩ | ⟨_, _, h⟩)
            · cases h
            · rw [← hl] at h
              cases hg : (valsM (mkI ms l) xs.length f).getD 0 false with
              | false => rfl
              | true => exact absurd (hvs2.1 hg) h
  rintro r e6 w6 hsub ⟨hr, hp6⟩
  refine WC.sub hsub ?_
  clear hsub e6 hp5
  cases r with
  | true =>
    repeat (first | refine zA ?_ | refine zB ?_ | refine zC rfl rfl rfl ?_ | refine zD ?_ | refine zE ?_ | refine zF ?_ | refine zG rfl ?_ | refine zH rfl ?_ | refine zI rfl rfl rfl ?_ | refine zJ rfl rfl ?_ | refine zK ?_ | refine zL ?_ | refine zM rfl ?_ | refine zN ?_)
    exact Res.one rfl rfl rfl ⟨0, rfl, by unfold CheckR; rw [hsb, if_pos rfl, hf]; exact .inl ⟨rfl, hr.1 rfl⟩, hp6⟩
  | false =>
    repeat (first | refine zA ?_ | refine zB ?_ | refine zC rfl rfl rfl ?_ | refine zD ?_ | refine zE ?_ | refine zF ?_ | refine zG rfl ?_ | refine zH rfl ?_ | refine zI rfl rfl rfl ?_ | refine zJ rfl rfl ?_ | refine zK ?_ | refine zL ?_ | refine zM rfl ?_ | refine zN ?_)
    exact Res.one rfl rfl rfl ⟨10, rfl, by unfold CheckR; rw [hsb, if_pos rfl, hf]; exact .inr ⟨rfl, fun h => Bool.noConfusion (hr.2 h)⟩, hp6⟩
end Go.Proofs.YtpbbneclkhfgoaaDoor
end
section
/- ltl, forty-seventh: the walk of tame. -/
namespace Go.Proofs.YtpbbneclkhfgoaaDoor
open Go.W Go.Ltl Go.RowKit
set_option maxRecDepth 100000
set_option linter.unusedSectionVars false
attribute [local irreducible] WC WL WQ WS WH

theorem Hp.rowInY {w0 w : World} {X Y : List Ent} {na : Option Addr} {nc : Nat} {vs : Vs} {x : Option Addr × Nat × List Int} (h : Hp w0 w (.row 22 1 (.slice na (vs.length + 1) nc) (vs.length + 1) (catV vs ++ [.slice x.1 x.2.2.length x.2.1]) :: Ri (.slice x.1 x.2.2.length x.2.1) x.2.2 :: (X ++ (vsE vs ++ Y)))) :
    Hp w0 w (Rvs (.slice na (vs ++ [x]).length nc) (vs ++ [x]) :: (X ++ (vsE (vs ++ [x]) ++ Y))) := by
  unfold Rvs
  rw [List.length_append, catV_snoc, vsE_snoc]
  refine permE h (List.Perm.cons _ ?_)
  have := (List.perm_middle (a := Ri (.slice x.1 x.2.2.length x.2.1) x.2.2) (l₁ := X ++ vsE vs) (l₂ := Y)).symm
  simpa [List.append_assoc] using this
/-- The rows of a structure of one's own, and its marks. -/
abbrev OwnS (na : Option Addr) (nc : Nat) (ma : Option Addr) (mc : Nat) (vs : Vs) (ms : List Int) : List Ent := Rvs (.slice na vs.length nc) vs :: Ri (.slice ma ms.length mc) ms :: vsE vs
theorem Stc.inA {w0 w : World} {A : List Ent} {na ma : Option Addr} {nc mc : Nat} {vs : Vs} {ms : List Int} (h : Hp w0 w (A ++ OwnS na nc ma mc vs ms)) : Stc w na ma vs ms :=
  Stc.own (n := vs.length) (nc := nc) (m := ms.length) (mc := mc) h (by simp) (by simp) (fun x hx => by simp [hx])
theorem Stc.inB {w0 w : World} {A B : List Ent} {na ma : Option Addr} {nc mc : Nat} {vs : Vs} {ms : List Int} (h : Hp w0 w (A ++ (B ++ OwnS na nc ma mc vs ms))) : Stc w na ma vs ms :=
  Stc.own (n := vs.length) (nc := nc) (m := ms.length) (mc := mc) h (by simp) (by simp) (fun x hx => by simp [hx])
theorem rows_get {vs : Vs} {i : Nat} (h : i < vs.length) : (rowsOf vs).getD i [] = vs[i].2.2 := by
  rw [List.getD_eq_getElem?_getD, List.getElem?_map, List.getElem?_eq_getElem h]; rfl
theorem tame_any (an : Option Addr) (cn : Nat) (am : Option Addr) (cm : Nat) (vs : Vs) (ms : List Int) (hB : StcB an cn am cm vs ms) (most : Nat) (h0 : 0 < most) (h16 : most ≤ 16) (w : World) (hst : Stc w an am vs ms) :
    Ret Tryd.prog 24 [stV an cn am cm vs ms, .int .i64 (most : Nat)] w fun u w' => ∃ na nc ma mc vs2, u = .agg #[.slice na vs2.length nc, .slice ma (tameC (takeV (rowsOf vs)) (ms.take 20) most).2.length mc] ∧ rowsOf vs2 = (tameC (takeV (rowsOf vs)) (ms.take 20) most).1 ∧
      Hp w w' (OwnS na nc ma mc vs2 (tameC (takeV (rowsOf vs)) (ms.take 20) most).2) := by
  refine enter Tryd.func24 rfl rfl ⟨rfl, rfl⟩ rfl ?_
  repeat (first | refine zA ?_ | refine zB ?_ | refine zC rfl rfl rfl ?_ | refine zD ?_ | refine zE ?_ | refine zF ?_ | refine zG rfl ?_ | refine zH rfl ?_ | refine zI rfl rfl rfl ?_ | refine zJ rfl rfl ?_ | refine zK ?_ | refine zL ?_ | refine zM rfl ?_ | refine zN ?_)
  refine WL.box rfl rfl rfl (fun b2 w1 hb2 => ?_)
  have hp1 : Hp w w1 [Sb b2 an cn am cm vs ms] := (Hp.start w).new hb2
  refine WL.alloc rfl rfl rfl (fun b4 w2 hb4 => ?_)
  have hp2 : Hp w w2 [Stb b4 none 0 0 none 0 0, Sb b2 an cn am cm vs ms] := hp1.new hb4
  repeat (first | refine zA ?_ | refine zB ?_ | refine zC rfl rfl rfl ?_ | refine zD ?_ | refine zE ?_ | refine zF ?_ | refine zG rfl ?_ | refine zH rfl ?_ | refine zI rfl rfl rfl ?_ | refine zJ rfl rfl ?_ | refine zK ?_ | refine zL ?_ | refine zM rfl ?_ | refine zN ?_)
  refine WL.loadN rfl rfl rfl rfl rfl (cs := [.slice an vs.length cn, .slice am ms.length cm]) rfl (fun q v hq => cell_of_obj (hp2.obj 1 rfl) (by rw [Nat.zero_add]; simpa using hq)) ?_
  refine WL.call rfl rfl rfl rfl rfl ent37 (machine_any an cn am cm vs ms hB w2 (hst.hp hp2)) ?_
  rintro _ w3 ⟨na0, nc0, ma0, mc0, vs0, rfl, hvs0, hp3⟩
  have hp3 := Hp.pickT (T := OwnS na0 nc0 ma0 mc0 vs0 (ms.take 20)) [_, _] [0] (permE (hp2.comb hp3) List.perm_append_comm) (by decide)
  have hm20 : (ms.take 20).length ≤ 20 := by rw [List.length_take]; omega
  have hl20 : vs0.length ≤ 20 := by
    have := congrArg List.length hvs0
    unfold takeV at this
    rw [List.length_map, List.length_map, List.length_take] at this
    omega
  have hr20 : ∀ x ∈ vs0, x.2.2.length ≤ 20 := by
    intro x hx
    have h1 : x.2.2 ∈ takeV (rowsOf vs) := by rw [← hvs0]; exact List.mem_map_of_mem (f := fun x : Option Addr × Nat × List Int => x.2.2) hx
    unfold takeV at h1
    obtain ⟨r, _, hr⟩ := List.mem_map.1 h1
    rw [← hr, List.length_take]; omega
  rw [← hvs0]
  generalize ms.take 20 = M0 at *
  obtain ⟨Y, hY⟩ : ∃ Y, Y = OwnS na0 nc0 ma0 mc0 vs0 M0 := ⟨_, rfl⟩
  rw [← hY] at hp3
  refine WL.alloc rfl rfl rfl (fun b5 w4 hb5 => ?_)
  have hp4 := hp3.new hb5
  refine WL.storeN rfl rfl rfl rfl rfl (by simp [Value.oneCell']) (hp4.obj 0 rfl) (Nat.le_refl _) rfl (fun w5 h5 => ?_)
  have hp5 : Hp w w5 ([Stb b5 na0 vs0.length nc0 ma0 M0.length mc0, Stb b4 none 0 0 none 0 0] ++ Y) := hp4.set 0 rfl rfl h5
  clear hp1 hp2 hp3 hp4 hb2 hb4 hb5 h5
  have hstY : ∀ {w' : World} {A : List Ent}, Hp w w' (A ++ Y) → Stc w' na0 ma0 vs0 M0 := fun {w' A} h => by subst hY; exact Stc.inA h
  refine WL.nil ?_
  repeat (first | refine WC.seq ?_ | refine WC.skip ?_ | refine WC.block ?_)
  refine WC.mid Bool (fun r => [(1, .int .i64 (most : Nat)), (4, ptr b4), (5, ptr b5), (24, .bool r)])
    (fun r w' => r = (strR (rowsOf vs0) M0 && decide (vs0.length ≤ most)) ∧ Hp w w' ([Stb b5 na0 vs0.length nc0 ma0 M0.length mc0, Stb b4 none 0 0 none 0 0] ++ Y)) ?_ ?_
  · repeat (first | refine zA ?_ | refine zB ?_ | refine zC rfl rfl rfl ?_ | refine zD ?_ | refine zE ?_ | refine zF ?_ | refine zG rfl ?_ | refine zH rfl ?_ | refine zI rfl rfl rfl ?_ | refine zJ rfl rfl ?_ | refine zK ?_ | refine zL ?_ | refine zM rfl ?_ | refine zN ?_)
    refine WL.loadN rfl rfl rfl rfl rfl (cs := [.slice na0 vs0.length nc0, .slice ma0 M0.length mc0]) rfl (fun q v hq => cell_of_obj (hp5.obj 0 rfl) (by rw [Nat.zero_add]; simpa using hq)) ?_
    refine WL.call rfl rfl rfl rfl rfl ent39 (rStructure_any na0 nc0 ma0 mc0 vs0 M0 (by omega) (by omega) (fun x hx => by have := hr20 x hx; omega) w5 (hstY hp5)) ?_
    rintro _ w6 ⟨rfl, hp6⟩
    have hp6 := hp5.call hp6.below
    rw [strB_R]
    cases hs : strR (rowsOf vs0) M0 with
    | false =>
      repeat (first | refine zA ?_ | refine zB ?_ | refine zC rfl rfl rfl ?_ | refine zD ?_ | refine zE ?_ | refine zF ?_ | refine zG rfl ?_ | refine zH rfl ?_ | refine zI rfl rfl rfl ?_ | refine zJ rfl rfl ?_ | refine zK ?_ | refine zL ?_ | refine zM rfl ?_ | refine zN ?_)
      exact ⟨_, ⟨rfl, rfl, rfl, rfl, rfl⟩, rfl, hp6⟩
    | true =>
      repeat (first | refine zA ?_ | refine zB ?_ | refine zC rfl rfl rfl ?_ | refine zD ?_ | refine zE ?_ | refine zF ?_ | refine zG rfl ?_ | refine zH rfl ?_ | refine zI rfl rfl rfl ?_ | refine zJ rfl rfl ?_ | refine zK ?_ | refine zL ?_ | refine zM rfl ?_ | refine zN ?_)
      refine WL.loadB rfl rfl rfl rfl rfl (hp6.obj 0 rfl) (j := 0) rfl ?_
      repeat (first | refine zA ?_ | refine zB ?_ | refine zC rfl rfl rfl ?_ | refine zD ?_ | refine zE ?_ | refine zF ?_ | refine zG rfl ?_ | refine zH rfl ?_ | refine zI rfl rfl rfl ?_ | refine zJ rfl rfl ?_ | refine zK ?_ | refine zL ?_ | refine zM rfl ?_ | refine zN ?_)
      refine ⟨_, ⟨rfl, rfl, rfl, rfl, rfl⟩, ?_, hp6⟩
      rw [Bool.true_and]
      exact decide_eq_decide.2 (by omega)
  rintro r e6 w6 hsub ⟨hr, hp6⟩
  refine WC.sub hsub ?_
  clear hsub e6 hp5
  replace hp6 : Hp w w6 ([Stb b5 na0 vs0.length nc0 ma0 M0.length mc0, Stb b4 none 0 0 none 0 0] ++ Y) := hp6
  have hr : r = (strR (rowsOf vs0) M0 && decide (vs0.length ≤ most)) := hr
  have hll : (rowsOf vs0).length = vs0.length := List.length_map _
  cases r with
  | true =>
    have hC : tameC (rowsOf vs0) M0 most = (rowsOf vs0, M0) := by unfold tameC; rw [hll, ← hr, if_pos rfl]
    rw [hC]
    repeat (first | refine zA ?_ | refine zB ?_ | refine zC rfl rfl rfl ?_ | refine zD ?_ | refine zE ?_ | refine zF ?_ | refine zG rfl ?_ | refine zH rfl ?_ | refine zI rfl rfl rfl ?_ | refine zJ rfl rfl ?_ | refine zK ?_ | refine zL ?_ | refine zM rfl ?_ | refine zN ?_)
    refine WL.loadN rfl rfl rfl rfl rfl (cs := [.slice na0 vs0.length nc0, .slice ma0 M0.length mc0]) rfl (fun q v hq => cell_of_obj (hp6.obj 0 rfl) (by rw [Nat.zero_add]; simpa using hq)) ?_
    refine WL.storeN rfl rfl rfl rfl rfl (by simp [Value.oneCell']) (hp6.obj 1 rfl) (Nat.le_refl _) rfl (fun w7 h7 => ?_)
    have hp7 := hp6.set 1 rfl rfl h7
    repeat (first | refine zA ?_ | refine zB ?_ | refine zC rfl rfl rfl ?_ | refine zD ?_ | refine zE ?_ | refine zF ?_ | refine zG rfl ?_ | refine zH rfl ?_ | refine zI rfl rfl rfl ?_ | refine zJ rfl rfl ?_ | refine zK ?_ | refine zL ?_ | refine zM rfl ?_ | refine zN ?_)
    refine Res.cell rfl rfl rfl rfl rfl rfl (hp7.obj 1 rfl) ⟨na0, nc0, ma0, mc0, vs0, rfl, rfl, ?_⟩
    have := Hp.pickT (T := Y) [_, _] [] hp7 (by decide)
    rw [hY] at this
    exact this
  | false =>
    obtain ⟨n, hn⟩ : ∃ n, n = tmN vs0.length most := ⟨_, rfl⟩
    obtain ⟨hn1, hnm, hnL⟩ := tmN_ok (L := vs0.length) h0
    rw [← hn] at hn1 hnm hnL
    have hC : tameC (rowsOf vs0) M0 most = ((List.range n).map (tmRow (rowsOf vs0) n), tmMs M0 n) := by unfold tameC; rw [hll, ← hr, if_neg (by decide), ← hn]
    rw [hC]
    clear hC hr
    refine WC.condF rfl ?_
    refine WC.skip ?_
    refine WC.seq ?_
    refine WC.reg ?_
    refine WL.pure rfl rfl rfl ?_
    refine WL.nil ?_
    refine WC.seq ?_
    refine WC.mid Unit (fun _ => [(4, ptr b4), (5, ptr b5), (6, .int .i64 (n : Nat))])
      (fun _ w' => Hp w w' ([Stb b5 na0 vs0.length nc0 ma0 M0.length mc0, Stb b4 none 0 0 none 0 0] ++ Y)) ?_ ?_
    · repeat (first | refine zA ?_ | refine zB ?_ | refine zC rfl rfl rfl ?_ | refine zD ?_ | refine zE ?_ | refine zF ?_ | refine zG rfl ?_ | refine zH rfl ?_ | refine zI rfl rfl rfl ?_ | refine zJ rfl rfl ?_ | refine zK ?_ | refine zL ?_ | refine zM rfl ?_ | refine zN ?_)
      refine WL.loadB rfl rfl rfl rfl rfl (hp6.obj 0 rfl) (j := 0) rfl ?_
      repeat (first | refine zA ?_ | refine zB ?_ | refine zC rfl rfl rfl ?_ | refine zD ?_ | refine zE ?_ | refine zF ?_ | refine zG rfl ?_ | refine zH rfl ?_ | refine zI rfl rfl rfl ?_ | refine zJ rfl rfl ?_ | refine zK ?_ | refine zL ?_ | refine zM rfl ?_ | refine zN ?_)
      refine WC.cond rfl (fun c => ?_) (fun c => ?_)
      · have c : 0 < vs0.length := by have := of_decide_eq_true c; omega
        repeat (first | refine zA ?_ | refine zB ?_ | refine zC rfl rfl rfl ?_ | refine zD ?_ | refine zE ?_ | refine zF ?_ | refine zG rfl ?_ | refine zH rfl ?_ | refine zI rfl rfl rfl ?_ | refine zJ rfl rfl ?_ | refine zK ?_ | refine zL ?_ | refine zM rfl ?_ | refine zN ?_)
        refine WL.loadB rfl rfl rfl rfl rfl (hp6.obj 0 rfl) (j := 0) rfl ?_
        refine WL.pure rfl rfl rfl ?_
        refine WL.pure rfl rfl rfl ?_
        refine WL.known (d := 33) (congrArg (fun z => some (Value.int .i64 z)) (show IntKind.i64.wrap (((vs0.length : Nat) : Int) - 1) = ((vs0.length - 1 : Nat) : Int) by rw [wrap_mid (by omega) (by omega)]; omega)) ?_
        refine WL.pure rfl rfl rfl ?_
        refine WL.rem rfl rfl rfl rfl (by omega) ?_
        refine WL.known (d := 35) (congrArg (fun z => some (Value.int .i64 z)) (show Int.tmod ((vs0.length - 1 : Nat) : Int) (most : Int) = (((vs0.length - 1) % most : Nat) : Int) from rfl)) ?_
        have hlt := Nat.mod_lt (vs0.length - 1) h0
        repeat (first | refine zA ?_ | refine zB ?_ | refine zC rfl rfl rfl ?_ | refine zD ?_ | refine zE ?_ | refine zF ?_ | refine zG rfl ?_ | refine zH rfl ?_ | refine zI rfl rfl rfl ?_ | refine zJ rfl rfl ?_ | refine zK ?_ | refine zL ?_ | refine zM rfl ?_ | refine zN ?_)
        exact ⟨(), ⟨rfl, rfl, congrArg (fun z => some (Value.int .i64 z)) (show IntKind.i64.wrap (1 + (((vs0.length - 1) % most : Nat) : Int)) = ((n : Nat) : Int) by rw [hn, tmN, if_pos c, wrap_mid (by omega) (by omega)]; omega), rfl⟩, hp6⟩
      · have c : ¬ 0 < vs0.length := by have := of_decide_eq_false c; omega
        repeat (first | refine zA ?_ | refine zB ?_ | refine zC rfl rfl rfl ?_ | refine zD ?_ | refine zE ?_ | refine zF ?_ | refine zG rfl ?_ | refine zH rfl ?_ | refine zI rfl rfl rfl ?_ | refine zJ rfl rfl ?_ | refine zK ?_ | refine zL ?_ | refine zM rfl ?_ | refine zN ?_)
        exact ⟨(), ⟨rfl, rfl, congrArg (fun z => some (Value.int .i64 z)) (show (1 : Int) = ((n : Nat) : Int) by rw [hn, tmN, if_neg c]; rfl), rfl⟩, hp6⟩
    rintro _ e7 w7 hsub hp7
    refine WC.sub hsub ?_
    clear hsub e7 hp6 hn
    replace hp7 : Hp w w7 ([Stb b5 na0 vs0.length nc0 ma0 M0.length mc0, Stb b4 none 0 0 none 0 0] ++ Y) := hp7
    repeat (first | refine zA ?_ | refine zB ?_ | refine zC rfl rfl rfl ?_ | refine zD ?_ | refine zE ?_ | refine zF ?_ | refine zG rfl ?_ | refine zH rfl ?_ | refine zI rfl rfl rfl ?_ | refine zJ rfl rfl ?_ | refine zK ?_ | refine zL ?_ | refine zM rfl ?_ | refine zN ?_)
    refine WL.alloc rfl rfl rfl (fun b7 w8 h8 => ?_)
    have hp8 := Hp.pickT (T := Y) [_, _, _, _, _] [2, 0, 1, 3, 4] (((hp7.new h8).nilrow 3 1).nilrow 22 1) (by decide)
    clear hp7 h8
    repeat (first | refine zA ?_ | refine zB ?_ | refine zC rfl rfl rfl ?_ | refine zD ?_ | refine zE ?_ | refine zF ?_ | refine zG rfl ?_ | refine zH rfl ?_ | refine zI rfl rfl rfl ?_ | refine zJ rfl rfl ?_ | refine zK ?_ | refine zL ?_ | refine zM rfl ?_ | refine zN ?_)
    refine WC.loop (Nat × Option Addr × Nat × Option Addr × Nat × Vs) (fun (i, na, nc, ma, mc, vs3) => [(4, ptr b4), (5, ptr b5), (6, .int .i64 (n : Nat)), (7, ptr b7), (8, .int .i64 (i : Nat))])
      (fun (i, na, nc, ma, mc, vs3) w' => i ≤ n ∧ rowsOf vs3 = (List.range i).map (tmRow (rowsOf vs0) n) ∧ Hp w w' ([Stb b7 na i nc ma i mc, .row 22 1 (.slice na i nc) i (catV vs3), .row 3 1 (.slice ma i mc) i (zs (tmMs M0 i)), Stb b5 na0 vs0.length nc0 ma0 M0.length mc0, Stb b4 none 0 0 none 0 0] ++ (vsE vs3 ++ Y))) (fun (i, _) => n - i) (0, none, 0, none, 0, []) ⟨rfl, rfl, rfl, rfl, rfl, rfl⟩
      ⟨Nat.zero_le _, rfl, hp8⟩ ?_
    clear hp8
    rintro ⟨i, na, nc, ma, mc, vs3⟩ w8 ⟨hi, hvs3, hp8⟩
    replace hi : i ≤ n := hi
    replace hvs3 : rowsOf vs3 = (List.range i).map (tmRow (rowsOf vs0) n) := hvs3
    replace hp8 : Hp w w8 ([Stb b7 na i nc ma i mc, .row 22 1 (.slice na i nc) i (catV vs3), .row 3 1 (.slice ma i mc) i (zs (tmMs M0 i)), Stb b5 na0 vs0.length nc0 ma0 M0.length mc0, Stb b4 none 0 0 none 0 0] ++ (vsE vs3 ++ Y)) := hp8
    have hvl : vs3.length = i := by have := congrArg List.length hvs3; simpa using this
    have hstZ : ∀ {w' : World} {A : List Ent}, Hp w w' (A ++ (vsE vs3 ++ Y)) → Stc w' na0 ma0 vs0 M0 := fun {w' A} h => by subst hY; exact Stc.inB h
    repeat (first | refine zA ?_ | refine zB ?_ | refine zC rfl rfl rfl ?_ | refine zD ?_ | refine zE ?_ | refine zF ?_ | refine zG rfl ?_ | refine zH rfl ?_ | refine zI rfl rfl rfl ?_ | refine zJ rfl rfl ?_ | refine zK ?_ | refine zL ?_ | refine zM rfl ?_ | refine zN ?_)
    refine WC.cond rfl (fun g1 => ?_) (fun g1 => ?_)
    · have hin : i < n := by have := of_decide_eq_true g1; omega
      have step := wrap_succ (i := i) (n := i + 1) (by omega) (by omega)
      obtain ⟨R, hR⟩ : ∃ R, R = rowsOf vs0 := ⟨_, rfl⟩
      have hrow : ∀ hL : i < vs0.length, R.getD i [] = vs0[i].2.2 := fun hL => by rw [hR]; exact rows_get hL
      have hrow0 : ¬ i < vs0.length → R.getD i [] = [] := fun hL => by rw [hR, List.getD_eq_getElem?_getD, List.getElem?_eq_none (by rw [hll]; omega)]; rfl
      rw [← hR] at hvs3 ⊢
      repeat (first | refine zA ?_ | refine zB ?_ | refine zC rfl rfl rfl ?_ | refine zD ?_ | refine zE ?_ | refine zF ?_ | refine zG rfl ?_ | refine zH rfl ?_ | refine zI rfl rfl rfl ?_ | refine zJ rfl rfl ?_ | refine zK ?_ | refine zL ?_ | refine zM rfl ?_ | refine zN ?_)
      refine WC.loop (Nat × Option Addr × Nat) (fun (j, ra, rc) => [(4, ptr b4), (5, ptr b5), (6, .int .i64 (n : Nat)), (7, ptr b7), (8, .int .i64 (i : Nat)), (9, .slice ra (tmAcc R n i j).length rc), (10, .int .i64 (j : Nat))])
        (fun (j, ra, rc) w' => j ≤ n ∧ Hp w w' ([.row 3 1 (.slice ra (tmAcc R n i j).length rc) (tmAcc R n i j).length (zs (tmAcc R n i j)), Stb b7 na i nc ma i mc, .row 22 1 (.slice na i nc) i (catV vs3), .row 3 1 (.slice ma i mc) i (zs (tmMs M0 i)), Stb b5 na0 vs0.length nc0 ma0 M0.length mc0, Stb b4 none 0 0 none 0 0] ++ (vsE vs3 ++ Y))) (fun (j, _) => n - j) (0, none, 0) ⟨rfl, rfl, rfl, rfl, rfl, rfl, rfl, rfl⟩
        ⟨Nat.zero_le _, hp8.nilrow 3 1⟩ ?_
      clear hp8
      rintro ⟨j, ra, rc⟩ w9 ⟨hj, hp9⟩
      replace hj : j ≤ n := hj
      obtain ⟨ac, hac⟩ : ∃ ac, ac = tmAcc R n i j := ⟨_, rfl⟩
      replace hp9 : Hp w w9 ([.row 3 1 (.slice ra (tmAcc R n i j).length rc) (tmAcc R n i j).length (zs (tmAcc R n i j)), Stb b7 na i nc ma i mc, .row 22 1 (.slice na i nc) i (catV vs3), .row 3 1 (.slice ma i mc) i (zs (tmMs M0 i)), Stb b5 na0 vs0.length nc0 ma0 M0.length mc0, Stb b4 none 0 0 none 0 0] ++ (vsE vs3 ++ Y)) := hp9
      simp only [← hac] at hp9 ⊢
      have hacl : ac.length ≤ j := by rw [hac, tmAcc, List.length_map]; exact Nat.le_trans (List.length_filter_le _ _) (by rw [List.length_range]; exact Nat.le_refl _)
      repeat (first | refine zA ?_ | refine zB ?_ | refine zC rfl rfl rfl ?_ | refine zD ?_ | refine zE ?_ | refine zF ?_ | refine zG rfl ?_ | refine zH rfl ?_ | refine zI rfl rfl rfl ?_ | refine zJ rfl rfl ?_ | refine zK ?_ | refine zL ?_ | refine zM rfl ?_ | refine zN ?_)
      refine WC.cond rfl (fun g2 => ?_) (fun g2 => ?_)
      · have hjn : j < n := by have := of_decide_eq_true g2; omega
        have stepj := wrap_succ (i := j) (n := j + 1) (by omega) (by omega)
        repeat (first | refine WC.seq ?_ | refine WC.skip ?_ | refine WC.block ?_)
        refine WC.mid Unit (fun _ => [(4, ptr b4), (5, ptr b5), (6, .int .i64 (n : Nat)), (7, ptr b7), (8, .int .i64 (i : Nat)), (9, .slice ra ac.length rc), (10, .int .i64 (j : Nat)), (11, .bool (isJ0 R n i j))]) (fun _ w' => w' = w9) ?_ ?_
        · repeat (first | refine zA ?_ | refine zB ?_ | refine zC rfl rfl rfl ?_ | refine zD ?_ | refine zE ?_ | refine zF ?_ | refine zG rfl ?_ | refine zH rfl ?_ | refine zI rfl rfl rfl ?_ | refine zJ rfl rfl ?_ | refine zK ?_ | refine zL ?_ | refine zM rfl ?_ | refine zN ?_)
          refine WL.rem rfl rfl rfl rfl (by omega) ?_
          refine WL.known (d := 51) (congrArg (fun z => some (Value.int .i64 z)) (show Int.tmod (IntKind.i64.wrap ((i : Int) + 1)) (n : Int) = (((i + 1) % n : Nat) : Int) by rw [step]; rfl)) ?_
          repeat (first | refine zA ?_ | refine zB ?_ | refine zC rfl rfl rfl ?_ | refine zD ?_ | refine zE ?_ | refine zF ?_ | refine zG rfl ?_ | refine zH rfl ?_ | refine zI rfl rfl rfl ?_ | refine zJ rfl rfl ?_ | refine zK ?_ | refine zL ?_ | refine zM rfl ?_ | refine zN ?_)
          refine WL.split 53 rfl (fun c1 => ?_) (fun c1 => ?_)
          · have c1 : j = (i + 1) % n := by
              have c1 : (((j : Nat) : Int) == (((i + 1) % n : Nat) : Int)) = true := c1
              rw [beq_iff_eq] at c1; omega
            repeat (first | refine zA ?_ | refine zB ?_ | refine zC rfl rfl rfl ?_ | refine zD ?_ | refine zE ?_ | refine zF ?_ | refine zG rfl ?_ | refine zH rfl ?_ | refine zI rfl rfl rfl ?_ | refine zJ rfl rfl ?_ | refine zK ?_ | refine zL ?_ | refine zM rfl ?_ | refine zN ?_)
            refine WL.loadB rfl rfl rfl rfl rfl (hp9.obj 4 rfl) (j := 0) rfl ?_
            repeat (first | refine zA ?_ | refine zB ?_ | refine zC rfl rfl rfl ?_ | refine zD ?_ | refine zE ?_ | refine zF ?_ | refine zG rfl ?_ | refine zH rfl ?_ | refine zI rfl rfl rfl ?_ | refine zJ rfl rfl ?_ | refine zK ?_ | refine zL ?_ | refine zM rfl ?_ | refine zN ?_)
            refine WL.split 59 rfl (fun c2 => ?_) (fun c2 => ?_)
            · have c2 : ¬ i < vs0.length := by have := of_decide_eq_true c2; omega
              repeat (first | refine zA ?_ | refine zB ?_ | refine zC rfl rfl rfl ?_ | refine zD ?_ | refine zE ?_ | refine zF ?_ | refine zG rfl ?_ | refine zH rfl ?_ | refine zI rfl rfl rfl ?_ | refine zJ rfl rfl ?_ | refine zK ?_ | refine zL ?_ | refine zM rfl ?_ | refine zN ?_)
              exact ⟨(), ⟨rfl, rfl, rfl, rfl, rfl, rfl, rfl, congrArg (fun z => some (Value.bool z)) (show true = isJ0 R n i j by unfold isJ0; rw [hrow0 c2, decide_eq_true c1]; rfl), rfl⟩, rfl⟩
            · have c2 : i < vs0.length := by have := of_decide_eq_false c2; omega
              repeat (first | refine zA ?_ | refine zB ?_ | refine zC rfl rfl rfl ?_ | refine zD ?_ | refine zE ?_ | refine zF ?_ | refine zG rfl ?_ | refine zH rfl ?_ | refine zI rfl rfl rfl ?_ | refine zJ rfl rfl ?_ | refine zK ?_ | refine zL ?_ | refine zM rfl ?_ | refine zN ?_)
              refine WL.loadB rfl rfl rfl rfl rfl (hp9.obj 4 rfl) (j := 0) rfl ?_
              refine WL.pure rfl rfl rfl ?_
              refine WL.ixload rfl (fun _ => rfl) rfl rfl rfl rfl rfl rfl rfl c2 rfl rfl (hstZ hp9).nx (catV_at c2) ?_
              intro q0
              repeat (first | refine zA ?_ | refine zB ?_ | refine zC rfl rfl rfl ?_ | refine zD ?_ | refine zE ?_ | refine zF ?_ | refine zG rfl ?_ | refine zH rfl ?_ | refine zI rfl rfl rfl ?_ | refine zJ rfl rfl ?_ | refine zK ?_ | refine zL ?_ | refine zM rfl ?_ | refine zN ?_)
              refine ⟨(), ⟨rfl, rfl, rfl, rfl, rfl, rfl, rfl, congrArg (fun z => some (Value.bool z)) (show (((vs0[i].2.2.length : Nat) : Int) == 0) = isJ0 R n i j by
                unfold isJ0
                rw [hrow c2, decide_eq_true c1, Bool.true_and]
                cases vs0[i].2.2 with
                | nil => rfl
                | cons z r =>
                  rw [decide_eq_false (by simp)]
                  exact beq_eq_false_iff_ne.2 (by rw [List.length_cons]; omega)), rfl⟩, rfl⟩
          · have c1 : ¬ j = (i + 1) % n := by
              have c1 : (((j : Nat) : Int) == (((i + 1) % n : Nat) : Int)) = false := c1
              rw [beq_eq_false_iff_ne] at c1; omega
            repeat (first | refine zA ?_ | refine zB ?_ | refine zC rfl rfl rfl ?_ | refine zD ?_ | refine zE ?_ | refine zF ?_ | refine zG rfl ?_ | refine zH rfl ?_ | refine zI rfl rfl rfl ?_ | refine zJ rfl rfl ?_ | refine zK ?_ | refine zL ?_ | refine zM rfl ?_ | refine zN ?_)
            exact ⟨(), ⟨rfl, rfl, rfl, rfl, rfl, rfl, rfl, congrArg (fun z => some (Value.bool z)) (show false = isJ0 R n i j by unfold isJ0; rw [decide_eq_false c1]; rfl), rfl⟩, rfl⟩
        rintro _ e10 w10 hsub hw10
        obtain rfl := hw10.symm
        refine WC.sub hsub ?_
        clear hsub e10
        refine WC.seq ?_
        refine WC.mid Unit (fun _ => [(4, ptr b4), (5, ptr b5), (6, .int .i64 (n : Nat)), (7, ptr b7), (8, .int .i64 (i : Nat)), (9, .slice ra ac.length rc), (10, .int .i64 (j : Nat)), (11, .bool (isJ R n i j))]) (fun _ w' => w' = w9) ?_ ?_
        · repeat (first | refine zA ?_ | refine zB ?_ | refine zC rfl rfl rfl ?_ | refine zD ?_ | refine zE ?_ | refine zF ?_ | refine zG rfl ?_ | refine zH rfl ?_ | refine zI rfl rfl rfl ?_ | refine zJ rfl rfl ?_ | refine zK ?_ | refine zL ?_ | refine zM rfl ?_ | refine zN ?_)
          refine WC.loop Nat (fun k => [(4, ptr b4), (5, ptr b5), (6, .int .i64 (n : Nat)), (7, ptr b7), (8, .int .i64 (i : Nat)), (9, .slice ra ac.length rc), (10, .int .i64 (j : Nat)), (11, .bool (isJ0 R n i j || ((R.getD i []).take k).any fun z => decide (modN z n = j))), (12, .int .i64 (k : Nat))])
            (fun k w' => k ≤ (R.getD i []).length ∧ w' = w9) (fun k => (R.getD i []).length - k) 0 ⟨rfl, rfl, rfl, rfl, rfl, rfl, rfl, congrArg (fun z => some (Value.bool z)) (Bool.or_false _).symm, rfl, rfl⟩ ⟨Nat.zero_le _, rfl⟩ ?_
          rintro k w10 ⟨hk, hw10⟩
          obtain rfl := hw10.symm
          replace hk : k ≤ (R.getD i []).length := hk
          have fin : k = (R.getD i []).length → (isJ0 R n i j || ((R.getD i []).take k).any fun z => decide (modN z n = j)) = isJ R n i j := fun h => by rw [h, List.take_length]; rfl
          repeat (first | refine zA ?_ | refine zB ?_ | refine zC rfl rfl rfl ?_ | refine zD ?_ | refine zE ?_ | refine zF ?_ | refine zG rfl ?_ | refine zH rfl ?_ | refine zI rfl rfl rfl ?_ | refine zJ rfl rfl ?_ | refine zK ?_ | refine zL ?_ | refine zM rfl ?_ | refine zN ?_)
          refine WL.loadB rfl rfl rfl rfl rfl (hp9.obj 4 rfl) (j := 0) rfl ?_
          repeat (first | refine zA ?_ | refine zB ?_ | refine zC rfl rfl rfl ?_ | refine zD ?_ | refine zE ?_ | refine zF ?_ | refine zG rfl ?_ | refine zH rfl ?_ | refine zI rfl rfl rfl ?_ | refine zJ rfl rfl ?_ | refine zK ?_ | refine zL ?_ | refine zM rfl ?_ | refine zN ?_)
          refine WL.split 74 rfl (fun c1 => ?_) (fun c1 => ?_)
          · have c1 : i < vs0.length := by have := of_decide_eq_true c1; omega
            have hrl := hr20 _ (List.getElem_mem c1)
            have hrw := hrow c1
            rw [hrw] at hk fin ⊢
            repeat (first | refine zA ?_ | refine zB ?_ | refine zC rfl rfl rfl ?_ | refine zD ?_ | refine zE ?_ | refine zF ?_ | refine zG rfl ?_ | refine zH rfl ?_ | refine zI rfl rfl rfl ?_ | refine zJ rfl rfl ?_ | refine zK ?_ | refine zL ?_ | refine zM rfl ?_ | refine zN ?_)
            refine WL.loadB rfl rfl rfl rfl rfl (hp9.obj 4 rfl) (j := 0) rfl ?_
            refine WL.pure rfl rfl rfl ?_
            refine WL.ixload rfl (fun _ => rfl) rfl rfl rfl rfl rfl rfl rfl c1 rfl rfl (hstZ hp9).nx (catV_at c1) ?_
            intro q1
            repeat (first | refine zA ?_ | refine zB ?_ | refine zC rfl rfl rfl ?_ | refine zD ?_ | refine zE ?_ | refine zF ?_ | refine zG rfl ?_ | refine zH rfl ?_ | refine zI rfl rfl rfl ?_ | refine zJ rfl rfl ?_ | refine zK ?_ | refine zL ?_ | refine zM rfl ?_ | refine zN ?_)
            refine WC.cond rfl (fun c2 => ?_) (fun c2 => ?_)
            · have c2 : k < vs0[i].2.2.length := by have := of_decide_eq_true c2; omega
              have stepk := wrap_succ (i := k) (n := k + 1) (by omega) (by omega)
              have htk : (vs0[i].2.2.take (k + 1)).any (fun z => decide (modN z n = j)) = ((vs0[i].2.2.take k).any (fun z => decide (modN z n = j)) || decide (modN (vs0[i].2.2.getD k 0) n = j)) := by
                rw [List.take_succ_eq_append_getElem c2, List.any_append]
                simp [c2]
              repeat (first | refine zA ?_ | refine zB ?_ | refine zC rfl rfl rfl ?_ | refine zD ?_ | refine zE ?_ | refine zF ?_ | refine zG rfl ?_ | refine zH rfl ?_ | refine zI rfl rfl rfl ?_ | refine zJ rfl rfl ?_ | refine zK ?_ | refine zL ?_ | refine zM rfl ?_ | refine zN ?_)
              refine WL.split 87 rfl (fun c3 => ?_) (fun c3 => ?_)
              · repeat (first | refine zA ?_ | refine zB ?_ | refine zC rfl rfl rfl ?_ | refine zD ?_ | refine zE ?_ | refine zF ?_ | refine zG rfl ?_ | refine zH rfl ?_ | refine zI rfl rfl rfl ?_ | refine zJ rfl rfl ?_ | refine zK ?_ | refine zL ?_ | refine zM rfl ?_ | refine zN ?_)
                exact ⟨k + 1, (by omega), ⟨rfl, rfl, rfl, rfl, rfl, rfl, rfl, congrArg (fun z => some (Value.bool z)) (show true = (isJ0 R n i j || (vs0[i].2.2.take (k + 1)).any fun z => decide (modN z n = j)) by rw [htk, ← Bool.or_assoc]; have c3 : (isJ0 R n i j || (vs0[i].2.2.take k).any fun z => decide (modN z n = j)) = true := c3; rw [c3]; rfl), congrArg (fun z => some (Value.int .i64 z)) stepk, rfl⟩, c2, rfl⟩
              · repeat (first | refine zA ?_ | refine zB ?_ | refine zC rfl rfl rfl ?_ | refine zD ?_ | refine zE ?_ | refine zF ?_ | refine zG rfl ?_ | refine zH rfl ?_ | refine zI rfl rfl rfl ?_ | refine zJ rfl rfl ?_ | refine zK ?_ | refine zL ?_ | refine zM rfl ?_ | refine zN ?_)
                refine WL.loadB rfl rfl rfl rfl rfl (hp9.obj 4 rfl) (j := 0) rfl ?_
                refine WL.pure rfl rfl rfl ?_
                refine WL.ixload rfl (fun _ => rfl) rfl rfl rfl rfl rfl rfl rfl c1 rfl rfl (hstZ hp9).nx (catV_at c1) ?_
                intro q2
                refine WL.pure rfl rfl rfl ?_
                refine WL.ixload rfl (fun _ => rfl) rfl rfl rfl rfl rfl rfl rfl c2 rfl rfl ((hstZ hp9).rows _ (List.getElem_mem c1)) (zs_getD c2) ?_
                intro q3
                refine WL.pure rfl rfl rfl ?_
                refine WL.call rfl rfl rfl rfl rfl ent29 (mod_any (vs0[i].2.2.getD k 0) n (by omega) (by omega) w9) ?_
                rintro _ w11 ⟨rfl, hw11⟩
                obtain rfl := hw11.symm
                repeat (first | refine zA ?_ | refine zB ?_ | refine zC rfl rfl rfl ?_ | refine zD ?_ | refine zE ?_ | refine zF ?_ | refine zG rfl ?_ | refine zH rfl ?_ | refine zI rfl rfl rfl ?_ | refine zJ rfl rfl ?_ | refine zK ?_ | refine zL ?_ | refine zM rfl ?_ | refine zN ?_)
                exact ⟨k + 1, (by omega), ⟨rfl, rfl, rfl, rfl, rfl, rfl, rfl, congrArg (fun z => some (Value.bool z)) (show ((((modN (vs0[i].2.2.getD k 0) n : Nat) : Int) == ((j : Nat) : Int))) = (isJ0 R n i j || (vs0[i].2.2.take (k + 1)).any fun z => decide (modN z n = j)) by
                  rw [htk, ← Bool.or_assoc]
                  have c3 : (isJ0 R n i j || (vs0[i].2.2.take k).any fun z => decide (modN z n = j)) = false := c3
                  rw [c3, Bool.false_or]
                  by_cases hm : modN (vs0[i].2.2.getD k 0) n = j
                  · rw [hm, decide_eq_true rfl]; simp
                  · rw [decide_eq_false hm]; exact beq_eq_false_iff_ne.2 (by omega)), congrArg (fun z => some (Value.int .i64 z)) stepk, rfl⟩, c2, rfl⟩
            · have c2 : k = vs0[i].2.2.length := by have := of_decide_eq_false c2; omega
              repeat (first | refine zA ?_ | refine zB ?_ | refine zC rfl rfl rfl ?_ | refine zD ?_ | refine zE ?_ | refine zF ?_ | refine zG rfl ?_ | refine zH rfl ?_ | refine zI rfl rfl rfl ?_ | refine zJ rfl rfl ?_ | refine zK ?_ | refine zL ?_ | refine zM rfl ?_ | refine zN ?_)
              exact ⟨(), ⟨rfl, rfl, rfl, rfl, rfl, rfl, rfl, congrArg (fun z => some (Value.bool z)) (fin c2), rfl⟩, rfl⟩
          · have c1 : ¬ i < vs0.length := by have := of_decide_eq_false c1; omega
            have hk0 : k = (R.getD i []).length := by rw [hrow0 c1] at hk ⊢; simp only [List.length_nil] at hk ⊢; omega
            repeat (first | refine zA ?_ | refine zB ?_ | refine zC rfl rfl rfl ?_ | refine zD ?_ | refine zE ?_ | refine zF ?_ | refine zG rfl ?_ | refine zH rfl ?_ | refine zI rfl rfl rfl ?_ | refine zJ rfl rfl ?_ | refine zK ?_ | refine zL ?_ | refine zM rfl ?_ | refine zN ?_)
            exact ⟨(), ⟨rfl, rfl, rfl, rfl, rfl, rfl, rfl, congrArg (fun z => some (Value.bool z)) (fin hk0), rfl⟩, rfl⟩
        rintro _ e10 w10 hsub hw10
        obtain rfl := hw10.symm
        refine WC.sub hsub ?_
        clear hsub e10
        have hnext := tmAcc_succ R n i j
        rw [← hac] at hnext
        repeat (first | refine zA ?_ | refine zB ?_ | refine zC rfl rfl rfl ?_ | refine zD ?_ | refine zE ?_ | refine zF ?_ | refine zG rfl ?_ | refine zH rfl ?_ | refine zI rfl rfl rfl ?_ | refine zJ rfl rfl ?_ | refine zK ?_ | refine zL ?_ | refine zM rfl ?_ | refine zN ?_)
        refine WC.cond rfl (fun c => ?_) (fun c => ?_)
        · rw [if_pos c] at hnext
          repeat (first | refine zA ?_ | refine zB ?_ | refine zC rfl rfl rfl ?_ | refine zD ?_ | refine zE ?_ | refine zF ?_ | refine zG rfl ?_ | refine zH rfl ?_ | refine zI rfl rfl rfl ?_ | refine zJ rfl rfl ?_ | refine zK ?_ | refine zL ?_ | refine zM rfl ?_ | refine zN ?_)
          refine WL.buildS (cs := [.int .i64 (j : Nat)]) rfl rfl rfl rfl rfl rfl rfl rfl rfl (fun b10 w10 h10 => ?_)
          have hp10 := hp9.new h10
          refine WL.append 1 hp10 rfl rfl rfl rfl rfl (by decide) rfl rfl rfl (news := [.int .i64 (j : Nat)]) (Sl.of_obj (hp10.obj 0 rfl) (fun q u hq => by simpa using hq)) rfl (zs_cells [((j : Nat) : Int)]) (by unfold maxLen; omega) (by show (ac.length + 1) * 8 ≤ _; omega) ?_
          intro pa pc w11 hp11 _
          have hp11 := hp11.tail
          have hlen : (tmAcc R n i (j + 1)).length = ac.length + 1 := by rw [hnext, List.length_append]; rfl
          have hzs : zs (tmAcc R n i (j + 1)) = zs ac ++ [.int .i64 (j : Nat)] := by rw [hnext, zs_app]; rfl
          repeat (first | refine zA ?_ | refine zB ?_ | refine zC rfl rfl rfl ?_ | refine zD ?_ | refine zE ?_ | refine zF ?_ | refine zG rfl ?_ | refine zH rfl ?_ | refine zI rfl rfl rfl ?_ | refine zJ rfl rfl ?_ | refine zK ?_ | refine zL ?_ | refine zM rfl ?_ | refine zN ?_)
          refine ⟨(j + 1, pa, pc), (by show n - (j + 1) < n - j; omega), ⟨rfl, rfl, rfl, rfl, rfl, by rw [hlen]; rfl, congrArg (fun z => some (Value.int .i64 z)) stepj, rfl⟩, hjn, ?_⟩
          show Hp w w11 ([.row 3 1 (.slice pa (tmAcc R n i (j + 1)).length pc) (tmAcc R n i (j + 1)).length (zs (tmAcc R n i (j + 1))), _, _, _, _, _] ++ _)
          rw [hlen, hzs]
          exact hp11
        · rw [if_neg (by rw [c]; decide), List.append_nil] at hnext
          repeat (first | refine zA ?_ | refine zB ?_ | refine zC rfl rfl rfl ?_ | refine zD ?_ | refine zE ?_ | refine zF ?_ | refine zG rfl ?_ | refine zH rfl ?_ | refine zI rfl rfl rfl ?_ | refine zJ rfl rfl ?_ | refine zK ?_ | refine zL ?_ | refine zM rfl ?_ | refine zN ?_)
          refine ⟨(j + 1, ra, rc), (by show n - (j + 1) < n - j; omega), ⟨rfl, rfl, rfl, rfl, rfl, by rw [hnext]; rfl, congrArg (fun z => some (Value.int .i64 z)) stepj, rfl⟩, hjn, ?_⟩
          show Hp w w9 ([.row 3 1 (.slice ra (tmAcc R n i (j + 1)).length rc) (tmAcc R n i (j + 1)).length (zs (tmAcc R n i (j + 1))), _, _, _, _, _] ++ _)
          rw [hnext]
          exact hp9
      · have hjn : j = n := by have := of_decide_eq_false g2; omega
        have hacr : ac = tmRow R n i := by rw [hac, hjn]; rfl
        refine WC.exit ?_
        refine blk_hit ?_
        refine WC.seq ?_
        refine WC.reg ?_
        refine WL.pure rfl rfl rfl ?_
        refine WL.pure rfl rfl rfl ?_
        refine WL.known (d := 107) (congrArg (fun z => some (Value.int .i64 z)) (show Int.tmod ((i : Nat) : Int) 16 = ((i % 16 : Nat) : Int) from rfl)) ?_
        refine WL.pure rfl rfl rfl ?_
        refine WL.nil ?_
        refine WC.seq ?_
        refine WC.mid Unit (fun _ => [(4, ptr b4), (5, ptr b5), (6, .int .i64 (n : Nat)), (7, ptr b7), (8, .int .i64 (i : Nat)), (9, .slice ra ac.length rc), (13, .int .i64 (tmMark M0 i))]) (fun _ w' => w' = w9) ?_ ?_
        · repeat (first | refine zA ?_ | refine zB ?_ | refine zC rfl rfl rfl ?_ | refine zD ?_ | refine zE ?_ | refine zF ?_ | refine zG rfl ?_ | refine zH rfl ?_ | refine zI rfl rfl rfl ?_ | refine zJ rfl rfl ?_ | refine zK ?_ | refine zL ?_ | refine zM rfl ?_ | refine zN ?_)
          refine WL.loadB rfl rfl rfl rfl rfl (hp9.obj 4 rfl) (j := 1) rfl ?_
          repeat (first | refine zA ?_ | refine zB ?_ | refine zC rfl rfl rfl ?_ | refine zD ?_ | refine zE ?_ | refine zF ?_ | refine zG rfl ?_ | refine zH rfl ?_ | refine zI rfl rfl rfl ?_ | refine zJ rfl rfl ?_ | refine zK ?_ | refine zL ?_ | refine zM rfl ?_ | refine zN ?_)
          refine WC.cond rfl (fun c => ?_) (fun c => ?_)
          · have c : i < M0.length := by have := of_decide_eq_true c; omega
            repeat (first | refine zA ?_ | refine zB ?_ | refine zC rfl rfl rfl ?_ | refine zD ?_ | refine zE ?_ | refine zF ?_ | refine zG rfl ?_ | refine zH rfl ?_ | refine zI rfl rfl rfl ?_ | refine zJ rfl rfl ?_ | refine zK ?_ | refine zL ?_ | refine zM rfl ?_ | refine zN ?_)
            refine WL.loadB rfl rfl rfl rfl rfl (hp9.obj 4 rfl) (j := 1) rfl ?_
            refine WL.pure rfl rfl rfl ?_
            refine WL.ixload rfl (fun _ => rfl) rfl rfl rfl rfl rfl rfl rfl c rfl rfl (hstZ hp9).mks (zs_getD c) ?_
            intro q0
            refine WL.call rfl rfl rfl rfl rfl ent29 (mod_any (M0.getD i 0) 16 (by decide) (by decide) w9) ?_
            rintro _ w11 ⟨rfl, hw11⟩
            obtain rfl := hw11.symm
            repeat (first | refine zA ?_ | refine zB ?_ | refine zC rfl rfl rfl ?_ | refine zD ?_ | refine zE ?_ | refine zF ?_ | refine zG rfl ?_ | refine zH rfl ?_ | refine zI rfl rfl rfl ?_ | refine zJ rfl rfl ?_ | refine zK ?_ | refine zL ?_ | refine zM rfl ?_ | refine zN ?_)
            exact ⟨(), ⟨rfl, rfl, rfl, rfl, rfl, rfl, congrArg (fun z => some (Value.int .i64 z)) (show ((modN (M0.getD i 0) 16 : Nat) : Int) = tmMark M0 i by unfold tmMark; rw [if_pos c]; rfl), rfl⟩, rfl⟩
          · have c : ¬ i < M0.length := by have := of_decide_eq_false c; omega
            repeat (first | refine zA ?_ | refine zB ?_ | refine zC rfl rfl rfl ?_ | refine zD ?_ | refine zE ?_ | refine zF ?_ | refine zG rfl ?_ | refine zH rfl ?_ | refine zI rfl rfl rfl ?_ | refine zJ rfl rfl ?_ | refine zK ?_ | refine zL ?_ | refine zM rfl ?_ | refine zN ?_)
            exact ⟨(), ⟨rfl, rfl, rfl, rfl, rfl, rfl, congrArg (fun z => some (Value.int .i64 z)) (show ((i % 16 : Nat) : Int) = tmMark M0 i by unfold tmMark; rw [if_neg c]), rfl⟩, rfl⟩
        rintro _ e10 w10 hsub hw10
        obtain rfl := hw10.symm
        refine WC.sub hsub ?_
        clear hsub e10
        have hal : ac.length ≤ 16 := by omega
        subst hvl
        repeat (first | refine zA ?_ | refine zB ?_ | refine zC rfl rfl rfl ?_ | refine zD ?_ | refine zE ?_ | refine zF ?_ | refine zG rfl ?_ | refine zH rfl ?_ | refine zI rfl rfl rfl ?_ | refine zJ rfl rfl ?_ | refine zK ?_ | refine zL ?_ | refine zM rfl ?_ | refine zN ?_)
        refine WL.loadB rfl rfl rfl rfl rfl (hp9.obj 1 rfl) (j := 0) rfl ?_
        repeat (first | refine zA ?_ | refine zB ?_ | refine zC rfl rfl rfl ?_ | refine zD ?_ | refine zE ?_ | refine zF ?_ | refine zG rfl ?_ | refine zH rfl ?_ | refine zI rfl rfl rfl ?_ | refine zJ rfl rfl ?_ | refine zK ?_ | refine zL ?_ | refine zM rfl ?_ | refine zN ?_)
        refine WL.buildS (cs := [.slice ra ac.length rc]) rfl rfl rfl rfl rfl rfl rfl rfl rfl (fun b10 w10 h10 => ?_)
        have hp10 := hp9.new h10
        refine WL.append 3 hp10 rfl rfl rfl rfl rfl (by decide) rfl rfl rfl (news := [.slice ra ac.length rc]) (Sl.of_obj (hp10.obj 0 rfl) (fun q u hq => by simpa using hq)) rfl (Cells.cons rfl Cells.nil) (by unfold maxLen; omega) (by show (vs3.length + 1) * 24 ≤ _; omega) ?_
        intro pb pd w11 hp11 _
        replace hp11 : Hp w w11 ([_, Ri (.slice ra ac.length rc) ac, Stb b7 na vs3.length nc ma vs3.length mc, .row 22 1 (.slice pb (vs3.length + 1) pd) (vs3.length + 1) (catV vs3 ++ [.slice ra ac.length rc]), .row 3 1 (.slice ma vs3.length mc) vs3.length (zs (tmMs M0 vs3.length)), Stb b5 na0 vs0.length nc0 ma0 M0.length mc0, Stb b4 none 0 0 none 0 0] ++ (vsE vs3 ++ Y)) := hp11
        repeat (first | refine zA ?_ | refine zB ?_ | refine zC rfl rfl rfl ?_ | refine zD ?_ | refine zE ?_ | refine zF ?_ | refine zG rfl ?_ | refine zH rfl ?_ | refine zI rfl rfl rfl ?_ | refine zJ rfl rfl ?_ | refine zK ?_ | refine zL ?_ | refine zM rfl ?_ | refine zN ?_)
        refine WL.store rfl rfl rfl rfl rfl rfl (hp11.obj 2 rfl) (Nat.succ_pos 1) (fun w12 h12 => ?_)
        have hp12 := Hp.pickT (T := vsE vs3 ++ Y) [_, _, _, _, _, _, _] [3, 1, 2, 4, 5, 6] (hp11.set 2 rfl rfl h12) (by decide)
        have hp13 := Hp.pickT (T := vsE (vs3 ++ [(ra, rc, ac)]) ++ Y) [_, _, _, _, _] [1, 0, 2, 3, 4] (Hp.rowInY (X := [Stb b7 pb (vs3.length + 1) pd ma vs3.length mc, .row 3 1 (.slice ma vs3.length mc) vs3.length (zs (tmMs M0 vs3.length)), Stb b5 na0 vs0.length nc0 ma0 M0.length mc0, Stb b4 none 0 0 none 0 0]) (x := (ra, rc, ac)) hp12) (by decide)
        clear hp9 hp10 hp11 hp12
        repeat (first | refine zA ?_ | refine zB ?_ | refine zC rfl rfl rfl ?_ | refine zD ?_ | refine zE ?_ | refine zF ?_ | refine zG rfl ?_ | refine zH rfl ?_ | refine zI rfl rfl rfl ?_ | refine zJ rfl rfl ?_ | refine zK ?_ | refine zL ?_ | refine zM rfl ?_ | refine zN ?_)
        refine WL.loadB rfl rfl rfl rfl rfl (hp13.obj 0 rfl) (j := 1) rfl ?_
        repeat (first | refine zA ?_ | refine zB ?_ | refine zC rfl rfl rfl ?_ | refine zD ?_ | refine zE ?_ | refine zF ?_ | refine zG rfl ?_ | refine zH rfl ?_ | refine zI rfl rfl rfl ?_ | refine zJ rfl rfl ?_ | refine zK ?_ | refine zL ?_ | refine zM rfl ?_ | refine zN ?_)
        refine WL.buildS (cs := [.int .i64 (tmMark M0 vs3.length)]) rfl rfl rfl rfl rfl rfl rfl rfl rfl (fun b14 w14 h14 => ?_)
        have hp14 := hp13.new h14
        refine WL.append 3 hp14 rfl rfl rfl rfl rfl (by decide) rfl rfl rfl (news := [.int .i64 (tmMark M0 vs3.length)]) (Sl.of_obj (hp14.obj 0 rfl) (fun q u hq => by simpa using hq)) rfl (zs_cells [_]) (by unfold maxLen; omega) (by show (vs3.length + 1) * 8 ≤ _; omega) ?_
        intro pe pf w15 hp15 _
        replace hp15 : Hp w w15 ([_, Stb b7 pb (vs3.length + 1) pd ma vs3.length mc, Rvs (.slice pb (vs3 ++ [(ra, rc, ac)]).length pd) (vs3 ++ [(ra, rc, ac)]), .row 3 1 (.slice pe (vs3.length + 1) pf) (vs3.length + 1) (zs (tmMs M0 vs3.length) ++ [.int .i64 (tmMark M0 vs3.length)]), Stb b5 na0 vs0.length nc0 ma0 M0.length mc0, Stb b4 none 0 0 none 0 0] ++ (vsE (vs3 ++ [(ra, rc, ac)]) ++ Y)) := hp15
        repeat (first | refine zA ?_ | refine zB ?_ | refine zC rfl rfl rfl ?_ | refine zD ?_ | refine zE ?_ | refine zF ?_ | refine zG rfl ?_ | refine zH rfl ?_ | refine zI rfl rfl rfl ?_ | refine zJ rfl rfl ?_ | refine zK ?_ | refine zL ?_ | refine zM rfl ?_ | refine zN ?_)
        refine WL.store rfl rfl rfl rfl rfl rfl (hp15.obj 1 rfl) (Nat.lt_succ_self 1) (fun w16 h16 => ?_)
        have hp16 := Hp.pickT (T := vsE (vs3 ++ [(ra, rc, ac)]) ++ Y) [_, _, _, _, _, _] [1, 2, 3, 4, 5] (hp15.set 1 rfl rfl h16) (by decide)
        have hms : zs (tmMs M0 vs3.length) ++ [.int .i64 (tmMark M0 vs3.length)] = zs (tmMs M0 (vs3.length + 1)) := by rw [tmMs_succ, zs_app]; rfl
        have hvs4 : rowsOf (vs3 ++ [(ra, rc, ac)]) = (List.range (vs3.length + 1)).map (tmRow R n) := by
          rw [List.range_succ, List.map_append, ← hvs3, hacr]; simp [rowsOf]
        rw [hms] at hp16
        unfold Rvs at hp16
        rw [show (vs3 ++ [(ra, rc, ac)]).length = vs3.length + 1 from by rw [List.length_append]; rfl] at hp16
        repeat (first | refine zA ?_ | refine zB ?_ | refine zC rfl rfl rfl ?_ | refine zD ?_ | refine zE ?_ | refine zF ?_ | refine zG rfl ?_ | refine zH rfl ?_ | refine zI rfl rfl rfl ?_ | refine zJ rfl rfl ?_ | refine zK ?_ | refine zL ?_ | refine zM rfl ?_ | refine zN ?_)
        exact ⟨(vs3.length + 1, pb, pd, pe, pf, vs3 ++ [(ra, rc, ac)]), (by show n - (vs3.length + 1) < n - vs3.length; omega), ⟨rfl, rfl, rfl, rfl, congrArg (fun z => some (Value.int .i64 z)) step, rfl⟩, hin, hvs4, hp16⟩
    · have hin : i = n := by have := of_decide_eq_false g1; omega
      subst hin
      repeat (first | refine zA ?_ | refine zB ?_ | refine zC rfl rfl rfl ?_ | refine zD ?_ | refine zE ?_ | refine zF ?_ | refine zG rfl ?_ | refine zH rfl ?_ | refine zI rfl rfl rfl ?_ | refine zJ rfl rfl ?_ | refine zK ?_ | refine zL ?_ | refine zM rfl ?_ | refine zN ?_)
      refine WL.loadN rfl rfl rfl rfl rfl (cs := [.slice na i nc, .slice ma i mc]) rfl (fun q v hq => cell_of_obj (hp8.obj 0 rfl) (by rw [Nat.zero_add]; simpa using hq)) ?_
      refine WL.storeN rfl rfl rfl rfl rfl (by simp [Value.oneCell']) (hp8.obj 4 rfl) (Nat.le_refl _) rfl (fun w9 h9 => ?_)
      have hp9 := hp8.set 4 rfl rfl h9
      repeat (first | refine zA ?_ | refine zB ?_ | refine zC rfl rfl rfl ?_ | refine zD ?_ | refine zE ?_ | refine zF ?_ | refine zG rfl ?_ | refine zH rfl ?_ | refine zI rfl rfl rfl ?_ | refine zJ rfl rfl ?_ | refine zK ?_ | refine zL ?_ | refine zM rfl ?_ | refine zN ?_)
      refine Res.cell rfl rfl rfl rfl rfl rfl (hp9.obj 4 rfl) ⟨na, nc, ma, mc, vs3, by simp only [tmMs_len, hvl]; rfl, hvs3, ?_⟩
      have h10 := Hp.frontT (T := Y) (L := [_, _] ++ vsE vs3) (Hp.pickT (T := vsE vs3 ++ Y) [_, _, _, _, _] [1, 2] hp9 (by decide))
      show Hp w w9 (.row 22 1 (.slice na vs3.length nc) vs3.length (catV vs3) :: .row 3 1 (.slice ma (tmMs M0 i).length mc) (tmMs M0 i).length (zs (tmMs M0 i)) :: vsE vs3)
      rw [tmMs_len, hvl]
      exact h10
end Go.Proofs.YtpbbneclkhfgoaaDoor
end
section
/- ltl, fifty-sixth: structures with a successor less, in plain words. -/
namespace Go.Proofs.YtpbbneclkhfgoaaDoor
open Go.W Go.Ltl Go.RowKit
set_option maxRecDepth 100000

/-- A row that is in order. -/
theorem rowB_iff (n : Nat) (l : List Int) : rowB n l = true ↔ l ≠ [] ∧ (∀ z ∈ l, 0 ≤ z ∧ z < (n : Int)) ∧ l.Pairwise (· < ·) := by
  have hs : ∀ i, i < l.length → (sucB n l i = true ↔ (0 ≤ l.getD i 0 ∧ l.getD i 0 < (n : Int)) ∧ (i = 0 ∨ l.getD (i - 1) 0 < l.getD i 0)) := fun i _ => by
    simp only [sucB, Bool.and_eq_true, Bool.or_eq_true, decide_eq_true_eq]
  unfold rowB
  rw [Bool.and_eq_true, decide_eq_true_eq, List.all_eq_true]
  constructor
  · rintro ⟨h1, h2⟩
    have h3 : ∀ i, i < l.length → _ := fun i hi => (hs i hi).1 (h2 i (List.mem_range.2 hi))
    refine ⟨h1, fun z hz => ?_, ?_⟩
    · obtain ⟨i, hi, rfl⟩ := List.getElem_of_mem hz
      rw [get_getD hi]
      exact (h3 i hi).1
    · rw [List.pairwise_iff_getElem]
      intro i j hi hj hij
      rw [get_getD hi, get_getD hj]
      induction j with
      | zero => omega
      | succ j ih =>
        have h4 := (h3 (j + 1) hj).2
        have h5 : l.getD j 0 < l.getD (j + 1) 0 := h4.resolve_left (by omega)
        by_cases h : i = j
        · rw [h]; exact h5
        · have := ih (by omega) (by omega)
          omega
  · rintro ⟨h1, h2, h3⟩
    refine ⟨h1, fun i hi => ?_⟩
    have hi := List.mem_range.1 hi
    refine (hs i hi).2 ⟨?_, ?_⟩
    · rw [← get_getD hi]; exact h2 _ (List.getElem_mem hi)
    · by_cases h : i = 0
      · exact .inl h
      · have := List.pairwise_iff_getElem.1 h3 (i - 1) i (by omega) hi (by omega)
        rw [get_getD, get_getD hi] at this
        exact .inr this
theorem rowB_less {n : Nat} {l : List Int} {k : Nat} (h : rowB n l = true) (h2 : 2 ≤ l.length) (hk : k < l.length) : rowB n (l.take k ++ l.drop (k + 1)) = true := by
  obtain ⟨_, k2, k3⟩ := (rowB_iff n l).1 h
  have hsub : (l.take k ++ l.drop (k + 1)).Sublist l := by
    rw [← List.eraseIdx_eq_take_drop_succ]; exact List.eraseIdx_sublist l k
  refine (rowB_iff n _).2 ⟨fun h0 => ?_, fun z hz => k2 z (hsub.subset hz), k3.sublist hsub⟩
  have := congrArg List.length h0
  rw [List.length_append, List.length_take, List.length_drop] at this
  simp only [List.length_nil] at this
  omega
/-- Fewer edges. -/
def LessN (a b : Vs) : Prop := ∀ v u, u ∈ (nxOf a).getD v [] → u ∈ (nxOf b).getD v []
theorem runS_less {a b : Vs} (h : LessN a b) {τ : Nat → Nat} (hr : RunS (nxOf a) 1 τ) : RunS (nxOf b) 1 τ := ⟨hr.1, fun i => h _ _ (hr.2 i)⟩
theorem HoldsA.less {a b : Vs} {ms : List Int} {f : Fm} (h : LessN a b) (hA : HoldsA b ms f) : HoldsA a ms f := fun τ hτ => hA τ (runS_less h hτ)
theorem LassoA.less {a b : Vs} {ms : List Int} {f : Fm} {stem loop : List Nat} (h : LessN a b) (hA : LassoA a ms f stem loop) : LassoA b ms f stem loop :=
  ⟨hA.ne1, hA.ne2, hA.l1, hA.l2, runS_less h hA.run, hA.no⟩
theorem mkI_up (ms : List Int) (l : List Nat) : mkI ms (upN l) = l.map fun v => ms.getD v 0 := by
  unfold mkI upN
  rw [List.map_map]
  rfl
/-- A lasso that Holds answers is right. -/
theorem LassoA.right {vs : Vs} {ms : List Int} (hok : StrOk vs ms) {f : Fm} {stem loop : List Nat} (h : LassoA vs ms f stem loop) : rightP vs ms f false (upN stem) (upN loop) := by
  refine .inr ⟨rfl, h.runs hok, ?_⟩
  rw [← upN_app, mkI_up, upN_len]
  exact h.no
theorem check_ok {vs : Vs} {ms : List Int} {s : Str} {f : Fm} {hb : Bool} {xs ys : List Int} {ec : Int} (hsb : strB vs ms = true) (hf : parseM s = some f) (h : CheckR vs ms s hb xs ys ec) (hr : rightP vs ms f hb xs ys) : ec = 0 := by
  unfold CheckR at h
  rw [if_pos hsb, hf] at h
  rcases h with ⟨h, _⟩ | ⟨_, h⟩
  · exact h
  · exact absurd hr h
/-- One row replaced. -/
theorem rows_set {vs : Vs} {i : Nat} {x : Option Addr × Nat × List Int} : rowsOf (vs.set i x) = (rowsOf vs).set i x.2.2 := by
  unfold rowsOf; rw [List.map_set]
theorem catV_set {vs : Vs} {i : Nat} {x : Option Addr × Nat × List Int} : catV (vs.set i x) = (catV vs).set i (.slice x.1 x.2.2.length x.2.1) := by
  unfold catV; rw [List.map_set]
theorem less_set {vs : Vs} {i : Nat} {x : Option Addr × Nat × List Int} (hi : i < vs.length) (hs : ∀ z ∈ x.2.2, z ∈ vs[i].2.2) : LessN (vs.set i x) vs := by
  intro v u hu
  have e : ∀ (a : Vs) v, (nxOf a).getD v [] = ((rowsOf a).getD v []).map Int.toNat := fun a v => by
    unfold nxOf rowsOf
    rw [List.getD_eq_getElem?_getD, List.getD_eq_getElem?_getD, List.getElem?_map, List.getElem?_map]
    cases a[v]? <;> rfl
  rw [e, rows_set] at hu
  rw [e]
  by_cases h : v = i
  · subst h
    rw [List.getD_eq_getElem?_getD, List.getElem?_set_self (by rw [List.length_map]; exact hi)] at hu
    rw [rows_get hi]
    obtain ⟨z, hz, rfl⟩ := List.mem_map.1 hu
    exact List.mem_map_of_mem (hs z hz)
  · rw [List.getD_eq_getElem?_getD, List.getElem?_set_ne (Ne.symm h), ← List.getD_eq_getElem?_getD] at hu
    exact hu
theorem str_set {vs : Vs} {ms : List Int} {i : Nat} {x : Option Addr × Nat × List Int} (h : strB vs ms = true) (hr : rowB vs.length x.2.2 = true) : strB (vs.set i x) ms = true := by
  unfold strB at h ⊢
  rw [List.length_set]
  rw [Bool.and_eq_true] at h ⊢
  refine ⟨h.1, ?_⟩
  have h2 := h.2
  rw [List.all_eq_true] at h2 ⊢
  intro y hy
  rcases List.mem_or_eq_of_mem_set hy with hy | rfl
  · exact h2 y hy
  · exact hr
end Go.Proofs.YtpbbneclkhfgoaaDoor
end
section
/- ltl, fifty-seventh: LtlLess. -/
namespace Go.W
open Go.RowKit
section
variable {P : Program} [T : TT P] {n : Nat} {l0 : List Oper} {S : World → Prop} {N : Nor} {Z : Pan} {e : Env} {w : World} {fuel : Nat} {listed : Array Bool}
end
end Go.W
namespace Go.Proofs.YtpbbneclkhfgoaaDoor
open Go.W Go.Ltl Go.RowKit
set_option maxRecDepth 100000
set_option linter.unusedSectionVars false
attribute [local irreducible] WC WL WQ WS WH

theorem Hp.toTail {w0 w : World} {A L Y : List Ent} (h : Hp w0 w (A ++ (L ++ Y))) : Hp w0 w (L ++ (A ++ Y)) := permE h (by
  rw [← List.append_assoc, ← List.append_assoc]
  exact List.Perm.append_right Y List.perm_append_comm)
theorem take_set_arr {arr : Array Value} {n i : Nat} {v : Value} (hi : i < n) : (arr.setIfInBounds i v).toList.take n = (arr.toList.take n).set i v := by
  rw [Array.toList_setIfInBounds, List.take_set]
theorem LtlLess_any (an : Option Addr) (cn : Nat) (am : Option Addr) (cm : Nat) (vs : Vs) (ms : List Int) (hB : StcB an cn am cm vs ms) (s : Str) (hsl : s.length ≤ 9223372036854775807) (x y : Int) (w : World) (hG : Gl w) (hst : Stc w an am vs ms) :
    Ret Tryd.prog 14 [stV an cn am cm vs ms, st s, .agg #[.int .i64 x, .int .i64 y]] w fun u w' => u = .bool true ∧ Hp w w' [] := by
  refine enter Tryd.func14 rfl rfl ⟨rfl, rfl⟩ rfl ?_
  repeat (first | refine zA ?_ | refine zB ?_ | refine zC rfl rfl rfl ?_ | refine zD ?_ | refine zE ?_ | refine zF ?_ | refine zG rfl ?_ | refine zH rfl ?_ | refine zI rfl rfl rfl ?_ | refine zJ rfl rfl ?_ | refine zK ?_ | refine zL ?_ | refine zM rfl ?_ | refine zN ?_)
  refine WL.box rfl rfl rfl (fun b3 w1 hb3 => ?_)
  have hp1 : Hp w w1 [Sb b3 an cn am cm vs ms] := (Hp.start w).new hb3
  refine WL.box rfl rfl rfl (fun b5 w2 hb5 => ?_)
  have hp2 : Hp w w2 [.blk b5 (.cells #[.int .i64 x, .int .i64 y] 79 (0, 0)), Sb b3 an cn am cm vs ms] := hp1.new hb5
  obtain ⟨hC1, hC2, hC3⟩ := tameC_ok (takeV (rowsOf vs)) (ms.take 20) (most := 6) (by decide) (by decide)
  have hT := fun w' (h : Stc w' an am vs ms) => tame_any an cn am cm vs ms hB 6 (by decide) (by decide) w' h
  obtain ⟨R, hR⟩ : ∃ R, R = (tameC (takeV (rowsOf vs)) (ms.take 20) 6).1 := ⟨_, rfl⟩
  obtain ⟨M, hM⟩ : ∃ M, M = (tameC (takeV (rowsOf vs)) (ms.take 20) 6).2 := ⟨_, rfl⟩
  rw [← hR, ← hM] at hC1 hC3
  rw [← hR] at hC2
  simp only [← hR, ← hM] at hT
  clear hR hM hp1 hb3 hb5
  repeat (first | refine zA ?_ | refine zB ?_ | refine zC rfl rfl rfl ?_ | refine zD ?_ | refine zE ?_ | refine zF ?_ | refine zG rfl ?_ | refine zH rfl ?_ | refine zI rfl rfl rfl ?_ | refine zJ rfl rfl ?_ | refine zK ?_ | refine zL ?_ | refine zM rfl ?_ | refine zN ?_)
  refine WL.loadN rfl rfl rfl rfl rfl (cs := [.slice an vs.length cn, .slice am ms.length cm]) rfl (fun q v hq => cell_of_obj (hp2.obj 1 rfl) (by rw [Nat.zero_add]; simpa using hq)) ?_
  refine WL.call rfl rfl rfl rfl rfl ent24 (hT w2 (hst.hp hp2)) ?_
  rintro _ w3 ⟨na, nc, ma, mc, v1, rfl, hv1, hp3⟩
  have hp3 := Hp.pickT (T := OwnS na nc ma mc v1 M) [_, _] [0] (permE (hp2.comb hp3) List.perm_append_comm) (by decide)
  refine WL.alloc rfl rfl rfl (fun b7 w4 h4 => ?_)
  have hp4 := hp3.new h4
  refine WL.storeN rfl rfl rfl rfl rfl (by simp [Value.oneCell']) (hp4.obj 0 rfl) (Nat.le_refl _) rfl (fun w5 h5 => ?_)
  have hp5 : Hp w w5 ([Stb b7 na v1.length nc ma M.length mc, .blk b5 (.cells #[.int .i64 x, .int .i64 y] 79 (0, 0))] ++ OwnS na nc ma mc v1 M) := hp4.set 0 rfl rfl h5
  clear hp2 hp3 hp4 h4 h5 hT
  obtain ⟨Y, hY⟩ : ∃ Y, Y = OwnS na nc ma mc v1 M := ⟨_, rfl⟩
  have hstY : ∀ {w' : World} {L : List Ent}, Hp w w' L → (∀ x ∈ Y, x ∈ L) → Stc w' na ma v1 M := fun {w' L} h hsub => by
    subst hY
    exact Stc.own (n := v1.length) (nc := nc) (m := M.length) (mc := mc) h (hsub _ (by simp)) (hsub _ (by simp)) (fun x hx => hsub x (by simp [hx]))
  have hl1 : v1.length = R.length := by rw [← hv1, List.length_map]
  have hsb1 : strB v1 M = true := by rw [strB_R, hv1]; exact hC1
  have hok1 := strB_ok hsb1
  have hr1 : ∀ x ∈ v1, x.2.2.length ≤ 1000000 := fun x hx => by have := hok1.len x hx; omega
  have hM6 : M.length ≤ 6 := by omega
  have hB1 : StcB na nc ma mc v1 M := by
    refine ⟨by omega, fun x hx => by have := hr1 x hx; omega, fun x hx => ?_, by omega, ?_⟩
    · exact row_cap (hp5.sat (Ri (.slice x.1 x.2.2.length x.2.1) x.2.2) (by
        have := List.mem_map_of_mem (f := fun x : Option Addr × Nat × List Int => Ri (.slice x.1 x.2.2.length x.2.1) x.2.2) hx
        have : Ri (.slice x.1 x.2.2.length x.2.1) x.2.2 ∈ vsE v1 := this
        simp [this]))
    · exact row_cap (hp5.sat (Ri (.slice ma M.length mc) M) (by simp))
  have hlo := hok1.lo
  rw [← hY] at hp5
  clear hY
  repeat (first | refine zA ?_ | refine zB ?_ | refine zC rfl rfl rfl ?_ | refine zD ?_ | refine zE ?_ | refine zF ?_ | refine zG rfl ?_ | refine zH rfl ?_ | refine zI rfl rfl rfl ?_ | refine zJ rfl rfl ?_ | refine zK ?_ | refine zL ?_ | refine zM rfl ?_ | refine zN ?_)
  refine WL.call rfl rfl rfl rfl rfl ent16 (short_any s hsl w5) ?_
  rintro _ w6 ⟨rfl, hw6⟩
  obtain rfl := hw6.symm
  have hq := shortM_len s
  generalize shortM s = t at *
  repeat (first | refine zA ?_ | refine zB ?_ | refine zC rfl rfl rfl ?_ | refine zD ?_ | refine zE ?_ | refine zF ?_ | refine zG rfl ?_ | refine zH rfl ?_ | refine zI rfl rfl rfl ?_ | refine zJ rfl rfl ?_ | refine zK ?_ | refine zL ?_ | refine zM rfl ?_ | refine zN ?_)
  refine WL.loadN rfl rfl rfl rfl rfl (cs := [.slice na v1.length nc, .slice ma M.length mc]) rfl (fun q v hq => cell_of_obj (hp5.obj 0 rfl) (by rw [Nat.zero_add]; simpa using hq)) ?_
  refine WL.pure rfl rfl rfl ?_
  refine WL.call rfl rfl rfl rfl rfl ent26 (HoldsT_any na nc ma mc v1 M (by omega) hr1 t (by omega) w5 (hG.hp hp5) (hstY hp5 (fun x hx => by simp [hx]))) ?_
  intro hv w6 hHW
  obtain ⟨hb, sa, sl, sc, qa, ql, qc, ec, E1, rfl, hpE, hsh1⟩ := hHW.shape hsb1
  have hp6 := Hp.toTail (L := [_, _]) (hp5.comb hpE)
  clear hHW hpE hp5
  repeat (first | refine zA ?_ | refine zB ?_ | refine zC rfl rfl rfl ?_ | refine zD ?_ | refine zE ?_ | refine zF ?_ | refine zG rfl ?_ | refine zH rfl ?_ | refine zI rfl rfl rfl ?_ | refine zJ rfl rfl ?_ | refine zK ?_ | refine zL ?_ | refine zM rfl ?_ | refine zN ?_)
  refine WL.alloc rfl rfl rfl (fun b8 w7 h7 => ?_)
  have hp7 := hp6.new h7
  refine WL.storeN rfl rfl rfl rfl rfl (by simp [Value.oneCell']) (hp7.obj 0 rfl) (Nat.le_refl _) rfl (fun w8 h8 => ?_)
  have hp8 : Hp w w8 ([Rb b8 hb sa sl sc qa ql qc, Stb b7 na v1.length nc ma M.length mc, .blk b5 (.cells #[.int .i64 x, .int .i64 y] 79 (0, 0))] ++ (E1 ++ Y)) := hp7.set 0 rfl rfl h8
  clear hp6 hp7 h7 h8
  rcases hsh1 with ⟨hf, rfl, _⟩ | ⟨f, hf, rfl, hsh1⟩
  · repeat (first | refine zA ?_ | refine zB ?_ | refine zC rfl rfl rfl ?_ | refine zD ?_ | refine zE ?_ | refine zF ?_ | refine zG rfl ?_ | refine zH rfl ?_ | refine zI rfl rfl rfl ?_ | refine zJ rfl rfl ?_ | refine zK ?_ | refine zL ?_ | refine zM rfl ?_ | refine zN ?_)
    refine WL.call rfl rfl rfl rfl rfl ent20 (awake_any w8 (hG.hp hp8)) ?_
    rintro _ w10 ⟨rfl, hp10⟩
    repeat (first | refine zA ?_ | refine zB ?_ | refine zC rfl rfl rfl ?_ | refine zD ?_ | refine zE ?_ | refine zF ?_ | refine zG rfl ?_ | refine zH rfl ?_ | refine zI rfl rfl rfl ?_ | refine zJ rfl rfl ?_ | refine zK ?_ | refine zL ?_ | refine zM rfl ?_ | refine zN ?_)
    exact Res.one rfl rfl rfl ⟨rfl, (hp8.call hp10.below).nil'⟩
  have hwf := parseM_wf hf
  repeat (first | refine zA ?_ | refine zB ?_ | refine zC rfl rfl rfl ?_ | refine zD ?_ | refine zE ?_ | refine zF ?_ | refine zG rfl ?_ | refine zH rfl ?_ | refine zI rfl rfl rfl ?_ | refine zJ rfl rfl ?_ | refine zK ?_ | refine zL ?_ | refine zM rfl ?_ | refine zN ?_)
  refine WL.loadN rfl rfl rfl rfl rfl (cs := [.slice na v1.length nc, .slice ma M.length mc]) rfl (fun q v hq => cell_of_obj (hp8.obj 1 rfl) (by rw [Nat.zero_add]; simpa using hq)) ?_
  refine WL.call rfl rfl rfl rfl rfl ent37 (machine_any na nc ma mc v1 M hB1 w8 (hstY hp8 (fun x hx => by simp [hx]))) ?_
  rintro _ w9 ⟨oa, oc, pa, pc, v2, rfl, hv2, hp9⟩
  have hMt : M.take 20 = M := List.take_of_length_le (by omega)
  have hv2 : rowsOf v2 = R := by
    rw [hv2, ← hv1]
    unfold takeV
    rw [List.take_of_length_le (by rw [List.length_map]; omega)]
    conv => rhs; rw [← List.map_id (rowsOf v1)]
    apply List.map_congr_left
    intro r hr
    obtain ⟨x, hx, rfl⟩ := List.mem_map.1 hr
    exact List.take_of_length_le (by have := hok1.len x hx; omega)
  rw [hMt] at hp9 ⊢
  have hl2 : v2.length = R.length := by rw [← hv2, List.length_map]
  have hsb2 : strB v2 M = true := by rw [strB_R, hv2]; exact hC1
  have hok2 := strB_ok hsb2
  have hp9 := Hp.toTail (L := [_, _, _]) (hp8.comb hp9)
  refine WL.alloc rfl rfl rfl (fun b10 w10 h10 => ?_)
  have hp10 := hp9.new h10
  refine WL.storeN rfl rfl rfl rfl rfl (by simp [Value.oneCell']) (hp10.obj 0 rfl) (Nat.le_refl _) rfl (fun w11 h11 => ?_)
  have hp11 := hp10.set 0 rfl rfl h11
  -- the rows of the copy stand in front
  have hp12 : Hp w w11 ([Rvs (.slice oa v2.length oc) v2, Ri (.slice pa M.length pc) M, Stb b10 oa v2.length oc pa M.length pc, Rb b8 hb sa sl sc qa ql qc, Stb b7 na v1.length nc ma M.length mc, .blk b5 (.cells #[.int .i64 x, .int .i64 y] 79 (0, 0))] ++ (vsE v2 ++ (E1 ++ Y))) := by
    have h := Hp.toTail (A := [_, _, _, _]) (L := [Rvs (.slice oa v2.length oc) v2, Ri (.slice pa M.length pc) M]) (Y := vsE v2 ++ (E1 ++ Y)) hp11
    exact h
  clear hp8 hp9 hp10 hp11 h10 h11
  have hsR : ∀ {w' : World} {L : List Ent}, Hp w w' L → (∀ x ∈ vsE v2, x ∈ L) → ∀ z ∈ v2, Sl w' z.1 (zs z.2.2) := fun {w' L} h hsub z hz =>
    Sl.of_row (h.sat (Ri (.slice z.1 z.2.2.length z.2.1) z.2.2) (hsub _ (List.mem_map_of_mem (f := fun x : Option Addr × Nat × List Int => Ri (.slice x.1 x.2.2.length x.2.1) x.2.2) hz)))
  repeat (first | refine zA ?_ | refine zB ?_ | refine zC rfl rfl rfl ?_ | refine zD ?_ | refine zE ?_ | refine zF ?_ | refine zG rfl ?_ | refine zH rfl ?_ | refine zI rfl rfl rfl ?_ | refine zJ rfl rfl ?_ | refine zK ?_ | refine zL ?_ | refine zM rfl ?_ | refine zN ?_)
  refine WL.loadB rfl rfl rfl rfl rfl (hp12.obj 5 rfl) (j := 0) rfl ?_
  repeat (first | refine zA ?_ | refine zB ?_ | refine zC rfl rfl rfl ?_ | refine zD ?_ | refine zE ?_ | refine zF ?_ | refine zG rfl ?_ | refine zH rfl ?_ | refine zI rfl rfl rfl ?_ | refine zJ rfl rfl ?_ | refine zK ?_ | refine zL ?_ | refine zM rfl ?_ | refine zN ?_)
  refine WL.loadB rfl rfl rfl rfl rfl (hp12.obj 2 rfl) (j := 0) rfl ?_
  refine WL.pure rfl rfl rfl ?_
  refine WL.call rfl rfl rfl rfl rfl ent29 (mod_any x v2.length (by omega) (by omega) w11) ?_
  rintro _ w12 ⟨rfl, hw12⟩
  obtain rfl := hw12.symm
  have hi := modN_lt (n := v2.length) (by omega) x
  generalize modN x v2.length = i at *
  have hxm := List.getElem_mem hi
  have hrl := hok2.len _ hxm
  have hcat := catV_at hi
  have hcap : v2[i].2.2.length ≤ v2[i].2.1 := row_cap (hp12.sat (Ri (.slice v2[i].1 v2[i].2.2.length v2[i].2.1) v2[i].2.2) (by
    have h1 : Ri (.slice v2[i].1 v2[i].2.2.length v2[i].2.1) v2[i].2.2 ∈ vsE v2 := List.mem_map_of_mem (f := fun x : Option Addr × Nat × List Int => Ri (.slice x.1 x.2.2.length x.2.1) x.2.2) hxm
    simp [h1]))
  repeat (first | refine zA ?_ | refine zB ?_ | refine zC rfl rfl rfl ?_ | refine zD ?_ | refine zE ?_ | refine zF ?_ | refine zG rfl ?_ | refine zH rfl ?_ | refine zI rfl rfl rfl ?_ | refine zJ rfl rfl ?_ | refine zK ?_ | refine zL ?_ | refine zM rfl ?_ | refine zN ?_)
  refine WL.loadB rfl rfl rfl rfl rfl (hp12.obj 2 rfl) (j := 0) rfl ?_
  refine WL.pure rfl rfl rfl ?_
  refine WL.ixload rfl (fun _ => rfl) rfl rfl rfl rfl rfl rfl rfl hi rfl rfl (Hp.sl hp12 0 rfl) hcat ?_
  intro q0
  repeat (first | refine zA ?_ | refine zB ?_ | refine zC rfl rfl rfl ?_ | refine zD ?_ | refine zE ?_ | refine zF ?_ | refine zG rfl ?_ | refine zH rfl ?_ | refine zI rfl rfl rfl ?_ | refine zJ rfl rfl ?_ | refine zK ?_ | refine zL ?_ | refine zM rfl ?_ | refine zN ?_)
  refine WC.cond rfl (fun c => ?_) (fun c => ?_)
  · repeat (first | refine zA ?_ | refine zB ?_ | refine zC rfl rfl rfl ?_ | refine zD ?_ | refine zE ?_ | refine zF ?_ | refine zG rfl ?_ | refine zH rfl ?_ | refine zI rfl rfl rfl ?_ | refine zJ rfl rfl ?_ | refine zK ?_ | refine zL ?_ | refine zM rfl ?_ | refine zN ?_)
    refine WL.call rfl rfl rfl rfl rfl ent20 (awake_any w11 (hG.hp hp12)) ?_
    rintro _ w13 ⟨rfl, hp13⟩
    repeat (first | refine zA ?_ | refine zB ?_ | refine zC rfl rfl rfl ?_ | refine zD ?_ | refine zE ?_ | refine zF ?_ | refine zG rfl ?_ | refine zH rfl ?_ | refine zI rfl rfl rfl ?_ | refine zJ rfl rfl ?_ | refine zK ?_ | refine zL ?_ | refine zM rfl ?_ | refine zN ?_)
    exact Res.one rfl rfl rfl ⟨rfl, (hp12.call hp13.below).nil'⟩
  have c2 : 2 ≤ v2[i].2.2.length := by have h : ¬ ((v2[i].2.2.length : Nat) : Int) < 2 := of_decide_eq_false c; omega
  obtain ⟨bn, on, hne, _⟩ := (Hp.sl hp12 0 rfl) i _ hcat
  subst hne
  obtain ⟨k, hk⟩ : ∃ k, k = modN y v2[i].2.2.length := ⟨_, rfl⟩
  have hkl : k < v2[i].2.2.length := by rw [hk]; exact modN_lt (by omega) y
  repeat (first | refine zA ?_ | refine zB ?_ | refine zC rfl rfl rfl ?_ | refine zD ?_ | refine zE ?_ | refine zF ?_ | refine zG rfl ?_ | refine zH rfl ?_ | refine zI rfl rfl rfl ?_ | refine zJ rfl rfl ?_ | refine zK ?_ | refine zL ?_ | refine zM rfl ?_ | refine zN ?_)
  refine WC.mid Unit (fun _ => [(1, st t), (7, ptr b7), (8, ptr b8), (10, ptr b10), (11, .int .i64 (i : Nat)), (12, .int .i64 (k : Nat))]) (fun _ w' => Hp w w' ([Rvs (.slice (some ⟨bn, on, none⟩) v2.length oc) v2, Ri (.slice pa M.length pc) M, Stb b10 (some ⟨bn, on, none⟩) v2.length oc pa M.length pc, Rb b8 hb sa sl sc qa ql qc, Stb b7 na v1.length nc ma M.length mc, .blk b5 (.cells #[.int .i64 x, .int .i64 y] 79 (0, 0))] ++ (vsE v2 ++ (E1 ++ Y)))) ?_ ?_
  · refine WC.regH (fun w' => Hp w w' [Rvs (.slice (some ⟨bn, on, none⟩) v2.length oc) v2, Stb b10 (some ⟨bn, on, none⟩) v2.length oc pa M.length pc, .blk b5 (.cells #[.int .i64 x, .int .i64 y] 79 (0, 0))]) mixed (by kernel_rfl) (fun w13 hw13 hh13 => ?_)
    have hp13 := hp12.keep hw13
    have hS := (Hp.frontT (L := [_, _, _, _, _, _]) hp13).pick [0, 2, 5] (by decide)
    refine WH.pure 0 (by kernel_rfl) rfl (by kernel_rfl) rfl rfl rfl (hS) ?_
    refine WH.load 1 (by kernel_rfl) rfl (by kernel_rfl) rfl rfl rfl rfl rfl (fun w' h => cell_of_obj (h.obj 2 rfl) (j := 1) rfl) hS ?_
    refine WH.pure 2 (by kernel_rfl) rfl (by kernel_rfl) rfl rfl rfl (hS) ?_
    refine WH.load 3 (by kernel_rfl) rfl (by kernel_rfl) rfl rfl rfl rfl rfl (fun w' h => cell_of_obj (h.obj 1 rfl) (j := 0) rfl) hS ?_
    refine WH.pure 4 (by kernel_rfl) rfl (by kernel_rfl) rfl rfl rfl (hS) ?_
    refine WH.ix1 5 (by kernel_rfl) rfl (by kernel_rfl) rfl rfl rfl rfl rfl rfl rfl hi hS ?_
    refine WH.load 6 (by kernel_rfl) rfl (by kernel_rfl) rfl rfl rfl rfl rfl (fun w' h => Sl.cell (Hp.sl h 0 rfl) hcat) hS ?_
    refine WH.pure 7 (by kernel_rfl) rfl (by kernel_rfl) rfl rfl rfl (hS) ?_
    refine WH.one 8 rfl (by kernel_rfl) ?_
    refine WL.call rfl rfl rfl rfl rfl ent29 (mod_any y v2[i].2.2.length (by omega) (by omega) w13) ?_
    rintro _ w14 ⟨rfl, hw14⟩
    obtain rfl := hw14.symm
    rw [← hk]
    refine WL.nil ⟨hS, ?_⟩
    refine WH.pure 9 (by kernel_rfl) rfl (by kernel_rfl) rfl rfl rfl (hS) ?_
    refine WH.done (by kernel_rfl) ?_
    exact ⟨(), ⟨rfl, rfl, rfl, rfl, rfl, rfl, rfl⟩, hp13⟩
  rintro _ e13 w13 hsub hp13
  refine WC.sub hsub ?_
  clear hsub e13 hp12 hk
  replace hp13 : Hp w w13 ([Rvs (.slice (some ⟨bn, on, none⟩) v2.length oc) v2, Ri (.slice pa M.length pc) M, Stb b10 (some ⟨bn, on, none⟩) v2.length oc pa M.length pc, Rb b8 hb sa sl sc qa ql qc, Stb b7 na v1.length nc ma M.length mc, .blk b5 (.cells #[.int .i64 x, .int .i64 y] 79 (0, 0))] ++ (vsE v2 ++ (E1 ++ Y))) := hp13
  obtain ⟨r, hr⟩ : ∃ r, r = v2[i].2.2 := ⟨_, rfl⟩
  obtain ⟨ra, hra⟩ : ∃ a, a = v2[i].1 := ⟨_, rfl⟩
  obtain ⟨rc, hrc⟩ : ∃ a, a = v2[i].2.1 := ⟨_, rfl⟩
  have hslr : ∀ {w' : World} {L : List Ent}, Hp w w' L → (∀ x ∈ vsE v2, x ∈ L) → Sl w' ra (zs r) := fun {w' L} h hsub => by
    rw [hr, hra]; exact hsR h hsub _ hxm
  have hrowB : rowB v2.length r = true := by
    have := hsb2
    simp only [strB, Bool.and_eq_true, List.all_eq_true] at this
    rw [hr]; exact this.2 _ hxm
  have hmem : ∀ z ∈ r.take k ++ r.drop (k + 1), z ∈ v2[i].2.2 := fun z hz => by
    rw [← hr]
    rcases List.mem_append.1 hz with h | h
    · exact List.mem_of_mem_take h
    · exact List.mem_of_mem_drop h
  rw [← hr] at c2 hkl hrl hcap hcat
  rw [← hra, ← hrc] at hcat
  rw [← hrc] at hcap
  clear hr hra hrc
  have htl : (r.take k).length = k := by rw [List.length_take]; omega
  have hdl : (r.drop (k + 1)).length = r.length - (k + 1) := List.length_drop
  obtain ⟨nr, hnr⟩ : ∃ nr, nr = r.take k ++ r.drop (k + 1) := ⟨_, rfl⟩
  have hnl : nr.length = k + (r.length - (k + 1)) := by rw [hnr, List.length_append, htl, hdl]
  repeat (first | refine zA ?_ | refine zB ?_ | refine zC rfl rfl rfl ?_ | refine zD ?_ | refine zE ?_ | refine zF ?_ | refine zG rfl ?_ | refine zH rfl ?_ | refine zI rfl rfl rfl ?_ | refine zJ rfl rfl ?_ | refine zK ?_ | refine zL ?_ | refine zM rfl ?_ | refine zN ?_)
  refine WL.loadB rfl rfl rfl rfl rfl (hp13.obj 2 rfl) (j := 0) rfl ?_
  refine WL.pure rfl rfl rfl ?_
  refine WL.ixload rfl (fun _ => rfl) rfl rfl rfl rfl rfl rfl rfl hi rfl rfl (Hp.sl hp13 0 rfl) hcat ?_
  intro q1
  refine WL.pure rfl rfl rfl ?_
  refine WL.sliceHi (h := k) rfl rfl rfl rfl rfl rfl (by omega) ?_
  refine WL.append 0 (hp13.nilrow 3 1) rfl rfl rfl rfl rfl (by decide) rfl rfl rfl (news := zs (r.take k)) (by
    have := (hslr hp13 (fun x hx => by simp [hx])).take k
    rwa [show (zs r).take k = zs (r.take k) from by simp [zs, List.map_take]] at this) (by rw [zs_len, htl]; exact (Nat.mul_one _).symm) (zs_cells _) (by unfold maxLen; omega) (by show (0 + k) * 8 ≤ _; omega) ?_
  intro pd pe w14 hp14 _
  rw [Nat.zero_add] at hp14 ⊢
  replace hp14 : Hp w w14 ([.row 3 1 (.slice pd k pe) k (zs (r.take k))] ++ ([Rvs (.slice (some ⟨bn, on, none⟩) v2.length oc) v2, Ri (.slice pa M.length pc) M, Stb b10 (some ⟨bn, on, none⟩) v2.length oc pa M.length pc, Rb b8 hb sa sl sc qa ql qc, Stb b7 na v1.length nc ma M.length mc, .blk b5 (.cells #[.int .i64 x, .int .i64 y] 79 (0, 0))] ++ (vsE v2 ++ (E1 ++ Y)))) := hp14
  clear hp13
  obtain ⟨bb, cap, cur, e1, k1, k2, k3, k4, hp15⟩ := Hp.unrow (Hp.pickT (T := vsE v2 ++ (E1 ++ Y)) [_, _, _, _, _, _, _] [1, 0, 2, 3, 4, 5, 6] hp14 (by decide)) (show 0 < v2.length by omega)
  simp only [Value.slice.injEq, Option.some.injEq, Addr.mk.injEq, and_true, true_and] at e1
  obtain ⟨⟨rfl, rfl⟩, rfl⟩ := e1
  rw [Nat.mul_one] at k3 k4
  have hci : cur[i]? = some (.slice ra r.length rc) := by
    rw [← k4, List.getElem?_take_of_lt hi] at hcat
    rw [← Array.getElem?_toList]
    exact hcat
  replace hp15 : Hp w w14 ([.blk bn (.cells cur 22 (0, 0)), .row 3 1 (.slice pd k pe) k (zs (r.take k)), Ri (.slice pa M.length pc) M, Stb b10 (some ⟨bn, 0, none⟩) v2.length oc pa M.length pc, Rb b8 hb sa sl sc qa ql qc, Stb b7 na v1.length nc ma M.length mc, .blk b5 (.cells #[.int .i64 x, .int .i64 y] 79 (0, 0))] ++ (vsE v2 ++ (E1 ++ Y))) := hp15
  clear hp14
  repeat (first | refine zA ?_ | refine zB ?_ | refine zC rfl rfl rfl ?_ | refine zD ?_ | refine zE ?_ | refine zF ?_ | refine zG rfl ?_ | refine zH rfl ?_ | refine zI rfl rfl rfl ?_ | refine zJ rfl rfl ?_ | refine zK ?_ | refine zL ?_ | refine zM rfl ?_ | refine zN ?_)
  refine WC.mid (Option Addr × Nat) (fun _ => [(1, st t), (7, ptr b7), (8, ptr b8), (10, ptr b10)])
    (fun (pf, pg) w' => Hp w w' ([Rvs (.slice (some ⟨bn, 0, none⟩) v2.length oc) (v2.set i (pf, pg, nr)), Ri (.slice pf nr.length pg) nr, Ri (.slice pa M.length pc) M, Stb b10 (some ⟨bn, 0, none⟩) v2.length oc pa M.length pc, Rb b8 hb sa sl sc qa ql qc, Stb b7 na v1.length nc ma M.length mc] ++ (vsE v2 ++ (E1 ++ Y)))) ?_ ?_
  · refine WC.regH (fun w' => Hp w w' [Stb b10 (some ⟨bn, 0, none⟩) v2.length oc pa M.length pc]) mixed (by kernel_rfl) (fun w15 hw15 hh15 => ?_)
    have hp16 := hp15.keep hw15
    have hS := (Hp.frontT (L := [_, _, _, _, _, _, _]) hp16).pick [3] (by decide)
    have e73 := wrap_succ (i := k) (n := k + 1) (by omega) (by omega)
    refine WH.pure 0 (by kernel_rfl) rfl (by kernel_rfl) rfl rfl rfl (hS) ?_
    refine WH.load 1 (by kernel_rfl) rfl (by kernel_rfl) rfl rfl rfl rfl rfl (fun w' h => cell_of_obj (h.obj 0 rfl) (j := 0) rfl) hS ?_
    refine WH.pure 2 (by kernel_rfl) rfl (by kernel_rfl) rfl rfl rfl (hS) ?_
    refine WH.pure 3 (by kernel_rfl) rfl (by kernel_rfl) rfl rfl rfl (hS) ?_
    refine WH.pure 4 (by kernel_rfl) rfl (by kernel_rfl) rfl rfl rfl (hS) ?_
    refine WH.load 5 (by kernel_rfl) rfl (by kernel_rfl) rfl rfl rfl rfl rfl (fun w' h => cell_of_obj (h.obj 0 rfl) (j := 0) rfl) hS ?_
    refine WH.pure 6 (by kernel_rfl) rfl (by kernel_rfl) rfl rfl rfl (hS) ?_
    refine WH.ix1 7 (by kernel_rfl) rfl (by kernel_rfl) rfl rfl rfl rfl rfl rfl rfl hi hS ?_
    refine WH.pure 9 (by kernel_rfl) rfl (by kernel_rfl) rfl rfl rfl (hS) ?_
    refine WH.pure 10 (by kernel_rfl) rfl (by kernel_rfl) rfl rfl rfl (hS) ?_
    refine WH.known (d := 73) (congrArg (fun z => some (Value.int .i64 z)) e73) ?_
    refine WH.one 8 rfl (by kernel_rfl) ?_
    refine WL.load rfl rfl rfl rfl rfl (cell_of_obj (hp16.obj 0 rfl) (j := 0 + i) (by rw [Nat.zero_add]; exact hci)) ?_
    refine WL.nil ⟨hS, ?_⟩
    refine WH.take 11 (by kernel_rfl) rfl (by kernel_rfl) rfl rfl (fun w' h => ySlLo (l := k + 1) rfl rfl rfl rfl (by omega) hcap) hS ?_
    refine WH.one 12 rfl (by kernel_rfl) ?_
    refine WL.append 1 hp16 rfl rfl rfl rfl rfl (by decide) rfl rfl rfl (news := zs (r.drop (k + 1))) (by
      have := Sl.ofs (len := r.length) (cap := rc) (l := k + 1) (size := 1) (hslr hp16 (fun x hx => by simp [hx])) (by omega) hcap (by rw [zs_len, Nat.mul_one]; exact Nat.le_refl _)
      rwa [Nat.mul_one, show (zs r).drop (k + 1) = zs (r.drop (k + 1)) from by simp [zs, List.map_drop]] at this) (by rw [zs_len, hdl]; exact (Nat.mul_one _).symm) (zs_cells _) (by unfold maxLen; omega) (by show (k + (r.length - (k + 1))) * 8 ≤ _; omega) ?_
    intro pf pg w17 hp17 _
    replace hp17 : Hp w w17 ([.blk bn (.cells cur 22 (0, 0)), .row 3 1 (.slice pf (k + (r.length - (k + 1))) pg) (k + (r.length - (k + 1))) (zs (r.take k) ++ zs (r.drop (k + 1))), Ri (.slice pa M.length pc) M, Stb b10 (some ⟨bn, 0, none⟩) v2.length oc pa M.length pc, Rb b8 hb sa sl sc qa ql qc, Stb b7 na v1.length nc ma M.length mc, .blk b5 (.cells #[.int .i64 x, .int .i64 y] 79 (0, 0))] ++ (vsE v2 ++ (E1 ++ Y))) := hp17
    rw [← hnl, ← zs_app, ← hnr] at hp17
    rw [← hnl]
    have hS := (Hp.frontT (L := [_, _, _, _, _, _, _]) hp17).pick [3] (by decide)
    refine WL.nil ⟨hS, ?_⟩
    refine WH.ix1 13 (by kernel_rfl) rfl (by kernel_rfl) rfl rfl rfl rfl rfl rfl rfl hi hS ?_
    refine WH.one 14 rfl (by kernel_rfl) ?_
    refine WL.store rfl rfl rfl rfl rfl rfl (hp17.obj 0 rfl) (by rw [Nat.zero_add, k3]; omega) (fun w18 h18 => ?_)
    have hp18 := hp17.set 0 rfl rfl h18
    have hS := (Hp.frontT (L := [_, _, _, _, _, _, _]) hp18).pick [3] (by decide)
    refine WL.nil ⟨hS, WH.done (by kernel_rfl) ?_⟩
    refine ⟨(pf, pg), ⟨rfl, rfl, rfl, rfl, rfl⟩, ?_⟩
    rw [Nat.zero_add] at hp18
    have h19 := Hp.rowN (n := v2.length) (s := 1) hp18 (by rw [Array.size_setIfInBounds, k3, Nat.mul_one]) k1 k2
    rw [Nat.mul_one, take_set_arr hi, k4] at h19
    have h20 := Hp.pickT (T := vsE v2 ++ (E1 ++ Y)) [_, _, _, _, _, _, _] [0, 1, 2, 3, 4, 5] h19 (by decide)
    show Hp w w18 ([.row 22 1 (.slice (some ⟨bn, 0, none⟩) v2.length oc) (v2.set i (pf, pg, nr)).length (catV (v2.set i (pf, pg, nr))), _, _, _, _, _] ++ _)
    rw [List.length_set, catV_set]
    exact h20
  rintro ⟨pf, pg⟩ e15 w15 hsub hp16
  refine WC.sub hsub ?_
  clear hsub e15 hp15
  obtain ⟨v3, hv3⟩ : ∃ v3, v3 = v2.set i (pf, pg, nr) := ⟨_, rfl⟩
  replace hp16 : Hp w w15 ([Rvs (.slice (some ⟨bn, 0, none⟩) v2.length oc) (v2.set i (pf, pg, nr)), Ri (.slice pf nr.length pg) nr, Ri (.slice pa M.length pc) M, Stb b10 (some ⟨bn, 0, none⟩) v2.length oc pa M.length pc, Rb b8 hb sa sl sc qa ql qc, Stb b7 na v1.length nc ma M.length mc] ++ (vsE v2 ++ (E1 ++ Y))) := hp16
  have hl3 : v3.length = v2.length := by rw [hv3, List.length_set]
  have hsb3 : strB v3 M = true := by rw [hv3]; exact str_set hsb2 (by rw [hnr]; exact rowB_less hrowB c2 hkl)
  have hok3 := strB_ok hsb3
  have hless : LessN v3 v1 := by
    have h1 : LessN v3 v2 := by rw [hv3]; exact less_set hi (by rw [hnr]; exact hmem)
    have h2 : nxOf v2 = nxOf v1 := by
      have : ∀ a : Vs, nxOf a = (rowsOf a).map (fun l => l.map Int.toNat) := fun a => by unfold nxOf rowsOf; rw [List.map_map]; rfl
      rw [this, this, hv2, hv1]
    intro v u hu
    rw [← h2]
    exact h1 v u hu
  rw [← hv3] at hp16
  have hr3 : ∀ x ∈ v3, x.2.2.length ≤ 1000000 := fun x hx => by have := hok3.len x hx; omega
  have hst3 : ∀ {w' : World} {A : List Ent}, Hp w w' ([Rvs (.slice (some ⟨bn, 0, none⟩) v2.length oc) v3, Ri (.slice pf nr.length pg) nr, Ri (.slice pa M.length pc) M] ++ A) → (∀ x ∈ vsE v2, x ∈ A) → Stc w' (some ⟨bn, 0, none⟩) pa v3 M := fun {w' A} h hsub => by
    refine ⟨?_, fun z hz => ?_, Hp.sl h 2 rfl⟩
    · have h0 := h.at 0 rfl
      unfold Rvs at h0
      rw [hl3] at h0
      exact Sl.of_row h0
    · rw [hv3] at hz
      rcases List.mem_or_eq_of_mem_set hz with hz | rfl
      · exact hsR h (fun x hx => by simp [hsub x hx]) z hz
      · exact Hp.sl h 1 rfl
  clear hv3
  repeat (first | refine zA ?_ | refine zB ?_ | refine zC rfl rfl rfl ?_ | refine zD ?_ | refine zE ?_ | refine zF ?_ | refine zG rfl ?_ | refine zH rfl ?_ | refine zI rfl rfl rfl ?_ | refine zJ rfl rfl ?_ | refine zK ?_ | refine zL ?_ | refine zM rfl ?_ | refine zN ?_)
  refine WL.loadN rfl rfl rfl rfl rfl (cs := [.slice (some ⟨bn, 0, none⟩) v2.length oc, .slice pa M.length pc]) rfl (fun q v hq => cell_of_obj (hp16.obj 3 rfl) (by rw [Nat.zero_add]; simpa using hq)) ?_
  refine WL.pure rfl rfl rfl ?_
  have hH3 := HoldsT_any (some ⟨bn, 0, none⟩) oc pa pc v3 M (by omega) hr3 t (by omega) w15 (hG.hp hp16) (hst3 hp16 (fun x hx => by simp [hx]))
  rw [show stV (some ⟨bn, 0, none⟩) oc pa pc v3 M = .agg #[.slice (some ⟨bn, 0, none⟩) v2.length oc, .slice pa M.length pc] from by rw [stV, hl3]] at hH3
  refine WL.call rfl rfl rfl rfl rfl ent26 hH3 ?_
  intro hv w16 hHW
  obtain ⟨hb2, sa2, sl2, sc2, qa2, ql2, qc2, ec2, E2, rfl, hpE, hsh2⟩ := hHW.shape hsb3
  have hp17 := Hp.toTail (L := [_, _, _, _, _, _]) (hp16.comb hpE)
  clear hHW hpE hp16 hH3
  rcases hsh2 with ⟨hf2, _⟩ | ⟨f2, hf2, rfl, hsh2⟩
  · rw [hf] at hf2; cases hf2
  rw [hf] at hf2
  simp only [Option.some.injEq] at hf2
  subst hf2
  repeat (first | refine zA ?_ | refine zB ?_ | refine zC rfl rfl rfl ?_ | refine zD ?_ | refine zE ?_ | refine zF ?_ | refine zG rfl ?_ | refine zH rfl ?_ | refine zI rfl rfl rfl ?_ | refine zJ rfl rfl ?_ | refine zK ?_ | refine zL ?_ | refine zM rfl ?_ | refine zN ?_)
  refine WL.alloc rfl rfl rfl (fun b14 w17 h17 => ?_)
  have hp18 := hp17.new h17
  refine WL.storeN rfl rfl rfl rfl rfl (by simp [Value.oneCell']) (hp18.obj 0 rfl) (Nat.le_refl _) rfl (fun w18 h18 => ?_)
  have hp19 : Hp w w18 ([Rb b14 hb2 sa2 sl2 sc2 qa2 ql2 qc2, Rvs (.slice (some ⟨bn, 0, none⟩) v2.length oc) v3, Ri (.slice pf nr.length pg) nr, Ri (.slice pa M.length pc) M, Stb b10 (some ⟨bn, 0, none⟩) v2.length oc pa M.length pc, Rb b8 hb sa sl sc qa ql qc, Stb b7 na v1.length nc ma M.length mc] ++ (E2 ++ (vsE v2 ++ (E1 ++ Y)))) := hp18.set 0 rfl rfl h18
  clear hp17 hp18 h17 h18
  have hH : hb = true → hb2 = true := by
    intro h
    rcases hsh1 with ⟨_, hA, _⟩ | ⟨h2, _⟩
    · rcases hsh2 with ⟨h3, _⟩ | ⟨_, stem, loop, hL, _⟩
      · exact h3
      · exact absurd (hA.less hless) hL.not
    · rw [h] at h2; cases h2
  repeat (first | refine zA ?_ | refine zB ?_ | refine zC rfl rfl rfl ?_ | refine zD ?_ | refine zE ?_ | refine zF ?_ | refine zG rfl ?_ | refine zH rfl ?_ | refine zI rfl rfl rfl ?_ | refine zJ rfl rfl ?_ | refine zK ?_ | refine zL ?_ | refine zM rfl ?_ | refine zN ?_)
  refine WL.loadB rfl rfl rfl rfl rfl (hp19.obj 5 rfl) (j := 0) rfl ?_
  cases hb2 with
  | true =>
    cases hb with
    | true =>
      repeat (first | refine zA ?_ | refine zB ?_ | refine zC rfl rfl rfl ?_ | refine zD ?_ | refine zE ?_ | refine zF ?_ | refine zG rfl ?_ | refine zH rfl ?_ | refine zI rfl rfl rfl ?_ | refine zJ rfl rfl ?_ | refine zK ?_ | refine zL ?_ | refine zM rfl ?_ | refine zN ?_)
      refine WL.loadB rfl rfl rfl rfl rfl (hp19.obj 0 rfl) (j := 0) rfl ?_
      repeat (first | refine zA ?_ | refine zB ?_ | refine zC rfl rfl rfl ?_ | refine zD ?_ | refine zE ?_ | refine zF ?_ | refine zG rfl ?_ | refine zH rfl ?_ | refine zI rfl rfl rfl ?_ | refine zJ rfl rfl ?_ | refine zK ?_ | refine zL ?_ | refine zM rfl ?_ | refine zN ?_)
      refine WL.loadB rfl rfl rfl rfl rfl (hp19.obj 0 rfl) (j := 0) rfl ?_
      repeat (first | refine zA ?_ | refine zB ?_ | refine zC rfl rfl rfl ?_ | refine zD ?_ | refine zE ?_ | refine zF ?_ | refine zG rfl ?_ | refine zH rfl ?_ | refine zI rfl rfl rfl ?_ | refine zJ rfl rfl ?_ | refine zK ?_ | refine zL ?_ | refine zM rfl ?_ | refine zN ?_)
      refine WL.call rfl rfl rfl rfl rfl ent20 (awake_any w18 (hG.hp hp19)) ?_
      rintro _ w20 ⟨rfl, hp20⟩
      repeat (first | refine zA ?_ | refine zB ?_ | refine zC rfl rfl rfl ?_ | refine zD ?_ | refine zE ?_ | refine zF ?_ | refine zG rfl ?_ | refine zH rfl ?_ | refine zI rfl rfl rfl ?_ | refine zJ rfl rfl ?_ | refine zK ?_ | refine zL ?_ | refine zM rfl ?_ | refine zN ?_)
      exact Res.one rfl rfl rfl ⟨rfl, (hp19.call hp20.below).nil'⟩
    | false =>
      repeat (first | refine zA ?_ | refine zB ?_ | refine zC rfl rfl rfl ?_ | refine zD ?_ | refine zE ?_ | refine zF ?_ | refine zG rfl ?_ | refine zH rfl ?_ | refine zI rfl rfl rfl ?_ | refine zJ rfl rfl ?_ | refine zK ?_ | refine zL ?_ | refine zM rfl ?_ | refine zN ?_)
      refine WL.loadB rfl rfl rfl rfl rfl (hp19.obj 0 rfl) (j := 0) rfl ?_
      repeat (first | refine zA ?_ | refine zB ?_ | refine zC rfl rfl rfl ?_ | refine zD ?_ | refine zE ?_ | refine zF ?_ | refine zG rfl ?_ | refine zH rfl ?_ | refine zI rfl rfl rfl ?_ | refine zJ rfl rfl ?_ | refine zK ?_ | refine zL ?_ | refine zM rfl ?_ | refine zN ?_)
      refine WL.call rfl rfl rfl rfl rfl ent20 (awake_any w18 (hG.hp hp19)) ?_
      rintro _ w20 ⟨rfl, hp20⟩
      repeat (first | refine zA ?_ | refine zB ?_ | refine zC rfl rfl rfl ?_ | refine zD ?_ | refine zE ?_ | refine zF ?_ | refine zG rfl ?_ | refine zH rfl ?_ | refine zI rfl rfl rfl ?_ | refine zJ rfl rfl ?_ | refine zK ?_ | refine zL ?_ | refine zM rfl ?_ | refine zN ?_)
      exact Res.one rfl rfl rfl ⟨rfl, (hp19.call hp20.below).nil'⟩
  | false =>
    have hbf : hb = false := by
      cases hb with
      | false => rfl
      | true => exact absurd (hH rfl) (by decide)
    subst hbf
    rcases hsh2 with ⟨h, _⟩ | ⟨_, stem, loop, hL, rfl, rfl, rfl⟩
    · cases h
    have hz1 : Sl w18 sa2 (zs (upN stem)) := by
      have := Sl.of_row (hp19.sat (Rna (.slice sa2 stem.length sc2) stem.length stem) (by simp))
      rwa [natL_zs] at this
    have hz2 : Sl w18 qa2 (zs (upN loop)) := by
      have := Sl.of_row (hp19.sat (Rna (.slice qa2 loop.length qc2) loop.length loop) (by simp))
      rwa [natL_zs] at this
    have hCk := Check_any na nc ma mc v1 M (by omega) (by omega) hr1 t (by omega) false sa2 qa2 sc2 qc2 (upN stem) (upN loop) (by rw [upN_len]; have := hL.l1; omega) (by rw [upN_len]; have := hL.l2; omega) w18 (hG.hp hp19) (hstY hp19 (fun x hx => by simp [hx])) hz1 hz2
    rw [upN_len, upN_len] at hCk
    repeat (first | refine zA ?_ | refine zB ?_ | refine zC rfl rfl rfl ?_ | refine zD ?_ | refine zE ?_ | refine zF ?_ | refine zG rfl ?_ | refine zH rfl ?_ | refine zI rfl rfl rfl ?_ | refine zJ rfl rfl ?_ | refine zK ?_ | refine zL ?_ | refine zM rfl ?_ | refine zN ?_)
    refine WL.loadB rfl rfl rfl rfl rfl (hp19.obj 0 rfl) (j := 0) rfl ?_
    repeat (first | refine zA ?_ | refine zB ?_ | refine zC rfl rfl rfl ?_ | refine zD ?_ | refine zE ?_ | refine zF ?_ | refine zG rfl ?_ | refine zH rfl ?_ | refine zI rfl rfl rfl ?_ | refine zJ rfl rfl ?_ | refine zK ?_ | refine zL ?_ | refine zM rfl ?_ | refine zN ?_)
    refine WL.loadN rfl rfl rfl rfl rfl (cs := [.slice na v1.length nc, .slice ma M.length mc]) rfl (fun q v hq => cell_of_obj (hp19.obj 6 rfl) (by rw [Nat.zero_add]; simpa using hq)) ?_
    refine WL.pure rfl rfl rfl ?_
    refine WL.loadN rfl rfl rfl rfl rfl (cs := [.bool false, .slice sa2 stem.length sc2, .slice qa2 loop.length qc2]) rfl (fun q v hq => cell_of_obj (hp19.obj 0 rfl) (by rw [Nat.zero_add]; simpa using hq)) ?_
    refine WL.call rfl rfl rfl rfl rfl ent40 hCk ?_
    rintro _ w19 ⟨ec, rfl, hck, hp20⟩
    have hp21 := hp19.call hp20.below
    obtain rfl := check_ok hsb1 hf hck ((hL.less hless).right hok1)
    repeat (first | refine zA ?_ | refine zB ?_ | refine zC rfl rfl rfl ?_ | refine zD ?_ | refine zE ?_ | refine zF ?_ | refine zG rfl ?_ | refine zH rfl ?_ | refine zI rfl rfl rfl ?_ | refine zJ rfl rfl ?_ | refine zK ?_ | refine zL ?_ | refine zM rfl ?_ | refine zN ?_)
    refine WL.call rfl rfl rfl rfl rfl ent20 (awake_any w19 (hG.hp hp21)) ?_
    rintro _ w20 ⟨rfl, hp22⟩
    repeat (first | refine zA ?_ | refine zB ?_ | refine zC rfl rfl rfl ?_ | refine zD ?_ | refine zE ?_ | refine zF ?_ | refine zG rfl ?_ | refine zH rfl ?_ | refine zI rfl rfl rfl ?_ | refine zJ rfl rfl ?_ | refine zK ?_ | refine zL ?_ | refine zM rfl ?_ | refine zN ?_)
    exact Res.one rfl rfl rfl ⟨rfl, (hp21.call hp22.below).nil'⟩
end Go.Proofs.YtpbbneclkhfgoaaDoor
end
