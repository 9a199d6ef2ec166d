/- The walks of the law's short and rules. -/
import Derived.Test.YtoghnhbjdnjghaaGreatV23
import Derived.Test.YtoghnhbjdnjghaaGreatV24a
namespace Go.Words
open Go.W
def shortS (s : Str) : Str := s.take 201
def cutR (r : Rl) : Rl := (r.1.take 25, r.2.take 25)
def rulesN (l : List Rl) (m : Nat) : Nat := if 64 < l.length then 65 else min l.length m
def rulesM (l : List Rl) (m : Nat) : List Rl := (l.take (rulesN l m)).map cutR
end Go.Words
namespace Go.Proofs.YtoghnhbjdnjghaaGreat
open Go.W Go.Words Go.RowKit
set_option maxRecDepth 100000
attribute [local irreducible] WC WL WQ WS WH

theorem short_any (s : Str) (hl : s.length ≤ 9223372036854775807) : Pur Tryz.prog 11 [st s] (st (shortS s)) := by
  intro w
  refine enter Tryz.func11 rfl rfl ⟨rfl, rfl⟩ rfl ?_
  have e1 : min (((sb s).size : Nat) : Int) 201 = ((min s.length 201 : Nat) : Int) := by rw [sb_size]; omega
  repeat (first | refine WC.seq ?_ | refine WC.reg ?_ | refine WL.pure rfl rfl rfl ?_ | refine WL.nil ?_ | refine WC.skip ?_ | refine WC.block ?_ | refine WC.condT rfl ?_ | refine WC.condF rfl ?_ | refine WL.off rfl rfl rfl ?_ | refine WL.off0 rfl rfl ?_ | refine WC.exit ?_ | refine blk_hit ?_ | refine blk_miss rfl ?_ | refine WC.ret ?_)
  refine WL.known (d := 6) (congrArg (fun z => some (Value.int .i64 z)) e1) ?_
  refine WL.sSl (a := 0) (b := min s.length 201) rfl rfl rfl rfl rfl rfl (Nat.zero_le _) (Nat.min_le_left _ _) ?_
  rw [List.drop_zero, Nat.sub_zero, show s.take (min s.length 201) = shortS s by unfold shortS; rw [Nat.min_comm]; exact (List.take_eq_take_min (l := s) (i := 201)).symm]
  repeat (first | refine WC.seq ?_ | refine WC.reg ?_ | refine WL.pure rfl rfl rfl ?_ | refine WL.nil ?_ | refine WC.skip ?_ | refine WC.block ?_ | refine WC.condT rfl ?_ | refine WC.condF rfl ?_ | refine WL.off rfl rfl rfl ?_ | refine WL.off0 rfl rfl ?_ | refine WC.exit ?_ | refine blk_hit ?_ | refine blk_miss rfl ?_ | refine WC.ret ?_)
  exact Res.one rfl rfl rfl ⟨rfl, rfl⟩
set_option maxHeartbeats 1000000 in
theorem rules_any (a : Option Addr) (cap : Nat) (l : List Rl) (m : Nat) (hm : m ≤ 1000) (hlen : l.length ≤ 9223372036854775807) (hsm : Sm 9223372036854775807 l) (w : World) (hs : Sl w a (rcs l)) :
    Ret Tryz.prog 10 [.slice a l.length cap, .int .i64 (m : Nat)] w fun u w' => ∃ pa pc, u = .slice pa (rulesM l m).length pc ∧ Hp w w' [Rt u (rulesM l m)] := by
  have hcut : ∀ s : Str, (s.drop 0).take (min s.length 25 - 0) = s.take 25 := fun s => by rw [List.drop_zero, Nat.sub_zero, Nat.min_comm, List.take_eq_take_min (l := s) (i := 25)]
  have hnl : rulesN l m ≤ l.length := by unfold rulesN; split <;> omega
  have hn1 : rulesN l m ≤ 1000 := by unfold rulesN; split <;> omega
  refine enter Tryz.func10 rfl rfl ⟨rfl, rfl⟩ rfl ?_
  repeat (first | refine WC.seq ?_ | refine WC.reg ?_ | refine WL.pure rfl rfl rfl ?_ | refine WL.nil ?_ | refine WC.skip ?_ | refine WC.block ?_ | refine WC.condT rfl ?_ | refine WC.condF rfl ?_ | refine WL.off rfl rfl rfl ?_ | refine WL.off0 rfl rfl ?_ | refine WC.exit ?_ | refine blk_hit ?_ | refine blk_miss rfl ?_ | refine WC.ret ?_)
  refine WC.mid Unit (fun _ => [(0, .slice a l.length cap), (5, .int .i64 (rulesN l m : Nat))]) (fun _ w' => w' = w) ?_ ?_
  · refine WC.cond rfl (fun h1 => ?_) (fun h1 => ?_)
    · have h1 : 64 < l.length := by have := of_decide_eq_true h1; omega
      repeat (first | refine WC.seq ?_ | refine WC.reg ?_ | refine WL.pure rfl rfl rfl ?_ | refine WL.nil ?_ | refine WC.skip ?_ | refine WC.block ?_ | refine WC.condT rfl ?_ | refine WC.condF rfl ?_ | refine WL.off rfl rfl rfl ?_ | refine WL.off0 rfl rfl ?_ | refine WC.exit ?_ | refine blk_hit ?_ | refine blk_miss rfl ?_ | refine WC.ret ?_)
      exact ⟨(), ⟨rfl, by unfold rulesN; rw [if_pos h1]; rfl, rfl⟩, rfl⟩
    · have h1 : ¬ 64 < l.length := by have := of_decide_eq_false h1; omega
      repeat (first | refine WC.seq ?_ | refine WC.reg ?_ | refine WL.pure rfl rfl rfl ?_ | refine WL.nil ?_ | refine WC.skip ?_ | refine WC.block ?_ | refine WC.condT rfl ?_ | refine WC.condF rfl ?_ | refine WL.off rfl rfl rfl ?_ | refine WL.off0 rfl rfl ?_ | refine WC.exit ?_ | refine blk_hit ?_ | refine blk_miss rfl ?_ | refine WC.ret ?_)
      exact ⟨(), ⟨rfl, congrArg (fun z => some (Value.int .i64 z)) (show min ((l.length : Nat) : Int) ((m : Nat) : Int) = ((rulesN l m : Nat) : Int) by unfold rulesN; rw [if_neg h1]; omega), rfl⟩, rfl⟩
  rintro _ e1 w1 hsub hw1
  obtain rfl := hw1.symm
  refine WC.sub hsub ?_
  unfold rulesM
  generalize rulesN l m = n at *
  repeat (first | refine WC.seq ?_ | refine WC.reg ?_ | refine WL.pure rfl rfl rfl ?_ | refine WL.nil ?_ | refine WC.skip ?_ | refine WC.block ?_ | refine WC.condT rfl ?_ | refine WC.condF rfl ?_ | refine WL.off rfl rfl rfl ?_ | refine WL.off0 rfl rfl ?_ | refine WC.exit ?_ | refine blk_hit ?_ | refine blk_miss rfl ?_ | refine WC.ret ?_)
  refine WC.loop (Nat × Option Addr × Nat × List Rl) (fun (i, va, vc, acc) => [(0, .slice a l.length cap), (5, .int .i64 (n : Nat)), (6, .slice va acc.length vc), (7, .int .i64 (i : Nat))])
    (fun (i, va, vc, acc) w' => i ≤ n ∧ acc = (l.take i).map cutR ∧ Hp w w' [Rt (.slice va acc.length vc) acc]) (fun (i, _) => n - i) (0, none, 0, []) ⟨rfl, rfl, rfl, rfl, rfl⟩ ⟨Nat.zero_le _, rfl, (Hp.start w).nilrow _ _⟩ ?_
  rintro ⟨i, va, vc, acc⟩ w2 ⟨hi, hA, hp2⟩
  repeat (first | refine WC.seq ?_ | refine WC.reg ?_ | refine WL.pure rfl rfl rfl ?_ | refine WL.nil ?_ | refine WC.skip ?_ | refine WC.block ?_ | refine WC.condT rfl ?_ | refine WC.condF rfl ?_ | refine WL.off rfl rfl rfl ?_ | refine WL.off0 rfl rfl ?_ | refine WC.exit ?_ | refine blk_hit ?_ | refine blk_miss rfl ?_ | refine WC.ret ?_)
  refine WC.cond rfl (fun hc => ?_) (fun hc => ?_)
  · have hi : i < n := by have := of_decide_eq_true hc; omega
    have hil : i < l.length := by omega
    have step := wrap_succ hi (by omega)
    have hal : acc.length = i := by rw [hA, List.length_map, List.length_take]; omega
    have hsz := hsm.at_ hil
    have e1 : min (((sb l[i].1).size : Nat) : Int) 25 = ((min l[i].1.length 25 : Nat) : Int) := by rw [sb_size]; omega
    have e2 : min (((sb l[i].2).size : Nat) : Int) 25 = ((min l[i].2.length 25 : Nat) : Int) := by rw [sb_size]; omega
    have hsucc : (l.take (i + 1)).map cutR = acc ++ [cutR l[i]] := by rw [List.take_succ_eq_append_getElem hil, List.map_append, ← hA]; rfl
    obtain ⟨b, o, rfl⟩ := rcs_some hs (by omega)
    have hT : ∀ w', Hp w w' [Rt (.slice va acc.length vc) acc] → Hp w w' [] := fun w' h => h.nil'
    repeat (first | refine WC.seq ?_ | refine WC.reg ?_ | refine WL.pure rfl rfl rfl ?_ | refine WL.nil ?_ | refine WC.skip ?_ | refine WC.block ?_ | refine WC.condT rfl ?_ | refine WC.condF rfl ?_ | refine WL.off rfl rfl rfl ?_ | refine WL.off0 rfl rfl ?_ | refine WC.exit ?_ | refine blk_hit ?_ | refine blk_miss rfl ?_ | refine WC.ret ?_)
    refine WC.mid (Option Addr × Nat) (fun (ra, rc1) => [(0, .slice (some ⟨b, o, none⟩) l.length cap), (5, .int .i64 (n : Nat)), (6, .slice ra (acc ++ [cutR l[i]]).length rc1), (7, .int .i64 (i : Nat))]) (fun (ra, rc1) w' => Hp w w' [Rt (.slice ra (acc ++ [cutR l[i]]).length rc1) (acc ++ [cutR l[i]])]) ?_ ?_
    · refine WC.regH (fun w' => Hp w w' []) mixed (by kernel_rfl) (fun w3 hw3 hh3 => ?_)
      have hp3 := hp2.keep hw3
      refine WH.pure 0 (by kernel_rfl) rfl (by kernel_rfl) rfl rfl rfl (hT _ hp3) ?_
      refine WH.pure 1 (by kernel_rfl) rfl (by kernel_rfl) rfl rfl rfl (hT _ hp3) ?_
      refine WH.pure 2 (by kernel_rfl) rfl (by kernel_rfl) rfl rfl rfl (hT _ hp3) ?_
      refine WH.ixS 3 (by kernel_rfl) rfl (by kernel_rfl) rfl rfl rfl rfl rfl rfl hil (hT _ hp3) ?_
      refine WH.pure 4 (by kernel_rfl) rfl (by kernel_rfl) rfl rfl rfl (hT _ hp3) ?_
      refine WH.load 5 (by kernel_rfl) rfl (by kernel_rfl) rfl rfl rfl rfl rfl (fun w' h => rcs_cell (hs.hp h) hil (q := 0) rfl) (hT _ hp3) ?_
      refine WH.pure 6 (by kernel_rfl) rfl (by kernel_rfl) rfl rfl rfl (hT _ hp3) ?_
      refine WH.pure 7 (by kernel_rfl) rfl (by kernel_rfl) rfl rfl rfl (hT _ hp3) ?_
      refine WH.ixS 8 (by kernel_rfl) rfl (by kernel_rfl) rfl rfl rfl rfl rfl rfl hil (hT _ hp3) ?_
      refine WH.pure 9 (by kernel_rfl) rfl (by kernel_rfl) rfl rfl rfl (hT _ hp3) ?_
      refine WH.load 10 (by kernel_rfl) rfl (by kernel_rfl) rfl rfl rfl rfl rfl (fun w' h => rcs_cell (hs.hp h) hil (q := 0) rfl) (hT _ hp3) ?_
      refine WH.pure 11 (by kernel_rfl) rfl (by kernel_rfl) rfl rfl rfl (hT _ hp3) ?_
      refine WH.pure 12 (by kernel_rfl) rfl (by kernel_rfl) rfl rfl rfl (hT _ hp3) ?_
      refine WH.known (d := 32) (congrArg (fun z => some (Value.int .i64 z)) e1) ?_
      refine WH.sSl (a := 0) (b := min l[i].1.length 25) 13 (by kernel_rfl) rfl (by kernel_rfl) rfl rfl rfl rfl rfl rfl (Nat.zero_le _) (Nat.min_le_left _ _) (hT _ hp3) ?_
      refine WH.pure 14 (by kernel_rfl) rfl (by kernel_rfl) rfl rfl rfl (hT _ hp3) ?_
      refine WH.pure 15 (by kernel_rfl) rfl (by kernel_rfl) rfl rfl rfl (hT _ hp3) ?_
      refine WH.ixS 16 (by kernel_rfl) rfl (by kernel_rfl) rfl rfl rfl rfl rfl rfl hil (hT _ hp3) ?_
      refine WH.pure 17 (by kernel_rfl) rfl (by kernel_rfl) rfl rfl rfl (hT _ hp3) ?_
      refine WH.load 18 (by kernel_rfl) rfl (by kernel_rfl) rfl rfl rfl rfl rfl (fun w' h => rcs_cell (hs.hp h) hil (q := 1) rfl) (hT _ hp3) ?_
      refine WH.pure 19 (by kernel_rfl) rfl (by kernel_rfl) rfl rfl rfl (hT _ hp3) ?_
      refine WH.pure 20 (by kernel_rfl) rfl (by kernel_rfl) rfl rfl rfl (hT _ hp3) ?_
      refine WH.ixS 21 (by kernel_rfl) rfl (by kernel_rfl) rfl rfl rfl rfl rfl rfl hil (hT _ hp3) ?_
      refine WH.pure 22 (by kernel_rfl) rfl (by kernel_rfl) rfl rfl rfl (hT _ hp3) ?_
      refine WH.load 23 (by kernel_rfl) rfl (by kernel_rfl) rfl rfl rfl rfl rfl (fun w' h => rcs_cell (hs.hp h) hil (q := 1) rfl) (hT _ hp3) ?_
      refine WH.pure 24 (by kernel_rfl) rfl (by kernel_rfl) rfl rfl rfl (hT _ hp3) ?_
      refine WH.pure 25 (by kernel_rfl) rfl (by kernel_rfl) rfl rfl rfl (hT _ hp3) ?_
      refine WH.known (d := 45) (congrArg (fun z => some (Value.int .i64 z)) e2) ?_
      refine WH.sSl (a := 0) (b := min l[i].2.length 25) 26 (by kernel_rfl) rfl (by kernel_rfl) rfl rfl rfl rfl rfl rfl (Nat.zero_le _) (Nat.min_le_left _ _) (hT _ hp3) ?_
      rw [hcut, hcut]
      refine WH.one 27 rfl (by kernel_rfl) ?_
      refine WL.buildT (cs := [st (l[i].1.take 25), st (l[i].2.take 25)]) rfl rfl rfl rfl rfl rfl (WL.nil ⟨hT _ hp3, ?_⟩)
      refine WH.one 28 rfl (by kernel_rfl) ?_
      refine WL.buildS (cs := rc (cutR l[i])) rfl rfl rfl rfl rfl rfl rfl rfl rfl ?_
      intro b6 w4 hb4
      have hp4 : Hp w w4 [Bx b6 (cutR l[i]), Rt (.slice va acc.length vc) acc] := hp3.new hb4
      refine WL.nil ⟨hp4.nil', ?_⟩
      refine WH.one 29 rfl (by kernel_rfl) ?_
      refine WL.append 1 hp4 rfl rfl rfl rfl rfl (by decide) rfl rfl rfl (news := rc (cutR l[i])) (Sl.of_obj (hp4.obj 0 rfl) (fun q u hq => by simpa [rc] using hq)) rfl (rcs_cells [cutR l[i]]) (by unfold maxLen; omega) (by show (acc.length + 1) * 32 ≤ _; omega) ?_
      intro ra rc1 w5 hp5 hg5
      refine WL.nil ⟨hp5.nil', ?_⟩
      refine WH.pure 30 (by kernel_rfl) rfl (by kernel_rfl) rfl rfl rfl (hp5.nil') ?_
      refine WH.done (by kernel_rfl) ?_
      have e3 : (acc ++ [cutR l[i]]).length = acc.length + 1 := by rw [List.length_append]; rfl
      refine ⟨(ra, rc1), ⟨rfl, rfl, congrArg (fun z : Nat => some (Value.slice ra z rc1)) e3.symm, rfl, rfl⟩, ?_⟩
      show Hp w w5 [Rt _ _]
      unfold Rt
      rw [e3, rcs_app]
      exact hp5.tail
    · rintro ⟨ra, rc1⟩ e5 w5 hsub5 hp5
      refine WC.sub hsub5 ?_
      repeat (first | refine WC.seq ?_ | refine WC.reg ?_ | refine WL.pure rfl rfl rfl ?_ | refine WL.nil ?_ | refine WC.skip ?_ | refine WC.block ?_ | refine WC.condT rfl ?_ | refine WC.condF rfl ?_ | refine WL.off rfl rfl rfl ?_ | refine WL.off0 rfl rfl ?_ | refine WC.exit ?_ | refine blk_hit ?_ | refine blk_miss rfl ?_ | refine WC.ret ?_)
      exact ⟨(i + 1, ra, rc1, acc ++ [cutR l[i]]), (by show n - (i + 1) < n - i; omega), ⟨rfl, rfl, rfl, congrArg (fun z => some (Value.int .i64 z)) step, rfl⟩, by omega, hsucc.symm, hp5⟩
  · have hi : i = n := by have := of_decide_eq_false hc; omega
    subst hi
    repeat (first | refine WC.seq ?_ | refine WC.reg ?_ | refine WL.pure rfl rfl rfl ?_ | refine WL.nil ?_ | refine WC.skip ?_ | refine WC.block ?_ | refine WC.condT rfl ?_ | refine WC.condF rfl ?_ | refine WL.off rfl rfl rfl ?_ | refine WL.off0 rfl rfl ?_ | refine WC.exit ?_ | refine blk_hit ?_ | refine blk_miss rfl ?_ | refine WC.ret ?_)
    refine Res.one rfl rfl rfl ⟨va, vc, ?_, ?_⟩
    · rw [hA]
    · rw [← hA]; exact hp2
end Go.Proofs.YtoghnhbjdnjghaaGreat
