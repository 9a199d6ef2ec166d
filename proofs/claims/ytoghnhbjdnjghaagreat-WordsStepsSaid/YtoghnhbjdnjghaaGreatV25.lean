/- The walk of WordsSteps. -/
import Derived.Test.YtoghnhbjdnjghaaGreatV24
namespace Go.Words
open Go.W
theorem rulesM_sm (l : List Rl) (m : Nat) : Sm 25 (rulesM l m) := by
  intro r hr
  obtain ⟨x, _, rfl⟩ := List.mem_map.1 hr
  unfold cutR
  exact ⟨by show (x.1.take 25).length ≤ 25; rw [List.length_take]; omega, by show (x.2.take 25).length ≤ 25; rw [List.length_take]; omega⟩
theorem rulesM_len (l : List Rl) {m : Nat} (hm : m ≤ 65) : (rulesM l m).length ≤ 65 := by
  unfold rulesM rulesN
  rw [List.length_map, List.length_take]
  split <;> omega
theorem shortS_len (s : Str) : (shortS s).length ≤ 201 := by unfold shortS; rw [List.length_take]; omega
theorem eql_self (s : Str) : cmpS .eql s s = some true := by show some (decide (s = s)) = some true; rw [decide_eq_true rfl]
end Go.Words
namespace Go.Proofs.YtoghnhbjdnjghaaGreat
open Go.W Go.Words Go.RowKit
set_option maxRecDepth 100000
attribute [local irreducible] WC WL WQ WS WH

set_option maxHeartbeats 1000000 in
theorem WordsSteps_any (a : Option Addr) (cap : Nat) (l : List Rl) (s : Str) (hlen : l.length ≤ 9223372036854775807) (hsm : Sm 9223372036854775807 l) (hsl : s.length ≤ 9223372036854775807) (w : World) (hmx : Mx w) (hs : Sl w a (rcs l)) :
    Ret Tryz.prog 3 [.slice a l.length cap, st s] w fun u w' => u = .bool true ∧ Hp w w' [] := by
  have hL := rulesM_sm l 30
  have hLl := rulesM_len l (m := 30) (by decide)
  have hxl := shortS_len s
  refine enter Tryz.func3 rfl rfl ⟨rfl, rfl⟩ rfl ?_
  repeat (first | refine WC.seq ?_ | refine WC.reg ?_ | refine WL.pure rfl rfl rfl ?_ | refine WL.nil ?_ | refine WC.skip ?_ | refine WC.block ?_ | refine WC.condT rfl ?_ | refine WC.condF rfl ?_ | refine WL.off rfl rfl rfl ?_ | refine WL.off0 rfl rfl ?_ | refine WC.exit ?_ | refine blk_hit ?_ | refine blk_miss rfl ?_ | refine WC.ret ?_)
  refine WL.call rfl rfl rfl rfl rfl ent10 (rules_any a cap l 30 (by decide) hlen hsm w hs) ?_
  rintro _ w1 ⟨oa, oc, rfl, hp1⟩
  repeat (first | refine WC.seq ?_ | refine WC.reg ?_ | refine WL.pure rfl rfl rfl ?_ | refine WL.nil ?_ | refine WC.skip ?_ | refine WC.block ?_ | refine WC.condT rfl ?_ | refine WC.condF rfl ?_ | refine WL.off rfl rfl rfl ?_ | refine WL.off0 rfl rfl ?_ | refine WC.exit ?_ | refine blk_hit ?_ | refine blk_miss rfl ?_ | refine WC.ret ?_)
  refine WL.call rfl rfl rfl rfl rfl ent10 (rules_any a cap l 30 (by decide) hlen hsm w1 (hs.hp hp1)) ?_
  rintro _ w2 ⟨ga, gc, rfl, hp2⟩
  have hp2 := hp1.comb hp2
  repeat (first | refine WC.seq ?_ | refine WC.reg ?_ | refine WL.pure rfl rfl rfl ?_ | refine WL.nil ?_ | refine WC.skip ?_ | refine WC.block ?_ | refine WC.condT rfl ?_ | refine WC.condF rfl ?_ | refine WL.off rfl rfl rfl ?_ | refine WL.off0 rfl rfl ?_ | refine WC.exit ?_ | refine blk_hit ?_ | refine blk_miss rfl ?_ | refine WC.ret ?_)
  refine WL.callP rfl rfl rfl rfl rfl ent11 (short_any s hsl w2) ?_
  generalize rulesM l 30 = L at *
  generalize shortS s = x at *
  repeat (first | refine WC.seq ?_ | refine WC.reg ?_ | refine WL.pure rfl rfl rfl ?_ | refine WL.nil ?_ | refine WC.skip ?_ | refine WC.block ?_ | refine WC.condT rfl ?_ | refine WC.condF rfl ?_ | refine WL.off rfl rfl rfl ?_ | refine WL.off0 rfl rfl ?_ | refine WC.exit ?_ | refine blk_hit ?_ | refine blk_miss rfl ?_ | refine WC.ret ?_)
  refine WL.call rfl rfl rfl rfl rfl ent12 (Normal_any ga gc L x (hL.mono (by decide)) (by omega) w2 (Sl.of_row (hp2.at 0 rfl))) ?_
  rintro _ w3 ⟨rfl, hp3⟩
  have hp3 := hp2.comb hp3
  obtain ⟨t, n, e, hN⟩ : ∃ (t : Str) (n e : Int), NorV L x = .tuple #[st t, .int .i64 n, .int .i64 e] := by
    unfold NorV
    split
    · split
      · exact ⟨_, _, _, rfl⟩
      · exact ⟨_, _, _, rfl⟩
    · exact ⟨_, _, _, rfl⟩
  rw [hN]
  repeat (first | refine WC.seq ?_ | refine WC.reg ?_ | refine WL.pure rfl rfl rfl ?_ | refine WL.nil ?_ | refine WC.skip ?_ | refine WC.block ?_ | refine WC.condT rfl ?_ | refine WC.condF rfl ?_ | refine WL.off rfl rfl rfl ?_ | refine WL.off0 rfl rfl ?_ | refine WC.exit ?_ | refine blk_hit ?_ | refine blk_miss rfl ?_ | refine WC.ret ?_)
  refine WL.call rfl rfl rfl rfl rfl ent13 (same_any ga oa gc oc L L (by omega) w3 (Sl.of_row (hp3.at 0 rfl)) (Sl.of_row (hp3.at 1 rfl))) ?_
  rintro _ w4 ⟨rfl, hp4⟩
  rw [decide_eq_true rfl]
  have hp4 := hp3.comb hp4
  repeat (first | refine WC.seq ?_ | refine WC.reg ?_ | refine WL.pure rfl rfl rfl ?_ | refine WL.nil ?_ | refine WC.skip ?_ | refine WC.block ?_ | refine WC.condT rfl ?_ | refine WC.condF rfl ?_ | refine WL.off rfl rfl rfl ?_ | refine WL.off0 rfl rfl ?_ | refine WC.exit ?_ | refine blk_hit ?_ | refine blk_miss rfl ?_ | refine WC.ret ?_)
  refine WL.call rfl rfl rfl rfl rfl ent14 (rSystem_any oa oc L (by omega) (hL.mono (by decide)) w4 (Sl.of_row (hp4.at 1 rfl))) ?_
  rintro _ w5 ⟨rfl, hp5⟩
  have hp5 := hp4.comb hp5
  have hbad : (sysB L && strB x) = false → t = [] ∧ n = 0 ∧ e = 2 := fun h => by
    unfold NorV at hN
    rw [h] at hN
    simp only [Bool.false_eq_true, if_false, Value.tuple.injEq, Array.mk.injEq, List.cons.injEq, and_true] at hN
    obtain ⟨h1, h2, h3⟩ := hN
    exact ⟨(st_inj h1).symm, by simpa using h2.symm, by simpa using h3.symm⟩
  repeat (first | refine WC.seq ?_ | refine WC.reg ?_ | refine WL.pure rfl rfl rfl ?_ | refine WL.nil ?_ | refine WC.skip ?_ | refine WC.block ?_ | refine WC.condT rfl ?_ | refine WC.condF rfl ?_ | refine WL.off rfl rfl rfl ?_ | refine WL.off0 rfl rfl ?_ | refine WC.exit ?_ | refine blk_hit ?_ | refine blk_miss rfl ?_ | refine WC.ret ?_)
  refine WL.split 33 rfl (fun h1 => ?_) (fun h1 => ?_)
  · have h1 : sysB L = false := by simpa using h1
    obtain ⟨rfl, rfl, rfl⟩ := hbad (by rw [h1]; rfl)
    repeat (first | refine WC.seq ?_ | refine WC.reg ?_ | refine WL.pure rfl rfl rfl ?_ | refine WL.nil ?_ | refine WC.skip ?_ | refine WC.block ?_ | refine WC.condT rfl ?_ | refine WC.condF rfl ?_ | refine WL.off rfl rfl rfl ?_ | refine WL.off0 rfl rfl ?_ | refine WC.exit ?_ | refine blk_hit ?_ | refine blk_miss rfl ?_ | refine WC.ret ?_)
    refine WL.sCmp (a := []) (b := []) rfl rfl rfl rfl rfl ?_
    repeat (first | refine WC.seq ?_ | refine WC.reg ?_ | refine WL.pure rfl rfl rfl ?_ | refine WL.nil ?_ | refine WC.skip ?_ | refine WC.block ?_ | refine WC.condT rfl ?_ | refine WC.condF rfl ?_ | refine WL.off rfl rfl rfl ?_ | refine WL.off0 rfl rfl ?_ | refine WC.exit ?_ | refine blk_hit ?_ | refine blk_miss rfl ?_ | refine WC.ret ?_)
    refine WL.call rfl rfl rfl rfl rfl ent16 (awake_any w5 (hmx.hp hp5)) ?_
    rintro _ w9 ⟨rfl, hp9⟩
    repeat (first | refine WC.seq ?_ | refine WC.reg ?_ | refine WL.pure rfl rfl rfl ?_ | refine WL.nil ?_ | refine WC.skip ?_ | refine WC.block ?_ | refine WC.condT rfl ?_ | refine WC.condF rfl ?_ | refine WL.off rfl rfl rfl ?_ | refine WL.off0 rfl rfl ?_ | refine WC.exit ?_ | refine blk_hit ?_ | refine blk_miss rfl ?_ | refine WC.ret ?_)
    exact Res.one rfl rfl rfl ⟨rfl, (hp5.comb hp9).nil'⟩
  have h1 : sysB L = true := by simpa using h1
  repeat (first | refine WC.seq ?_ | refine WC.reg ?_ | refine WL.pure rfl rfl rfl ?_ | refine WL.nil ?_ | refine WC.skip ?_ | refine WC.block ?_ | refine WC.condT rfl ?_ | refine WC.condF rfl ?_ | refine WL.off rfl rfl rfl ?_ | refine WL.off0 rfl rfl ?_ | refine WC.exit ?_ | refine blk_hit ?_ | refine blk_miss rfl ?_ | refine WC.ret ?_)
  refine WL.callP rfl rfl rfl rfl rfl ent15 (rString_any x (by omega) w5) ?_
  repeat (first | refine WC.seq ?_ | refine WC.reg ?_ | refine WL.pure rfl rfl rfl ?_ | refine WL.nil ?_ | refine WC.skip ?_ | refine WC.block ?_ | refine WC.condT rfl ?_ | refine WC.condF rfl ?_ | refine WL.off rfl rfl rfl ?_ | refine WL.off0 rfl rfl ?_ | refine WC.exit ?_ | refine blk_hit ?_ | refine blk_miss rfl ?_ | refine WC.ret ?_)
  refine WC.cond rfl (fun h2 => ?_) (fun h2 => ?_)
  · have h2 : strB x = false := by simpa using h2
    obtain ⟨rfl, rfl, rfl⟩ := hbad (by rw [h2, Bool.and_false])
    repeat (first | refine WC.seq ?_ | refine WC.reg ?_ | refine WL.pure rfl rfl rfl ?_ | refine WL.nil ?_ | refine WC.skip ?_ | refine WC.block ?_ | refine WC.condT rfl ?_ | refine WC.condF rfl ?_ | refine WL.off rfl rfl rfl ?_ | refine WL.off0 rfl rfl ?_ | refine WC.exit ?_ | refine blk_hit ?_ | refine blk_miss rfl ?_ | refine WC.ret ?_)
    refine WL.sCmp (a := []) (b := []) rfl rfl rfl rfl rfl ?_
    repeat (first | refine WC.seq ?_ | refine WC.reg ?_ | refine WL.pure rfl rfl rfl ?_ | refine WL.nil ?_ | refine WC.skip ?_ | refine WC.block ?_ | refine WC.condT rfl ?_ | refine WC.condF rfl ?_ | refine WL.off rfl rfl rfl ?_ | refine WL.off0 rfl rfl ?_ | refine WC.exit ?_ | refine blk_hit ?_ | refine blk_miss rfl ?_ | refine WC.ret ?_)
    refine WL.call rfl rfl rfl rfl rfl ent16 (awake_any w5 (hmx.hp hp5)) ?_
    rintro _ w9 ⟨rfl, hp9⟩
    repeat (first | refine WC.seq ?_ | refine WC.reg ?_ | refine WL.pure rfl rfl rfl ?_ | refine WL.nil ?_ | refine WC.skip ?_ | refine WC.block ?_ | refine WC.condT rfl ?_ | refine WC.condF rfl ?_ | refine WL.off rfl rfl rfl ?_ | refine WL.off0 rfl rfl ?_ | refine WC.exit ?_ | refine blk_hit ?_ | refine blk_miss rfl ?_ | refine WC.ret ?_)
    exact Res.one rfl rfl rfl ⟨rfl, (hp5.comb hp9).nil'⟩
  have h2 : strB x = true := by simpa using h2
  unfold NorV at hN
  rw [h1, h2] at hN
  repeat (first | refine WC.seq ?_ | refine WC.reg ?_ | refine WL.pure rfl rfl rfl ?_ | refine WL.nil ?_ | refine WC.skip ?_ | refine WC.block ?_ | refine WC.condT rfl ?_ | refine WC.condF rfl ?_ | refine WL.off rfl rfl rfl ?_ | refine WL.off0 rfl rfl ?_ | refine WC.exit ?_ | refine blk_hit ?_ | refine blk_miss rfl ?_ | refine WC.ret ?_)
  refine WL.call rfl rfl rfl rfl rfl ent17 (rNormal_any oa oc L x (by omega) (sys_dn h1) (by omega) (hL.mono (by decide)) w5 (Sl.of_row (hp5.at 1 rfl))) ?_
  rintro _ w6 ⟨rfl, hp6⟩
  have hp6 := hp5.comb hp6
  cases hn : normM L x with
  | none =>
    rw [hn] at hN
    simp only [Bool.and_self, if_true, Value.tuple.injEq, Array.mk.injEq, List.cons.injEq, and_true] at hN
    obtain ⟨g1, g2, g3⟩ := hN
    obtain rfl := (st_inj g1).symm
    obtain rfl : n = 0 := by simpa using g2.symm
    obtain rfl : e = 5 := by simpa using g3.symm
    repeat (first | refine WC.seq ?_ | refine WC.reg ?_ | refine WL.pure rfl rfl rfl ?_ | refine WL.nil ?_ | refine WC.skip ?_ | refine WC.block ?_ | refine WC.condT rfl ?_ | refine WC.condF rfl ?_ | refine WL.off rfl rfl rfl ?_ | refine WL.off0 rfl rfl ?_ | refine WC.exit ?_ | refine blk_hit ?_ | refine blk_miss rfl ?_ | refine WC.ret ?_)
    refine WL.sCmp (a := []) (b := []) rfl rfl rfl rfl rfl ?_
    repeat (first | refine WC.seq ?_ | refine WC.reg ?_ | refine WL.pure rfl rfl rfl ?_ | refine WL.nil ?_ | refine WC.skip ?_ | refine WC.block ?_ | refine WC.condT rfl ?_ | refine WC.condF rfl ?_ | refine WL.off rfl rfl rfl ?_ | refine WL.off0 rfl rfl ?_ | refine WC.exit ?_ | refine blk_hit ?_ | refine blk_miss rfl ?_ | refine WC.ret ?_)
    refine WL.call rfl rfl rfl rfl rfl ent16 (awake_any w6 (hmx.hp hp6)) ?_
    rintro _ w9 ⟨rfl, hp9⟩
    repeat (first | refine WC.seq ?_ | refine WC.reg ?_ | refine WL.pure rfl rfl rfl ?_ | refine WL.nil ?_ | refine WC.skip ?_ | refine WC.block ?_ | refine WC.condT rfl ?_ | refine WC.condF rfl ?_ | refine WL.off rfl rfl rfl ?_ | refine WL.off0 rfl rfl ?_ | refine WC.exit ?_ | refine blk_hit ?_ | refine blk_miss rfl ?_ | refine WC.ret ?_)
    exact Res.one rfl rfl rfl ⟨rfl, (hp6.comb hp9).nil'⟩
  | some p =>
    obtain ⟨u, k⟩ := p
    rw [hn] at hN
    simp only [Bool.and_self, if_true, Value.tuple.injEq, Array.mk.injEq, List.cons.injEq, and_true] at hN
    obtain ⟨g1, g2, g3⟩ := hN
    obtain rfl := (st_inj g1).symm
    obtain rfl : n = (k : Int) := by simpa using g2.symm
    obtain rfl : e = 0 := by simpa using g3.symm
    repeat (first | refine WC.seq ?_ | refine WC.reg ?_ | refine WL.pure rfl rfl rfl ?_ | refine WL.nil ?_ | refine WC.skip ?_ | refine WC.block ?_ | refine WC.condT rfl ?_ | refine WC.condF rfl ?_ | refine WL.off rfl rfl rfl ?_ | refine WL.off0 rfl rfl ?_ | refine WC.exit ?_ | refine blk_hit ?_ | refine blk_miss rfl ?_ | refine WC.ret ?_)
    refine WL.sCmp rfl rfl rfl rfl (eql_self _) ?_
    repeat (first | refine WC.seq ?_ | refine WC.reg ?_ | refine WL.pure rfl rfl rfl ?_ | refine WL.nil ?_ | refine WC.skip ?_ | refine WC.block ?_ | refine WC.condT rfl ?_ | refine WC.condF rfl ?_ | refine WL.off rfl rfl rfl ?_ | refine WL.off0 rfl rfl ?_ | refine WC.exit ?_ | refine blk_hit ?_ | refine blk_miss rfl ?_ | refine WC.ret ?_)
    refine WL.split 81 rfl (fun h3 => ?_) (fun h3 => absurd h3 (by simp))
    repeat (first | refine WC.seq ?_ | refine WC.reg ?_ | refine WL.pure rfl rfl rfl ?_ | refine WL.nil ?_ | refine WC.skip ?_ | refine WC.block ?_ | refine WC.condT rfl ?_ | refine WC.condF rfl ?_ | refine WL.off rfl rfl rfl ?_ | refine WL.off0 rfl rfl ?_ | refine WC.exit ?_ | refine blk_hit ?_ | refine blk_miss rfl ?_ | refine WC.ret ?_)
    refine WL.call rfl rfl rfl rfl rfl ent16 (awake_any w6 (hmx.hp hp6)) ?_
    rintro _ w9 ⟨rfl, hp9⟩
    repeat (first | refine WC.seq ?_ | refine WC.reg ?_ | refine WL.pure rfl rfl rfl ?_ | refine WL.nil ?_ | refine WC.skip ?_ | refine WC.block ?_ | refine WC.condT rfl ?_ | refine WC.condF rfl ?_ | refine WL.off rfl rfl rfl ?_ | refine WL.off0 rfl rfl ?_ | refine WC.exit ?_ | refine blk_hit ?_ | refine blk_miss rfl ?_ | refine WC.ret ?_)
    exact Res.one rfl rfl rfl ⟨rfl, (hp6.comb hp9).nil'⟩
end Go.Proofs.YtoghnhbjdnjghaaGreat
