/- The walk of WordsTidies. -/
import Derived.Test.YtoghnhbjdnjghaaGreatV27
namespace Go.Words
open Go.W
theorem rulesM_sm (l : List Rl) (m : Nat) : Sm 25 (rulesM l m) := by
  intro r hr
  obtain ⟨x, _, rfl⟩ := List.mem_map.1 hr
  unfold cutR
  exact ⟨by show (x.1.take 25).length ≤ 25; rw [List.length_take]; omega, by show (x.2.take 25).length ≤ 25; rw [List.length_take]; omega⟩
theorem rulesM_len (l : List Rl) {m : Nat} (hm : m ≤ 65) : (rulesM l m).length ≤ 65 := by
  unfold rulesM rulesN
  rw [List.length_map, List.length_take]
  split <;> omega
end Go.Words
namespace Go.Proofs.YtoghnhbjdnjghaaGreat
open Go.W Go.Words Go.RowKit
set_option maxRecDepth 100000
attribute [local irreducible] WC WL WQ WS WH

set_option maxHeartbeats 1000000 in
theorem WordsTidies_any (a : Option Addr) (cap : Nat) (l : List Rl) (hlen : l.length ≤ 9223372036854775807) (hsm : Sm 9223372036854775807 l) (w : World) (hmx : Mx w) (hs : Sl w a (rcs l)) :
    Ret Tryz.prog 6 [.slice a l.length cap] w fun u w' => u = .bool true ∧ Hp w w' [] := by
  have hL := rulesM_sm l 16
  have hLl := rulesM_len l (m := 16) (by decide)
  refine enter Tryz.func6 rfl rfl ⟨rfl, rfl⟩ rfl ?_
  repeat (first | refine WC.seq ?_ | refine WC.reg ?_ | refine WL.pure rfl rfl rfl ?_ | refine WL.nil ?_ | refine WC.skip ?_ | refine WC.block ?_ | refine WC.condT rfl ?_ | refine WC.condF rfl ?_ | refine WL.off rfl rfl rfl ?_ | refine WL.off0 rfl rfl ?_ | refine WC.exit ?_ | refine blk_hit ?_ | refine blk_miss rfl ?_ | refine WC.ret ?_)
  refine WL.call rfl rfl rfl rfl rfl ent10 (rules_any a cap l 16 (by decide) hlen hsm w hs) ?_
  rintro _ w1 ⟨oa, oc, rfl, hp1⟩
  repeat (first | refine WC.seq ?_ | refine WC.reg ?_ | refine WL.pure rfl rfl rfl ?_ | refine WL.nil ?_ | refine WC.skip ?_ | refine WC.block ?_ | refine WC.condT rfl ?_ | refine WC.condF rfl ?_ | refine WL.off rfl rfl rfl ?_ | refine WL.off0 rfl rfl ?_ | refine WC.exit ?_ | refine blk_hit ?_ | refine blk_miss rfl ?_ | refine WC.ret ?_)
  refine WL.call rfl rfl rfl rfl rfl ent10 (rules_any a cap l 16 (by decide) hlen hsm w1 (hs.hp hp1)) ?_
  rintro _ w2 ⟨ga, gc, rfl, hp2⟩
  have hp2 := hp1.comb hp2
  generalize rulesM l 16 = L at *
  repeat (first | refine WC.seq ?_ | refine WC.reg ?_ | refine WL.pure rfl rfl rfl ?_ | refine WL.nil ?_ | refine WC.skip ?_ | refine WC.block ?_ | refine WC.condT rfl ?_ | refine WC.condF rfl ?_ | refine WL.off rfl rfl rfl ?_ | refine WL.off0 rfl rfl ?_ | refine WC.exit ?_ | refine blk_hit ?_ | refine blk_miss rfl ?_ | refine WC.ret ?_)
  refine WL.call rfl rfl rfl rfl rfl ent24 (Tidy_any ga gc L (hL.mono (by decide)) w2 (hmx.hp hp2) (Sl.of_row (hp2.at 0 rfl))) ?_
  intro u w3 hu
  unfold TidyQ at hu
  cases h1 : sysB L with
  | false =>
    rw [h1, if_neg (by decide)] at hu
    obtain ⟨rfl, hp3⟩ := hu
    have hp3 := hp2.comb hp3
    repeat (first | refine WC.seq ?_ | refine WC.reg ?_ | refine WL.pure rfl rfl rfl ?_ | refine WL.nil ?_ | refine WC.skip ?_ | refine WC.block ?_ | refine WC.condT rfl ?_ | refine WC.condF rfl ?_ | refine WL.off rfl rfl rfl ?_ | refine WL.off0 rfl rfl ?_ | refine WC.exit ?_ | refine blk_hit ?_ | refine blk_miss rfl ?_ | refine WC.ret ?_)
    refine WL.call rfl rfl rfl rfl rfl ent13 (same_any ga oa gc oc L L (by omega) w3 (Sl.of_row (hp3.at 0 rfl)) (Sl.of_row (hp3.at 1 rfl))) ?_
    rintro _ w4 ⟨rfl, hp4⟩
    rw [decide_eq_true rfl]
    have hp4 := hp3.comb hp4
    repeat (first | refine WC.seq ?_ | refine WC.reg ?_ | refine WL.pure rfl rfl rfl ?_ | refine WL.nil ?_ | refine WC.skip ?_ | refine WC.block ?_ | refine WC.condT rfl ?_ | refine WC.condF rfl ?_ | refine WL.off rfl rfl rfl ?_ | refine WL.off0 rfl rfl ?_ | refine WC.exit ?_ | refine blk_hit ?_ | refine blk_miss rfl ?_ | refine WC.ret ?_)
    refine WL.call rfl rfl rfl rfl rfl ent14 (rSystem_any oa oc L (by omega) (hL.mono (by decide)) w4 (Sl.of_row (hp4.at 1 rfl))) ?_
    rintro _ w5 ⟨rfl, hp5⟩
    rw [h1]
    have hp5 := hp4.comb hp5
    repeat (first | refine WC.seq ?_ | refine WC.reg ?_ | refine WL.pure rfl rfl rfl ?_ | refine WL.nil ?_ | refine WC.skip ?_ | refine WC.block ?_ | refine WC.condT rfl ?_ | refine WC.condF rfl ?_ | refine WL.off rfl rfl rfl ?_ | refine WL.off0 rfl rfl ?_ | refine WC.exit ?_ | refine blk_hit ?_ | refine blk_miss rfl ?_ | refine WC.ret ?_)
    refine WL.call rfl rfl rfl rfl rfl ent16 (awake_any w5 (hmx.hp hp5)) ?_
    rintro _ w9 ⟨rfl, hp9⟩
    repeat (first | refine WC.seq ?_ | refine WC.reg ?_ | refine WL.pure rfl rfl rfl ?_ | refine WL.nil ?_ | refine WC.skip ?_ | refine WC.block ?_ | refine WC.condT rfl ?_ | refine WC.condF rfl ?_ | refine WL.off rfl rfl rfl ?_ | refine WL.off0 rfl rfl ?_ | refine WC.exit ?_ | refine blk_hit ?_ | refine blk_miss rfl ?_ | refine WC.ret ?_)
    exact Res.one rfl rfl rfl ⟨rfl, (hp5.comb hp9).nil'⟩
  | true =>
    rw [h1, if_pos rfl] at hu
    have hmid : ∀ (w3 w' : World) (X : List Ent), Hp w2 w3 X → Hp w3 w' [] → Hp w2 w' X := fun w3 w' X h k => by have := h.comb k; rwa [List.nil_append] at this
    cases ht : tidyM L with
    | none =>
      rw [ht] at hu
      obtain ⟨rfl, hp3⟩ := hu
      have hp3 := hp2.comb hp3
      repeat (first | refine WC.seq ?_ | refine WC.reg ?_ | refine WL.pure rfl rfl rfl ?_ | refine WL.nil ?_ | refine WC.skip ?_ | refine WC.block ?_ | refine WC.condT rfl ?_ | refine WC.condF rfl ?_ | refine WL.off rfl rfl rfl ?_ | refine WL.off0 rfl rfl ?_ | refine WC.exit ?_ | refine blk_hit ?_ | refine blk_miss rfl ?_ | refine WC.ret ?_)
      refine WL.call rfl rfl rfl rfl rfl ent13 (same_any ga oa gc oc L L (by omega) w3 (Sl.of_row (hp3.at 0 rfl)) (Sl.of_row (hp3.at 1 rfl))) ?_
      rintro _ w4 ⟨rfl, hp4⟩
      rw [decide_eq_true rfl]
      have hp4 := hp3.comb hp4
      repeat (first | refine WC.seq ?_ | refine WC.reg ?_ | refine WL.pure rfl rfl rfl ?_ | refine WL.nil ?_ | refine WC.skip ?_ | refine WC.block ?_ | refine WC.condT rfl ?_ | refine WC.condF rfl ?_ | refine WL.off rfl rfl rfl ?_ | refine WL.off0 rfl rfl ?_ | refine WC.exit ?_ | refine blk_hit ?_ | refine blk_miss rfl ?_ | refine WC.ret ?_)
      refine WL.call rfl rfl rfl rfl rfl ent14 (rSystem_any oa oc L (by omega) (hL.mono (by decide)) w4 (Sl.of_row (hp4.at 1 rfl))) ?_
      rintro _ w5 ⟨rfl, hp5⟩
      rw [h1]
      have hp5 := hp4.comb hp5
      repeat (first | refine WC.seq ?_ | refine WC.reg ?_ | refine WL.pure rfl rfl rfl ?_ | refine WL.nil ?_ | refine WC.skip ?_ | refine WC.block ?_ | refine WC.condT rfl ?_ | refine WC.condF rfl ?_ | refine WL.off rfl rfl rfl ?_ | refine WL.off0 rfl rfl ?_ | refine WC.exit ?_ | refine blk_hit ?_ | refine blk_miss rfl ?_ | refine WC.ret ?_)
      refine WL.call rfl rfl rfl rfl rfl ent25 (rTidy_any oa oc L (by omega) (sys_dn h1) (hL.mono (by decide)) w5 (Sl.of_row (hp5.at 1 rfl))) ?_
      intro u w6 hu6
      rw [ht] at hu6
      obtain ⟨rfl, hp6⟩ := hu6
      have hp6 := hp5.comb hp6
      repeat (first | refine WC.seq ?_ | refine WC.reg ?_ | refine WL.pure rfl rfl rfl ?_ | refine WL.nil ?_ | refine WC.skip ?_ | refine WC.block ?_ | refine WC.condT rfl ?_ | refine WC.condF rfl ?_ | refine WL.off rfl rfl rfl ?_ | refine WL.off0 rfl rfl ?_ | refine WC.exit ?_ | refine blk_hit ?_ | refine blk_miss rfl ?_ | refine WC.ret ?_)
      refine WL.call rfl rfl rfl rfl rfl ent16 (awake_any w6 (hmx.hp hp6)) ?_
      rintro _ w9 ⟨rfl, hp9⟩
      repeat (first | refine WC.seq ?_ | refine WC.reg ?_ | refine WL.pure rfl rfl rfl ?_ | refine WL.nil ?_ | refine WC.skip ?_ | refine WC.block ?_ | refine WC.condT rfl ?_ | refine WC.condF rfl ?_ | refine WL.off rfl rfl rfl ?_ | refine WL.off0 rfl rfl ?_ | refine WC.exit ?_ | refine blk_hit ?_ | refine blk_miss rfl ?_ | refine WC.ret ?_)
      exact Res.one rfl rfl rfl ⟨rfl, (hp6.comb hp9).nil'⟩
    | some t =>
      rw [ht] at hu
      obtain ⟨pa, pc, rfl, hp3⟩ := hu
      have hp3 := hp2.comb hp3
      obtain ⟨_, _, _, htl, _⟩ := tidyM_inv ht (sys_dn h1) hL
      repeat (first | refine WC.seq ?_ | refine WC.reg ?_ | refine WL.pure rfl rfl rfl ?_ | refine WL.nil ?_ | refine WC.skip ?_ | refine WC.block ?_ | refine WC.condT rfl ?_ | refine WC.condF rfl ?_ | refine WL.off rfl rfl rfl ?_ | refine WL.off0 rfl rfl ?_ | refine WC.exit ?_ | refine blk_hit ?_ | refine blk_miss rfl ?_ | refine WC.ret ?_)
      refine WL.call rfl rfl rfl rfl rfl ent13 (same_any ga oa gc oc L L (by omega) w3 (Sl.of_row (hp3.at 1 rfl)) (Sl.of_row (hp3.at 2 rfl))) ?_
      rintro _ w4 ⟨rfl, hp4⟩
      rw [decide_eq_true rfl]
      have hp4 := hp3.comb hp4
      repeat (first | refine WC.seq ?_ | refine WC.reg ?_ | refine WL.pure rfl rfl rfl ?_ | refine WL.nil ?_ | refine WC.skip ?_ | refine WC.block ?_ | refine WC.condT rfl ?_ | refine WC.condF rfl ?_ | refine WL.off rfl rfl rfl ?_ | refine WL.off0 rfl rfl ?_ | refine WC.exit ?_ | refine blk_hit ?_ | refine blk_miss rfl ?_ | refine WC.ret ?_)
      refine WL.call rfl rfl rfl rfl rfl ent14 (rSystem_any oa oc L (by omega) (hL.mono (by decide)) w4 (Sl.of_row (hp4.at 2 rfl))) ?_
      rintro _ w5 ⟨rfl, hp5⟩
      rw [h1]
      have hp5 := hp4.comb hp5
      repeat (first | refine WC.seq ?_ | refine WC.reg ?_ | refine WL.pure rfl rfl rfl ?_ | refine WL.nil ?_ | refine WC.skip ?_ | refine WC.block ?_ | refine WC.condT rfl ?_ | refine WC.condF rfl ?_ | refine WL.off rfl rfl rfl ?_ | refine WL.off0 rfl rfl ?_ | refine WC.exit ?_ | refine blk_hit ?_ | refine blk_miss rfl ?_ | refine WC.ret ?_)
      refine WL.call rfl rfl rfl rfl rfl ent25 (rTidy_any oa oc L (by omega) (sys_dn h1) (hL.mono (by decide)) w5 (Sl.of_row (hp5.at 2 rfl))) ?_
      intro u w6 hu6
      rw [ht] at hu6
      obtain ⟨qa, qc, rfl, hp6⟩ := hu6
      have hp6 := hp5.comb hp6
      repeat (first | refine WC.seq ?_ | refine WC.reg ?_ | refine WL.pure rfl rfl rfl ?_ | refine WL.nil ?_ | refine WC.skip ?_ | refine WC.block ?_ | refine WC.condT rfl ?_ | refine WC.condF rfl ?_ | refine WL.off rfl rfl rfl ?_ | refine WL.off0 rfl rfl ?_ | refine WC.exit ?_ | refine blk_hit ?_ | refine blk_miss rfl ?_ | refine WC.ret ?_)
      refine WL.call rfl rfl rfl rfl rfl ent13 (same_any pa qa pc qc t t (by omega) w6 (Sl.of_row (hp6.at 1 rfl)) (Sl.of_row (hp6.at 0 rfl))) ?_
      rintro _ w7 ⟨rfl, hp7⟩
      rw [decide_eq_true rfl]
      have hp7 := hp6.comb hp7
      repeat (first | refine WC.seq ?_ | refine WC.reg ?_ | refine WL.pure rfl rfl rfl ?_ | refine WL.nil ?_ | refine WC.skip ?_ | refine WC.block ?_ | refine WC.condT rfl ?_ | refine WC.condF rfl ?_ | refine WL.off rfl rfl rfl ?_ | refine WL.off0 rfl rfl ?_ | refine WC.exit ?_ | refine blk_hit ?_ | refine blk_miss rfl ?_ | refine WC.ret ?_)
      refine WL.call rfl rfl rfl rfl rfl ent16 (awake_any w7 (hmx.hp hp7)) ?_
      rintro _ w9 ⟨rfl, hp9⟩
      repeat (first | refine WC.seq ?_ | refine WC.reg ?_ | refine WL.pure rfl rfl rfl ?_ | refine WL.nil ?_ | refine WC.skip ?_ | refine WC.block ?_ | refine WC.condT rfl ?_ | refine WC.condF rfl ?_ | refine WL.off rfl rfl rfl ?_ | refine WL.off0 rfl rfl ?_ | refine WC.exit ?_ | refine blk_hit ?_ | refine blk_miss rfl ?_ | refine WC.ret ?_)
      exact Res.one rfl rfl rfl ⟨rfl, (hp7.comb hp9).nil'⟩
end Go.Proofs.YtoghnhbjdnjghaaGreat
