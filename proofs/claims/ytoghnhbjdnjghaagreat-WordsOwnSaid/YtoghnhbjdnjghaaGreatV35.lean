/- The walk of WordsCompletes. -/
import Derived.Test.YtoghnhbjdnjghaaGreatV34
namespace Go.Words
open Go.W Go.Proofs.YtoghnhbjdnjghaaGreat
theorem rulesM_sm (l : List Rl) (m : Nat) : Sm 25 (rulesM l m) := by
  intro r hr
  obtain ⟨x, _, rfl⟩ := List.mem_map.1 hr
  unfold cutR
  exact ⟨by show (x.1.take 25).length ≤ 25; rw [List.length_take]; omega, by show (x.2.take 25).length ≤ 25; rw [List.length_take]; omega⟩
theorem rulesM_len (l : List Rl) {m : Nat} (hm : m ≤ 65) : (rulesM l m).length ≤ 65 := by
  unfold rulesM rulesN
  rw [List.length_map, List.length_take]
  split <;> omega
/-- What Complete says: the system, whether it is confluent, and the error. -/
def CompR (l : List Rl) (k : Int) : List Rl × Bool × Int := if eqnsB l k then match completeM l k.toNat with
    | some (t, b) => (t, b, 0)
    | none => ([], false, 5)
  else ([], false, 2)
theorem CompR_len (l : List Rl) (k : Int) : (CompR l k).1.length ≤ 64 ∧ Dn (CompR l k).1 ∧ Sm 24 (CompR l k).1 := by
  have h0 : ([] : List Rl).length ≤ 64 ∧ Dn [] ∧ Sm 24 [] := ⟨by decide, (fun r hr => by cases hr), (fun r hr => by cases hr)⟩
  unfold CompR
  split
  · rename_i h
    obtain ⟨_, hsm, _⟩ := eqnsB_of h
    cases hc : completeM l k.toNat with
    | none => exact h0
    | some q =>
      have hS := completeM_inv (b := q.2) (t := q.1) hc hsm
      exact ⟨hS.len, hS.dn, hS.sm⟩
  · exact h0
end Go.Words
namespace Go.Proofs.YtoghnhbjdnjghaaGreat
open Go.W Go.Words Go.RowKit
set_option maxRecDepth 100000
attribute [local irreducible] WC WL WQ WS WH

theorem CompQ.to {l : List Rl} {k : Int} {w w' : World} {u : Value} (h : CompQ l k w u w') :
    ∃ pa pc, u = .tuple #[.slice pa (CompR l k).1.length pc, .bool (CompR l k).2.1, .int .i64 (CompR l k).2.2] ∧ Hp w w' [Rt (.slice pa (CompR l k).1.length pc) (CompR l k).1] := by
  unfold CompQ at h
  unfold CompR
  split at h
  · rename_i h1
    rw [if_pos h1]
    cases hc : completeM l k.toNat with
    | none => rw [hc] at h; exact ⟨none, 0, h.1, h.2.nilrow _ _⟩
    | some q => rw [hc] at h; exact h
  · rename_i h1
    rw [if_neg h1]
    exact ⟨none, 0, h.1, h.2.nilrow _ _⟩
set_option maxHeartbeats 1000000 in
theorem WordsCompletes_any (a : Option Addr) (cap : Nat) (l : List Rl) (k : Int) (hlen : l.length ≤ 9223372036854775807) (hsm : Sm 9223372036854775807 l) (w : World) (hmx : Mx w) (hs : Sl w a (rcs l)) :
    Ret Tryz.prog 4 [.slice a l.length cap, .int .i64 k] w fun u w' => u = .bool true ∧ Hp w w' [] := by
  have hL := rulesM_sm l 8
  have hLl := rulesM_len l (m := 8) (by decide)
  refine enter Tryz.func4 rfl rfl ⟨rfl, rfl⟩ rfl ?_
  repeat (first | refine WC.seq ?_ | refine WC.reg ?_ | refine WL.pure rfl rfl rfl ?_ | refine WL.nil ?_ | refine WC.skip ?_ | refine WC.block ?_ | refine WC.condT rfl ?_ | refine WC.condF rfl ?_ | refine WL.off rfl rfl rfl ?_ | refine WL.off0 rfl rfl ?_ | refine WC.exit ?_ | refine blk_hit ?_ | refine blk_miss rfl ?_ | refine WC.ret ?_)
  refine WL.call rfl rfl rfl rfl rfl ent10 (rules_any a cap l 8 (by decide) hlen hsm w hs) ?_
  rintro _ w1 ⟨oa, oc, rfl, hp1⟩
  repeat (first | refine WC.seq ?_ | refine WC.reg ?_ | refine WL.pure rfl rfl rfl ?_ | refine WL.nil ?_ | refine WC.skip ?_ | refine WC.block ?_ | refine WC.condT rfl ?_ | refine WC.condF rfl ?_ | refine WL.off rfl rfl rfl ?_ | refine WL.off0 rfl rfl ?_ | refine WC.exit ?_ | refine blk_hit ?_ | refine blk_miss rfl ?_ | refine WC.ret ?_)
  refine WL.call rfl rfl rfl rfl rfl ent10 (rules_any a cap l 8 (by decide) hlen hsm w1 (hs.hp hp1)) ?_
  rintro _ w2 ⟨ga, gc, rfl, hp2⟩
  have hp2 := hp1.comb hp2
  generalize rulesM l 8 = L at *
  repeat (first | refine WC.seq ?_ | refine WC.reg ?_ | refine WL.pure rfl rfl rfl ?_ | refine WL.nil ?_ | refine WC.skip ?_ | refine WC.block ?_ | refine WC.condT rfl ?_ | refine WC.condF rfl ?_ | refine WL.off rfl rfl rfl ?_ | refine WL.off0 rfl rfl ?_ | refine WC.exit ?_ | refine blk_hit ?_ | refine blk_miss rfl ?_ | refine WC.ret ?_)
  refine WL.call rfl rfl rfl rfl rfl ent18 (Complete_any ga gc L k (hL.mono (by decide)) w2 (hmx.hp hp2) (Sl.of_row (hp2.at 0 rfl))) ?_
  intro u w3 hu
  obtain ⟨pa, pc, rfl, hp3⟩ := hu.to
  have hp3 := hp2.comb hp3
  have hp3 : Hp w w3 [Rt (.slice pa (CompR L k).1.length pc) (CompR L k).1, Rt (.slice ga L.length gc) L, Rt (.slice oa L.length oc) L] := hp3
  repeat (first | refine WC.seq ?_ | refine WC.reg ?_ | refine WL.pure rfl rfl rfl ?_ | refine WL.nil ?_ | refine WC.skip ?_ | refine WC.block ?_ | refine WC.condT rfl ?_ | refine WC.condF rfl ?_ | refine WL.off rfl rfl rfl ?_ | refine WL.off0 rfl rfl ?_ | refine WC.exit ?_ | refine blk_hit ?_ | refine blk_miss rfl ?_ | refine WC.ret ?_)
  refine WL.call rfl rfl rfl rfl rfl ent19 (rComplete_any oa oc L k (by omega) (hL.mono (by decide)) w3 (Sl.of_row (hp3.at 2 rfl))) ?_
  intro u w4 hu4
  obtain ⟨qa, qc, rfl, hp4⟩ := hu4.to
  have hp4 := hp3.comb hp4
  have hR := (CompR_len L k).1
  clear hu hu4
  generalize CompR L k = R at *
  have hp4 : Hp w w4 [Rt (.slice qa R.1.length qc) R.1, Rt (.slice pa R.1.length pc) R.1, Rt (.slice ga L.length gc) L, Rt (.slice oa L.length oc) L] := hp4
  repeat (first | refine WC.seq ?_ | refine WC.reg ?_ | refine WL.pure rfl rfl rfl ?_ | refine WL.nil ?_ | refine WC.skip ?_ | refine WC.block ?_ | refine WC.condT rfl ?_ | refine WC.condF rfl ?_ | refine WL.off rfl rfl rfl ?_ | refine WL.off0 rfl rfl ?_ | refine WC.exit ?_ | refine blk_hit ?_ | refine blk_miss rfl ?_ | refine WC.ret ?_)
  refine WL.call rfl rfl rfl rfl rfl ent13 (same_any ga oa gc oc L L (by omega) w4 (Sl.of_row (hp4.at 2 rfl)) (Sl.of_row (hp4.at 3 rfl))) ?_
  rintro _ w5 ⟨rfl, hp5⟩
  rw [decide_eq_true rfl]
  have hp5 := hp4.comb hp5
  repeat (first | refine WC.seq ?_ | refine WC.reg ?_ | refine WL.pure rfl rfl rfl ?_ | refine WL.nil ?_ | refine WC.skip ?_ | refine WC.block ?_ | refine WC.condT rfl ?_ | refine WC.condF rfl ?_ | refine WL.off rfl rfl rfl ?_ | refine WL.off0 rfl rfl ?_ | refine WC.exit ?_ | refine blk_hit ?_ | refine blk_miss rfl ?_ | refine WC.ret ?_)
  refine WL.call rfl rfl rfl rfl rfl ent13 (same_any pa qa pc qc R.1 R.1 (by omega) w5 (Sl.of_row (hp5.at 1 rfl)) (Sl.of_row (hp5.at 0 rfl))) ?_
  rintro _ w6 ⟨rfl, hp6⟩
  rw [decide_eq_true rfl]
  have hp6 := hp5.comb hp6
  repeat (first | refine WC.seq ?_ | refine WC.reg ?_ | refine WL.pure rfl rfl rfl ?_ | refine WL.nil ?_ | refine WC.skip ?_ | refine WC.block ?_ | refine WC.condT rfl ?_ | refine WC.condF rfl ?_ | refine WL.off rfl rfl rfl ?_ | refine WL.off0 rfl rfl ?_ | refine WC.exit ?_ | refine blk_hit ?_ | refine blk_miss rfl ?_ | refine WC.ret ?_)
  refine WL.split 44 rfl (fun h1 => ?_) (fun h1 => absurd h1 (by simp))
  repeat (first | refine WC.seq ?_ | refine WC.reg ?_ | refine WL.pure rfl rfl rfl ?_ | refine WL.nil ?_ | refine WC.skip ?_ | refine WC.block ?_ | refine WC.condT rfl ?_ | refine WC.condF rfl ?_ | refine WL.off rfl rfl rfl ?_ | refine WL.off0 rfl rfl ?_ | refine WC.exit ?_ | refine blk_hit ?_ | refine blk_miss rfl ?_ | refine WC.ret ?_)
  refine WL.split 49 rfl (fun h2 => ?_) (fun h2 => absurd h2 (by simp))
  repeat (first | refine WC.seq ?_ | refine WC.reg ?_ | refine WL.pure rfl rfl rfl ?_ | refine WL.nil ?_ | refine WC.skip ?_ | refine WC.block ?_ | refine WC.condT rfl ?_ | refine WC.condF rfl ?_ | refine WL.off rfl rfl rfl ?_ | refine WL.off0 rfl rfl ?_ | refine WC.exit ?_ | refine blk_hit ?_ | refine blk_miss rfl ?_ | refine WC.ret ?_)
  refine WL.call rfl rfl rfl rfl rfl ent16 (awake_any w6 (hmx.hp hp6)) ?_
  rintro _ w9 ⟨rfl, hp9⟩
  repeat (first | refine WC.seq ?_ | refine WC.reg ?_ | refine WL.pure rfl rfl rfl ?_ | refine WL.nil ?_ | refine WC.skip ?_ | refine WC.block ?_ | refine WC.condT rfl ?_ | refine WC.condF rfl ?_ | refine WL.off rfl rfl rfl ?_ | refine WL.off0 rfl rfl ?_ | refine WC.exit ?_ | refine blk_hit ?_ | refine blk_miss rfl ?_ | refine WC.ret ?_)
  exact Res.one rfl rfl rfl ⟨rfl, (hp6.comb hp9).nil'⟩
end Go.Proofs.YtoghnhbjdnjghaaGreat
