/- The walk of WordsPairs. -/
import Derived.Test.YtoghnhbjdnjghaaGreatV31
namespace Go.Words
open Go.W
theorem rulesM_sm (l : List Rl) (m : Nat) : Sm 25 (rulesM l m) := by
  intro r hr
  obtain ⟨x, _, rfl⟩ := List.mem_map.1 hr
  unfold cutR
  exact ⟨by show (x.1.take 25).length ≤ 25; rw [List.length_take]; omega, by show (x.2.take 25).length ≤ 25; rw [List.length_take]; omega⟩
theorem rulesM_len (l : List Rl) {m : Nat} (hm : m ≤ 65) : (rulesM l m).length ≤ 65 := by
  unfold rulesM rulesN
  rw [List.length_map, List.length_take]
  split <;> omega
end Go.Words
namespace Go.Proofs.YtoghnhbjdnjghaaGreat
open Go.W Go.Words Go.RowKit
set_option maxRecDepth 100000
attribute [local irreducible] WC WL WQ WS WH

set_option maxHeartbeats 1000000 in
theorem WordsPairs_any (a : Option Addr) (cap : Nat) (l : List Rl) (hlen : l.length ≤ 9223372036854775807) (hsm : Sm 9223372036854775807 l) (w : World) (hmx : Mx w) (hs : Sl w a (rcs l)) :
    Ret Tryz.prog 5 [.slice a l.length cap] w fun u w' => u = .bool true ∧ Hp w w' [] := by
  have hL := rulesM_sm l 12
  have hLl := rulesM_len l (m := 12) (by decide)
  refine enter Tryz.func5 rfl rfl ⟨rfl, rfl⟩ rfl ?_
  repeat (first | refine WC.seq ?_ | refine WC.reg ?_ | refine WL.pure rfl rfl rfl ?_ | refine WL.nil ?_ | refine WC.skip ?_ | refine WC.block ?_ | refine WC.condT rfl ?_ | refine WC.condF rfl ?_ | refine WL.off rfl rfl rfl ?_ | refine WL.off0 rfl rfl ?_ | refine WC.exit ?_ | refine blk_hit ?_ | refine blk_miss rfl ?_ | refine WC.ret ?_)
  refine WL.call rfl rfl rfl rfl rfl ent10 (rules_any a cap l 12 (by decide) hlen hsm w hs) ?_
  rintro _ w1 ⟨oa, oc, rfl, hp1⟩
  repeat (first | refine WC.seq ?_ | refine WC.reg ?_ | refine WL.pure rfl rfl rfl ?_ | refine WL.nil ?_ | refine WC.skip ?_ | refine WC.block ?_ | refine WC.condT rfl ?_ | refine WC.condF rfl ?_ | refine WL.off rfl rfl rfl ?_ | refine WL.off0 rfl rfl ?_ | refine WC.exit ?_ | refine blk_hit ?_ | refine blk_miss rfl ?_ | refine WC.ret ?_)
  refine WL.call rfl rfl rfl rfl rfl ent10 (rules_any a cap l 12 (by decide) hlen hsm w1 (hs.hp hp1)) ?_
  rintro _ w2 ⟨ga, gc, rfl, hp2⟩
  have hp2 := hp1.comb hp2
  generalize rulesM l 12 = L at *
  repeat (first | refine WC.seq ?_ | refine WC.reg ?_ | refine WL.pure rfl rfl rfl ?_ | refine WL.nil ?_ | refine WC.skip ?_ | refine WC.block ?_ | refine WC.condT rfl ?_ | refine WC.condF rfl ?_ | refine WL.off rfl rfl rfl ?_ | refine WL.off0 rfl rfl ?_ | refine WC.exit ?_ | refine blk_hit ?_ | refine blk_miss rfl ?_ | refine WC.ret ?_)
  refine WL.call rfl rfl rfl rfl rfl ent20 (Pairs_any ga gc L (hL.mono (by decide)) w2 (Sl.of_row (hp2.at 0 rfl))) ?_
  rintro _ w3 ⟨pa, pc, rfl, hp3⟩
  have hp3 := hp2.comb hp3
  obtain ⟨PS, hPS⟩ : ∃ PS, (if sysB L = true then pairsM L else []) = PS := ⟨_, rfl⟩
  obtain ⟨er, her⟩ : ∃ er : Int, (if sysB L = true then 0 else 2) = er := ⟨_, rfl⟩
  rw [hPS] at hp3 ⊢
  rw [her]
  repeat (first | refine WC.seq ?_ | refine WC.reg ?_ | refine WL.pure rfl rfl rfl ?_ | refine WL.nil ?_ | refine WC.skip ?_ | refine WC.block ?_ | refine WC.condT rfl ?_ | refine WC.condF rfl ?_ | refine WL.off rfl rfl rfl ?_ | refine WL.off0 rfl rfl ?_ | refine WC.exit ?_ | refine blk_hit ?_ | refine blk_miss rfl ?_ | refine WC.ret ?_)
  refine WL.call rfl rfl rfl rfl rfl ent13 (same_any ga oa gc oc L L (by omega) w3 (Sl.of_row (hp3.at 1 rfl)) (Sl.of_row (hp3.at 2 rfl))) ?_
  rintro _ w4 ⟨rfl, hp4⟩
  rw [decide_eq_true rfl]
  have hp4 := hp3.comb hp4
  repeat (first | refine WC.seq ?_ | refine WC.reg ?_ | refine WL.pure rfl rfl rfl ?_ | refine WL.nil ?_ | refine WC.skip ?_ | refine WC.block ?_ | refine WC.condT rfl ?_ | refine WC.condF rfl ?_ | refine WL.off rfl rfl rfl ?_ | refine WL.off0 rfl rfl ?_ | refine WC.exit ?_ | refine blk_hit ?_ | refine blk_miss rfl ?_ | refine WC.ret ?_)
  refine WL.call rfl rfl rfl rfl rfl ent21 (Clash_any ga gc L (hL.mono (by decide)) w4 (Sl.of_row (hp4.at 1 rfl))) ?_
  rintro _ w5 ⟨rfl, hp5⟩
  have hp5 := hp4.comb hp5
  obtain ⟨kk, ff, hC⟩ : ∃ kk ff : Int, ClashV L = .tuple #[.int .i64 kk, .int .i64 ff] := by
    unfold ClashV
    split
    · split <;> exact ⟨_, _, rfl⟩
    · exact ⟨_, _, rfl⟩
  rw [hC]
  repeat (first | refine WC.seq ?_ | refine WC.reg ?_ | refine WL.pure rfl rfl rfl ?_ | refine WL.nil ?_ | refine WC.skip ?_ | refine WC.block ?_ | refine WC.condT rfl ?_ | refine WC.condF rfl ?_ | refine WL.off rfl rfl rfl ?_ | refine WL.off0 rfl rfl ?_ | refine WC.exit ?_ | refine blk_hit ?_ | refine blk_miss rfl ?_ | refine WC.ret ?_)
  refine WL.call rfl rfl rfl rfl rfl ent13 (same_any ga oa gc oc L L (by omega) w5 (Sl.of_row (hp5.at 1 rfl)) (Sl.of_row (hp5.at 2 rfl))) ?_
  rintro _ w6 ⟨rfl, hp6⟩
  rw [decide_eq_true rfl]
  have hp6 := hp5.comb hp6
  repeat (first | refine WC.seq ?_ | refine WC.reg ?_ | refine WL.pure rfl rfl rfl ?_ | refine WL.nil ?_ | refine WC.skip ?_ | refine WC.block ?_ | refine WC.condT rfl ?_ | refine WC.condF rfl ?_ | refine WL.off rfl rfl rfl ?_ | refine WL.off0 rfl rfl ?_ | refine WC.exit ?_ | refine blk_hit ?_ | refine blk_miss rfl ?_ | refine WC.ret ?_)
  refine WL.call rfl rfl rfl rfl rfl ent14 (rSystem_any oa oc L (by omega) (hL.mono (by decide)) w6 (Sl.of_row (hp6.at 2 rfl))) ?_
  rintro _ w7 ⟨rfl, hp7⟩
  have hp7 := hp6.comb hp7
  cases h1 : sysB L with
  | false =>
    rw [h1] at hPS her
    obtain rfl : [] = PS := hPS
    obtain rfl : 2 = er := her
    unfold ClashV at hC
    rw [h1] at hC
    simp only [Bool.false_eq_true, if_false, Value.tuple.injEq, Array.mk.injEq, List.cons.injEq, and_true, Value.int.injEq, true_and] at hC
    obtain ⟨rfl, rfl⟩ := hC
    repeat (first | refine WC.seq ?_ | refine WC.reg ?_ | refine WL.pure rfl rfl rfl ?_ | refine WL.nil ?_ | refine WC.skip ?_ | refine WC.block ?_ | refine WC.condT rfl ?_ | refine WC.condF rfl ?_ | refine WL.off rfl rfl rfl ?_ | refine WL.off0 rfl rfl ?_ | refine WC.exit ?_ | refine blk_hit ?_ | refine blk_miss rfl ?_ | refine WC.ret ?_)
    refine WL.call rfl rfl rfl rfl rfl ent16 (awake_any w7 (hmx.hp hp7)) ?_
    rintro _ w9 ⟨rfl, hp9⟩
    repeat (first | refine WC.seq ?_ | refine WC.reg ?_ | refine WL.pure rfl rfl rfl ?_ | refine WL.nil ?_ | refine WC.skip ?_ | refine WC.block ?_ | refine WC.condT rfl ?_ | refine WC.condF rfl ?_ | refine WL.off rfl rfl rfl ?_ | refine WL.off0 rfl rfl ?_ | refine WC.exit ?_ | refine blk_hit ?_ | refine blk_miss rfl ?_ | refine WC.ret ?_)
    exact Res.one rfl rfl rfl ⟨rfl, (hp7.comb hp9).nil'⟩
  | true =>
    rw [h1] at hPS her
    obtain rfl : pairsM L = PS := hPS
    obtain rfl : 0 = er := her
    repeat (first | refine WC.seq ?_ | refine WC.reg ?_ | refine WL.pure rfl rfl rfl ?_ | refine WL.nil ?_ | refine WC.skip ?_ | refine WC.block ?_ | refine WC.condT rfl ?_ | refine WC.condF rfl ?_ | refine WL.off rfl rfl rfl ?_ | refine WL.off0 rfl rfl ?_ | refine WC.exit ?_ | refine blk_hit ?_ | refine blk_miss rfl ?_ | refine WC.ret ?_)
    refine WL.call rfl rfl rfl rfl rfl ent22 (rPairs_any oa oc L (by omega) (hL.mono (by decide)) w7 (Sl.of_row (hp7.at 2 rfl))) ?_
    rintro _ w8 ⟨qa, qc, rfl, hp8⟩
    have hp8 := hp7.comb hp8
    have hpn : (pairsM L).length ≤ 1000000 := by
      refine Nat.le_trans (pairsM_len hL) ?_
      refine Nat.le_trans (Nat.mul_le_mul hLl (Nat.mul_le_mul_right _ hLl)) ?_
      decide
    unfold ClashV at hC
    rw [h1] at hC
    generalize pairsM L = PS at *
    repeat (first | refine WC.seq ?_ | refine WC.reg ?_ | refine WL.pure rfl rfl rfl ?_ | refine WL.nil ?_ | refine WC.skip ?_ | refine WC.block ?_ | refine WC.condT rfl ?_ | refine WC.condF rfl ?_ | refine WL.off rfl rfl rfl ?_ | refine WL.off0 rfl rfl ?_ | refine WC.exit ?_ | refine blk_hit ?_ | refine blk_miss rfl ?_ | refine WC.ret ?_)
    refine WC.cond rfl (fun h2 => ?_) (fun _ => ?_)
    · exfalso
      have h2 : (((PS.length : Nat) : Int) != ((PS.length : Nat) : Int)) = true := h2
      simp at h2
    repeat (first | refine WC.seq ?_ | refine WC.reg ?_ | refine WL.pure rfl rfl rfl ?_ | refine WL.nil ?_ | refine WC.skip ?_ | refine WC.block ?_ | refine WC.condT rfl ?_ | refine WC.condF rfl ?_ | refine WL.off rfl rfl rfl ?_ | refine WL.off0 rfl rfl ?_ | refine WC.exit ?_ | refine blk_hit ?_ | refine blk_miss rfl ?_ | refine WC.ret ?_)
    refine WC.loop Nat (fun i => [(3, .slice oa L.length oc), (5, .slice pa PS.length pc), (7, .int .i64 kk), (8, .int .i64 ff), (9, .slice qa PS.length qc), (10, .int .i64 (i : Nat))])
      (fun i w' => i ≤ PS.length ∧ Hp w w' [Rr (.slice qa PS.length qc) PS, Rr (.slice pa PS.length pc) PS, Rt (.slice ga L.length gc) L, Rt (.slice oa L.length oc) L]) (fun i => PS.length - i) 0 ⟨rfl, rfl, rfl, rfl, rfl, rfl, rfl⟩ ⟨Nat.zero_le _, hp8⟩ ?_
    clear hp8 hp7 hp6 hp5 hp4 hp3 hp2 hp1
    rintro i w9 ⟨hi, hp9⟩
    repeat (first | refine WC.seq ?_ | refine WC.reg ?_ | refine WL.pure rfl rfl rfl ?_ | refine WL.nil ?_ | refine WC.skip ?_ | refine WC.block ?_ | refine WC.condT rfl ?_ | refine WC.condF rfl ?_ | refine WL.off rfl rfl rfl ?_ | refine WL.off0 rfl rfl ?_ | refine WC.exit ?_ | refine blk_hit ?_ | refine blk_miss rfl ?_ | refine WC.ret ?_)
    refine WC.cond rfl (fun hc => ?_) (fun hc => ?_)
    · have hi : i < PS.length := by have := of_decide_eq_true hc; omega
      have step := wrap_succ hi (by omega)
      obtain ⟨b1, o1, rfl⟩ := rcs_some (Sl.of_row (hp9.at 1 rfl)) (by omega)
      obtain ⟨b2, o2, rfl⟩ := rcs_some (Sl.of_row (hp9.at 0 rfl)) (by omega)
      repeat (first | refine WC.seq ?_ | refine WC.reg ?_ | refine WL.pure rfl rfl rfl ?_ | refine WL.nil ?_ | refine WC.skip ?_ | refine WC.block ?_ | refine WC.condT rfl ?_ | refine WC.condF rfl ?_ | refine WL.off rfl rfl rfl ?_ | refine WL.off0 rfl rfl ?_ | refine WC.exit ?_ | refine blk_hit ?_ | refine blk_miss rfl ?_ | refine WC.ret ?_)
      refine WC.mid Unit (fun _ => [(3, .slice oa L.length oc), (5, .slice (some ⟨b1, o1, none⟩) PS.length pc), (7, .int .i64 kk), (8, .int .i64 ff), (9, .slice (some ⟨b2, o2, none⟩) PS.length qc), (10, .int .i64 (i : Nat)), (81, .bool false)])
        (fun _ w' => Hp w w' [Rr (.slice (some ⟨b2, o2, none⟩) PS.length qc) PS, Rr (.slice (some ⟨b1, o1, none⟩) PS.length pc) PS, Rt (.slice ga L.length gc) L, Rt (.slice oa L.length oc) L]) ?_ ?_
      · refine WC.regQ (fun w' => Hp w w' [Rr (.slice (some ⟨b2, o2, none⟩) PS.length qc) PS, Rr (.slice (some ⟨b1, o1, none⟩) PS.length pc) PS, Rt (.slice ga L.length gc) L, Rt (.slice oa L.length oc) L]) mixed (by kernel_rfl) (fun w' hw' => hp9.keep hw') ?_
        repeat (first | refine WQ.pure rfl rfl rfl ?_ | refine WQ.off rfl rfl rfl ?_ | refine WQ.nil ?_)
        refine WQ.ixload2 rfl (fun _ => rfl) rfl rfl rfl rfl rfl rfl rfl hi rfl rfl (fun _ hw => Sl.of_row (hw.at 1 rfl)) hi ?_
        intro pp
        repeat (first | refine WQ.pure rfl rfl rfl ?_ | refine WQ.off rfl rfl rfl ?_ | refine WQ.nil ?_)
        refine WQ.ixload2 rfl (fun _ => rfl) rfl rfl rfl rfl rfl rfl rfl hi rfl rfl (fun _ hw => Sl.of_row (hw.at 0 rfl)) hi ?_
        intro pp2
        refine WQ.val (v := .bool false) rfl rfl (fun _ _ => yEqA rfl rfl (by kernel_rfl) rfl rfl (.inr ⟨rfl, by simp⟩)) ?_
        repeat (first | refine WQ.pure rfl rfl rfl ?_ | refine WQ.off rfl rfl rfl ?_ | refine WQ.nil ?_)
        intro w' hp'
        exact ⟨(), ⟨rfl, rfl, rfl, rfl, rfl, rfl, rfl, rfl⟩, hp'⟩
      · rintro _ e5 w10 hsub hp10
        refine WC.sub hsub ?_
        repeat (first | refine WC.seq ?_ | refine WC.reg ?_ | refine WL.pure rfl rfl rfl ?_ | refine WL.nil ?_ | refine WC.skip ?_ | refine WC.block ?_ | refine WC.condT rfl ?_ | refine WC.condF rfl ?_ | refine WL.off rfl rfl rfl ?_ | refine WL.off0 rfl rfl ?_ | refine WC.exit ?_ | refine blk_hit ?_ | refine blk_miss rfl ?_ | refine WC.ret ?_)
        exact ⟨i + 1, by omega, ⟨rfl, rfl, rfl, rfl, rfl, congrArg (fun z => some (Value.int .i64 z)) step, rfl⟩, by omega, hp10⟩
    repeat (first | refine WC.seq ?_ | refine WC.reg ?_ | refine WL.pure rfl rfl rfl ?_ | refine WL.nil ?_ | refine WC.skip ?_ | refine WC.block ?_ | refine WC.condT rfl ?_ | refine WC.condF rfl ?_ | refine WL.off rfl rfl rfl ?_ | refine WL.off0 rfl rfl ?_ | refine WC.exit ?_ | refine blk_hit ?_ | refine blk_miss rfl ?_ | refine WC.ret ?_)
    refine WL.call rfl rfl rfl rfl rfl ent23 (rClash_any oa oc L (by omega) (hL.mono (by decide)) (sys_dn h1) w9 (Sl.of_row (hp9.at 3 rfl))) ?_
    rintro _ w11 ⟨rfl, hp11⟩
    have hp11 := hp9.comb hp11
    cases hcl : clashM L with
    | none =>
      rw [hcl] at hC
      simp only [if_true, Value.tuple.injEq, Array.mk.injEq, List.cons.injEq, and_true, Value.int.injEq, true_and] at hC
      obtain ⟨rfl, rfl⟩ := hC
      unfold clashV
      repeat (first | refine WC.seq ?_ | refine WC.reg ?_ | refine WL.pure rfl rfl rfl ?_ | refine WL.nil ?_ | refine WC.skip ?_ | refine WC.block ?_ | refine WC.condT rfl ?_ | refine WC.condF rfl ?_ | refine WL.off rfl rfl rfl ?_ | refine WL.off0 rfl rfl ?_ | refine WC.exit ?_ | refine blk_hit ?_ | refine blk_miss rfl ?_ | refine WC.ret ?_)
      refine WL.call rfl rfl rfl rfl rfl ent16 (awake_any w11 (hmx.hp hp11)) ?_
      rintro _ w12 ⟨rfl, hp12⟩
      repeat (first | refine WC.seq ?_ | refine WC.reg ?_ | refine WL.pure rfl rfl rfl ?_ | refine WL.nil ?_ | refine WC.skip ?_ | refine WC.block ?_ | refine WC.condT rfl ?_ | refine WC.condF rfl ?_ | refine WL.off rfl rfl rfl ?_ | refine WL.off0 rfl rfl ?_ | refine WC.exit ?_ | refine blk_hit ?_ | refine blk_miss rfl ?_ | refine WC.ret ?_)
      exact Res.one rfl rfl rfl ⟨rfl, (hp11.comb hp12).nil'⟩
    | some m =>
      rw [hcl] at hC
      simp only [if_true, Value.tuple.injEq, Array.mk.injEq, List.cons.injEq, and_true, Value.int.injEq, true_and] at hC
      obtain ⟨rfl, rfl⟩ := hC
      unfold clashV
      repeat (first | refine WC.seq ?_ | refine WC.reg ?_ | refine WL.pure rfl rfl rfl ?_ | refine WL.nil ?_ | refine WC.skip ?_ | refine WC.block ?_ | refine WC.condT rfl ?_ | refine WC.condF rfl ?_ | refine WL.off rfl rfl rfl ?_ | refine WL.off0 rfl rfl ?_ | refine WC.exit ?_ | refine blk_hit ?_ | refine blk_miss rfl ?_ | refine WC.ret ?_)
      refine WL.split 101 rfl (fun h3 => ?_) (fun h3 => absurd h3 (by simp))
      repeat (first | refine WC.seq ?_ | refine WC.reg ?_ | refine WL.pure rfl rfl rfl ?_ | refine WL.nil ?_ | refine WC.skip ?_ | refine WC.block ?_ | refine WC.condT rfl ?_ | refine WC.condF rfl ?_ | refine WL.off rfl rfl rfl ?_ | refine WL.off0 rfl rfl ?_ | refine WC.exit ?_ | refine blk_hit ?_ | refine blk_miss rfl ?_ | refine WC.ret ?_)
      refine WL.call rfl rfl rfl rfl rfl ent16 (awake_any w11 (hmx.hp hp11)) ?_
      rintro _ w12 ⟨rfl, hp12⟩
      repeat (first | refine WC.seq ?_ | refine WC.reg ?_ | refine WL.pure rfl rfl rfl ?_ | refine WL.nil ?_ | refine WC.skip ?_ | refine WC.block ?_ | refine WC.condT rfl ?_ | refine WC.condF rfl ?_ | refine WL.off rfl rfl rfl ?_ | refine WL.off0 rfl rfl ?_ | refine WC.exit ?_ | refine blk_hit ?_ | refine blk_miss rfl ?_ | refine WC.ret ?_)
      exact Res.one rfl rfl rfl ⟨rfl, (hp11.comb hp12).nil'⟩
end Go.Proofs.YtoghnhbjdnjghaaGreat
