/- The reference's Pairs. -/
import Derived.Test.YtoghnhbjdnjghaaGreatV24
namespace Go.Words
open Go.W
theorem suf_take {a p : Str} {k : Nat} (hp : p.length = k) : p.isSuffixOf a = decide (a.drop (a.length - k) = p) := by
  rw [Bool.eq_iff_iff, List.isSuffixOf_iff_suffix, decide_eq_true_iff, List.suffix_iff_eq_drop, hp]
  exact eq_comm
theorem overA_eq {a b : Rl} {same : Bool} {k : Nat} (h1 : k < a.1.length) (h2 : k < b.1.length) : overA a b same k = if (decide (a.1.drop (a.1.length - (k + 1)) = b.1.take (k + 1)) && !(same && k + 1 == a.1.length)) = true then [(a.2 ++ b.1.drop (k + 1), a.1.take (a.1.length - (k + 1)) ++ b.2)] else [] := by
  unfold overA
  rw [suf_take (p := b.1.take (k + 1)) (k := k + 1) (by rw [List.length_take]; omega)]
  have e1 : replM (a.1 ++ b.1.drop (k + 1)) 0 a = a.2 ++ b.1.drop (k + 1) := by
    unfold replM
    rw [List.take_zero, Nat.zero_add, List.drop_left' rfl, List.nil_append]
  have e2 : replM (a.1 ++ b.1.drop (k + 1)) (a.1.length - (k + 1)) b = a.1.take (a.1.length - (k + 1)) ++ b.2 := by
    unfold replM
    rw [List.take_append_of_le_length (by omega), List.drop_of_length_le (by rw [List.length_append, List.length_drop]; omega), List.append_nil]
  rw [e1, e2]
end Go.Words
namespace Go.Proofs.YtoghnhbjdnjghaaGreat
open Go.W Go.Words Go.RowKit
set_option maxRecDepth 100000
attribute [local irreducible] WC WL WQ WS WH

set_option maxHeartbeats 2000000 in
theorem rPairs_any (a0 : Option Addr) (cap : Nat) (l : List Rl) (hl : l.length ≤ 1000) (hm : Sm 1000 l) (w : World) (hs : Sl w a0 (rcs l)) :
    Ret Tryz.prog 22 [.slice a0 l.length cap] w fun u w' => ∃ pa pc, u = .slice pa (pairsM l).length pc ∧ Hp w w' [Rr u (pairsM l)] := by
  refine enter Tryz.func22 rfl rfl ⟨rfl, rfl⟩ rfl ?_
  repeat (first | refine WC.seq ?_ | refine WC.reg ?_ | refine WL.pure rfl rfl rfl ?_ | refine WL.nil ?_ | refine WC.skip ?_ | refine WC.block ?_ | refine WC.condT rfl ?_ | refine WC.condF rfl ?_ | refine WL.off rfl rfl rfl ?_ | refine WL.off0 rfl rfl ?_ | refine WC.exit ?_ | refine blk_hit ?_ | refine blk_miss rfl ?_ | refine WC.ret ?_)
  refine WC.loop (Nat × Option Addr × Nat × List Rl) (fun (i, pa, pc, O) => [(0, .slice a0 l.length cap), (3, .slice pa O.length pc), (4, .int .i64 (i : Nat))])
    (fun (i, pa, pc, O) w' => i ≤ l.length ∧ O = (List.range i).flatMap (pairsI l) ∧ Hp w w' [Rr (.slice pa O.length pc) O]) (fun (i, _) => l.length - i) (0, none, 0, []) ⟨rfl, rfl, rfl, rfl⟩ ⟨Nat.zero_le _, rfl, (Hp.start w).nilrow _ _⟩ ?_
  rintro ⟨i, pa, pc, O⟩ w1 ⟨hi, hO, hp1⟩
  have hol := fm_len (pairsI l) (fun k => Nat.le_trans (pairsI_len hm k) (Nat.mul_le_mul_right 2000 hl)) i
  have hol' : i * (1000 * 2000) ≤ 1000 * (1000 * 2000) := Nat.mul_le_mul_right _ (by omega)
  rw [← hO] at hol
  have hsucc := fm_succ (pairsI l) i
  rw [← hO] at hsucc
  repeat (first | refine WC.seq ?_ | refine WC.reg ?_ | refine WL.pure rfl rfl rfl ?_ | refine WL.nil ?_ | refine WC.skip ?_ | refine WC.block ?_ | refine WC.condT rfl ?_ | refine WC.condF rfl ?_ | refine WL.off rfl rfl rfl ?_ | refine WL.off0 rfl rfl ?_ | refine WC.exit ?_ | refine blk_hit ?_ | refine blk_miss rfl ?_ | refine WC.ret ?_)
  refine WC.cond rfl (fun hc => ?_) (fun hc => ?_)
  · have hi : i < l.length := by have := of_decide_eq_true hc; omega
    have step := wrap_succ hi (by omega)
    obtain ⟨b0, o0, rfl⟩ := rcs_some hs (by omega)
    repeat (first | refine WC.seq ?_ | refine WC.reg ?_ | refine WL.pure rfl rfl rfl ?_ | refine WL.nil ?_ | refine WC.skip ?_ | refine WC.block ?_ | refine WC.condT rfl ?_ | refine WC.condF rfl ?_ | refine WL.off rfl rfl rfl ?_ | refine WL.off0 rfl rfl ?_ | refine WC.exit ?_ | refine blk_hit ?_ | refine blk_miss rfl ?_ | refine WC.ret ?_)
    refine WC.loop (Nat × Option Addr × Nat × List Rl) (fun (j, pa, pc, O2) => [(0, .slice (some ⟨b0, o0, none⟩) l.length cap), (3, .slice pa O2.length pc), (4, .int .i64 (i : Nat)), (5, .int .i64 (j : Nat))])
      (fun (j, pa, pc, O2) w' => j ≤ l.length ∧ O2 = O ++ (List.range j).flatMap (pairI l i) ∧ Hp w w' [Rr (.slice pa O2.length pc) O2]) (fun (j, _) => l.length - j) (0, pa, pc, O) ⟨rfl, rfl, rfl, rfl, rfl⟩ ⟨Nat.zero_le _, by simp, hp1⟩ ?_
    clear hp1
    rintro ⟨j, pa, pc, O2⟩ w2 ⟨hj, hO2, hp2⟩
    have hol2 := fm_len (pairI l i) (fun k => pairI_len hm i k) j
    have hol2' : j * (1000 + 1000) ≤ 1000 * 2000 := Nat.mul_le_mul_right _ (by omega)
    have hOl : O2.length ≤ 3000000000 := by rw [hO2, List.length_append]; omega
    repeat (first | refine WC.seq ?_ | refine WC.reg ?_ | refine WL.pure rfl rfl rfl ?_ | refine WL.nil ?_ | refine WC.skip ?_ | refine WC.block ?_ | refine WC.condT rfl ?_ | refine WC.condF rfl ?_ | refine WL.off rfl rfl rfl ?_ | refine WL.off0 rfl rfl ?_ | refine WC.exit ?_ | refine blk_hit ?_ | refine blk_miss rfl ?_ | refine WC.ret ?_)
    refine WC.cond rfl (fun hc => ?_) (fun hc => ?_)
    · have hj : j < l.length := by have := of_decide_eq_true hc; omega
      have stepj := wrap_succ hj (by omega)
      have hsj := fm_succ (pairI l i) j
      have hpij : pairI l i j = overM l[i] l[j] (i == j) := by unfold pairI; rw [getD_get hi, getD_get hj]
      have hza := hm.at_ hi
      have hzb := hm.at_ hj
      repeat (first | refine WC.seq ?_ | refine WC.skip ?_ | refine WC.block ?_)
      refine WC.mid (Nat × Nat) (fun (b6, b7) => [(0, .slice (some ⟨b0, o0, none⟩) l.length cap), (3, .slice pa O2.length pc), (4, .int .i64 (i : Nat)), (5, .int .i64 (j : Nat)), (6, .pointer (some ⟨b6, 0, none⟩)), (7, .pointer (some ⟨b7, 0, none⟩))])
        (fun (b6, b7) w' => Hp w w' [Bx b6 l[i], Bx b7 l[j], Rr (.slice pa O2.length pc) O2]) ?_ ?_
      · refine WC.regH (fun w' => Hp w w' []) mixed (by kernel_rfl) (fun w3 hw3 hh3 => ?_)
        have hp3 := hp2.keep hw3
        refine WH.pure 0 (by kernel_rfl) rfl (by kernel_rfl) rfl rfl rfl (hp3.nil') ?_
        refine WH.pure 1 (by kernel_rfl) rfl (by kernel_rfl) rfl rfl rfl (hp3.nil') ?_
        refine WH.ixS 2 (by kernel_rfl) rfl (by kernel_rfl) rfl rfl rfl rfl rfl rfl hi hp3.nil' ?_
        refine WH.take 3 (by kernel_rfl) rfl (by kernel_rfl) rfl rfl (fun w' h => run_loadN (cs := rc l[i]) rfl rfl rfl rfl (fun q v hq => by rw [Addr.add_lit]; exact rcs_cell (hs.hp h) hi hq)) hp3.nil' ?_
        refine WH.pure 4 (by kernel_rfl) rfl (by kernel_rfl) rfl rfl rfl (hp3.nil') ?_
        refine WH.pure 5 (by kernel_rfl) rfl (by kernel_rfl) rfl rfl rfl (hp3.nil') ?_
        refine WH.ixS 6 (by kernel_rfl) rfl (by kernel_rfl) rfl rfl rfl rfl rfl rfl hj hp3.nil' ?_
        refine WH.take 7 (by kernel_rfl) rfl (by kernel_rfl) rfl rfl (fun w' h => run_loadN (cs := rc l[j]) rfl rfl rfl rfl (fun q v hq => by rw [Addr.add_lit]; exact rcs_cell (hs.hp h) hj hq)) hp3.nil' ?_
        refine WH.two 8 9 rfl rfl (by kernel_rfl) ?_ ?_
        · refine WL.alloc rfl rfl rfl ?_
          intro b6 w4 hb4
          have hp4 := hp3.new hb4
          refine WL.nil ⟨hp4.nil', ?_⟩
          refine WH.one 9 rfl (by kernel_rfl) ?_
          refine WL.alloc rfl rfl rfl ?_
          intro b7 w5 hb5
          have hp5 := hp4.new hb5
          refine WL.nil ⟨hp5.nil', ?_⟩
          refine WH.one 10 rfl (by kernel_rfl) ?_
          refine WL.storeN (vs := (rc l[i]).toArray) (arr2 := (rc l[i]).toArray) rfl rfl rfl rfl rfl (rc_one _) (hp5.obj 1 rfl) (Nat.le_refl 2) rfl (fun w6 hw6 => ?_)
          have hp6 := hp5.set 1 rfl rfl hw6
          refine WL.nil ⟨hp6.nil', ?_⟩
          refine WH.one 11 rfl (by kernel_rfl) ?_
          refine WL.storeN (vs := (rc l[j]).toArray) (arr2 := (rc l[j]).toArray) rfl rfl rfl rfl rfl (rc_one _) (hp6.obj 0 rfl) (Nat.le_refl 2) rfl (fun w7 hw7 => ?_)
          have hp7 : Hp w w7 [Bx b7 l[j], Bx b6 l[i], Rr (.slice pa O2.length pc) O2] := hp6.set 0 rfl rfl hw7
          refine WL.nil ⟨hp7.nil', ?_⟩
          refine WH.done (by kernel_rfl) ?_
          exact ⟨(b6, b7), ⟨rfl, rfl, rfl, rfl, rfl, rfl, rfl⟩, hp7.swap⟩
        · refine WL.alloc rfl rfl rfl ?_
          intro b7 w4 hb4
          have hp4 := hp3.new hb4
          refine WL.nil ⟨hp4.nil', ?_⟩
          refine WH.one 8 rfl (by kernel_rfl) ?_
          refine WL.alloc rfl rfl rfl ?_
          intro b6 w5 hb5
          have hp5 := hp4.new hb5
          refine WL.nil ⟨hp5.nil', ?_⟩
          refine WH.one 10 rfl (by kernel_rfl) ?_
          refine WL.storeN (vs := (rc l[i]).toArray) (arr2 := (rc l[i]).toArray) rfl rfl rfl rfl rfl (rc_one _) (hp5.obj 0 rfl) (Nat.le_refl 2) rfl (fun w6 hw6 => ?_)
          have hp6 := hp5.set 0 rfl rfl hw6
          refine WL.nil ⟨hp6.nil', ?_⟩
          refine WH.one 11 rfl (by kernel_rfl) ?_
          refine WL.storeN (vs := (rc l[j]).toArray) (arr2 := (rc l[j]).toArray) rfl rfl rfl rfl rfl (rc_one _) (hp6.obj 1 rfl) (Nat.le_refl 2) rfl (fun w7 hw7 => ?_)
          have hp7 : Hp w w7 [Bx b6 l[i], Bx b7 l[j], Rr (.slice pa O2.length pc) O2] := hp6.set 1 rfl rfl hw7
          refine WL.nil ⟨hp7.nil', ?_⟩
          refine WH.done (by kernel_rfl) ?_
          exact ⟨(b6, b7), ⟨rfl, rfl, rfl, rfl, rfl, rfl, rfl⟩, hp7⟩
      · rintro ⟨b6, b7⟩ e3 w3 hsub hp3
        refine WC.sub hsub ?_
        clear hp2
        generalize l[i] = a at *
        generalize l[j] = b at *
        refine WC.seq ?_
        refine WC.mid (Option Addr × Nat × List Rl) (fun (pa, pc, O3) => [(0, .slice (some ⟨b0, o0, none⟩) l.length cap), (3, .slice pa O3.length pc), (4, .int .i64 (i : Nat)), (5, .int .i64 (j : Nat)), (6, .pointer (some ⟨b6, 0, none⟩)), (7, .pointer (some ⟨b7, 0, none⟩))])
          (fun (pa, pc, O3) w' => O3.length ≤ 3000001000 ∧ O3 = O2 ++ (List.range (min a.1.length b.1.length)).flatMap (overA a b (i == j)) ∧ Hp w w' [Bx b6 a, Bx b7 b, Rr (.slice pa O3.length pc) O3]) ?_ ?_
        · repeat (first | refine WC.seq ?_ | refine WC.reg ?_ | refine WL.pure rfl rfl rfl ?_ | refine WL.nil ?_ | refine WC.skip ?_ | refine WC.block ?_ | refine WC.condT rfl ?_ | refine WC.condF rfl ?_ | refine WL.off rfl rfl rfl ?_ | refine WL.off0 rfl rfl ?_ | refine WC.exit ?_ | refine blk_hit ?_ | refine blk_miss rfl ?_ | refine WC.ret ?_)
          refine WC.loop (Nat × Option Addr × Nat × List Rl) (fun (k, pa, pc, O3) => [(0, .slice (some ⟨b0, o0, none⟩) l.length cap), (3, .slice pa O3.length pc), (4, .int .i64 (i : Nat)), (5, .int .i64 (j : Nat)), (6, .pointer (some ⟨b6, 0, none⟩)), (7, .pointer (some ⟨b7, 0, none⟩)), (8, .int .i64 (k + 1 : Nat))])
            (fun (k, pa, pc, O3) w' => k ≤ min a.1.length b.1.length ∧ O3.length ≤ 3000000000 + k ∧ O3 = O2 ++ (List.range k).flatMap (overA a b (i == j)) ∧ Hp w w' [Bx b6 a, Bx b7 b, Rr (.slice pa O3.length pc) O3]) (fun (k, _) => min a.1.length b.1.length - k) (0, pa, pc, O2) ⟨rfl, rfl, rfl, rfl, rfl, rfl, rfl, rfl⟩ ⟨Nat.zero_le _, by omega, by simp, hp3⟩ ?_
          clear hp3
          rintro ⟨k, pa, pc, O3⟩ w4 ⟨hk, hl3, hO3, hp4⟩
          have hsk := fm_succ (overA a b (i == j)) k
          have hexit : k = min a.1.length b.1.length → O3 = O2 ++ (List.range (min a.1.length b.1.length)).flatMap (overA a b (i == j)) := fun h => by rw [hO3, h]
          repeat (first | refine WC.seq ?_ | refine WC.reg ?_ | refine WL.pure rfl rfl rfl ?_ | refine WL.nil ?_ | refine WC.skip ?_ | refine WC.block ?_ | refine WC.condT rfl ?_ | refine WC.condF rfl ?_ | refine WL.off rfl rfl rfl ?_ | refine WL.off0 rfl rfl ?_ | refine WC.exit ?_ | refine blk_hit ?_ | refine blk_miss rfl ?_ | refine WC.ret ?_)
          refine WL.loadB rfl rfl rfl rfl rfl (hp4.obj 0 rfl) (j := 0) rfl ?_
          repeat (first | refine WC.seq ?_ | refine WC.reg ?_ | refine WL.pure rfl rfl rfl ?_ | refine WL.nil ?_ | refine WC.skip ?_ | refine WC.block ?_ | refine WC.condT rfl ?_ | refine WC.condF rfl ?_ | refine WL.off rfl rfl rfl ?_ | refine WL.off0 rfl rfl ?_ | refine WC.exit ?_ | refine blk_hit ?_ | refine blk_miss rfl ?_ | refine WC.ret ?_)
          refine WL.split 35 rfl (fun h1 => ?_) (fun h1 => ?_)
          · have h1 : k < a.1.length := by have := of_decide_eq_true h1; rw [sb_size] at this; omega
            repeat (first | refine WC.seq ?_ | refine WC.reg ?_ | refine WL.pure rfl rfl rfl ?_ | refine WL.nil ?_ | refine WC.skip ?_ | refine WC.block ?_ | refine WC.condT rfl ?_ | refine WC.condF rfl ?_ | refine WL.off rfl rfl rfl ?_ | refine WL.off0 rfl rfl ?_ | refine WC.exit ?_ | refine blk_hit ?_ | refine blk_miss rfl ?_ | refine WC.ret ?_)
            refine WL.loadB rfl rfl rfl rfl rfl (hp4.obj 1 rfl) (j := 0) rfl ?_
            repeat (first | refine WC.seq ?_ | refine WC.reg ?_ | refine WL.pure rfl rfl rfl ?_ | refine WL.nil ?_ | refine WC.skip ?_ | refine WC.block ?_ | refine WC.condT rfl ?_ | refine WC.condF rfl ?_ | refine WL.off rfl rfl rfl ?_ | refine WL.off0 rfl rfl ?_ | refine WC.exit ?_ | refine blk_hit ?_ | refine blk_miss rfl ?_ | refine WC.ret ?_)
            refine WC.cond rfl (fun h2 => ?_) (fun h2 => ?_)
            · have h2 : k < b.1.length := by have := of_decide_eq_true h2; rw [sb_size] at this; omega
              have hov := overA_eq (same := i == j) h1 h2
              have e1 : IntKind.i64.wrap (((sb a.1).size : Int) - ((k + 1 : Nat) : Int)) = ((a.1.length - (k + 1) : Nat) : Int) := by rw [sb_size, wrap_i64_in (by omega) (by omega)]; omega
              have stepk : IntKind.i64.wrap (((k + 1 : Nat) : Int) + 1) = ((k + 1 + 1 : Nat) : Int) := by rw [wrap_i64_in (by omega) (by omega)]; omega
              repeat (first | refine WC.seq ?_ | refine WC.reg ?_ | refine WL.pure rfl rfl rfl ?_ | refine WL.nil ?_ | refine WC.skip ?_ | refine WC.block ?_ | refine WC.condT rfl ?_ | refine WC.condF rfl ?_ | refine WL.off rfl rfl rfl ?_ | refine WL.off0 rfl rfl ?_ | refine WC.exit ?_ | refine blk_hit ?_ | refine blk_miss rfl ?_ | refine WC.ret ?_)
              refine WC.mid Bool (fun q => [(0, .slice (some ⟨b0, o0, none⟩) l.length cap), (3, .slice pa O3.length pc), (4, .int .i64 (i : Nat)), (5, .int .i64 (j : Nat)), (6, .pointer (some ⟨b6, 0, none⟩)), (7, .pointer (some ⟨b7, 0, none⟩)), (8, .int .i64 (k + 1 : Nat)), (69, .bool q)]) (fun q w' => q = (decide (a.1.drop (a.1.length - (k + 1)) = b.1.take (k + 1)) && !((i == j) && k + 1 == a.1.length)) ∧ Hp w w' [Bx b6 a, Bx b7 b, Rr (.slice pa O3.length pc) O3]) ?_ ?_
              · refine WC.regQ (fun w' => Hp w w' [Bx b6 a, Bx b7 b, Rr (.slice pa O3.length pc) O3]) mixed (by kernel_rfl) (fun w' hw' => hp4.keep hw') ?_
                have ex : (a.1.drop (a.1.length - (k + 1))).take (a.1.length - (a.1.length - (k + 1))) = a.1.drop (a.1.length - (k + 1)) := List.take_of_length_le (by rw [List.length_drop]; omega)
                have ey : (b.1.drop 0).take (k + 1 - 0) = b.1.take (k + 1) := rfl
                have hij : (((i : Nat) : Int) == ((j : Nat) : Int)) = (i == j) := by rw [Bool.eq_iff_iff, beq_iff_eq, beq_iff_eq]; omega
                have hkn : (((k + 1 : Nat) : Int) == (((sb a.1).size : Nat) : Int)) = (k + 1 == a.1.length) := by rw [sb_size, Bool.eq_iff_iff, beq_iff_eq, beq_iff_eq]; omega
                repeat (first | refine WQ.pure rfl rfl rfl ?_ | refine WQ.off rfl rfl rfl ?_ | refine WQ.nil ?_)
                refine WQ.load rfl rfl rfl rfl rfl (fun w' h => cell_of_obj (j := 0) (h.obj 0 rfl) rfl) ?_
                repeat (first | refine WQ.pure rfl rfl rfl ?_ | refine WQ.off rfl rfl rfl ?_ | refine WQ.nil ?_)
                refine WQ.load rfl rfl rfl rfl rfl (fun w' h => cell_of_obj (j := 0) (h.obj 0 rfl) rfl) ?_
                repeat (first | refine WQ.pure rfl rfl rfl ?_ | refine WQ.off rfl rfl rfl ?_ | refine WQ.nil ?_)
                refine WQ.known (d := 50) (congrArg (fun z => some (Value.int .i64 z)) e1) ?_
                refine WQ.sSl (a := a.1.length - (k + 1)) (b := a.1.length) rfl rfl rfl rfl rfl rfl (by omega) (Nat.le_refl _) ?_
                rw [ex]
                repeat (first | refine WQ.pure rfl rfl rfl ?_ | refine WQ.off rfl rfl rfl ?_ | refine WQ.nil ?_)
                refine WQ.load rfl rfl rfl rfl rfl (fun w' h => cell_of_obj (j := 0) (h.obj 1 rfl) rfl) ?_
                repeat (first | refine WQ.pure rfl rfl rfl ?_ | refine WQ.off rfl rfl rfl ?_ | refine WQ.nil ?_)
                refine WQ.sSl (a := 0) (b := k + 1) rfl rfl rfl rfl rfl rfl (Nat.zero_le _) (by omega) ?_
                rw [ey]
                refine WQ.sCmp (op := .eql) rfl rfl rfl rfl rfl ?_
                repeat (first | refine WQ.pure rfl rfl rfl ?_ | refine WQ.off rfl rfl rfl ?_ | refine WQ.nil ?_)
                refine WQ.split 57 rfl (fun h5 => ?_) (fun h5 => ?_)
                · rw [h5, Bool.true_and]
                  repeat (first | refine WQ.pure rfl rfl rfl ?_ | refine WQ.off rfl rfl rfl ?_ | refine WQ.nil ?_)
                  refine WQ.split 61 rfl (fun h6 => ?_) (fun h6 => ?_)
                  · rw [hij] at h6
                    rw [h6, Bool.true_and]
                    repeat (first | refine WQ.pure rfl rfl rfl ?_ | refine WQ.off rfl rfl rfl ?_ | refine WQ.nil ?_)
                    refine WQ.load rfl rfl rfl rfl rfl (fun w' h => cell_of_obj (j := 0) (h.obj 0 rfl) rfl) ?_
                    repeat (first | refine WQ.pure rfl rfl rfl ?_ | refine WQ.off rfl rfl rfl ?_ | refine WQ.nil ?_)
                    intro w' hp'
                    exact ⟨_, ⟨rfl, rfl, rfl, rfl, rfl, rfl, rfl, rfl, rfl⟩, by rw [hkn], hp'⟩
                  · rw [hij] at h6
                    rw [h6, Bool.false_and]
                    repeat (first | refine WQ.pure rfl rfl rfl ?_ | refine WQ.off rfl rfl rfl ?_ | refine WQ.nil ?_)
                    intro w' hp'
                    exact ⟨true, ⟨rfl, rfl, rfl, rfl, rfl, rfl, rfl, rfl, rfl⟩, rfl, hp'⟩
                · rw [h5, Bool.false_and]
                  repeat (first | refine WQ.pure rfl rfl rfl ?_ | refine WQ.off rfl rfl rfl ?_ | refine WQ.nil ?_)
                  intro w' hp'
                  exact ⟨false, ⟨rfl, rfl, rfl, rfl, rfl, rfl, rfl, rfl, rfl⟩, rfl, hp'⟩
              · rintro q e5 w5 hsub5 ⟨hq, hp5⟩
                refine WC.sub hsub5 ?_
                rw [← hq] at hov
                refine WC.cond rfl (fun h7 => ?_) (fun h7 => ?_)
                · rw [if_pos h7] at hov
                  rw [hov] at hsk
                  have hX : ∀ w', Hp w w' [Bx b6 a, Bx b7 b, Rr (.slice pa O3.length pc) O3] → Hp w w' [Bx b6 a, Bx b7 b] := fun w' h => h.pick [0, 1] (by decide)
                  generalize hP : (a.2 ++ b.1.drop (k + 1), a.1.take (a.1.length - (k + 1)) ++ b.2) = P at *
                  repeat (first | refine WC.seq ?_ | refine WC.skip ?_ | refine WC.block ?_)
                  refine WC.mid (Option Addr × Nat) (fun (pa, pc) => [(0, .slice (some ⟨b0, o0, none⟩) l.length cap), (3, .slice pa (O3 ++ [P]).length pc), (4, .int .i64 (i : Nat)), (5, .int .i64 (j : Nat)), (6, .pointer (some ⟨b6, 0, none⟩)), (7, .pointer (some ⟨b7, 0, none⟩)), (8, .int .i64 (k + 1 : Nat))]) (fun (pa, pc) w' => Hp w w' [Bx b6 a, Bx b7 b, Rr (.slice pa (O3 ++ [P]).length pc) (O3 ++ [P])]) ?_ ?_
                  · refine WC.regH (fun w' => Hp w w' [Bx b6 a, Bx b7 b]) mixed (by kernel_rfl) (fun w6 hw6 hh6 => ?_)
                    have hp6 := hp5.keep hw6
                    have hy := hX _ hp6
                    refine WH.pure 0 (by kernel_rfl) rfl (by kernel_rfl) rfl rfl rfl (hy) ?_
                    refine WH.pure 1 (by kernel_rfl) rfl (by kernel_rfl) rfl rfl rfl (hy) ?_
                    refine WH.load 2 (by kernel_rfl) rfl (by kernel_rfl) rfl rfl rfl rfl rfl (fun w' h => cell_of_obj (j := 1) (h.obj 0 rfl) rfl) hy ?_
                    refine WH.pure 3 (by kernel_rfl) rfl (by kernel_rfl) rfl rfl rfl (hy) ?_
                    refine WH.load 4 (by kernel_rfl) rfl (by kernel_rfl) rfl rfl rfl rfl rfl (fun w' h => cell_of_obj (j := 0) (h.obj 1 rfl) rfl) hy ?_
                    refine WH.pure 5 (by kernel_rfl) rfl (by kernel_rfl) rfl rfl rfl (hy) ?_
                    refine WH.sSl (a := k + 1) (b := b.1.length) 6 (by kernel_rfl) rfl (by kernel_rfl) rfl rfl rfl rfl rfl rfl (by omega) (Nat.le_refl _) hy ?_
                    refine WH.sCat 7 (by kernel_rfl) rfl (by kernel_rfl) rfl rfl rfl rfl (by simp only [List.length_take, List.length_drop]; omega) hy ?_
                    refine WH.pure 8 (by kernel_rfl) rfl (by kernel_rfl) rfl rfl rfl (hy) ?_
                    refine WH.load 9 (by kernel_rfl) rfl (by kernel_rfl) rfl rfl rfl rfl rfl (fun w' h => cell_of_obj (j := 0) (h.obj 0 rfl) rfl) hy ?_
                    refine WH.pure 10 (by kernel_rfl) rfl (by kernel_rfl) rfl rfl rfl (hy) ?_
                    refine WH.load 11 (by kernel_rfl) rfl (by kernel_rfl) rfl rfl rfl rfl rfl (fun w' h => cell_of_obj (j := 0) (h.obj 0 rfl) rfl) hy ?_
                    refine WH.pure 12 (by kernel_rfl) rfl (by kernel_rfl) rfl rfl rfl (hy) ?_
                    refine WH.pure 13 (by kernel_rfl) rfl (by kernel_rfl) rfl rfl rfl (hy) ?_
                    refine WH.pure 14 (by kernel_rfl) rfl (by kernel_rfl) rfl rfl rfl (hy) ?_
                    refine WH.known (d := 84) (congrArg (fun z => some (Value.int .i64 z)) e1) ?_
                    refine WH.sSl (a := 0) (b := a.1.length - (k + 1)) 15 (by kernel_rfl) rfl (by kernel_rfl) rfl rfl rfl rfl rfl rfl (Nat.zero_le _) (by omega) hy ?_
                    refine WH.pure 16 (by kernel_rfl) rfl (by kernel_rfl) rfl rfl rfl (hy) ?_
                    refine WH.load 17 (by kernel_rfl) rfl (by kernel_rfl) rfl rfl rfl rfl rfl (fun w' h => cell_of_obj (j := 1) (h.obj 1 rfl) rfl) hy ?_
                    refine WH.sCat 18 (by kernel_rfl) rfl (by kernel_rfl) rfl rfl rfl rfl (by simp only [List.length_take, List.length_drop]; omega) hy ?_
                    have eP : (a.2 ++ (b.1.drop (k + 1)).take (b.1.length - (k + 1)), (a.1.drop 0).take (a.1.length - (k + 1) - 0) ++ b.2) = P := by
                      rw [← hP, List.take_of_length_le (i := b.1.length - (k + 1)) (by rw [List.length_drop]; omega)]
                      rfl
                    refine WH.one 19 rfl (by kernel_rfl) ?_
                    refine WL.buildA (cs := [st P.1, st P.2]) rfl rfl rfl rfl rfl (by rw [← eP]; rfl) (WL.nil ⟨hy, ?_⟩)
                    refine WH.one 20 rfl (by kernel_rfl) ?_
                    refine WL.buildS (cs := rc P) rfl rfl rfl rfl rfl rfl rfl rfl rfl ?_
                    intro bq w7 hb7
                    have hp7 := hp6.new hb7
                    refine WL.nil ⟨(hX _ hp7.tail), ?_⟩
                    refine WH.one 21 rfl (by kernel_rfl) ?_
                    refine WL.append 3 hp7 rfl rfl rfl rfl rfl (by decide) rfl rfl rfl (news := rc P) (Sl.of_obj (hp7.obj 0 rfl) (fun q u hq => by simpa [rc] using hq)) rfl (rcs_cells [P]) (by unfold maxLen; omega) (by show (O3.length + 1) * 32 ≤ _; omega) ?_
                    intro ra rc1 w8 hp8 hg8
                    have eO : (O3 ++ [P]).length = O3.length + 1 := by rw [List.length_append]; rfl
                    have hp9 : Hp w w8 [Bx b6 a, Bx b7 b, Rr (.slice ra (O3 ++ [P]).length rc1) (O3 ++ [P])] := by
                      unfold Rr
                      rw [eO, rcs_app]
                      exact hp8.tail
                    refine WL.nil ⟨hp9.pick [0, 1] (by decide), ?_⟩
                    refine WH.pure 22 (by kernel_rfl) rfl (by kernel_rfl) rfl rfl rfl (hp9.pick [0, 1] (by decide)) ?_
                    refine WH.done (by kernel_rfl) ?_
                    exact ⟨(ra, rc1), ⟨rfl, congrArg (fun z : Nat => some (Value.slice ra z rc1)) eO.symm, rfl, rfl, rfl, rfl, rfl, rfl⟩, hp9⟩
                  · rintro ⟨ra, rc1⟩ e8 w8 hsub8 hp8
                    refine WC.sub hsub8 ?_
                    repeat (first | refine WC.seq ?_ | refine WC.reg ?_ | refine WL.pure rfl rfl rfl ?_ | refine WL.nil ?_ | refine WC.skip ?_ | refine WC.block ?_ | refine WC.condT rfl ?_ | refine WC.condF rfl ?_ | refine WL.off rfl rfl rfl ?_ | refine WL.off0 rfl rfl ?_ | refine WC.exit ?_ | refine blk_hit ?_ | refine blk_miss rfl ?_ | refine WC.ret ?_)
                    exact ⟨(k + 1, ra, rc1, O3 ++ [P]), (by show min a.1.length b.1.length - (k + 1) < min a.1.length b.1.length - k; omega), ⟨rfl, rfl, rfl, rfl, rfl, rfl, congrArg (fun z => some (Value.int .i64 z)) stepk, rfl⟩, by omega, by rw [List.length_append]; show O3.length + 1 ≤ _; omega, by rw [hsk, ← List.append_assoc, ← hO3], hp8⟩
                · rw [if_neg (by rw [h7]; decide)] at hov
                  rw [hov, List.append_nil] at hsk
                  repeat (first | refine WC.seq ?_ | refine WC.reg ?_ | refine WL.pure rfl rfl rfl ?_ | refine WL.nil ?_ | refine WC.skip ?_ | refine WC.block ?_ | refine WC.condT rfl ?_ | refine WC.condF rfl ?_ | refine WL.off rfl rfl rfl ?_ | refine WL.off0 rfl rfl ?_ | refine WC.exit ?_ | refine blk_hit ?_ | refine blk_miss rfl ?_ | refine WC.ret ?_)
                  exact ⟨(k + 1, pa, pc, O3), (by show min a.1.length b.1.length - (k + 1) < min a.1.length b.1.length - k; omega), ⟨rfl, rfl, rfl, rfl, rfl, rfl, congrArg (fun z => some (Value.int .i64 z)) stepk, rfl⟩, by omega, by omega, by rw [hsk]; exact hO3, hp5⟩
            · have h2 : k = min a.1.length b.1.length := by have := of_decide_eq_false h2; rw [sb_size] at this; omega
              repeat (first | refine WC.seq ?_ | refine WC.reg ?_ | refine WL.pure rfl rfl rfl ?_ | refine WL.nil ?_ | refine WC.skip ?_ | refine WC.block ?_ | refine WC.condT rfl ?_ | refine WC.condF rfl ?_ | refine WL.off rfl rfl rfl ?_ | refine WL.off0 rfl rfl ?_ | refine WC.exit ?_ | refine blk_hit ?_ | refine blk_miss rfl ?_ | refine WC.ret ?_)
              exact ⟨(pa, pc, O3), ⟨rfl, rfl, rfl, rfl, rfl, rfl, rfl⟩, by omega, hexit h2, hp4⟩
          · have h1 : k = min a.1.length b.1.length := by have := of_decide_eq_false h1; rw [sb_size] at this; omega
            repeat (first | refine WC.seq ?_ | refine WC.reg ?_ | refine WL.pure rfl rfl rfl ?_ | refine WL.nil ?_ | refine WC.skip ?_ | refine WC.block ?_ | refine WC.condT rfl ?_ | refine WC.condF rfl ?_ | refine WL.off rfl rfl rfl ?_ | refine WL.off0 rfl rfl ?_ | refine WC.exit ?_ | refine blk_hit ?_ | refine blk_miss rfl ?_ | refine WC.ret ?_)
            exact ⟨(pa, pc, O3), ⟨rfl, rfl, rfl, rfl, rfl, rfl, rfl⟩, by omega, hexit h1, hp4⟩
        · clear hp3
          rintro ⟨pa, pc, O3⟩ e4 w4 hsub4 ⟨hl3, hO3, hp4⟩
          refine WC.sub hsub4 ?_
          have hfin : ∀ O4 : List Rl, O4 = O3 ++ (if (i == j) = true then [] else (List.range (a.1.length - b.1.length - 1)).flatMap (overC a b)) → O4 = O ++ (List.range (j + 1)).flatMap (pairI l i) := fun O4 h => by
            rw [h, hO3, hsj, hpij, hO2]
            unfold overM
            rw [List.append_assoc, List.append_assoc]
          repeat (first | refine WC.seq ?_ | refine WC.reg ?_ | refine WL.pure rfl rfl rfl ?_ | refine WL.nil ?_ | refine WC.skip ?_ | refine WC.block ?_ | refine WC.condT rfl ?_ | refine WC.condF rfl ?_ | refine WL.off rfl rfl rfl ?_ | refine WL.off0 rfl rfl ?_ | refine WC.exit ?_ | refine blk_hit ?_ | refine blk_miss rfl ?_ | refine WC.ret ?_)
          refine WC.loop (Nat × Option Addr × Nat × List Rl) (fun (m, pa, pc, O4) => [(0, .slice (some ⟨b0, o0, none⟩) l.length cap), (3, .slice pa O4.length pc), (4, .int .i64 (i : Nat)), (5, .int .i64 (j : Nat)), (6, .pointer (some ⟨b6, 0, none⟩)), (7, .pointer (some ⟨b7, 0, none⟩)), (9, .int .i64 (m + 1 : Nat))])
            (fun (m, pa, pc, O4) w' => ((i == j) = true → m = 0) ∧ m ≤ a.1.length - b.1.length - 1 ∧ O4.length ≤ 3000001000 + m ∧ O4 = O3 ++ (List.range m).flatMap (overC a b) ∧ Hp w w' [Bx b6 a, Bx b7 b, Rr (.slice pa O4.length pc) O4]) (fun (m, _) => a.1.length - b.1.length - 1 - m) (0, pa, pc, O3) ⟨rfl, rfl, rfl, rfl, rfl, rfl, rfl, rfl⟩ ⟨fun _ => rfl, Nat.zero_le _, by omega, by simp, hp4⟩ ?_
          clear hp4
          rintro ⟨m, pa, pc, O4⟩ w5 ⟨hm0, hm1, hl4, hO4, hp5⟩
          have hsm2 := fm_succ (overC a b) m
          repeat (first | refine WC.seq ?_ | refine WC.reg ?_ | refine WL.pure rfl rfl rfl ?_ | refine WL.nil ?_ | refine WC.skip ?_ | refine WC.block ?_ | refine WC.condT rfl ?_ | refine WC.condF rfl ?_ | refine WL.off rfl rfl rfl ?_ | refine WL.off0 rfl rfl ?_ | refine WC.exit ?_ | refine blk_hit ?_ | refine blk_miss rfl ?_ | refine WC.ret ?_)
          refine WL.split 95 rfl (fun h1 => ?_) (fun h1 => ?_)
          · have h1 : i ≠ j := fun h => by
              have h1 : (((i : Nat) : Int) != ((j : Nat) : Int)) = true := h1
              rw [h] at h1
              simp at h1
            have hne : ¬ (i == j) = true := by simpa using h1
            have e1 : IntKind.i64.wrap (((m + 1 : Nat) : Int) + ((sb b.1).size : Nat)) = ((m + 1 + b.1.length : Nat) : Int) := by rw [sb_size, wrap_i64_in (by omega) (by omega)]; omega
            repeat (first | refine WC.seq ?_ | refine WC.reg ?_ | refine WL.pure rfl rfl rfl ?_ | refine WL.nil ?_ | refine WC.skip ?_ | refine WC.block ?_ | refine WC.condT rfl ?_ | refine WC.condF rfl ?_ | refine WL.off rfl rfl rfl ?_ | refine WL.off0 rfl rfl ?_ | refine WC.exit ?_ | refine blk_hit ?_ | refine blk_miss rfl ?_ | refine WC.ret ?_)
            refine WL.loadB rfl rfl rfl rfl rfl (hp5.obj 1 rfl) (j := 0) rfl ?_
            repeat (first | refine WC.seq ?_ | refine WC.reg ?_ | refine WL.pure rfl rfl rfl ?_ | refine WL.nil ?_ | refine WC.skip ?_ | refine WC.block ?_ | refine WC.condT rfl ?_ | refine WC.condF rfl ?_ | refine WL.off rfl rfl rfl ?_ | refine WL.off0 rfl rfl ?_ | refine WC.exit ?_ | refine blk_hit ?_ | refine blk_miss rfl ?_ | refine WC.ret ?_)
            refine WL.loadB rfl rfl rfl rfl rfl (hp5.obj 0 rfl) (j := 0) rfl ?_
            repeat (first | refine WC.seq ?_ | refine WC.reg ?_ | refine WL.pure rfl rfl rfl ?_ | refine WL.nil ?_ | refine WC.skip ?_ | refine WC.block ?_ | refine WC.condT rfl ?_ | refine WC.condF rfl ?_ | refine WL.off rfl rfl rfl ?_ | refine WL.off0 rfl rfl ?_ | refine WC.exit ?_ | refine blk_hit ?_ | refine blk_miss rfl ?_ | refine WC.ret ?_)
            refine WC.cond rfl (fun h2 => ?_) (fun h2 => ?_)
            · have h2 : m + 1 + b.1.length < a.1.length := by
                have := of_decide_eq_true h2
                rw [e1, sb_size] at this
                omega
              have stepm : IntKind.i64.wrap (((m + 1 : Nat) : Int) + 1) = ((m + 1 + 1 : Nat) : Int) := by rw [wrap_i64_in (by omega) (by omega)]; omega
              repeat (first | refine WC.seq ?_ | refine WC.reg ?_ | refine WL.pure rfl rfl rfl ?_ | refine WL.nil ?_ | refine WC.skip ?_ | refine WC.block ?_ | refine WC.condT rfl ?_ | refine WC.condF rfl ?_ | refine WL.off rfl rfl rfl ?_ | refine WL.off0 rfl rfl ?_ | refine WC.exit ?_ | refine blk_hit ?_ | refine blk_miss rfl ?_ | refine WC.ret ?_)
              refine WL.loadB rfl rfl rfl rfl rfl (hp5.obj 0 rfl) (j := 0) rfl ?_
              repeat (first | refine WC.seq ?_ | refine WC.reg ?_ | refine WL.pure rfl rfl rfl ?_ | refine WL.nil ?_ | refine WC.skip ?_ | refine WC.block ?_ | refine WC.condT rfl ?_ | refine WC.condF rfl ?_ | refine WL.off rfl rfl rfl ?_ | refine WL.off0 rfl rfl ?_ | refine WC.exit ?_ | refine blk_hit ?_ | refine blk_miss rfl ?_ | refine WC.ret ?_)
              refine WL.loadB rfl rfl rfl rfl rfl (hp5.obj 1 rfl) (j := 0) rfl ?_
              refine WL.callP rfl rfl rfl rfl rfl ent46 (at_any a.1 (m + 1) b.1 (by omega) (by omega) (by omega) w5) ?_
              repeat (first | refine WC.seq ?_ | refine WC.reg ?_ | refine WL.pure rfl rfl rfl ?_ | refine WL.nil ?_ | refine WC.skip ?_ | refine WC.block ?_ | refine WC.condT rfl ?_ | refine WC.condF rfl ?_ | refine WL.off rfl rfl rfl ?_ | refine WL.off0 rfl rfl ?_ | refine WC.exit ?_ | refine blk_hit ?_ | refine blk_miss rfl ?_ | refine WC.ret ?_)
              refine WC.cond rfl (fun h3 => ?_) (fun h3 => ?_)
              · have hov : overC a b m = [(a.2, replM a.1 (m + 1) b)] := by unfold overC; rw [if_pos h3]
                rw [hov] at hsm2
                have hX : ∀ w', Hp w w' [Bx b6 a, Bx b7 b, Rr (.slice pa O4.length pc) O4] → Hp w w' [Bx b6 a, Bx b7 b] := fun w' h => h.pick [0, 1] (by decide)
                generalize hP : (a.2, replM a.1 (m + 1) b) = P at *
                repeat (first | refine WC.seq ?_ | refine WC.skip ?_ | refine WC.block ?_)
                refine WC.mid (Option Addr × Nat) (fun (pa, pc) => [(0, .slice (some ⟨b0, o0, none⟩) l.length cap), (3, .slice pa (O4 ++ [P]).length pc), (4, .int .i64 (i : Nat)), (5, .int .i64 (j : Nat)), (6, .pointer (some ⟨b6, 0, none⟩)), (7, .pointer (some ⟨b7, 0, none⟩)), (9, .int .i64 (m + 1 : Nat))]) (fun (pa, pc) w' => Hp w w' [Bx b6 a, Bx b7 b, Rr (.slice pa (O4 ++ [P]).length pc) (O4 ++ [P])]) ?_ ?_
                · refine WC.regH (fun w' => Hp w w' [Bx b6 a, Bx b7 b]) mixed (by kernel_rfl) (fun w6 hw6 hh6 => ?_)
                  have hp6 := hp5.keep hw6
                  have hy := hX _ hp6
                  refine WH.pure 0 (by kernel_rfl) rfl (by kernel_rfl) rfl rfl rfl (hy) ?_
                  refine WH.pure 1 (by kernel_rfl) rfl (by kernel_rfl) rfl rfl rfl (hy) ?_
                  refine WH.load 2 (by kernel_rfl) rfl (by kernel_rfl) rfl rfl rfl rfl rfl (fun w' h => cell_of_obj (j := 1) (h.obj 0 rfl) rfl) hy ?_
                  refine WH.pure 3 (by kernel_rfl) rfl (by kernel_rfl) rfl rfl rfl (hy) ?_
                  refine WH.load 4 (by kernel_rfl) rfl (by kernel_rfl) rfl rfl rfl rfl rfl (fun w' h => cell_of_obj (j := 0) (h.obj 0 rfl) rfl) hy ?_
                  refine WH.pure 5 (by kernel_rfl) rfl (by kernel_rfl) rfl rfl rfl (hy) ?_
                  refine WH.sSl (a := 0) (b := m + 1) 6 (by kernel_rfl) rfl (by kernel_rfl) rfl rfl rfl rfl rfl rfl (Nat.zero_le _) (by omega) hy ?_
                  refine WH.pure 7 (by kernel_rfl) rfl (by kernel_rfl) rfl rfl rfl (hy) ?_
                  refine WH.load 8 (by kernel_rfl) rfl (by kernel_rfl) rfl rfl rfl rfl rfl (fun w' h => cell_of_obj (j := 1) (h.obj 1 rfl) rfl) hy ?_
                  refine WH.sCat 9 (by kernel_rfl) rfl (by kernel_rfl) rfl rfl rfl rfl (by simp only [List.length_take, List.length_drop]; omega) hy ?_
                  refine WH.pure 10 (by kernel_rfl) rfl (by kernel_rfl) rfl rfl rfl (hy) ?_
                  refine WH.load 11 (by kernel_rfl) rfl (by kernel_rfl) rfl rfl rfl rfl rfl (fun w' h => cell_of_obj (j := 0) (h.obj 0 rfl) rfl) hy ?_
                  refine WH.pure 12 (by kernel_rfl) rfl (by kernel_rfl) rfl rfl rfl (hy) ?_
                  refine WH.pure 13 (by kernel_rfl) rfl (by kernel_rfl) rfl rfl rfl (hy) ?_
                  refine WH.load 14 (by kernel_rfl) rfl (by kernel_rfl) rfl rfl rfl rfl rfl (fun w' h => cell_of_obj (j := 0) (h.obj 1 rfl) rfl) hy ?_
                  refine WH.pure 15 (by kernel_rfl) rfl (by kernel_rfl) rfl rfl rfl (hy) ?_
                  refine WH.pure 16 (by kernel_rfl) rfl (by kernel_rfl) rfl rfl rfl (hy) ?_
                  refine WH.known (d := 130) (congrArg (fun z => some (Value.int .i64 z)) e1) ?_
                  refine WH.sSl (a := m + 1 + b.1.length) (b := a.1.length) 17 (by kernel_rfl) rfl (by kernel_rfl) rfl rfl rfl rfl rfl rfl (by omega) (Nat.le_refl _) hy ?_
                  refine WH.sCat 18 (by kernel_rfl) rfl (by kernel_rfl) rfl rfl rfl rfl (by simp only [List.length_append, List.length_take, List.length_drop]; omega) hy ?_
                  have eP : (a.2, (a.1.drop 0).take (m + 1 - 0) ++ b.2 ++ (a.1.drop (m + 1 + b.1.length)).take (a.1.length - (m + 1 + b.1.length))) = P := by
                    rw [← hP]
                    unfold replM
                    rw [List.take_of_length_le (i := a.1.length - (m + 1 + b.1.length)) (by rw [List.length_drop]; omega), List.append_assoc]
                    rfl
                  refine WH.one 19 rfl (by kernel_rfl) ?_
                  refine WL.buildA (cs := [st P.1, st P.2]) rfl rfl rfl rfl rfl (by rw [← eP]; rfl) (WL.nil ⟨hy, ?_⟩)
                  refine WH.one 20 rfl (by kernel_rfl) ?_
                  refine WL.buildS (cs := rc P) rfl rfl rfl rfl rfl rfl rfl rfl rfl ?_
                  intro bq w7 hb7
                  have hp7 := hp6.new hb7
                  refine WL.nil ⟨(hX _ hp7.tail), ?_⟩
                  refine WH.one 21 rfl (by kernel_rfl) ?_
                  refine WL.append 3 hp7 rfl rfl rfl rfl rfl (by decide) rfl rfl rfl (news := rc P) (Sl.of_obj (hp7.obj 0 rfl) (fun q u hq => by simpa [rc] using hq)) rfl (rcs_cells [P]) (by unfold maxLen; omega) (by show (O4.length + 1) * 32 ≤ _; omega) ?_
                  intro ra rc1 w8 hp8 hg8
                  have eO : (O4 ++ [P]).length = O4.length + 1 := by rw [List.length_append]; rfl
                  have hp9 : Hp w w8 [Bx b6 a, Bx b7 b, Rr (.slice ra (O4 ++ [P]).length rc1) (O4 ++ [P])] := by
                    unfold Rr
                    rw [eO, rcs_app]
                    exact hp8.tail
                  refine WL.nil ⟨hp9.pick [0, 1] (by decide), ?_⟩
                  refine WH.pure 22 (by kernel_rfl) rfl (by kernel_rfl) rfl rfl rfl (hp9.pick [0, 1] (by decide)) ?_
                  refine WH.done (by kernel_rfl) ?_
                  exact ⟨(ra, rc1), ⟨rfl, congrArg (fun z : Nat => some (Value.slice ra z rc1)) eO.symm, rfl, rfl, rfl, rfl, rfl, rfl⟩, hp9⟩
                · rintro ⟨ra, rc1⟩ e8 w8 hsub8 hp8
                  refine WC.sub hsub8 ?_
                  repeat (first | refine WC.seq ?_ | refine WC.reg ?_ | refine WL.pure rfl rfl rfl ?_ | refine WL.nil ?_ | refine WC.skip ?_ | refine WC.block ?_ | refine WC.condT rfl ?_ | refine WC.condF rfl ?_ | refine WL.off rfl rfl rfl ?_ | refine WL.off0 rfl rfl ?_ | refine WC.exit ?_ | refine blk_hit ?_ | refine blk_miss rfl ?_ | refine WC.ret ?_)
                  exact ⟨(m + 1, ra, rc1, O4 ++ [P]), (by show a.1.length - b.1.length - 1 - (m + 1) < a.1.length - b.1.length - 1 - m; omega), ⟨rfl, rfl, rfl, rfl, rfl, rfl, congrArg (fun z => some (Value.int .i64 z)) stepm, rfl⟩, fun h => absurd h hne, by omega, by rw [List.length_append]; show O4.length + 1 ≤ _; omega, by rw [hsm2, ← List.append_assoc, ← hO4], hp8⟩
              · have hov : overC a b m = [] := by unfold overC; rw [if_neg (by rw [h3]; decide)]
                rw [hov, List.append_nil] at hsm2
                repeat (first | refine WC.seq ?_ | refine WC.reg ?_ | refine WL.pure rfl rfl rfl ?_ | refine WL.nil ?_ | refine WC.skip ?_ | refine WC.block ?_ | refine WC.condT rfl ?_ | refine WC.condF rfl ?_ | refine WL.off rfl rfl rfl ?_ | refine WL.off0 rfl rfl ?_ | refine WC.exit ?_ | refine blk_hit ?_ | refine blk_miss rfl ?_ | refine WC.ret ?_)
                exact ⟨(m + 1, pa, pc, O4), (by show a.1.length - b.1.length - 1 - (m + 1) < a.1.length - b.1.length - 1 - m; omega), ⟨rfl, rfl, rfl, rfl, rfl, rfl, congrArg (fun z => some (Value.int .i64 z)) stepm, rfl⟩, fun h => absurd h hne, by omega, by omega, by rw [hsm2]; exact hO4, hp5⟩
            · have h2 : m = a.1.length - b.1.length - 1 := by
                have := of_decide_eq_false h2
                rw [e1, sb_size] at this
                omega
              repeat (first | refine WC.seq ?_ | refine WC.reg ?_ | refine WL.pure rfl rfl rfl ?_ | refine WL.nil ?_ | refine WC.skip ?_ | refine WC.block ?_ | refine WC.condT rfl ?_ | refine WC.condF rfl ?_ | refine WL.off rfl rfl rfl ?_ | refine WL.off0 rfl rfl ?_ | refine WC.exit ?_ | refine blk_hit ?_ | refine blk_miss rfl ?_ | refine WC.ret ?_)
              exact ⟨(j + 1, pa, pc, O4), (by show l.length - (j + 1) < l.length - j; omega), ⟨rfl, rfl, rfl, congrArg (fun z => some (Value.int .i64 z)) stepj, rfl⟩, by omega, hfin O4 (by rw [if_neg hne, hO4, h2]), hp5.tail.tail⟩
          · have h1 : (i == j) = true := by
              have h1 : (((i : Nat) : Int) != ((j : Nat) : Int)) = false := h1
              simp at h1
              simp
              omega
            have hm0 := hm0 h1
            subst hm0
            repeat (first | refine WC.seq ?_ | refine WC.reg ?_ | refine WL.pure rfl rfl rfl ?_ | refine WL.nil ?_ | refine WC.skip ?_ | refine WC.block ?_ | refine WC.condT rfl ?_ | refine WC.condF rfl ?_ | refine WL.off rfl rfl rfl ?_ | refine WL.off0 rfl rfl ?_ | refine WC.exit ?_ | refine blk_hit ?_ | refine blk_miss rfl ?_ | refine WC.ret ?_)
            exact ⟨(j + 1, pa, pc, O4), (by show l.length - (j + 1) < l.length - j; omega), ⟨rfl, rfl, rfl, congrArg (fun z => some (Value.int .i64 z)) stepj, rfl⟩, by omega, hfin O4 (by rw [if_pos h1, hO4]; simp), hp5.tail.tail⟩
    · have hj : j = l.length := by have := of_decide_eq_false hc; omega
      subst hj
      repeat (first | refine WC.seq ?_ | refine WC.reg ?_ | refine WL.pure rfl rfl rfl ?_ | refine WL.nil ?_ | refine WC.skip ?_ | refine WC.block ?_ | refine WC.condT rfl ?_ | refine WC.condF rfl ?_ | refine WL.off rfl rfl rfl ?_ | refine WL.off0 rfl rfl ?_ | refine WC.exit ?_ | refine blk_hit ?_ | refine blk_miss rfl ?_ | refine WC.ret ?_)
      exact ⟨(i + 1, pa, pc, O2), (by show l.length - (i + 1) < l.length - i; omega), ⟨rfl, rfl, congrArg (fun z => some (Value.int .i64 z)) step, rfl⟩, by omega, by rw [hsucc, hO2, pairsI_eq], hp2⟩
  · have hi : i = l.length := by have := of_decide_eq_false hc; omega
    subst hi
    repeat (first | refine WC.seq ?_ | refine WC.reg ?_ | refine WL.pure rfl rfl rfl ?_ | refine WL.nil ?_ | refine WC.skip ?_ | refine WC.block ?_ | refine WC.condT rfl ?_ | refine WC.condF rfl ?_ | refine WL.off rfl rfl rfl ?_ | refine WL.off0 rfl rfl ?_ | refine WC.exit ?_ | refine blk_hit ?_ | refine blk_miss rfl ?_ | refine WC.ret ?_)
    have hpm : pairsM l = O := hO.symm
    exact Res.one rfl rfl rfl ⟨pa, pc, by rw [hpm], by rw [hpm]; exact hp1⟩
end Go.Proofs.YtoghnhbjdnjghaaGreat
