/- The walks of the reference's String, at, step, normal, Normal. -/
import Derived.Test.YtoghnhbjdnjghaaGreatV23a
namespace Go.Proofs.YtoghnhbjdnjghaaGreat
open Go.W Go.Words Go.RowKit
set_option maxRecDepth 100000
attribute [local irreducible] WC WL WQ WS WH

theorem rString_any (s : Str) (hl : s.length ≤ 9223372036854775807) : Pur Tryz.prog 15 [st s] (.bool (strB s)) := by
  intro w
  refine enter Tryz.func15 rfl rfl ⟨rfl, rfl⟩ rfl ?_
  unfold strB
  repeat (first | refine WC.seq ?_ | refine WC.reg ?_ | refine WL.pure rfl rfl rfl ?_ | refine WL.nil ?_ | refine WC.skip ?_ | refine WC.block ?_ | refine WC.condT rfl ?_ | refine WC.condF rfl ?_ | refine WL.off rfl rfl rfl ?_ | refine WL.off0 rfl rfl ?_ | refine WC.exit ?_ | refine blk_hit ?_ | refine blk_miss rfl ?_ | refine WC.ret ?_)
  refine WL.split 6 rfl (fun h1 => ?_) (fun h1 => ?_)
  · have h1 : s.length ≤ 200 := by have := of_decide_eq_true h1; rw [sb_size] at this; omega
    rw [decide_eq_true h1, Bool.true_and]
    repeat (first | refine WC.seq ?_ | refine WC.reg ?_ | refine WL.pure rfl rfl rfl ?_ | refine WL.nil ?_ | refine WC.skip ?_ | refine WC.block ?_ | refine WC.condT rfl ?_ | refine WC.condF rfl ?_ | refine WL.off rfl rfl rfl ?_ | refine WL.off0 rfl rfl ?_ | refine WC.exit ?_ | refine blk_hit ?_ | refine blk_miss rfl ?_ | refine WC.ret ?_)
    refine WL.callP rfl rfl rfl rfl rfl ent38 (rletters_any s hl w) ?_
    repeat (first | refine WC.seq ?_ | refine WC.reg ?_ | refine WL.pure rfl rfl rfl ?_ | refine WL.nil ?_ | refine WC.skip ?_ | refine WC.block ?_ | refine WC.condT rfl ?_ | refine WC.condF rfl ?_ | refine WL.off rfl rfl rfl ?_ | refine WL.off0 rfl rfl ?_ | refine WC.exit ?_ | refine blk_hit ?_ | refine blk_miss rfl ?_ | refine WC.ret ?_)
    exact Res.one rfl rfl rfl ⟨rfl, rfl⟩
  · have h1 : ¬ s.length ≤ 200 := by have := of_decide_eq_false h1; rw [sb_size] at this; omega
    rw [decide_eq_false h1, Bool.false_and]
    repeat (first | refine WC.seq ?_ | refine WC.reg ?_ | refine WL.pure rfl rfl rfl ?_ | refine WL.nil ?_ | refine WC.skip ?_ | refine WC.block ?_ | refine WC.condT rfl ?_ | refine WC.condF rfl ?_ | refine WL.off rfl rfl rfl ?_ | refine WL.off0 rfl rfl ?_ | refine WC.exit ?_ | refine blk_hit ?_ | refine blk_miss rfl ?_ | refine WC.ret ?_)
    exact Res.one rfl rfl rfl ⟨rfl, rfl⟩
end Go.Proofs.YtoghnhbjdnjghaaGreat
namespace Go.Words
open Go.W
theorem firstM_shift {D : List Rl} {s : Str} {i : Nat} (hi : i < s.length) (h : hit D (s.drop i) = none) (hS : firstM D s = (firstM D (s.drop i)).map fun p => (p.1 + i, p.2)) : firstM D s = (firstM D (s.drop (i + 1))).map fun p => (p.1 + (i + 1), p.2) := by
  rw [hS, firstM_miss hi h]
  cases firstM D (s.drop (i + 1)) with
  | none => rfl
  | some p => simp; omega
end Go.Words
namespace Go.Proofs.YtoghnhbjdnjghaaGreat
open Go.W Go.Words Go.RowKit
set_option maxRecDepth 100000
attribute [local irreducible] WC WL WQ WS WH

theorem at_any (s : Str) (i : Nat) (t : Str) (hi : i ≤ s.length) (hs : s.length ≤ 1000000000000) (ht : t.length ≤ 1000000000000) : Pur Tryz.prog 46 [st s, .int .i64 (i : Nat), st t] (.bool (t.isPrefixOf (s.drop i))) := by
  intro w
  have e1 : IntKind.i64.wrap ((i : Int) + ((t.length : Nat) : Int)) = ((i + t.length : Nat) : Int) := by rw [wrap_i64_in (by omega) (by omega)]; omega
  refine enter Tryz.func46 rfl rfl ⟨rfl, rfl⟩ rfl ?_
  repeat (first | refine WC.seq ?_ | refine WC.reg ?_ | refine WL.pure rfl rfl rfl ?_ | refine WL.nil ?_ | refine WC.skip ?_ | refine WC.block ?_ | refine WC.condT rfl ?_ | refine WC.condF rfl ?_ | refine WL.off rfl rfl rfl ?_ | refine WL.off0 rfl rfl ?_ | refine WC.exit ?_ | refine blk_hit ?_ | refine blk_miss rfl ?_ | refine WC.ret ?_)
  refine WL.split 14 rfl (fun h1 => ?_) (fun h1 => ?_)
  · have h1 : i + t.length ≤ s.length := by
      have := of_decide_eq_true h1
      rw [sb_size, sb_size, e1] at this
      omega
    repeat (first | refine WC.seq ?_ | refine WC.reg ?_ | refine WL.pure rfl rfl rfl ?_ | refine WL.nil ?_ | refine WC.skip ?_ | refine WC.block ?_ | refine WC.condT rfl ?_ | refine WC.condF rfl ?_ | refine WL.off rfl rfl rfl ?_ | refine WL.off0 rfl rfl ?_ | refine WC.exit ?_ | refine blk_hit ?_ | refine blk_miss rfl ?_ | refine WC.ret ?_)
    refine WL.known (d := 20) (congrArg (fun z => some (Value.int .i64 z)) e1) ?_
    refine WL.sSl (a := i) (b := i + t.length) rfl rfl rfl rfl rfl rfl (by omega) h1 ?_
    rw [show i + t.length - i = t.length by omega]
    repeat (first | refine WC.seq ?_ | refine WC.reg ?_ | refine WL.pure rfl rfl rfl ?_ | refine WL.nil ?_ | refine WC.skip ?_ | refine WC.block ?_ | refine WC.condT rfl ?_ | refine WC.condF rfl ?_ | refine WL.off rfl rfl rfl ?_ | refine WL.off0 rfl rfl ?_ | refine WC.exit ?_ | refine blk_hit ?_ | refine blk_miss rfl ?_ | refine WC.ret ?_)
    refine WL.sCmp (op := .eql) rfl rfl rfl rfl rfl ?_
    repeat (first | refine WC.seq ?_ | refine WC.reg ?_ | refine WL.pure rfl rfl rfl ?_ | refine WL.nil ?_ | refine WC.skip ?_ | refine WC.block ?_ | refine WC.condT rfl ?_ | refine WC.condF rfl ?_ | refine WL.off rfl rfl rfl ?_ | refine WL.off0 rfl rfl ?_ | refine WC.exit ?_ | refine blk_hit ?_ | refine blk_miss rfl ?_ | refine WC.ret ?_)
    refine Res.one rfl rfl rfl ⟨?_, rfl⟩
    rw [pre_take]
    congr 1
    rw [Bool.eq_iff_iff, decide_eq_true_iff, decide_eq_true_iff]
    exact eq_comm
  · have h1 : ¬ i + t.length ≤ s.length := by
      have := of_decide_eq_false h1
      rw [sb_size, sb_size, e1] at this
      omega
    have hno : t.isPrefixOf (s.drop i) = false := by
      cases h : t.isPrefixOf (s.drop i) with
      | false => rfl
      | true =>
        have := (List.isPrefixOf_iff_prefix.1 h).length_le
        rw [List.length_drop] at this
        omega
    rw [hno]
    repeat (first | refine WC.seq ?_ | refine WC.reg ?_ | refine WL.pure rfl rfl rfl ?_ | refine WL.nil ?_ | refine WC.skip ?_ | refine WC.block ?_ | refine WC.condT rfl ?_ | refine WC.condF rfl ?_ | refine WL.off rfl rfl rfl ?_ | refine WL.off0 rfl rfl ?_ | refine WC.exit ?_ | refine blk_hit ?_ | refine blk_miss rfl ?_ | refine WC.ret ?_)
    exact Res.one rfl rfl rfl ⟨rfl, rfl⟩
set_option maxHeartbeats 1000000 in
theorem rstep_any (a : Option Addr) (cap : Nat) (l : List Rl) (z : Int) (s : Str) (hl : l.length ≤ 1000000) (hsl : s.length ≤ 1000000000) (hm : Sm 1000000000 l) (w : World) (hs : Sl w a (rcs l)) :
    Ret Tryz.prog 66 [.slice a l.length cap, .int .i64 z, st s] w fun u w' => u = stpV s (firstM (dr l z) s) ∧ Hp w w' [] := by
  refine enter Tryz.func66 rfl rfl ⟨rfl, rfl⟩ rfl ?_
  repeat (first | refine WC.seq ?_ | refine WC.reg ?_ | refine WL.pure rfl rfl rfl ?_ | refine WL.nil ?_ | refine WC.skip ?_ | refine WC.block ?_ | refine WC.condT rfl ?_ | refine WC.condF rfl ?_ | refine WL.off rfl rfl rfl ?_ | refine WL.off0 rfl rfl ?_ | refine WC.exit ?_ | refine blk_hit ?_ | refine blk_miss rfl ?_ | refine WC.ret ?_)
  refine WC.loop Nat (fun i => [(0, .slice a l.length cap), (1, .int .i64 z), (2, st s), (8, .int .i64 (i : Nat))])
    (fun i w' => i ≤ s.length ∧ firstM (dr l z) s = (firstM (dr l z) (s.drop i)).map (fun p => (p.1 + i, p.2)) ∧ Hp w w' []) (fun i => s.length - i) 0 ⟨rfl, rfl, rfl, rfl, rfl⟩ ⟨Nat.zero_le _, by rw [List.drop_zero]; cases firstM (dr l z) s <;> rfl, Hp.start w⟩ ?_
  rintro i w1 ⟨hi, hF, hp1⟩
  repeat (first | refine WC.seq ?_ | refine WC.reg ?_ | refine WL.pure rfl rfl rfl ?_ | refine WL.nil ?_ | refine WC.skip ?_ | refine WC.block ?_ | refine WC.condT rfl ?_ | refine WC.condF rfl ?_ | refine WL.off rfl rfl rfl ?_ | refine WL.off0 rfl rfl ?_ | refine WC.exit ?_ | refine blk_hit ?_ | refine blk_miss rfl ?_ | refine WC.ret ?_)
  refine WC.cond rfl (fun hc => ?_) (fun hc => ?_)
  · have hi : i < s.length := by have := of_decide_eq_true hc; rw [sb_size] at this; omega
    have step := wrap_succ hi (by omega)
    repeat (first | refine WC.seq ?_ | refine WC.reg ?_ | refine WL.pure rfl rfl rfl ?_ | refine WL.nil ?_ | refine WC.skip ?_ | refine WC.block ?_ | refine WC.condT rfl ?_ | refine WC.condF rfl ?_ | refine WL.off rfl rfl rfl ?_ | refine WL.off0 rfl rfl ?_ | refine WC.exit ?_ | refine blk_hit ?_ | refine blk_miss rfl ?_ | refine WC.ret ?_)
    refine WC.loop Nat (fun k => [(0, .slice a l.length cap), (1, .int .i64 z), (2, st s), (8, .int .i64 (i : Nat)), (9, .int .i64 (k : Nat))])
      (fun k w' => k ≤ l.length ∧ hit (dr (l.take k) z) (s.drop i) = none ∧ Hp w w' []) (fun k => l.length - k) 0 ⟨rfl, rfl, rfl, rfl, rfl, rfl⟩ ⟨Nat.zero_le _, by
        have : dr (l.take 0) z = [] := by unfold dr; rw [List.take_zero]; split <;> rfl
        rw [this]; rfl, hp1⟩ ?_
    clear hp1
    rintro k w2 ⟨hk, hno, hp2⟩
    repeat (first | refine WC.seq ?_ | refine WC.reg ?_ | refine WL.pure rfl rfl rfl ?_ | refine WL.nil ?_ | refine WC.skip ?_ | refine WC.block ?_ | refine WC.condT rfl ?_ | refine WC.condF rfl ?_ | refine WL.off rfl rfl rfl ?_ | refine WL.off0 rfl rfl ?_ | refine WC.exit ?_ | refine blk_hit ?_ | refine blk_miss rfl ?_ | refine WC.ret ?_)
    refine WC.cond rfl (fun hc2 => ?_) (fun hc2 => ?_)
    · have hk : k < l.length := by have := of_decide_eq_true hc2; omega
      have stepk := wrap_succ hk (by omega)
      have hds := dr_succ hk z
      have hsz := hm.at_ hk
      obtain ⟨b, o, rfl⟩ := rcs_some hs (by omega)
      have hs2 := hs.hp hp2
      repeat (first | refine WC.seq ?_ | refine WC.reg ?_ | refine WL.pure rfl rfl rfl ?_ | refine WL.nil ?_ | refine WC.skip ?_ | refine WC.block ?_ | refine WC.condT rfl ?_ | refine WC.condF rfl ?_ | refine WL.off rfl rfl rfl ?_ | refine WL.off0 rfl rfl ?_ | refine WC.exit ?_ | refine blk_hit ?_ | refine blk_miss rfl ?_ | refine WC.ret ?_)
      refine WL.split 25 rfl (fun h1 => ?_) (fun h1 => ?_)
      · have h1 : ¬ (k : Int) = z := by
          have h1 : ((k : Int) != z) = true := h1
          simpa using h1
        rw [if_neg h1] at hds
        repeat (first | refine WC.seq ?_ | refine WC.reg ?_ | refine WL.pure rfl rfl rfl ?_ | refine WL.nil ?_ | refine WC.skip ?_ | refine WC.block ?_ | refine WC.condT rfl ?_ | refine WC.condF rfl ?_ | refine WL.off rfl rfl rfl ?_ | refine WL.off0 rfl rfl ?_ | refine WC.exit ?_ | refine blk_hit ?_ | refine blk_miss rfl ?_ | refine WC.ret ?_)
        refine WL.ix rfl rfl rfl rfl rfl (j := k) hk rfl ?_
        repeat (first | refine WC.seq ?_ | refine WC.reg ?_ | refine WL.pure rfl rfl rfl ?_ | refine WL.nil ?_ | refine WC.skip ?_ | refine WC.block ?_ | refine WC.condT rfl ?_ | refine WC.condF rfl ?_ | refine WL.off rfl rfl rfl ?_ | refine WL.off0 rfl rfl ?_ | refine WC.exit ?_ | refine blk_hit ?_ | refine blk_miss rfl ?_ | refine WC.ret ?_)
        refine WL.load rfl rfl rfl rfl rfl (rcs_cell hs2 hk (q := 0) rfl) ?_
        refine WL.callP rfl rfl rfl rfl rfl ent46 (at_any s i l[k].1 (by omega) (by omega) (by omega) w2) ?_
        repeat (first | refine WC.seq ?_ | refine WC.reg ?_ | refine WL.pure rfl rfl rfl ?_ | refine WL.nil ?_ | refine WC.skip ?_ | refine WC.block ?_ | refine WC.condT rfl ?_ | refine WC.condF rfl ?_ | refine WL.off rfl rfl rfl ?_ | refine WL.off0 rfl rfl ?_ | refine WC.exit ?_ | refine blk_hit ?_ | refine blk_miss rfl ?_ | refine WC.ret ?_)
        refine WC.cond rfl (fun h2 => ?_) (fun h2 => ?_)
        · have hit1 : hit (dr (l.take (k + 1)) z) (s.drop i) = some l[k] := by
            rw [hds, hit_snoc hno, if_pos h2]
          obtain ⟨B, hB⟩ := dr_rest l z (k + 1)
          have hit2 : hit (dr l z) (s.drop i) = some l[k] := by rw [hB]; exact hit_app hit1
          have hfin : firstM (dr l z) s = some (i, l[k]) := by
            rw [hF, firstM_hit hi hit2]
            simp
          have hroom := firstM_room hfin
          have e1 : IntKind.i64.wrap ((i : Int) + ((l[k].1.length : Nat) : Int)) = ((i + l[k].1.length : Nat) : Int) := by rw [wrap_i64_in (by omega) (by omega)]; omega
          rw [hfin]
          repeat (first | refine WC.seq ?_ | refine WC.reg ?_ | refine WL.pure rfl rfl rfl ?_ | refine WL.nil ?_ | refine WC.skip ?_ | refine WC.block ?_ | refine WC.condT rfl ?_ | refine WC.condF rfl ?_ | refine WL.off rfl rfl rfl ?_ | refine WL.off0 rfl rfl ?_ | refine WC.exit ?_ | refine blk_hit ?_ | refine blk_miss rfl ?_ | refine WC.ret ?_)
          refine WC.mid Unit (fun _ => [(6, st (replM s i l[k])), (7, .bool true)]) (fun _ w' => Hp w w' []) ?_ ?_
          · refine WC.regQ (fun w' => Hp w w' []) mixed (by kernel_rfl) (fun w' hw' => hp2.keep hw') ?_
            repeat (first | refine WQ.pure rfl rfl rfl ?_ | refine WQ.off rfl rfl rfl ?_ | refine WQ.nil ?_)
            refine WQ.sSl (a := 0) (b := i) rfl rfl rfl rfl rfl rfl (Nat.zero_le _) (by omega) ?_
            repeat (first | refine WQ.pure rfl rfl rfl ?_ | refine WQ.off rfl rfl rfl ?_ | refine WQ.nil ?_)
            refine WQ.ix rfl rfl rfl rfl rfl rfl (j := k) hk ?_
            repeat (first | refine WQ.pure rfl rfl rfl ?_ | refine WQ.off rfl rfl rfl ?_ | refine WQ.nil ?_)
            refine WQ.load rfl rfl rfl rfl rfl (fun w' hw' => rcs_cell (hs.hp hw') hk (q := 1) rfl) ?_
            refine WQ.sCat rfl rfl rfl rfl (by simp only [List.length_take, List.length_drop]; omega) ?_
            repeat (first | refine WQ.pure rfl rfl rfl ?_ | refine WQ.off rfl rfl rfl ?_ | refine WQ.nil ?_)
            refine WQ.ix rfl rfl rfl rfl rfl rfl (j := k) hk ?_
            repeat (first | refine WQ.pure rfl rfl rfl ?_ | refine WQ.off rfl rfl rfl ?_ | refine WQ.nil ?_)
            refine WQ.load rfl rfl rfl rfl rfl (fun w' hw' => rcs_cell (hs.hp hw') hk (q := 0) rfl) ?_
            repeat (first | refine WQ.pure rfl rfl rfl ?_ | refine WQ.off rfl rfl rfl ?_ | refine WQ.nil ?_)
            refine WQ.known (d := 52) (congrArg (fun z => some (Value.int .i64 z)) e1) ?_
            refine WQ.sSl (a := i + l[k].1.length) (b := s.length) rfl rfl rfl rfl rfl rfl hroom (Nat.le_refl _) ?_
            refine WQ.sCat rfl rfl rfl rfl (by simp only [List.length_append, List.length_take, List.length_drop]; omega) ?_
            have e2 : (s.drop 0).take (i - 0) ++ l[k].2 ++ (s.drop (i + l[k].1.length)).take (s.length - (i + l[k].1.length)) = replM s i l[k] := by
              unfold replM
              rw [List.drop_zero, Nat.sub_zero, List.take_of_length_le (i := s.length - (i + l[k].1.length)) (by rw [List.length_drop]; omega), List.append_assoc]
            rw [e2]
            repeat (first | refine WQ.pure rfl rfl rfl ?_ | refine WQ.off rfl rfl rfl ?_ | refine WQ.nil ?_)
            intro w' hw'
            exact ⟨(), ⟨rfl, rfl, rfl⟩, hw'⟩
          · rintro _ e3 w3 hsub hp3
            refine WC.sub hsub ?_
            repeat (first | refine WC.seq ?_ | refine WC.reg ?_ | refine WL.pure rfl rfl rfl ?_ | refine WL.nil ?_ | refine WC.skip ?_ | refine WC.block ?_ | refine WC.condT rfl ?_ | refine WC.condF rfl ?_ | refine WL.off rfl rfl rfl ?_ | refine WL.off0 rfl rfl ?_ | refine WC.exit ?_ | refine blk_hit ?_ | refine blk_miss rfl ?_ | refine WC.ret ?_)
            exact Res.two rfl rfl rfl rfl ⟨rfl, hp3⟩
        · have hno2 : hit (dr (l.take (k + 1)) z) (s.drop i) = none := by
            rw [hds, hit_snoc hno, if_neg (by rw [h2]; decide)]
          repeat (first | refine WC.seq ?_ | refine WC.reg ?_ | refine WL.pure rfl rfl rfl ?_ | refine WL.nil ?_ | refine WC.skip ?_ | refine WC.block ?_ | refine WC.condT rfl ?_ | refine WC.condF rfl ?_ | refine WL.off rfl rfl rfl ?_ | refine WL.off0 rfl rfl ?_ | refine WC.exit ?_ | refine blk_hit ?_ | refine blk_miss rfl ?_ | refine WC.ret ?_)
          exact ⟨k + 1, by omega, ⟨rfl, rfl, rfl, rfl, congrArg (fun z => some (Value.int .i64 z)) stepk, rfl⟩, by omega, hno2, hp2⟩
      · have h1 : (k : Int) = z := by
          have h1 : ((k : Int) != z) = false := h1
          simpa using h1
        rw [if_pos h1, List.append_nil] at hds
        repeat (first | refine WC.seq ?_ | refine WC.reg ?_ | refine WL.pure rfl rfl rfl ?_ | refine WL.nil ?_ | refine WC.skip ?_ | refine WC.block ?_ | refine WC.condT rfl ?_ | refine WC.condF rfl ?_ | refine WL.off rfl rfl rfl ?_ | refine WL.off0 rfl rfl ?_ | refine WC.exit ?_ | refine blk_hit ?_ | refine blk_miss rfl ?_ | refine WC.ret ?_)
        exact ⟨k + 1, by omega, ⟨rfl, rfl, rfl, rfl, congrArg (fun z => some (Value.int .i64 z)) stepk, rfl⟩, by omega, by rw [hds]; exact hno, hp2⟩
    · have hk : l.length ≤ k := by have := of_decide_eq_false hc2; omega
      rw [List.take_of_length_le hk] at hno
      repeat (first | refine WC.seq ?_ | refine WC.reg ?_ | refine WL.pure rfl rfl rfl ?_ | refine WL.nil ?_ | refine WC.skip ?_ | refine WC.block ?_ | refine WC.condT rfl ?_ | refine WC.condF rfl ?_ | refine WL.off rfl rfl rfl ?_ | refine WL.off0 rfl rfl ?_ | refine WC.exit ?_ | refine blk_hit ?_ | refine blk_miss rfl ?_ | refine WC.ret ?_)
      exact ⟨i + 1, by omega, ⟨rfl, rfl, rfl, congrArg (fun z => some (Value.int .i64 z)) step, rfl⟩, by omega, firstM_shift hi hno hF, hp2⟩
  · have hi : s.length ≤ i := by have := of_decide_eq_false hc; rw [sb_size] at this; omega
    rw [List.drop_of_length_le hi] at hF
    have hF : firstM (dr l z) s = none := hF
    rw [hF]
    repeat (first | refine WC.seq ?_ | refine WC.reg ?_ | refine WL.pure rfl rfl rfl ?_ | refine WL.nil ?_ | refine WC.skip ?_ | refine WC.block ?_ | refine WC.condT rfl ?_ | refine WC.condF rfl ?_ | refine WL.off rfl rfl rfl ?_ | refine WL.off0 rfl rfl ?_ | refine WC.exit ?_ | refine blk_hit ?_ | refine blk_miss rfl ?_ | refine WC.ret ?_)
    exact Res.two rfl rfl rfl rfl ⟨rfl, hp1⟩
theorem rnormal_any (a : Option Addr) (cap : Nat) (l : List Rl) (z : Int) (s : Str) (hlen : l.length ≤ 1000000) (hd : Dn l) (hl : s.length ≤ 1000000000) (hm : Sm 1000000000 l) (w : World) (hs : Sl w a (rcs l)) :
    Ret Tryz.prog 39 [.slice a l.length cap, .int .i64 z, st s] w fun u w' => u = norV (normM (dr l z) s) ∧ Hp w w' [] := by
  refine enter Tryz.func39 rfl rfl ⟨rfl, rfl⟩ rfl ?_
  repeat (first | refine WC.seq ?_ | refine WC.reg ?_ | refine WL.pure rfl rfl rfl ?_ | refine WL.nil ?_ | refine WC.skip ?_ | refine WC.block ?_ | refine WC.condT rfl ?_ | refine WC.condF rfl ?_ | refine WL.off rfl rfl rfl ?_ | refine WL.off0 rfl rfl ?_ | refine WC.exit ?_ | refine blk_hit ?_ | refine blk_miss rfl ?_ | refine WC.ret ?_)
  refine WC.loop (Nat × Str) (fun (n, t) => [(0, .slice a l.length cap), (1, .int .i64 z), (2, st t), (9, .int .i64 (n : Nat))])
    (fun (n, t) w' => Hp w w' [] ∧ n ≤ 20000 ∧ t.length ≤ s.length ∧ normM (dr l z) s = normN (dr l z) (20000 - n) n t) (fun (n, _) => 20001 - n) (0, s) ⟨rfl, rfl, rfl, rfl, rfl⟩ ⟨Hp.start w, Nat.zero_le _, Nat.le_refl _, rfl⟩ ?_
  rintro ⟨n, t⟩ w1 ⟨hp1, hn, ht, hN⟩
  repeat (first | refine WC.seq ?_ | refine WC.reg ?_ | refine WL.pure rfl rfl rfl ?_ | refine WL.nil ?_ | refine WC.skip ?_ | refine WC.block ?_ | refine WC.condT rfl ?_ | refine WC.condF rfl ?_ | refine WL.off rfl rfl rfl ?_ | refine WL.off0 rfl rfl ?_ | refine WC.exit ?_ | refine blk_hit ?_ | refine blk_miss rfl ?_ | refine WC.ret ?_)
  refine WL.call rfl rfl rfl rfl rfl ent66 (rstep_any a cap l z t hlen (by omega) hm w1 (hs.hp hp1)) ?_
  rintro _ w2 ⟨rfl, hp2⟩
  have hp2 := hp1.over hp2
  cases hf : firstM (dr l z) t with
  | none =>
    rw [normN_end hf] at hN
    repeat (first | refine WC.seq ?_ | refine WC.reg ?_ | refine WL.pure rfl rfl rfl ?_ | refine WL.nil ?_ | refine WC.skip ?_ | refine WC.block ?_ | refine WC.condT rfl ?_ | refine WC.condF rfl ?_ | refine WL.off rfl rfl rfl ?_ | refine WL.off0 rfl rfl ?_ | refine WC.exit ?_ | refine blk_hit ?_ | refine blk_miss rfl ?_ | refine WC.ret ?_)
    exact Res.three rfl rfl rfl rfl rfl ⟨by rw [hN]; rfl, hp2⟩
  | some p =>
    obtain ⟨i, r⟩ := p
    have hlen2 := step_len (hd.dr z) hf
    repeat (first | refine WC.seq ?_ | refine WC.reg ?_ | refine WL.pure rfl rfl rfl ?_ | refine WL.nil ?_ | refine WC.skip ?_ | refine WC.block ?_ | refine WC.condT rfl ?_ | refine WC.condF rfl ?_ | refine WL.off rfl rfl rfl ?_ | refine WL.off0 rfl rfl ?_ | refine WC.exit ?_ | refine blk_hit ?_ | refine blk_miss rfl ?_ | refine WC.ret ?_)
    refine WC.cond rfl (fun h1 => ?_) (fun h1 => ?_)
    · have h1 : n = 20000 := by
        have : ((n : Nat) : Int) = 20000 := by simpa using h1
        omega
      subst h1
      rw [Nat.sub_self, normN_out hf] at hN
      repeat (first | refine WC.seq ?_ | refine WC.reg ?_ | refine WL.pure rfl rfl rfl ?_ | refine WL.nil ?_ | refine WC.skip ?_ | refine WC.block ?_ | refine WC.condT rfl ?_ | refine WC.condF rfl ?_ | refine WL.off rfl rfl rfl ?_ | refine WL.off0 rfl rfl ?_ | refine WC.exit ?_ | refine blk_hit ?_ | refine blk_miss rfl ?_ | refine WC.ret ?_)
      exact Res.three rfl rfl rfl rfl rfl ⟨by rw [hN]; rfl, hp2⟩
    · have h1 : n < 20000 := by
        have : ¬ ((n : Nat) : Int) = 20000 := by simpa using h1
        omega
      have step := wrap_succ h1 (by omega)
      rw [normN_step hf (by omega), show 20000 - n - 1 = 20000 - (n + 1) by omega] at hN
      repeat (first | refine WC.seq ?_ | refine WC.reg ?_ | refine WL.pure rfl rfl rfl ?_ | refine WL.nil ?_ | refine WC.skip ?_ | refine WC.block ?_ | refine WC.condT rfl ?_ | refine WC.condF rfl ?_ | refine WL.off rfl rfl rfl ?_ | refine WL.off0 rfl rfl ?_ | refine WC.exit ?_ | refine blk_hit ?_ | refine blk_miss rfl ?_ | refine WC.ret ?_)
      exact ⟨(n + 1, replM t i r), by show 20001 - (n + 1) < 20001 - n; omega, ⟨rfl, rfl, rfl, congrArg (fun z => some (Value.int .i64 z)) step, rfl⟩, hp2, h1, by omega, hN⟩
theorem rNormal_any (a : Option Addr) (cap : Nat) (l : List Rl) (s : Str) (hlen : l.length ≤ 1000000) (hd : Dn l) (hl : s.length ≤ 1000000000) (hm : Sm 1000000000 l) (w : World) (hs : Sl w a (rcs l)) :
    Ret Tryz.prog 17 [.slice a l.length cap, st s] w fun u w' => u = norV (normM l s) ∧ Hp w w' [] := by
  have h := rnormal_any a cap l (-1) s hlen hd hl hm w hs
  rw [dr_neg] at h
  refine enter Tryz.func17 rfl rfl ⟨rfl, rfl⟩ rfl ?_
  repeat (first | refine WC.seq ?_ | refine WC.reg ?_ | refine WL.pure rfl rfl rfl ?_ | refine WL.nil ?_ | refine WC.skip ?_ | refine WC.block ?_ | refine WC.condT rfl ?_ | refine WC.condF rfl ?_ | refine WL.off rfl rfl rfl ?_ | refine WL.off0 rfl rfl ?_ | refine WC.exit ?_ | refine blk_hit ?_ | refine blk_miss rfl ?_ | refine WC.ret ?_)
  refine WL.call rfl rfl rfl rfl rfl ent39 h ?_
  rintro _ w1 ⟨rfl, hp1⟩
  cases hn : normM l s with
  | none =>
    repeat (first | refine WC.seq ?_ | refine WC.reg ?_ | refine WL.pure rfl rfl rfl ?_ | refine WL.nil ?_ | refine WC.skip ?_ | refine WC.block ?_ | refine WC.condT rfl ?_ | refine WC.condF rfl ?_ | refine WL.off rfl rfl rfl ?_ | refine WL.off0 rfl rfl ?_ | refine WC.exit ?_ | refine blk_hit ?_ | refine blk_miss rfl ?_ | refine WC.ret ?_)
    exact Res.three rfl rfl rfl rfl rfl ⟨rfl, hp1⟩
  | some p =>
    obtain ⟨t, n⟩ := p
    repeat (first | refine WC.seq ?_ | refine WC.reg ?_ | refine WL.pure rfl rfl rfl ?_ | refine WL.nil ?_ | refine WC.skip ?_ | refine WC.block ?_ | refine WC.condT rfl ?_ | refine WC.condF rfl ?_ | refine WL.off rfl rfl rfl ?_ | refine WL.off0 rfl rfl ?_ | refine WC.exit ?_ | refine blk_hit ?_ | refine blk_miss rfl ?_ | refine WC.ret ?_)
    exact Res.three rfl rfl rfl rfl rfl ⟨rfl, hp1⟩
end Go.Proofs.YtoghnhbjdnjghaaGreat
