/- The reference's Clash. -/
import Derived.Test.YtoghnhbjdnjghaaGreatV30
namespace Go.Proofs.YtoghnhbjdnjghaaGreat
open Go.W Go.Words Go.RowKit
set_option maxRecDepth 100000
attribute [local irreducible] WC WL WQ WS WH

set_option maxHeartbeats 1000000 in
theorem rClash_any (a : Option Addr) (cap : Nat) (l : List Rl) (hl : l.length ≤ 1000) (hm : Sm 1000 l) (hd : Dn l) (w : World) (hs : Sl w a (rcs l)) :
    Ret Tryz.prog 23 [.slice a l.length cap] w fun u w' => u = clashV (clashM l) ∧ Hp w w' [] := by
  have hpl := pairsM_len hm
  have hpl2 : (pairsM l).length ≤ 2000000000 := by
    refine Nat.le_trans hpl ?_
    refine Nat.le_trans (Nat.mul_le_mul hl (Nat.mul_le_mul_right _ hl)) ?_
    decide
  have hps := pairsM_sm hm
  have hz : ∀ s, ∃ t z, norV (normM l s) = .tuple #[st t, .int .i64 z, .bool (normM l s).isSome] ∧ t = nrS l s := by
    intro s
    unfold nrS
    cases normM l s with
    | none => exact ⟨[], (0 : Nat), rfl, rfl⟩
    | some p => exact ⟨p.1, (p.2 : Nat), rfl, rfl⟩
  refine enter Tryz.func23 rfl rfl ⟨rfl, rfl⟩ rfl ?_
  repeat (first | refine WC.seq ?_ | refine WC.reg ?_ | refine WL.pure rfl rfl rfl ?_ | refine WL.nil ?_ | refine WC.skip ?_ | refine WC.block ?_ | refine WC.condT rfl ?_ | refine WC.condF rfl ?_ | refine WL.off rfl rfl rfl ?_ | refine WL.off0 rfl rfl ?_ | refine WC.exit ?_ | refine blk_hit ?_ | refine blk_miss rfl ?_ | refine WC.ret ?_)
  refine WL.call rfl rfl rfl rfl rfl ent22 (rPairs_any a cap l hl hm w hs) ?_
  rintro _ w1 ⟨pa, pc, rfl, hp1⟩
  unfold clashM
  generalize pairsM l = ps at *
  repeat (first | refine WC.seq ?_ | refine WC.reg ?_ | refine WL.pure rfl rfl rfl ?_ | refine WL.nil ?_ | refine WC.skip ?_ | refine WC.block ?_ | refine WC.condT rfl ?_ | refine WC.condF rfl ?_ | refine WL.off rfl rfl rfl ?_ | refine WL.off0 rfl rfl ?_ | refine WC.exit ?_ | refine blk_hit ?_ | refine blk_miss rfl ?_ | refine WC.ret ?_)
  refine WC.loop Nat (fun i => [(0, .slice a l.length cap), (4, .slice pa ps.length pc), (5, .int .i64 (i : Nat))])
    (fun i w' => i ≤ ps.length ∧ clashN l ps 0 = clashN l (ps.drop i) i ∧ Hp w w' [Rr (.slice pa ps.length pc) ps]) (fun i => ps.length - i) 0 ⟨rfl, rfl, rfl, rfl⟩ ⟨Nat.zero_le _, rfl, hp1⟩ ?_
  clear hp1 w1
  rintro i w1 ⟨hi, hN, hp1⟩
  repeat (first | refine WC.seq ?_ | refine WC.reg ?_ | refine WL.pure rfl rfl rfl ?_ | refine WL.nil ?_ | refine WC.skip ?_ | refine WC.block ?_ | refine WC.condT rfl ?_ | refine WC.condF rfl ?_ | refine WL.off rfl rfl rfl ?_ | refine WL.off0 rfl rfl ?_ | refine WC.exit ?_ | refine blk_hit ?_ | refine blk_miss rfl ?_ | refine WC.ret ?_)
  refine WC.cond rfl (fun hc => ?_) (fun hc => ?_)
  · have hi : i < ps.length := by have := of_decide_eq_true hc; omega
    have step := wrap_succ hi (by omega)
    have hsz := hps.at_ hi
    rw [clashN_at (List.drop_eq_getElem_cons hi)] at hN
    have hsr := Sl.of_row (hp1.at 0 rfl)
    obtain ⟨b, o, rfl⟩ := rcs_some hsr (by omega)
    have hiso := formsM_iso l ps[i]
    repeat (first | refine WC.seq ?_ | refine WC.reg ?_ | refine WL.pure rfl rfl rfl ?_ | refine WL.nil ?_ | refine WC.skip ?_ | refine WC.block ?_ | refine WC.condT rfl ?_ | refine WC.condF rfl ?_ | refine WL.off rfl rfl rfl ?_ | refine WL.off0 rfl rfl ?_ | refine WC.exit ?_ | refine blk_hit ?_ | refine blk_miss rfl ?_ | refine WC.ret ?_)
    refine WL.ix rfl rfl rfl rfl rfl (j := i) hi rfl ?_
    refine WL.ixA (j := 0) rfl rfl rfl rfl rfl rfl (by decide) ?_
    refine WL.load rfl rfl rfl rfl rfl (rcs_cell hsr hi (q := 0) rfl) ?_
    refine WL.call rfl rfl rfl rfl rfl ent17 (rNormal_any a cap l ps[i].1 (by omega) hd (by omega) (hm.mono (by decide)) w1 (hs.hp hp1)) ?_
    rintro _ w2 ⟨rfl, hp2⟩
    have hp2 := hp1.comb hp2
    have hsr2 := Sl.of_row (hp2.at 0 rfl)
    obtain ⟨t1, z1, e1, et1⟩ := hz ps[i].1
    rw [e1]
    repeat (first | refine WC.seq ?_ | refine WC.reg ?_ | refine WL.pure rfl rfl rfl ?_ | refine WL.nil ?_ | refine WC.skip ?_ | refine WC.block ?_ | refine WC.condT rfl ?_ | refine WC.condF rfl ?_ | refine WL.off rfl rfl rfl ?_ | refine WL.off0 rfl rfl ?_ | refine WC.exit ?_ | refine blk_hit ?_ | refine blk_miss rfl ?_ | refine WC.ret ?_)
    refine WL.ix rfl rfl rfl rfl rfl (j := i) hi rfl ?_
    refine WL.ixA (j := 1) rfl rfl rfl rfl rfl rfl (by decide) ?_
    refine WL.load rfl rfl rfl rfl rfl (rcs_cell hsr2 hi (q := 1) rfl) ?_
    refine WL.call rfl rfl rfl rfl rfl ent17 (rNormal_any a cap l ps[i].2 (by omega) hd (by omega) (hm.mono (by decide)) w2 (hs.hp hp2)) ?_
    rintro _ w3 ⟨rfl, hp3⟩
    have hp3 := hp2.comb hp3
    obtain ⟨t2, z2, e2, et2⟩ := hz ps[i].2
    rw [e2]
    generalize ps[i] = r at *
    repeat (first | refine WC.seq ?_ | refine WC.reg ?_ | refine WL.pure rfl rfl rfl ?_ | refine WL.nil ?_ | refine WC.skip ?_ | refine WC.block ?_ | refine WC.condT rfl ?_ | refine WC.condF rfl ?_ | refine WL.off rfl rfl rfl ?_ | refine WL.off0 rfl rfl ?_ | refine WC.exit ?_ | refine blk_hit ?_ | refine blk_miss rfl ?_ | refine WC.ret ?_)
    refine WL.split 44 rfl (fun h5 => ?_) (fun h5 => ?_)
    · have h5 : (normM l r.1).isSome = false := by simpa using h5
      have hf : formsM l r = none := by rw [h5, Bool.false_and] at hiso; exact Option.not_isSome_iff_eq_none.1 (by rw [hiso]; decide)
      rw [hf] at hN
      repeat (first | refine WC.seq ?_ | refine WC.reg ?_ | refine WL.pure rfl rfl rfl ?_ | refine WL.nil ?_ | refine WC.skip ?_ | refine WC.block ?_ | refine WC.condT rfl ?_ | refine WC.condF rfl ?_ | refine WL.off rfl rfl rfl ?_ | refine WL.off0 rfl rfl ?_ | refine WC.exit ?_ | refine blk_hit ?_ | refine blk_miss rfl ?_ | refine WC.ret ?_)
      exact Res.two rfl rfl rfl rfl ⟨by rw [hN]; rfl, hp3.nil'⟩
    have h5 : (normM l r.1).isSome = true := by simpa using h5
    repeat (first | refine WC.seq ?_ | refine WC.reg ?_ | refine WL.pure rfl rfl rfl ?_ | refine WL.nil ?_ | refine WC.skip ?_ | refine WC.block ?_ | refine WC.condT rfl ?_ | refine WC.condF rfl ?_ | refine WL.off rfl rfl rfl ?_ | refine WL.off0 rfl rfl ?_ | refine WC.exit ?_ | refine blk_hit ?_ | refine blk_miss rfl ?_ | refine WC.ret ?_)
    refine WC.cond rfl (fun h6 => ?_) (fun h6 => ?_)
    · have h6 : (normM l r.2).isSome = false := by simpa using h6
      have hf : formsM l r = none := by rw [h6, Bool.and_false] at hiso; exact Option.not_isSome_iff_eq_none.1 (by rw [hiso]; decide)
      rw [hf] at hN
      repeat (first | refine WC.seq ?_ | refine WC.reg ?_ | refine WL.pure rfl rfl rfl ?_ | refine WL.nil ?_ | refine WC.skip ?_ | refine WC.block ?_ | refine WC.condT rfl ?_ | refine WC.condF rfl ?_ | refine WL.off rfl rfl rfl ?_ | refine WL.off0 rfl rfl ?_ | refine WC.exit ?_ | refine blk_hit ?_ | refine blk_miss rfl ?_ | refine WC.ret ?_)
      exact Res.two rfl rfl rfl rfl ⟨by rw [hN]; rfl, hp3.nil'⟩
    have h6 : (normM l r.2).isSome = true := by simpa using h6
    obtain ⟨p, hf⟩ := Option.isSome_iff_exists.1 (show (formsM l r).isSome = true by rw [hiso, h5, h6]; rfl)
    have hp := formsM_some hf
    rw [hf, hp, ← et1, ← et2] at hN
    simp only at hN
    repeat (first | refine WC.seq ?_ | refine WC.reg ?_ | refine WL.pure rfl rfl rfl ?_ | refine WL.nil ?_ | refine WC.skip ?_ | refine WC.block ?_ | refine WC.condT rfl ?_ | refine WC.condF rfl ?_ | refine WL.off rfl rfl rfl ?_ | refine WL.off0 rfl rfl ?_ | refine WC.exit ?_ | refine blk_hit ?_ | refine blk_miss rfl ?_ | refine WC.ret ?_)
    refine WL.sCmp rfl rfl rfl rfl rfl ?_
    repeat (first | refine WC.seq ?_ | refine WC.reg ?_ | refine WL.pure rfl rfl rfl ?_ | refine WL.nil ?_ | refine WC.skip ?_ | refine WC.block ?_ | refine WC.condT rfl ?_ | refine WC.condF rfl ?_ | refine WL.off rfl rfl rfl ?_ | refine WL.off0 rfl rfl ?_ | refine WC.exit ?_ | refine blk_hit ?_ | refine blk_miss rfl ?_ | refine WC.ret ?_)
    refine WC.cond rfl (fun h7 => ?_) (fun h7 => ?_)
    · have h7 : ¬ t1 = t2 := by simpa using h7
      rw [if_neg h7] at hN
      repeat (first | refine WC.seq ?_ | refine WC.reg ?_ | refine WL.pure rfl rfl rfl ?_ | refine WL.nil ?_ | refine WC.skip ?_ | refine WC.block ?_ | refine WC.condT rfl ?_ | refine WC.condF rfl ?_ | refine WL.off rfl rfl rfl ?_ | refine WL.off0 rfl rfl ?_ | refine WC.exit ?_ | refine blk_hit ?_ | refine blk_miss rfl ?_ | refine WC.ret ?_)
      exact Res.two rfl rfl rfl rfl ⟨by rw [hN]; rfl, hp3.nil'⟩
    · have h7 : t1 = t2 := by simpa using h7
      rw [if_pos h7] at hN
      repeat (first | refine WC.seq ?_ | refine WC.reg ?_ | refine WL.pure rfl rfl rfl ?_ | refine WL.nil ?_ | refine WC.skip ?_ | refine WC.block ?_ | refine WC.condT rfl ?_ | refine WC.condF rfl ?_ | refine WL.off rfl rfl rfl ?_ | refine WL.off0 rfl rfl ?_ | refine WC.exit ?_ | refine blk_hit ?_ | refine blk_miss rfl ?_ | refine WC.ret ?_)
      exact ⟨i + 1, by omega, ⟨rfl, rfl, congrArg (fun z => some (Value.int .i64 z)) step, rfl⟩, hi, hN, hp3⟩
  · have hi : ps.length ≤ i := by have := of_decide_eq_false hc; omega
    rw [List.drop_of_length_le hi] at hN
    repeat (first | refine WC.seq ?_ | refine WC.reg ?_ | refine WL.pure rfl rfl rfl ?_ | refine WL.nil ?_ | refine WC.skip ?_ | refine WC.block ?_ | refine WC.condT rfl ?_ | refine WC.condF rfl ?_ | refine WL.off rfl rfl rfl ?_ | refine WL.off0 rfl rfl ?_ | refine WC.exit ?_ | refine blk_hit ?_ | refine blk_miss rfl ?_ | refine WC.ret ?_)
    exact Res.two rfl rfl rfl rfl ⟨by rw [hN]; rfl, hp1.nil'⟩
end Go.Proofs.YtoghnhbjdnjghaaGreat
