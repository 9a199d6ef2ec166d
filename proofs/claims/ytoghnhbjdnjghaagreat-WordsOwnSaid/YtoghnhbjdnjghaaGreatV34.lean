/- The reference's Complete. -/
import Derived.Test.YtoghnhbjdnjghaaGreatV33
import Derived.Test.YtoghnhbjdnjghaaGreatV27
namespace Go.Proofs.YtoghnhbjdnjghaaGreat
open Go.W Go.Words Go.RowKit
set_option maxRecDepth 100000
attribute [local irreducible] WC WL WQ WS WH

set_option maxHeartbeats 2000000 in
theorem rComplete_any (a : Option Addr) (cap : Nat) (l : List Rl) (k : Int) (hlen : l.length ≤ 1000000) (hm : Sm 9223372036854775807 l) (w : World) (hs : Sl w a (rcs l)) :
    Ret Tryz.prog 19 [.slice a l.length cap, .int .i64 k] w (CompQ l k w) := by
  have hfail : ∀ w', eqnsB l k = false → Hp w w' [] → CompQ l k w (.tuple #[.slice none 0 0, .bool false, .int .i64 2]) w' := fun w' h hp => by
    unfold CompQ; rw [h]; exact ⟨rfl, hp⟩
  have hK : eqnsB l k = (decide (l.length ≤ 64) && l.all eqnB && decide (0 ≤ k) && decide (k ≤ 12)) := rfl
  refine enter Tryz.func19 rfl rfl ⟨rfl, rfl⟩ rfl ?_
  repeat (first | refine WC.seq ?_ | refine WC.reg ?_ | refine WL.pure rfl rfl rfl ?_ | refine WL.nil ?_ | refine WC.skip ?_ | refine WC.block ?_ | refine WC.condT rfl ?_ | refine WC.condF rfl ?_ | refine WL.off rfl rfl rfl ?_ | refine WL.off0 rfl rfl ?_ | refine WC.exit ?_ | refine blk_hit ?_ | refine blk_miss rfl ?_ | refine WC.ret ?_)
  refine WL.split 27 rfl (fun h1 => ?_) (fun h1 => ?_)
  · have h1 : ¬ l.length ≤ 64 := by have := of_decide_eq_true h1; omega
    repeat (first | refine WC.seq ?_ | refine WC.reg ?_ | refine WL.pure rfl rfl rfl ?_ | refine WL.nil ?_ | refine WC.skip ?_ | refine WC.block ?_ | refine WC.condT rfl ?_ | refine WC.condF rfl ?_ | refine WL.off rfl rfl rfl ?_ | refine WL.off0 rfl rfl ?_ | refine WC.exit ?_ | refine blk_hit ?_ | refine blk_miss rfl ?_ | refine WC.ret ?_)
    exact Res.three rfl rfl rfl rfl rfl (hfail _ (by rw [hK, decide_eq_false h1]; rfl) (Hp.start w))
  have h1 : l.length ≤ 64 := by have := of_decide_eq_false h1; omega
  repeat (first | refine WC.seq ?_ | refine WC.reg ?_ | refine WL.pure rfl rfl rfl ?_ | refine WL.nil ?_ | refine WC.skip ?_ | refine WC.block ?_ | refine WC.condT rfl ?_ | refine WC.condF rfl ?_ | refine WL.off rfl rfl rfl ?_ | refine WL.off0 rfl rfl ?_ | refine WC.exit ?_ | refine blk_hit ?_ | refine blk_miss rfl ?_ | refine WC.ret ?_)
  refine WL.split 31 rfl (fun h2 => ?_) (fun h2 => ?_)
  · have h2 : ¬ 0 ≤ k := by have := of_decide_eq_true h2; omega
    repeat (first | refine WC.seq ?_ | refine WC.reg ?_ | refine WL.pure rfl rfl rfl ?_ | refine WL.nil ?_ | refine WC.skip ?_ | refine WC.block ?_ | refine WC.condT rfl ?_ | refine WC.condF rfl ?_ | refine WL.off rfl rfl rfl ?_ | refine WL.off0 rfl rfl ?_ | refine WC.exit ?_ | refine blk_hit ?_ | refine blk_miss rfl ?_ | refine WC.ret ?_)
    exact Res.three rfl rfl rfl rfl rfl (hfail _ (by rw [hK, decide_eq_false h2, Bool.and_false]; rfl) (Hp.start w))
  have h2 : 0 ≤ k := by have := of_decide_eq_false h2; omega
  repeat (first | refine WC.seq ?_ | refine WC.reg ?_ | refine WL.pure rfl rfl rfl ?_ | refine WL.nil ?_ | refine WC.skip ?_ | refine WC.block ?_ | refine WC.condT rfl ?_ | refine WC.condF rfl ?_ | refine WL.off rfl rfl rfl ?_ | refine WL.off0 rfl rfl ?_ | refine WC.exit ?_ | refine blk_hit ?_ | refine blk_miss rfl ?_ | refine WC.ret ?_)
  refine WC.cond rfl (fun h3 => ?_) (fun h3 => ?_)
  · have h3 : ¬ k ≤ 12 := by have := of_decide_eq_true h3; omega
    repeat (first | refine WC.seq ?_ | refine WC.reg ?_ | refine WL.pure rfl rfl rfl ?_ | refine WL.nil ?_ | refine WC.skip ?_ | refine WC.block ?_ | refine WC.condT rfl ?_ | refine WC.condF rfl ?_ | refine WL.off rfl rfl rfl ?_ | refine WL.off0 rfl rfl ?_ | refine WC.exit ?_ | refine blk_hit ?_ | refine blk_miss rfl ?_ | refine WC.ret ?_)
    exact Res.three rfl rfl rfl rfl rfl (hfail _ (by rw [hK, decide_eq_false h3, Bool.and_false]) (Hp.start w))
  have h3 : k ≤ 12 := by have := of_decide_eq_false h3; omega
  obtain ⟨k0, rfl⟩ : ∃ n : Nat, k = (n : Int) := ⟨k.toNat, by omega⟩
  have hk0 : k0 ≤ 12 := by omega
  repeat (first | refine WC.seq ?_ | refine WC.reg ?_ | refine WL.pure rfl rfl rfl ?_ | refine WL.nil ?_ | refine WC.skip ?_ | refine WC.block ?_ | refine WC.condT rfl ?_ | refine WC.condF rfl ?_ | refine WL.off rfl rfl rfl ?_ | refine WL.off0 rfl rfl ?_ | refine WC.exit ?_ | refine blk_hit ?_ | refine blk_miss rfl ?_ | refine WC.ret ?_)
  refine WC.loop (Nat × Option Addr × Nat × List Rl) (fun (i, oa, oc, acc) => [(0, .slice a l.length cap), (1, .int .i64 (k0 : Nat)), (7, .slice oa acc.length oc), (8, .int .i64 (i : Nat))])
    (fun (i, oa, oc, acc) w' => i ≤ l.length ∧ (∀ r ∈ l.take i, eqnB r = true) ∧ acc = eqsM (l.take i) ∧ Hp w w' [Rt (.slice oa acc.length oc) acc]) (fun (i, _) => l.length - i) (0, none, 0, []) ⟨rfl, rfl, rfl, rfl, rfl⟩ ⟨Nat.zero_le _, fun r hr => (by cases hr), rfl, (Hp.start w).nilrow _ _⟩ ?_
  rintro ⟨i, oa, oc, acc⟩ w1 ⟨hi, hall, hE, hp1⟩
  repeat (first | refine WC.seq ?_ | refine WC.reg ?_ | refine WL.pure rfl rfl rfl ?_ | refine WL.nil ?_ | refine WC.skip ?_ | refine WC.block ?_ | refine WC.condT rfl ?_ | refine WC.condF rfl ?_ | refine WL.off rfl rfl rfl ?_ | refine WL.off0 rfl rfl ?_ | refine WC.exit ?_ | refine blk_hit ?_ | refine blk_miss rfl ?_ | refine WC.ret ?_)
  refine WC.cond rfl (fun hc => ?_) (fun hc => ?_)
  · have hi : i < l.length := by have := of_decide_eq_true hc; omega
    have step := wrap_succ hi (by omega)
    have hsucc := eqsM_succ hi
    have hel := eqsM_len (l.take i)
    rw [List.length_take, Nat.min_eq_left (by omega)] at hel
    rw [← hE] at hel hsucc
    have hsz := hm.at_ hi
    have hbad : eqnB l[i] = false → eqnsB l (k0 : Nat) = false := fun h => by
      have : l.all eqnB = false := by rw [List.all_eq_false]; exact ⟨l[i], List.getElem_mem hi, by rw [h]; decide⟩
      rw [hK, this, Bool.and_false]; rfl
    have hgood : eqnB l[i] = true → ∀ r ∈ l.take (i + 1), eqnB r = true := fun h r hr => by
      rw [List.take_succ_eq_append_getElem hi] at hr
      rcases List.mem_append.1 hr with hr | hr
      · exact hall r hr
      · rw [List.mem_singleton.1 hr]; exact h
    obtain ⟨b, o, rfl⟩ := rcs_some hs (by omega)
    have hs1 := hs.hp hp1
    repeat (first | refine WC.seq ?_ | refine WC.reg ?_ | refine WL.pure rfl rfl rfl ?_ | refine WL.nil ?_ | refine WC.skip ?_ | refine WC.block ?_ | refine WC.condT rfl ?_ | refine WC.condF rfl ?_ | refine WL.off rfl rfl rfl ?_ | refine WL.off0 rfl rfl ?_ | refine WC.exit ?_ | refine blk_hit ?_ | refine blk_miss rfl ?_ | refine WC.ret ?_)
    refine WL.ixload2 rfl (fun _ => rfl) rfl rfl rfl rfl rfl rfl rfl hi rfl rfl hs1 hi ?_
    intro pp
    refine WL.call rfl rfl rfl rfl rfl ent36 (rEquation_any l[i] hsz.1 hsz.2 w1) ?_
    rintro _ w2 ⟨rfl, hp2⟩
    have hp2 := hp1.comb hp2
    repeat (first | refine WC.seq ?_ | refine WC.reg ?_ | refine WL.pure rfl rfl rfl ?_ | refine WL.nil ?_ | refine WC.skip ?_ | refine WC.block ?_ | refine WC.condT rfl ?_ | refine WC.condF rfl ?_ | refine WL.off rfl rfl rfl ?_ | refine WL.off0 rfl rfl ?_ | refine WC.exit ?_ | refine blk_hit ?_ | refine blk_miss rfl ?_ | refine WC.ret ?_)
    refine WC.cond rfl (fun hb => ?_) (fun hb => ?_)
    · have hb : eqnB l[i] = false := by simpa using hb
      repeat (first | refine WC.seq ?_ | refine WC.reg ?_ | refine WL.pure rfl rfl rfl ?_ | refine WL.nil ?_ | refine WC.skip ?_ | refine WC.block ?_ | refine WC.condT rfl ?_ | refine WC.condF rfl ?_ | refine WL.off rfl rfl rfl ?_ | refine WL.off0 rfl rfl ?_ | refine WC.exit ?_ | refine blk_hit ?_ | refine blk_miss rfl ?_ | refine WC.ret ?_)
      exact Res.three rfl rfl rfl rfl rfl (hfail _ (hbad hb) hp2.nil')
    have hb : eqnB l[i] = true := by simpa using hb
    have hgood := hgood hb
    have hT : ∀ w', Hp w w' [Rt (.slice oa acc.length oc) acc] → Hp w w' [] := fun w' h => h.nil'
    repeat (first | refine WC.seq ?_ | refine WC.skip ?_ | refine WC.block ?_)
    refine WC.mid Bool (fun q => [(0, .slice (some ⟨b, o, none⟩) l.length cap), (1, .int .i64 (k0 : Nat)), (7, .slice oa acc.length oc), (8, .int .i64 (i : Nat)), (57, .bool q)])
      (fun q w' => q = !decide (l[i].1 = l[i].2) ∧ Hp w w' [Rt (.slice oa acc.length oc) acc]) ?_ ?_
    · refine WC.regQ (fun w' => Hp w w' [Rt (.slice oa acc.length oc) acc]) mixed (by kernel_rfl) (fun w' hw' => hp2.keep hw') ?_
      repeat (first | refine WQ.pure rfl rfl rfl ?_ | refine WQ.off rfl rfl rfl ?_ | refine WQ.nil ?_)
      refine WQ.ix rfl rfl rfl rfl rfl rfl (j := i) hi ?_
      repeat (first | refine WQ.pure rfl rfl rfl ?_ | refine WQ.off rfl rfl rfl ?_ | refine WQ.nil ?_)
      refine WQ.load rfl rfl rfl rfl rfl (fun w' hw' => rcs_cell (hs.hp hw') hi (q := 0) rfl) ?_
      repeat (first | refine WQ.pure rfl rfl rfl ?_ | refine WQ.off rfl rfl rfl ?_ | refine WQ.nil ?_)
      refine WQ.ix rfl rfl rfl rfl rfl rfl (j := i) hi ?_
      repeat (first | refine WQ.pure rfl rfl rfl ?_ | refine WQ.off rfl rfl rfl ?_ | refine WQ.nil ?_)
      refine WQ.load rfl rfl rfl rfl rfl (fun w' hw' => rcs_cell (hs.hp hw') hi (q := 1) rfl) ?_
      refine WQ.sCmp rfl rfl rfl rfl rfl ?_
      repeat (first | refine WQ.pure rfl rfl rfl ?_ | refine WQ.off rfl rfl rfl ?_ | refine WQ.nil ?_)
      intro w' hw'
      exact ⟨_, ⟨rfl, rfl, rfl, rfl, rfl, rfl⟩, rfl, hw'⟩
    rintro q e3 w3 hsub ⟨hq, hp3⟩
    refine WC.sub hsub ?_
    refine WC.cond rfl (fun h4 => ?_) (fun h4 => ?_)
    · have h4 : ¬ l[i].1 = l[i].2 := by rw [h4] at hq; simpa using hq
      rw [if_neg h4] at hsucc
      have e1 : (acc ++ [dirM l[i].1 l[i].2]).length = acc.length + 1 := by rw [List.length_append]; rfl
      repeat (first | refine WC.seq ?_ | refine WC.skip ?_ | refine WC.block ?_)
      refine WC.mid (Option Addr × Nat) (fun (ra, rc1) => [(0, .slice (some ⟨b, o, none⟩) l.length cap), (1, .int .i64 (k0 : Nat)), (7, .slice ra (acc ++ [dirM l[i].1 l[i].2]).length rc1), (8, .int .i64 (i : Nat))]) (fun (ra, rc1) w' => Hp w w' [Rt (.slice ra (acc ++ [dirM l[i].1 l[i].2]).length rc1) (acc ++ [dirM l[i].1 l[i].2])]) ?_ ?_
      · refine WC.regH (fun w' => Hp w w' []) mixed (by kernel_rfl) (fun w3' hw3 hh3 => ?_)
        have hp3 := hp3.keep hw3
        refine WH.pure 0 (by kernel_rfl) rfl (by kernel_rfl) rfl rfl rfl (hT _ hp3) ?_
        refine WH.pure 1 (by kernel_rfl) rfl (by kernel_rfl) rfl rfl rfl (hT _ hp3) ?_
        refine WH.pure 2 (by kernel_rfl) rfl (by kernel_rfl) rfl rfl rfl (hT _ hp3) ?_
        refine WH.ixS 3 (by kernel_rfl) rfl (by kernel_rfl) rfl rfl rfl rfl rfl rfl hi (hT _ hp3) ?_
        refine WH.pure 4 (by kernel_rfl) rfl (by kernel_rfl) rfl rfl rfl (hT _ hp3) ?_
        refine WH.load 5 (by kernel_rfl) rfl (by kernel_rfl) rfl rfl rfl rfl rfl (fun w' h => rcs_cell (hs.hp h) hi (q := 0) rfl) (hT _ hp3) ?_
        refine WH.pure 6 (by kernel_rfl) rfl (by kernel_rfl) rfl rfl rfl (hT _ hp3) ?_
        refine WH.pure 7 (by kernel_rfl) rfl (by kernel_rfl) rfl rfl rfl (hT _ hp3) ?_
        refine WH.ixS 8 (by kernel_rfl) rfl (by kernel_rfl) rfl rfl rfl rfl rfl rfl hi (hT _ hp3) ?_
        refine WH.pure 9 (by kernel_rfl) rfl (by kernel_rfl) rfl rfl rfl (hT _ hp3) ?_
        refine WH.load 10 (by kernel_rfl) rfl (by kernel_rfl) rfl rfl rfl rfl rfl (fun w' h => rcs_cell (hs.hp h) hi (q := 1) rfl) (hT _ hp3) ?_
        refine WH.one 11 rfl (by kernel_rfl) ?_
        refine WL.call rfl rfl rfl rfl rfl ent42 (Oriented_any l[i].1 l[i].2 w3') ?_
        rintro _ w4 ⟨rfl, hp4⟩
        have hp4 := hp3.comb hp4
        refine WL.nil ⟨hp4.nil', ?_⟩
        generalize dirM l[i].1 l[i].2 = dd at *
        refine WH.one 12 rfl (by kernel_rfl) ?_
        refine WL.buildS (cs := rc dd) rfl rfl rfl rfl rfl rfl rfl rfl rfl ?_
        intro b6 w5 hb6
        have hp5 : Hp w w5 [Bx b6 dd, Rt (.slice oa acc.length oc) acc] := hp4.new hb6
        refine WL.nil ⟨hp5.nil', ?_⟩
        refine WH.one 13 rfl (by kernel_rfl) ?_
        refine WL.append 1 hp5 rfl rfl rfl rfl rfl (by decide) rfl rfl rfl (news := rc dd) (Sl.of_obj (hp5.obj 0 rfl) (fun q u hq => by simpa [rc] using hq)) rfl (rcs_cells [dd]) (by unfold maxLen; omega) (by show (acc.length + 1) * 32 ≤ _; omega) ?_
        intro ra rc1 w6 hp6 hg6
        refine WL.nil ⟨hp6.nil', ?_⟩
        refine WH.pure 14 (by kernel_rfl) rfl (by kernel_rfl) rfl rfl rfl (hp6.nil') ?_
        refine WH.done (by kernel_rfl) ?_
        refine ⟨(ra, rc1), ⟨rfl, rfl, congrArg (fun z : Nat => some (Value.slice ra z rc1)) e1.symm, rfl, rfl⟩, ?_⟩
        show Hp w w6 [Rt _ _]
        unfold Rt
        rw [e1, rcs_app]
        exact hp6.tail
      rintro ⟨ra, rc1⟩ e4 w4 hsub4 hp4
      refine WC.sub hsub4 ?_
      repeat (first | refine WC.seq ?_ | refine WC.reg ?_ | refine WL.pure rfl rfl rfl ?_ | refine WL.nil ?_ | refine WC.skip ?_ | refine WC.block ?_ | refine WC.condT rfl ?_ | refine WC.condF rfl ?_ | refine WL.off rfl rfl rfl ?_ | refine WL.off0 rfl rfl ?_ | refine WC.exit ?_ | refine blk_hit ?_ | refine blk_miss rfl ?_ | refine WC.ret ?_)
      exact ⟨(i + 1, ra, rc1, acc ++ [dirM l[i].1 l[i].2]), (by show l.length - (i + 1) < l.length - i; omega), ⟨rfl, rfl, rfl, congrArg (fun z => some (Value.int .i64 z)) step, rfl⟩, by omega, hgood, hsucc.symm, hp4⟩
    · have h4 : l[i].1 = l[i].2 := by rw [h4] at hq; simpa using hq
      rw [if_pos h4, List.append_nil] at hsucc
      repeat (first | refine WC.seq ?_ | refine WC.reg ?_ | refine WL.pure rfl rfl rfl ?_ | refine WL.nil ?_ | refine WC.skip ?_ | refine WC.block ?_ | refine WC.condT rfl ?_ | refine WC.condF rfl ?_ | refine WL.off rfl rfl rfl ?_ | refine WL.off0 rfl rfl ?_ | refine WC.exit ?_ | refine blk_hit ?_ | refine blk_miss rfl ?_ | refine WC.ret ?_)
      exact ⟨(i + 1, oa, oc, acc), (by show l.length - (i + 1) < l.length - i; omega), ⟨rfl, rfl, rfl, congrArg (fun z => some (Value.int .i64 z)) step, rfl⟩, by omega, hgood, hsucc.symm, hp3⟩
  have hi : l.length ≤ i := by have := of_decide_eq_false hc; omega
  rw [List.take_of_length_le hi] at hE hall
  have heq : eqnsB l (k0 : Nat) = true := by rw [hK, decide_eq_true h1, decide_eq_true h2, decide_eq_true h3, List.all_eq_true.2 hall]; rfl
  obtain ⟨_, hsm, _⟩ := eqnsB_of heq
  have hinv := eqsM_inv hsm
  have hel := eqsM_len l
  unfold CompQ
  rw [heq, Int.toNat_natCast]
  have hcm : completeM l k0 = match settleM acc with
    | none => none
    | some t => compN k0 t := by rw [hE]; rfl
  generalize completeM l k0 = G at *
  rw [← hE] at hinv hel
  clear hE hall heq hsm hfail hK hc
  have hset : settleM acc = match tidyM acc with
    | some t => if fitsB t then some t else none
    | none => none := by unfold settleM; rw [if_pos (by omega)]; cases tidyM acc <;> rfl
  repeat (first | refine WC.seq ?_ | refine WC.reg ?_ | refine WL.pure rfl rfl rfl ?_ | refine WL.nil ?_ | refine WC.skip ?_ | refine WC.block ?_ | refine WC.condT rfl ?_ | refine WC.condF rfl ?_ | refine WL.off rfl rfl rfl ?_ | refine WL.off0 rfl rfl ?_ | refine WC.exit ?_ | refine blk_hit ?_ | refine blk_miss rfl ?_ | refine WC.ret ?_)
  refine WL.call rfl rfl rfl rfl rfl ent25 (rTidy_any oa oc acc (by omega) hinv.1 (hinv.2.mono (by decide)) w1 (Sl.of_row (hp1.at 0 rfl))) ?_
  intro u w2 hu
  cases ht : tidyM acc with
  | none =>
    rw [ht] at hu hset
    obtain ⟨rfl, hp2⟩ := hu
    rw [hset] at hcm
    subst hcm
    have hp2 := (hp1.comb hp2).nil'
    repeat (first | refine WC.seq ?_ | refine WC.reg ?_ | refine WL.pure rfl rfl rfl ?_ | refine WL.nil ?_ | refine WC.skip ?_ | refine WC.block ?_ | refine WC.condT rfl ?_ | refine WC.condF rfl ?_ | refine WL.off rfl rfl rfl ?_ | refine WL.off0 rfl rfl ?_ | refine WC.exit ?_ | refine blk_hit ?_ | refine blk_miss rfl ?_ | refine WC.ret ?_)
    exact Res.three rfl rfl rfl rfl rfl ⟨rfl, hp2⟩
  | some t =>
    rw [ht] at hu hset
    obtain ⟨va, vc, rfl, hp2⟩ := hu
    have hp2 := (hp1.comb hp2).drop1
    obtain ⟨_, htd, hts, htl, _⟩ := tidyM_inv ht hinv.1 hinv.2
    repeat (first | refine WC.seq ?_ | refine WC.reg ?_ | refine WL.pure rfl rfl rfl ?_ | refine WL.nil ?_ | refine WC.skip ?_ | refine WC.block ?_ | refine WC.condT rfl ?_ | refine WC.condF rfl ?_ | refine WL.off rfl rfl rfl ?_ | refine WL.off0 rfl rfl ?_ | refine WC.exit ?_ | refine blk_hit ?_ | refine blk_miss rfl ?_ | refine WC.ret ?_)
    refine WL.call rfl rfl rfl rfl rfl ent43 (rfits_any va vc t (by omega) htd (hts.mono (by decide)) w2 (Sl.of_row (hp2.at 0 rfl))) ?_
    rintro _ w3 ⟨rfl, hp3⟩
    have hp3 := hp2.comb hp3
    repeat (first | refine WC.seq ?_ | refine WC.reg ?_ | refine WL.pure rfl rfl rfl ?_ | refine WL.nil ?_ | refine WC.skip ?_ | refine WC.block ?_ | refine WC.condT rfl ?_ | refine WC.condF rfl ?_ | refine WL.off rfl rfl rfl ?_ | refine WL.off0 rfl rfl ?_ | refine WC.exit ?_ | refine blk_hit ?_ | refine blk_miss rfl ?_ | refine WC.ret ?_)
    refine WC.cond rfl (fun hf => ?_) (fun hf => ?_)
    · have hf : fitsB t = false := by simpa using hf
      simp only [hf, Bool.false_eq_true, if_false] at hset
      rw [hset] at hcm
      subst hcm
      repeat (first | refine WC.seq ?_ | refine WC.reg ?_ | refine WL.pure rfl rfl rfl ?_ | refine WL.nil ?_ | refine WC.skip ?_ | refine WC.block ?_ | refine WC.condT rfl ?_ | refine WC.condF rfl ?_ | refine WL.off rfl rfl rfl ?_ | refine WL.off0 rfl rfl ?_ | refine WC.exit ?_ | refine blk_hit ?_ | refine blk_miss rfl ?_ | refine WC.ret ?_)
      exact Res.three rfl rfl rfl rfl rfl ⟨rfl, hp3.nil'⟩
    have hf : fitsB t = true := by simpa using hf
    simp only [hf, if_true] at hset
    have hS := settle_inv hset hinv.1 hinv.2
    rw [hset] at hcm
    simp only at hcm
    repeat (first | refine WC.seq ?_ | refine WC.reg ?_ | refine WL.pure rfl rfl rfl ?_ | refine WL.nil ?_ | refine WC.skip ?_ | refine WC.block ?_ | refine WC.condT rfl ?_ | refine WC.condF rfl ?_ | refine WL.off rfl rfl rfl ?_ | refine WL.off0 rfl rfl ?_ | refine WC.exit ?_ | refine blk_hit ?_ | refine blk_miss rfl ?_ | refine WC.ret ?_)
    refine WC.loop (Nat × Option Addr × Nat × List Rl) (fun (n, va, vc, t) => [(1, .int .i64 (k0 : Nat)), (7, .slice va t.length vc), (10, .int .i64 (n : Nat))])
      (fun (n, va, vc, t) w' => n ≤ k0 ∧ G = compN (k0 - n) t ∧ Stl t ∧ Hp w w' [Rt (.slice va t.length vc) t]) (fun (n, _) => k0 - n) (0, va, vc, t) ⟨rfl, rfl, rfl, rfl⟩ ⟨Nat.zero_le _, hcm, hS, hp3⟩ ?_
    clear hcm hS hset ht htd hts htl hf hp3 hp2 hp1 hinv hel
    rintro ⟨n, va, vc, t⟩ w4 ⟨hn, hG, hS, hp4⟩
    have hSl := hS.len
    repeat (first | refine WC.seq ?_ | refine WC.reg ?_ | refine WL.pure rfl rfl rfl ?_ | refine WL.nil ?_ | refine WC.skip ?_ | refine WC.block ?_ | refine WC.condT rfl ?_ | refine WC.condF rfl ?_ | refine WL.off rfl rfl rfl ?_ | refine WL.off0 rfl rfl ?_ | refine WC.exit ?_ | refine blk_hit ?_ | refine blk_miss rfl ?_ | refine WC.ret ?_)
    refine WL.call rfl rfl rfl rfl rfl ent23 (rClash_any va vc t (by omega) (hS.sm.mono (by decide)) hS.dn w4 (Sl.of_row (hp4.at 0 rfl))) ?_
    rintro _ w5 ⟨rfl, hp5⟩
    have hp5 := hp4.comb hp5
    cases hcl : clashM t with
    | none =>
      rw [compN_none _ hcl] at hG
      subst hG
      unfold clashV
      repeat (first | refine WC.seq ?_ | refine WC.reg ?_ | refine WL.pure rfl rfl rfl ?_ | refine WL.nil ?_ | refine WC.skip ?_ | refine WC.block ?_ | refine WC.condT rfl ?_ | refine WC.condF rfl ?_ | refine WL.off rfl rfl rfl ?_ | refine WL.off0 rfl rfl ?_ | refine WC.exit ?_ | refine blk_hit ?_ | refine blk_miss rfl ?_ | refine WC.ret ?_)
      exact Res.three rfl rfl rfl rfl rfl ⟨rfl, hp5.nil'⟩
    | some m =>
      unfold clashV
      repeat (first | refine WC.seq ?_ | refine WC.reg ?_ | refine WL.pure rfl rfl rfl ?_ | refine WL.nil ?_ | refine WC.skip ?_ | refine WC.block ?_ | refine WC.condT rfl ?_ | refine WC.condF rfl ?_ | refine WL.off rfl rfl rfl ?_ | refine WL.off0 rfl rfl ?_ | refine WC.exit ?_ | refine blk_hit ?_ | refine blk_miss rfl ?_ | refine WC.ret ?_)
      refine WL.split 95 rfl (fun h4 => ?_) (fun h4 => ?_)
      · have h4 : m < 0 := of_decide_eq_true h4
        rw [compN_conf _ hcl h4] at hG
        subst hG
        repeat (first | refine WC.seq ?_ | refine WC.reg ?_ | refine WL.pure rfl rfl rfl ?_ | refine WL.nil ?_ | refine WC.skip ?_ | refine WC.block ?_ | refine WC.condT rfl ?_ | refine WC.condF rfl ?_ | refine WL.off rfl rfl rfl ?_ | refine WL.off0 rfl rfl ?_ | refine WC.exit ?_ | refine blk_hit ?_ | refine blk_miss rfl ?_ | refine WC.ret ?_)
        refine Res.three rfl rfl rfl rfl rfl ⟨va, vc, ?_, hp5⟩
        rw [decide_eq_true h4]
      have h4 : ¬ m < 0 := of_decide_eq_false h4
      repeat (first | refine WC.seq ?_ | refine WC.reg ?_ | refine WL.pure rfl rfl rfl ?_ | refine WL.nil ?_ | refine WC.skip ?_ | refine WC.block ?_ | refine WC.condT rfl ?_ | refine WC.condF rfl ?_ | refine WL.off rfl rfl rfl ?_ | refine WL.off0 rfl rfl ?_ | refine WC.exit ?_ | refine blk_hit ?_ | refine blk_miss rfl ?_ | refine WC.ret ?_)
      refine WC.cond rfl (fun h5 => ?_) (fun h5 => ?_)
      · have h5 : n = k0 := by have := eq_of_beq h5; omega
        subst h5
        rw [Nat.sub_self, compN_stop hcl h4] at hG
        subst hG
        repeat (first | refine WC.seq ?_ | refine WC.reg ?_ | refine WL.pure rfl rfl rfl ?_ | refine WL.nil ?_ | refine WC.skip ?_ | refine WC.block ?_ | refine WC.condT rfl ?_ | refine WC.condF rfl ?_ | refine WL.off rfl rfl rfl ?_ | refine WL.off0 rfl rfl ?_ | refine WC.exit ?_ | refine blk_hit ?_ | refine blk_miss rfl ?_ | refine WC.ret ?_)
        refine Res.three rfl rfl rfl rfl rfl ⟨va, vc, ?_, hp5⟩
        rw [decide_eq_false h4]
      have h5 : n < k0 := by
        have : ¬ ((n : Int) = (k0 : Int)) := fun h => by rw [h] at h5; simp at h5
        omega
      obtain ⟨j, hj⟩ : ∃ j, k0 - n = j + 1 := ⟨k0 - n - 1, by omega⟩
      rw [hj, compN_more j hcl h4] at hG
      have step := wrap_succ h5 (by omega)
      clear hcl
      have hs5 : Sl w5 va (rcs t) := Sl.of_row (hp5.at 0 rfl)
      repeat (first | refine WC.seq ?_ | refine WC.reg ?_ | refine WL.pure rfl rfl rfl ?_ | refine WL.nil ?_ | refine WC.skip ?_ | refine WC.block ?_ | refine WC.condT rfl ?_ | refine WC.condF rfl ?_ | refine WL.off rfl rfl rfl ?_ | refine WL.off0 rfl rfl ?_ | refine WC.exit ?_ | refine blk_hit ?_ | refine blk_miss rfl ?_ | refine WC.ret ?_)
      refine WL.append 0 (hp5.nilrow 56 2) rfl rfl rfl rfl rfl (by decide) rfl rfl rfl (news := rcs t) hs5 (by rw [rcs_len]; rfl) (rcs_cells _) (by unfold maxLen; omega) (by show (0 + t.length) * 32 ≤ _; omega) ?_
      intro ra rc1 w6 hp6 hg6
      rw [Nat.zero_add, List.nil_append] at hp6
      rw [Nat.zero_add]
      have hp6 : Hp w w6 [Rt (.slice ra t.length rc1) t, Rt (.slice va t.length vc) t] := hp6
      repeat (first | refine WC.seq ?_ | refine WC.reg ?_ | refine WL.pure rfl rfl rfl ?_ | refine WL.nil ?_ | refine WC.skip ?_ | refine WC.block ?_ | refine WC.condT rfl ?_ | refine WC.condF rfl ?_ | refine WL.off rfl rfl rfl ?_ | refine WL.off0 rfl rfl ?_ | refine WC.exit ?_ | refine blk_hit ?_ | refine blk_miss rfl ?_ | refine WC.ret ?_)
      refine WL.call rfl rfl rfl rfl rfl ent22 (rPairs_any va vc t (by omega) (hS.sm.mono (by decide)) w6 (Sl.of_row (hp6.at 1 rfl))) ?_
      rintro _ w7 ⟨pa, pc, rfl, hp7⟩
      have hp7 := hp6.comb hp7
      have hp7 : Hp w w7 [Rr (.slice pa (pairsM t).length pc) (pairsM t), Rt (.slice ra t.length rc1) t, Rt (.slice va t.length vc) t] := hp7
      have hpl : (pairsM t).length ≤ 200000 := by
        refine Nat.le_trans (pairsM_len hS.sm) ?_
        refine Nat.le_trans (Nat.mul_le_mul hS.len (Nat.mul_le_mul_right _ hS.len)) ?_
        decide
      have hps : Sm 1000 (pairsM t) := (pairsM_sm hS.sm).mono (by decide)
      have hr0 : roundM t = rndN t (pairsM t) t := rfl
      generalize pairsM t = ps at *
      have hz : ∀ s, ∃ q z, norV (normM t s) = .tuple #[st q, .int .i64 z, .bool (normM t s).isSome] ∧ q = nrS t s := by
        intro s
        unfold nrS
        cases normM t s with
        | none => exact ⟨[], (0 : Nat), rfl, rfl⟩
        | some p => exact ⟨p.1, (p.2 : Nat), rfl, rfl⟩
      repeat (first | refine WC.seq ?_ | refine WC.reg ?_ | refine WL.pure rfl rfl rfl ?_ | refine WL.nil ?_ | refine WC.skip ?_ | refine WC.block ?_ | refine WC.condT rfl ?_ | refine WC.condF rfl ?_ | refine WL.off rfl rfl rfl ?_ | refine WL.off0 rfl rfl ?_ | refine WC.exit ?_ | refine blk_hit ?_ | refine blk_miss rfl ?_ | refine WC.ret ?_)
      refine WC.loop (Nat × Option Addr × Nat × List Rl) (fun (i, ra, rc1, acc) => [(1, .int .i64 (k0 : Nat)), (7, .slice va t.length vc), (10, .int .i64 (n : Nat)), (13, .slice ra acc.length rc1), (14, .slice pa ps.length pc), (15, .int .i64 (i : Nat))])
        (fun (i, ra, rc1, acc) w' => i ≤ ps.length ∧ roundM t = rndN t (ps.drop i) acc ∧ acc.length ≤ t.length + i ∧ Hp w w' [Rt (.slice ra acc.length rc1) acc, Rr (.slice pa ps.length pc) ps, Rt (.slice va t.length vc) t]) (fun (i, _) => ps.length - i) (0, ra, rc1, t) ⟨rfl, rfl, rfl, rfl, rfl, rfl, rfl⟩ ⟨Nat.zero_le _, hr0, Nat.le_refl _, hp7.swap⟩ ?_
      clear hp7 hp6 hp5 hp4 hr0 hs5 hg6
      rintro ⟨i, ra, rc1, acc⟩ w8 ⟨hi, hR, hal, hp8⟩
      repeat (first | refine WC.seq ?_ | refine WC.reg ?_ | refine WL.pure rfl rfl rfl ?_ | refine WL.nil ?_ | refine WC.skip ?_ | refine WC.block ?_ | refine WC.condT rfl ?_ | refine WC.condF rfl ?_ | refine WL.off rfl rfl rfl ?_ | refine WL.off0 rfl rfl ?_ | refine WC.exit ?_ | refine blk_hit ?_ | refine blk_miss rfl ?_ | refine WC.ret ?_)
      refine WC.cond rfl (fun hc => ?_) (fun hc => ?_)
      · have hi : i < ps.length := by have := of_decide_eq_true hc; omega
        have stepi := wrap_succ hi (by omega)
        have hsz := hps.at_ hi
        rw [rndN_at (List.drop_eq_getElem_cons hi)] at hR
        have hsr := Sl.of_row (hp8.at 1 rfl)
        obtain ⟨b, o, rfl⟩ := rcs_some hsr (by omega)
        have hiso := formsM_iso t ps[i]
        repeat (first | refine WC.seq ?_ | refine WC.reg ?_ | refine WL.pure rfl rfl rfl ?_ | refine WL.nil ?_ | refine WC.skip ?_ | refine WC.block ?_ | refine WC.condT rfl ?_ | refine WC.condF rfl ?_ | refine WL.off rfl rfl rfl ?_ | refine WL.off0 rfl rfl ?_ | refine WC.exit ?_ | refine blk_hit ?_ | refine blk_miss rfl ?_ | refine WC.ret ?_)
        refine WL.ix rfl rfl rfl rfl rfl (j := i) hi rfl ?_
        refine WL.ixA (j := 0) rfl rfl rfl rfl rfl rfl (by decide) ?_
        refine WL.load rfl rfl rfl rfl rfl (rcs_cell hsr hi (q := 0) rfl) ?_
        refine WL.call rfl rfl rfl rfl rfl ent17 (rNormal_any va vc t ps[i].1 (by omega) hS.dn (by omega) (hS.sm.mono (by decide)) w8 (Sl.of_row (hp8.at 2 rfl))) ?_
        rintro _ w9 ⟨rfl, hp9⟩
        have hp9 := hp8.comb hp9
        have hsr9 := Sl.of_row (hp9.at 1 rfl)
        obtain ⟨t1, z1, e1, et1⟩ := hz ps[i].1
        rw [e1]
        repeat (first | refine WC.seq ?_ | refine WC.reg ?_ | refine WL.pure rfl rfl rfl ?_ | refine WL.nil ?_ | refine WC.skip ?_ | refine WC.block ?_ | refine WC.condT rfl ?_ | refine WC.condF rfl ?_ | refine WL.off rfl rfl rfl ?_ | refine WL.off0 rfl rfl ?_ | refine WC.exit ?_ | refine blk_hit ?_ | refine blk_miss rfl ?_ | refine WC.ret ?_)
        refine WL.ix rfl rfl rfl rfl rfl (j := i) hi rfl ?_
        refine WL.ixA (j := 1) rfl rfl rfl rfl rfl rfl (by decide) ?_
        refine WL.load rfl rfl rfl rfl rfl (rcs_cell hsr9 hi (q := 1) rfl) ?_
        refine WL.call rfl rfl rfl rfl rfl ent17 (rNormal_any va vc t ps[i].2 (by omega) hS.dn (by omega) (hS.sm.mono (by decide)) w9 (Sl.of_row (hp9.at 2 rfl))) ?_
        rintro _ w10 ⟨rfl, hp10⟩
        have hp10 := hp9.comb hp10
        have hp10 : Hp w w10 [Rt (.slice ra acc.length rc1) acc, Rr (.slice (some ⟨b, o, none⟩) ps.length pc) ps, Rt (.slice va t.length vc) t] := hp10
        obtain ⟨t2, z2, e2, et2⟩ := hz ps[i].2
        rw [e2]
        generalize ps[i] = r at *
        repeat (first | refine WC.seq ?_ | refine WC.reg ?_ | refine WL.pure rfl rfl rfl ?_ | refine WL.nil ?_ | refine WC.skip ?_ | refine WC.block ?_ | refine WC.condT rfl ?_ | refine WC.condF rfl ?_ | refine WL.off rfl rfl rfl ?_ | refine WL.off0 rfl rfl ?_ | refine WC.exit ?_ | refine blk_hit ?_ | refine blk_miss rfl ?_ | refine WC.ret ?_)
        refine WL.split 138 rfl (fun h6 => ?_) (fun h6 => ?_)
        · have h6 : (normM t r.1).isSome = false := by simpa using h6
          have hf : formsM t r = none := by rw [h6, Bool.false_and] at hiso; exact Option.not_isSome_iff_eq_none.1 (by rw [hiso]; decide)
          rw [hf] at hR
          simp only at hR
          rw [hR] at hG
          subst hG
          repeat (first | refine WC.seq ?_ | refine WC.reg ?_ | refine WL.pure rfl rfl rfl ?_ | refine WL.nil ?_ | refine WC.skip ?_ | refine WC.block ?_ | refine WC.condT rfl ?_ | refine WC.condF rfl ?_ | refine WL.off rfl rfl rfl ?_ | refine WL.off0 rfl rfl ?_ | refine WC.exit ?_ | refine blk_hit ?_ | refine blk_miss rfl ?_ | refine WC.ret ?_)
          exact Res.three rfl rfl rfl rfl rfl ⟨rfl, hp10.nil'⟩
        have h6 : (normM t r.1).isSome = true := by simpa using h6
        repeat (first | refine WC.seq ?_ | refine WC.reg ?_ | refine WL.pure rfl rfl rfl ?_ | refine WL.nil ?_ | refine WC.skip ?_ | refine WC.block ?_ | refine WC.condT rfl ?_ | refine WC.condF rfl ?_ | refine WL.off rfl rfl rfl ?_ | refine WL.off0 rfl rfl ?_ | refine WC.exit ?_ | refine blk_hit ?_ | refine blk_miss rfl ?_ | refine WC.ret ?_)
        refine WC.cond rfl (fun h7 => ?_) (fun h7 => ?_)
        · have h7 : (normM t r.2).isSome = false := by simpa using h7
          have hf : formsM t r = none := by rw [h7, Bool.and_false] at hiso; exact Option.not_isSome_iff_eq_none.1 (by rw [hiso]; decide)
          rw [hf] at hR
          simp only at hR
          rw [hR] at hG
          subst hG
          repeat (first | refine WC.seq ?_ | refine WC.reg ?_ | refine WL.pure rfl rfl rfl ?_ | refine WL.nil ?_ | refine WC.skip ?_ | refine WC.block ?_ | refine WC.condT rfl ?_ | refine WC.condF rfl ?_ | refine WL.off rfl rfl rfl ?_ | refine WL.off0 rfl rfl ?_ | refine WC.exit ?_ | refine blk_hit ?_ | refine blk_miss rfl ?_ | refine WC.ret ?_)
          exact Res.three rfl rfl rfl rfl rfl ⟨rfl, hp10.nil'⟩
        have h7 : (normM t r.2).isSome = true := by simpa using h7
        obtain ⟨p, hf⟩ := Option.isSome_iff_exists.1 (show (formsM t r).isSome = true by rw [hiso, h6, h7]; rfl)
        have hp := formsM_some hf
        rw [hf, hp, ← et1, ← et2] at hR
        simp only at hR
        repeat (first | refine WC.seq ?_ | refine WC.reg ?_ | refine WL.pure rfl rfl rfl ?_ | refine WL.nil ?_ | refine WC.skip ?_ | refine WC.block ?_ | refine WC.condT rfl ?_ | refine WC.condF rfl ?_ | refine WL.off rfl rfl rfl ?_ | refine WL.off0 rfl rfl ?_ | refine WC.exit ?_ | refine blk_hit ?_ | refine blk_miss rfl ?_ | refine WC.ret ?_)
        refine WL.sCmp rfl rfl rfl rfl rfl ?_
        repeat (first | refine WC.seq ?_ | refine WC.reg ?_ | refine WL.pure rfl rfl rfl ?_ | refine WL.nil ?_ | refine WC.skip ?_ | refine WC.block ?_ | refine WC.condT rfl ?_ | refine WC.condF rfl ?_ | refine WL.off rfl rfl rfl ?_ | refine WL.off0 rfl rfl ?_ | refine WC.exit ?_ | refine blk_hit ?_ | refine blk_miss rfl ?_ | refine WC.ret ?_)
        refine WC.cond rfl (fun h8 => ?_) (fun h8 => ?_)
        · have h8 : ¬ t1 = t2 := by simpa using h8
          rw [if_neg h8] at hR
          have e3 : (acc ++ [dirM t1 t2]).length = acc.length + 1 := by rw [List.length_append]; rfl
          repeat (first | refine WC.seq ?_ | refine WC.reg ?_ | refine WL.pure rfl rfl rfl ?_ | refine WL.nil ?_ | refine WC.skip ?_ | refine WC.block ?_ | refine WC.condT rfl ?_ | refine WC.condF rfl ?_ | refine WL.off rfl rfl rfl ?_ | refine WL.off0 rfl rfl ?_ | refine WC.exit ?_ | refine blk_hit ?_ | refine blk_miss rfl ?_ | refine WC.ret ?_)
          refine WL.call rfl rfl rfl rfl rfl ent42 (Oriented_any t1 t2 w10) ?_
          rintro _ w11 ⟨rfl, hp11⟩
          have hp11 := hp10.comb hp11
          generalize dirM t1 t2 = dd at *
          refine WL.buildS (cs := rc dd) rfl rfl rfl rfl rfl rfl rfl rfl rfl ?_
          intro b6 w12 hb6
          have hp12 : Hp w w12 [Bx b6 dd, Rt (.slice ra acc.length rc1) acc, Rr (.slice (some ⟨b, o, none⟩) ps.length pc) ps, Rt (.slice va t.length vc) t] := hp11.new hb6
          refine WL.append 1 hp12 rfl rfl rfl rfl rfl (by decide) rfl rfl rfl (news := rc dd) (Sl.of_obj (hp12.obj 0 rfl) (fun q u hq => by simpa [rc] using hq)) rfl (rcs_cells [dd]) (by unfold maxLen; omega) (by show (acc.length + 1) * 32 ≤ _; omega) ?_
          intro rb rc2 w13 hp13 hg13
          repeat (first | refine WC.seq ?_ | refine WC.reg ?_ | refine WL.pure rfl rfl rfl ?_ | refine WL.nil ?_ | refine WC.skip ?_ | refine WC.block ?_ | refine WC.condT rfl ?_ | refine WC.condF rfl ?_ | refine WL.off rfl rfl rfl ?_ | refine WL.off0 rfl rfl ?_ | refine WC.exit ?_ | refine blk_hit ?_ | refine blk_miss rfl ?_ | refine WC.ret ?_)
          refine ⟨(i + 1, rb, rc2, acc ++ [dd]), (by show ps.length - (i + 1) < ps.length - i; omega), ⟨rfl, rfl, rfl, congrArg (fun z : Nat => some (Value.slice rb z rc2)) e3.symm, rfl, congrArg (fun z => some (Value.int .i64 z)) stepi, rfl⟩, by omega, hR, by omega, ?_⟩
          show Hp w w13 [Rt _ _, _, _]
          unfold Rt
          rw [e3, rcs_app]
          exact hp13.tail
        · have h8 : t1 = t2 := by simpa using h8
          rw [if_pos h8] at hR
          repeat (first | refine WC.seq ?_ | refine WC.reg ?_ | refine WL.pure rfl rfl rfl ?_ | refine WL.nil ?_ | refine WC.skip ?_ | refine WC.block ?_ | refine WC.condT rfl ?_ | refine WC.condF rfl ?_ | refine WL.off rfl rfl rfl ?_ | refine WL.off0 rfl rfl ?_ | refine WC.exit ?_ | refine blk_hit ?_ | refine blk_miss rfl ?_ | refine WC.ret ?_)
          exact ⟨(i + 1, ra, rc1, acc), (by show ps.length - (i + 1) < ps.length - i; omega), ⟨rfl, rfl, rfl, rfl, rfl, congrArg (fun z => some (Value.int .i64 z)) stepi, rfl⟩, by omega, hR, by omega, hp10⟩
      have hi : ps.length ≤ i := by have := of_decide_eq_false hc; omega
      rw [List.drop_of_length_le hi] at hR
      have hR : roundM t = some acc := hR
      obtain ⟨hnd, hns, _⟩ := round_inv hR hS
      rw [hR] at hG
      simp only at hG
      clear hR hps hz
      repeat (first | refine WC.seq ?_ | refine WC.reg ?_ | refine WL.pure rfl rfl rfl ?_ | refine WL.nil ?_ | refine WC.skip ?_ | refine WC.block ?_ | refine WC.condT rfl ?_ | refine WC.condF rfl ?_ | refine WL.off rfl rfl rfl ?_ | refine WL.off0 rfl rfl ?_ | refine WC.exit ?_ | refine blk_hit ?_ | refine blk_miss rfl ?_ | refine WC.ret ?_)
      refine WC.cond rfl (fun h6 => ?_) (fun h6 => ?_)
      · have h6 : ¬ acc.length ≤ 400 := by have := of_decide_eq_true h6; omega
        have hset : settleM acc = none := by unfold settleM; rw [if_neg h6]
        rw [hset] at hG
        subst hG
        repeat (first | refine WC.seq ?_ | refine WC.reg ?_ | refine WL.pure rfl rfl rfl ?_ | refine WL.nil ?_ | refine WC.skip ?_ | refine WC.block ?_ | refine WC.condT rfl ?_ | refine WC.condF rfl ?_ | refine WL.off rfl rfl rfl ?_ | refine WL.off0 rfl rfl ?_ | refine WC.exit ?_ | refine blk_hit ?_ | refine blk_miss rfl ?_ | refine WC.ret ?_)
        exact Res.three rfl rfl rfl rfl rfl ⟨rfl, hp8.nil'⟩
      have h6 : acc.length ≤ 400 := by have := of_decide_eq_false h6; omega
      have hset : settleM acc = match tidyM acc with
        | some t => if fitsB t then some t else none
        | none => none := by unfold settleM; rw [if_pos h6]; cases tidyM acc <;> rfl
      repeat (first | refine WC.seq ?_ | refine WC.reg ?_ | refine WL.pure rfl rfl rfl ?_ | refine WL.nil ?_ | refine WC.skip ?_ | refine WC.block ?_ | refine WC.condT rfl ?_ | refine WC.condF rfl ?_ | refine WL.off rfl rfl rfl ?_ | refine WL.off0 rfl rfl ?_ | refine WC.exit ?_ | refine blk_hit ?_ | refine blk_miss rfl ?_ | refine WC.ret ?_)
      refine WL.call rfl rfl rfl rfl rfl ent25 (rTidy_any ra rc1 acc (by omega) hnd hns w8 (Sl.of_row (hp8.at 0 rfl))) ?_
      intro u w9 hu
      cases ht : tidyM acc with
      | none =>
        rw [ht] at hu hset
        obtain ⟨rfl, hp9⟩ := hu
        rw [hset] at hG
        subst hG
        have hp9 := (hp8.comb hp9).nil'
        repeat (first | refine WC.seq ?_ | refine WC.reg ?_ | refine WL.pure rfl rfl rfl ?_ | refine WL.nil ?_ | refine WC.skip ?_ | refine WC.block ?_ | refine WC.condT rfl ?_ | refine WC.condF rfl ?_ | refine WL.off rfl rfl rfl ?_ | refine WL.off0 rfl rfl ?_ | refine WC.exit ?_ | refine blk_hit ?_ | refine blk_miss rfl ?_ | refine WC.ret ?_)
        exact Res.three rfl rfl rfl rfl rfl ⟨rfl, hp9⟩
      | some t' =>
        rw [ht] at hu hset
        obtain ⟨ya, yc, rfl, hp9⟩ := hu
        have hp9 := hp8.comb hp9
        have hp9 : Hp w w9 [Rt (.slice ya t'.length yc) t'] := hp9.drop1.drop1.drop1
        obtain ⟨_, htd, hts, htl, _⟩ := tidyM_inv ht hnd hns
        repeat (first | refine WC.seq ?_ | refine WC.reg ?_ | refine WL.pure rfl rfl rfl ?_ | refine WL.nil ?_ | refine WC.skip ?_ | refine WC.block ?_ | refine WC.condT rfl ?_ | refine WC.condF rfl ?_ | refine WL.off rfl rfl rfl ?_ | refine WL.off0 rfl rfl ?_ | refine WC.exit ?_ | refine blk_hit ?_ | refine blk_miss rfl ?_ | refine WC.ret ?_)
        refine WL.call rfl rfl rfl rfl rfl ent43 (rfits_any ya yc t' (by omega) htd hts w9 (Sl.of_row (hp9.at 0 rfl))) ?_
        rintro _ w10 ⟨rfl, hp10⟩
        have hp10 := hp9.comb hp10
        repeat (first | refine WC.seq ?_ | refine WC.reg ?_ | refine WL.pure rfl rfl rfl ?_ | refine WL.nil ?_ | refine WC.skip ?_ | refine WC.block ?_ | refine WC.condT rfl ?_ | refine WC.condF rfl ?_ | refine WL.off rfl rfl rfl ?_ | refine WL.off0 rfl rfl ?_ | refine WC.exit ?_ | refine blk_hit ?_ | refine blk_miss rfl ?_ | refine WC.ret ?_)
        refine WC.cond rfl (fun hf => ?_) (fun hf => ?_)
        · have hf : fitsB t' = false := by simpa using hf
          simp only [hf, Bool.false_eq_true, if_false] at hset
          rw [hset] at hG
          subst hG
          repeat (first | refine WC.seq ?_ | refine WC.reg ?_ | refine WL.pure rfl rfl rfl ?_ | refine WL.nil ?_ | refine WC.skip ?_ | refine WC.block ?_ | refine WC.condT rfl ?_ | refine WC.condF rfl ?_ | refine WL.off rfl rfl rfl ?_ | refine WL.off0 rfl rfl ?_ | refine WC.exit ?_ | refine blk_hit ?_ | refine blk_miss rfl ?_ | refine WC.ret ?_)
          exact Res.three rfl rfl rfl rfl rfl ⟨rfl, hp10.nil'⟩
        have hf : fitsB t' = true := by simpa using hf
        simp only [hf, if_true] at hset
        have hS' := settle_inv hset hnd hns
        rw [hset] at hG
        simp only at hG
        have hjn : k0 - (n + 1) = j := by omega
        repeat (first | refine WC.seq ?_ | refine WC.reg ?_ | refine WL.pure rfl rfl rfl ?_ | refine WL.nil ?_ | refine WC.skip ?_ | refine WC.block ?_ | refine WC.condT rfl ?_ | refine WC.condF rfl ?_ | refine WL.off rfl rfl rfl ?_ | refine WL.off0 rfl rfl ?_ | refine WC.exit ?_ | refine blk_hit ?_ | refine blk_miss rfl ?_ | refine WC.ret ?_)
        exact ⟨(n + 1, ya, yc, t'), (by show k0 - (n + 1) < k0 - n; omega), ⟨rfl, rfl, congrArg (fun z => some (Value.int .i64 z)) step, rfl⟩, by omega, (by rw [hjn]; exact hG), hS', hp10⟩
end Go.Proofs.YtoghnhbjdnjghaaGreat
