/- The law's oriented, and what tame lists have. -/
import Derived.Test.YtoghnhbjdnjghaaV26a
import Derived.Test.YtoghnhbjdnjghaaV37
import Derived.Test.YtoghnhbjdnjghaaXc
namespace Go.Words
open Go.W Go.Proofs.Ytoghnhbjdnjghaa
theorem letB_dg {c : UInt8} (h : 97 ≤ c.toNat ∧ c.toNat + 1 - 97 ≤ 8) : letB c = true := by
  unfold letB
  rw [Bool.and_eq_true, decide_eq_true_iff, decide_eq_true_iff]
  omega
theorem letters_dg {s : Str} (h : Dg 97 8 s) : lettersB s = true := by
  unfold lettersB
  rw [List.all_eq_true]
  exact fun c hc => letB_dg (h c hc)
theorem sys_of {l : List Rl} (hK : Kp3 97 8 l) (hm : Sm 24 l) (hl : l.length ≤ 64) : sysB l = true := by
  unfold sysB
  rw [Bool.and_eq_true, decide_eq_true_iff, List.all_eq_true]
  refine ⟨hl, fun r hr => ?_⟩
  have h1 := hK.dc r hr
  have h2 := hK.lg r hr
  have h3 := hm r hr
  rw [Bool.and_eq_true, decide_eq_true_iff]
  refine ⟨?_, by rw [ordS_neg]; omega⟩
  unfold eqnB sideB
  rw [letters_dg h2.1, letters_dg h2.2, decide_eq_true h3.1, decide_eq_true h3.2]
  rfl
theorem wordM_dg (s : Str) (most : Nat) {many : Nat} (h1 : 1 ≤ many) (h2 : many ≤ 8) : Dg 97 many (wordM s most many) := by
  intro c hc
  unfold wordM at hc
  obtain ⟨x, _, rfl⟩ := List.mem_map.1 hc
  have h3 : x.toNat % many < many := Nat.mod_lt _ h1
  generalize x.toNat % many = r at *
  have h4 : (UInt8.ofNat (97 + r)).toNat = 97 + r := by
    rw [UInt8.toNat_ofNat']
    omega
  rw [h4]
  omega
theorem Dg.mono {off b c : Nat} {s : Str} (h : Dg off b s) (hb : b ≤ c) : Dg off c s := fun x hx => ⟨(h x hx).1, Nat.le_trans (h x hx).2 hb⟩
theorem Lg.mono {off b c : Nat} {l : List Rl} (h : Lg off b l) (hb : b ≤ c) : Lg off c l := fun r hr => ⟨(h r hr).1.mono hb, (h r hr).2.mono hb⟩
theorem Kp3.mono {off b c : Nat} {l : List Rl} (h : Kp3 off b l) (hb : b ≤ c) : Kp3 off c l := ⟨h.dc, h.lg.mono hb⟩
theorem tameM_lg (l : List Rl) (many most : Nat) {k : Nat} (h1 : 1 ≤ k) (h2 : k ≤ 8) : Lg 97 k (tameM l many most k) := by
  intro r hr
  unfold tameM at hr
  obtain ⟨x, _, rfl⟩ := List.mem_map.1 hr
  exact ⟨wordM_dg _ _ h1 h2, wordM_dg _ _ h1 h2⟩
end Go.Words
namespace Go.Proofs.Ytoghnhbjdnjghaa
open Go.W Go.Words Go.RowKit
set_option maxRecDepth 100000
attribute [local irreducible] WC WL WQ WS WH

set_option maxHeartbeats 1000000 in
theorem oriented_any (a : Option Addr) (cap : Nat) (l : List Rl) (hlen : l.length ≤ 1000000) (w : World) (hs : Sl w a (rcs l)) :
    Ret Try.prog 19 [.slice a l.length cap] w fun u w' => ∃ pa pc, u = .slice pa (eqsM l).length pc ∧ Hp w w' [Rt u (eqsM l)] := by
  refine enter Try.func19 rfl rfl ⟨rfl, rfl⟩ rfl ?_
  repeat (first | refine WC.seq ?_ | refine WC.reg ?_ | refine WL.pure rfl rfl rfl ?_ | refine WL.nil ?_ | refine WC.skip ?_ | refine WC.block ?_ | refine WC.condT rfl ?_ | refine WC.condF rfl ?_ | refine WL.off rfl rfl rfl ?_ | refine WL.off0 rfl rfl ?_ | refine WC.exit ?_ | refine blk_hit ?_ | refine blk_miss rfl ?_ | refine WC.ret ?_)
  refine WC.loop (Nat × Option Addr × Nat × List Rl) (fun (i, oa, oc, acc) => [(0, .slice a l.length cap), (3, .slice oa acc.length oc), (4, .int .i64 (i : Nat))])
    (fun (i, oa, oc, acc) w' => i ≤ l.length ∧ acc = eqsM (l.take i) ∧ Hp w w' [Rt (.slice oa acc.length oc) acc]) (fun (i, _) => l.length - i) (0, none, 0, []) ⟨rfl, rfl, rfl, rfl⟩ ⟨Nat.zero_le _, rfl, (Hp.start w).nilrow _ _⟩ ?_
  rintro ⟨i, oa, oc, acc⟩ w1 ⟨hi, hE, hp1⟩
  repeat (first | refine WC.seq ?_ | refine WC.reg ?_ | refine WL.pure rfl rfl rfl ?_ | refine WL.nil ?_ | refine WC.skip ?_ | refine WC.block ?_ | refine WC.condT rfl ?_ | refine WC.condF rfl ?_ | refine WL.off rfl rfl rfl ?_ | refine WL.off0 rfl rfl ?_ | refine WC.exit ?_ | refine blk_hit ?_ | refine blk_miss rfl ?_ | refine WC.ret ?_)
  refine WC.cond rfl (fun hc => ?_) (fun hc => ?_)
  · have hi : i < l.length := by have := of_decide_eq_true hc; omega
    have step := wrap_succ hi (by omega)
    have hsucc := eqsM_succ hi
    have hel := eqsM_len (l.take i)
    rw [List.length_take, Nat.min_eq_left (by omega)] at hel
    rw [← hE] at hel hsucc
    obtain ⟨b, o, rfl⟩ := rcs_some hs (by omega)
    have hT : ∀ w', Hp w w' [Rt (.slice oa acc.length oc) acc] → Hp w w' [] := fun w' h => h.nil'
    repeat (first | refine WC.seq ?_ | refine WC.skip ?_ | refine WC.block ?_)
    refine WC.mid Bool (fun q => [(0, .slice (some ⟨b, o, none⟩) l.length cap), (3, .slice oa acc.length oc), (4, .int .i64 (i : Nat)), (21, .bool q)])
      (fun q w' => q = !decide (l[i].1 = l[i].2) ∧ Hp w w' [Rt (.slice oa acc.length oc) acc]) ?_ ?_
    · refine WC.regQ (fun w' => Hp w w' [Rt (.slice oa acc.length oc) acc]) mixed (by kernel_rfl) (fun w' hw' => hp1.keep hw') ?_
      repeat (first | refine WQ.pure rfl rfl rfl ?_ | refine WQ.off rfl rfl rfl ?_ | refine WQ.nil ?_)
      refine WQ.ix rfl rfl rfl rfl rfl rfl (j := i) hi ?_
      repeat (first | refine WQ.pure rfl rfl rfl ?_ | refine WQ.off rfl rfl rfl ?_ | refine WQ.nil ?_)
      refine WQ.load rfl rfl rfl rfl rfl (fun w' hw' => rcs_cell (hs.hp hw') hi (q := 0) rfl) ?_
      repeat (first | refine WQ.pure rfl rfl rfl ?_ | refine WQ.off rfl rfl rfl ?_ | refine WQ.nil ?_)
      refine WQ.ix rfl rfl rfl rfl rfl rfl (j := i) hi ?_
      repeat (first | refine WQ.pure rfl rfl rfl ?_ | refine WQ.off rfl rfl rfl ?_ | refine WQ.nil ?_)
      refine WQ.load rfl rfl rfl rfl rfl (fun w' hw' => rcs_cell (hs.hp hw') hi (q := 1) rfl) ?_
      refine WQ.sCmp rfl rfl rfl rfl rfl ?_
      repeat (first | refine WQ.pure rfl rfl rfl ?_ | refine WQ.off rfl rfl rfl ?_ | refine WQ.nil ?_)
      intro w' hw'
      exact ⟨_, ⟨rfl, rfl, rfl, rfl, rfl⟩, rfl, hw'⟩
    rintro q e3 w3 hsub ⟨hq, hp3⟩
    refine WC.sub hsub ?_
    refine WC.cond rfl (fun h4 => ?_) (fun h4 => ?_)
    · have h4 : ¬ l[i].1 = l[i].2 := by rw [h4] at hq; simpa using hq
      rw [if_neg h4] at hsucc
      have e1 : (acc ++ [dirM l[i].1 l[i].2]).length = acc.length + 1 := by rw [List.length_append]; rfl
      repeat (first | refine WC.seq ?_ | refine WC.skip ?_ | refine WC.block ?_)
      refine WC.mid (Option Addr × Nat) (fun (ra, rc1) => [(0, .slice (some ⟨b, o, none⟩) l.length cap), (3, .slice ra (acc ++ [dirM l[i].1 l[i].2]).length rc1), (4, .int .i64 (i : Nat))]) (fun (ra, rc1) w' => Hp w w' [Rt (.slice ra (acc ++ [dirM l[i].1 l[i].2]).length rc1) (acc ++ [dirM l[i].1 l[i].2])]) ?_ ?_
      · refine WC.regH (fun w' => Hp w w' []) mixed (by kernel_rfl) (fun w3' hw3 hh3 => ?_)
        have hp3 := hp3.keep hw3
        refine WH.pure 0 (by kernel_rfl) rfl (by kernel_rfl) rfl rfl rfl (hT _ hp3) ?_
        refine WH.pure 1 (by kernel_rfl) rfl (by kernel_rfl) rfl rfl rfl (hT _ hp3) ?_
        refine WH.pure 2 (by kernel_rfl) rfl (by kernel_rfl) rfl rfl rfl (hT _ hp3) ?_
        refine WH.ixS 3 (by kernel_rfl) rfl (by kernel_rfl) rfl rfl rfl rfl rfl rfl hi (hT _ hp3) ?_
        refine WH.pure 4 (by kernel_rfl) rfl (by kernel_rfl) rfl rfl rfl (hT _ hp3) ?_
        refine WH.load 5 (by kernel_rfl) rfl (by kernel_rfl) rfl rfl rfl rfl rfl (fun w' h => rcs_cell (hs.hp h) hi (q := 0) rfl) (hT _ hp3) ?_
        refine WH.pure 6 (by kernel_rfl) rfl (by kernel_rfl) rfl rfl rfl (hT _ hp3) ?_
        refine WH.pure 7 (by kernel_rfl) rfl (by kernel_rfl) rfl rfl rfl (hT _ hp3) ?_
        refine WH.ixS 8 (by kernel_rfl) rfl (by kernel_rfl) rfl rfl rfl rfl rfl rfl hi (hT _ hp3) ?_
        refine WH.pure 9 (by kernel_rfl) rfl (by kernel_rfl) rfl rfl rfl (hT _ hp3) ?_
        refine WH.load 10 (by kernel_rfl) rfl (by kernel_rfl) rfl rfl rfl rfl rfl (fun w' h => rcs_cell (hs.hp h) hi (q := 1) rfl) (hT _ hp3) ?_
        refine WH.one 11 rfl (by kernel_rfl) ?_
        refine WL.call rfl rfl rfl rfl rfl ent35 (Oriented_any l[i].1 l[i].2 w3') ?_
        rintro _ w4 ⟨rfl, hp4⟩
        have hp4 := hp3.comb hp4
        refine WL.nil ⟨hp4.nil', ?_⟩
        generalize dirM l[i].1 l[i].2 = dd at *
        refine WH.one 12 rfl (by kernel_rfl) ?_
        refine WL.buildS (cs := rc dd) rfl rfl rfl rfl rfl rfl rfl rfl rfl ?_
        intro b6 w5 hb6
        have hp5 : Hp w w5 [Bx b6 dd, Rt (.slice oa acc.length oc) acc] := hp4.new hb6
        refine WL.nil ⟨hp5.nil', ?_⟩
        refine WH.one 13 rfl (by kernel_rfl) ?_
        refine WL.append 1 hp5 rfl rfl rfl rfl rfl (by decide) rfl rfl rfl (news := rc dd) (Sl.of_obj (hp5.obj 0 rfl) (fun q u hq => by simpa [rc] using hq)) rfl (rcs_cells [dd]) (by unfold maxLen; omega) (by show (acc.length + 1) * 32 ≤ _; omega) ?_
        intro ra rc1 w6 hp6 hg6
        refine WL.nil ⟨hp6.nil', ?_⟩
        refine WH.pure 14 (by kernel_rfl) rfl (by kernel_rfl) rfl rfl rfl (hp6.nil') ?_
        refine WH.done (by kernel_rfl) ?_
        refine ⟨(ra, rc1), ⟨rfl, congrArg (fun z : Nat => some (Value.slice ra z rc1)) e1.symm, rfl, rfl⟩, ?_⟩
        show Hp w w6 [Rt _ _]
        unfold Rt
        rw [e1, rcs_app]
        exact hp6.tail
      rintro ⟨ra, rc1⟩ e4 w4 hsub4 hp4
      refine WC.sub hsub4 ?_
      repeat (first | refine WC.seq ?_ | refine WC.reg ?_ | refine WL.pure rfl rfl rfl ?_ | refine WL.nil ?_ | refine WC.skip ?_ | refine WC.block ?_ | refine WC.condT rfl ?_ | refine WC.condF rfl ?_ | refine WL.off rfl rfl rfl ?_ | refine WL.off0 rfl rfl ?_ | refine WC.exit ?_ | refine blk_hit ?_ | refine blk_miss rfl ?_ | refine WC.ret ?_)
      exact ⟨(i + 1, ra, rc1, acc ++ [dirM l[i].1 l[i].2]), (by show l.length - (i + 1) < l.length - i; omega), ⟨rfl, rfl, congrArg (fun z => some (Value.int .i64 z)) step, rfl⟩, by omega, hsucc.symm, hp4⟩
    · have h4 : l[i].1 = l[i].2 := by rw [h4] at hq; simpa using hq
      rw [if_pos h4, List.append_nil] at hsucc
      repeat (first | refine WC.seq ?_ | refine WC.reg ?_ | refine WL.pure rfl rfl rfl ?_ | refine WL.nil ?_ | refine WC.skip ?_ | refine WC.block ?_ | refine WC.condT rfl ?_ | refine WC.condF rfl ?_ | refine WL.off rfl rfl rfl ?_ | refine WL.off0 rfl rfl ?_ | refine WC.exit ?_ | refine blk_hit ?_ | refine blk_miss rfl ?_ | refine WC.ret ?_)
      exact ⟨(i + 1, oa, oc, acc), (by show l.length - (i + 1) < l.length - i; omega), ⟨rfl, rfl, congrArg (fun z => some (Value.int .i64 z)) step, rfl⟩, by omega, hsucc.symm, hp3⟩
  · have hi : l.length ≤ i := by have := of_decide_eq_false hc; omega
    rw [List.take_of_length_le hi] at hE
    subst hE
    repeat (first | refine WC.seq ?_ | refine WC.reg ?_ | refine WL.pure rfl rfl rfl ?_ | refine WL.nil ?_ | refine WC.skip ?_ | refine WC.block ?_ | refine WC.condT rfl ?_ | refine WC.condF rfl ?_ | refine WL.off rfl rfl rfl ?_ | refine WL.off0 rfl rfl ?_ | refine WC.exit ?_ | refine blk_hit ?_ | refine blk_miss rfl ?_ | refine WC.ret ?_)
    exact Res.one rfl rfl rfl ⟨oa, oc, rfl, hp1⟩
end Go.Proofs.Ytoghnhbjdnjghaa
