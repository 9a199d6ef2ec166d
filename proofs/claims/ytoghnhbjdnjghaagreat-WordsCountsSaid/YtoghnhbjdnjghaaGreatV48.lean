/- The reference's Size. -/
import Derived.Test.YtoghnhbjdnjghaaGreatV47
import Derived.Test.YtoghnhbjdnjghaaGreatXj
namespace Go.Proofs.YtoghnhbjdnjghaaGreat
open Go.W Go.Words Go.RowKit
set_option maxRecDepth 100000
attribute [local irreducible] WC WL WQ WS WH

/-- What Size hands back. -/
def rsizV : Option Int → Value
  | some z => .tuple #[.int .i64 z, .bool true]
  | none => .tuple #[.int .i64 0, .bool false]
set_option maxHeartbeats 4000000 in
theorem rSize_any (a : Option Addr) (cap : Nat) (l : List Rl) (k : Nat) (hk1 : 1 ≤ k) (hk : k ≤ 8) (hl : l.length ≤ 64) (hm : Sm 24 l) (hd : Dc l) (w : World) (hs : Sl w a (rcs l)) :
    Ret Tryz.prog 31 [.slice a l.length cap, .int .i64 (k : Nat)] w fun u w' => u = rsizV (sizeM l k) ∧ Hp w w' [] := by
  refine enter Tryz.func31 rfl rfl ⟨rfl, rfl⟩ rfl ?_
  repeat (first | refine WC.seq ?_ | refine WC.reg ?_ | refine WL.pure rfl rfl rfl ?_ | refine WL.nil ?_ | refine WC.skip ?_ | refine WC.block ?_ | refine WC.condT rfl ?_ | refine WC.condF rfl ?_ | refine WL.off rfl rfl rfl ?_ | refine WL.off0 rfl rfl ?_ | refine WC.exit ?_ | refine blk_hit ?_ | refine blk_miss rfl ?_ | refine WC.ret ?_)
  refine WL.call rfl rfl rfl rfl rfl ent57 (rBuild_any a cap l k hk1 hk hl hm hd w hs) ?_
  rintro _ w1 ⟨sa, sc, ta, tc, L, R, rfl, hRL, hM, hMem, hLP, hp1⟩
  have hLb : L.length ≤ 2000 := by
    have := (prefM_pfx hm).len
    omega
  have h0 := len_pos hM
  have hgood : ∀ T, SizP l k L.length T → sizeM l k = some T := fun T h => (sizeM_iff hd k T).2 ((SizP_iff hM hLP T).2 h)
  have hbad : (∀ T, ¬ SizP l k L.length T) → sizeM l k = none := fun h => by
    cases hs : sizeM l k with
    | none => rfl
    | some T => exact absurd ((SizP_iff hM hLP T).1 ((sizeM_iff hd k T).1 hs)) (h T)
  refine WL.alloc rfl rfl rfl ?_
  intro b8 w2 hb8
  have hp2 := (Hp.start w1).new hb8
  refine WL.storeN (vs := #[.slice sa L.length sc, .slice ta R.length tc]) (arr2 := #[.slice sa L.length sc, .slice ta R.length tc]) rfl rfl rfl rfl rfl (by intro v hv; simp only [List.mem_cons, List.not_mem_nil, or_false] at hv; rcases hv with rfl | rfl <;> rfl) (hp2.obj 0 rfl) (Nat.le_refl 2) rfl (fun w3 hw3 => ?_)
  have hp3 : Hp w1 w3 [Xm b8 (.slice sa L.length sc) (.slice ta R.length tc)] := hp2.set 0 rfl rfl hw3
  have hMem : ∀ w' X, Hp w1 w' X → Mem w' ta R := fun w' X h => hMem.hp h
  clear hp2 hw3 hb8
  repeat (first | refine WC.seq ?_ | refine WC.reg ?_ | refine WL.pure rfl rfl rfl ?_ | refine WL.nil ?_ | refine WC.skip ?_ | refine WC.block ?_ | refine WC.condT rfl ?_ | refine WC.condF rfl ?_ | refine WL.off rfl rfl rfl ?_ | refine WL.off0 rfl rfl ?_ | refine WC.exit ?_ | refine blk_hit ?_ | refine blk_miss rfl ?_ | refine WC.ret ?_)
  refine WL.loadB rfl rfl rfl rfl rfl (hp3.obj 0 rfl) (j := 0) rfl ?_
  repeat (first | refine WC.seq ?_ | refine WC.reg ?_ | refine WL.pure rfl rfl rfl ?_ | refine WL.nil ?_ | refine WC.skip ?_ | refine WC.block ?_ | refine WC.condT rfl ?_ | refine WC.condF rfl ?_ | refine WL.off rfl rfl rfl ?_ | refine WL.off0 rfl rfl ?_ | refine WC.exit ?_ | refine blk_hit ?_ | refine blk_miss rfl ?_ | refine WC.ret ?_)
  refine WL.make rfl rfl rfl rfl rfl rfl rfl rfl (by show 8 * L.length ≤ _; omega) (by unfold maxLen; omega) ?_
  intro nb0 w4 hnb
  have hp4 : Hp w1 w4 [Bz nb0 (List.replicate L.length 0), Xm b8 (.slice sa L.length sc) (.slice ta R.length tc)] := by
    have := hp3.new hnb
    unfold Bz zs
    rw [List.map_replicate]
    exact this
  repeat (first | refine WC.seq ?_ | refine WC.reg ?_ | refine WL.pure rfl rfl rfl ?_ | refine WL.nil ?_ | refine WC.skip ?_ | refine WC.block ?_ | refine WC.condT rfl ?_ | refine WC.condF rfl ?_ | refine WL.off rfl rfl rfl ?_ | refine WL.off0 rfl rfl ?_ | refine WC.exit ?_ | refine blk_hit ?_ | refine blk_miss rfl ?_ | refine WC.ret ?_)
  refine WL.ix1 rfl rfl rfl rfl rfl rfl (j := 0) rfl h0 ?_
  refine WL.store rfl rfl rfl rfl rfl rfl (hp4.obj 0 rfl) (by rw [List.size_toArray, zs_len, List.length_replicate]; show 0 + 0 < _; omega) (fun w5 hw5 => ?_)
  rw [show 0 + 0 = 0 from rfl, zs_set, now_zero hM] at hw5
  have hp5 : Hp w1 w5 [Bz nb0 (nowL l k L 0), Xm b8 (.slice sa L.length sc) (.slice ta R.length tc)] := hp4.set 0 rfl rfl hw5
  clear hp4 hp3 hw5 hnb
  have hRt : ∀ q (h : q < R.length) (h2 : q < (R.map (·.2.2.2)).length), (R.map (·.2.2.2))[q] = R[q].2.2.2 := fun q h h2 => by rw [List.getElem_map]
  have htabl : (R.map (·.2.2.2)).length = L.length := by rw [List.length_map, hRL]
  generalize hTe : R.map (·.2.2.2) = tab at *
  repeat (first | refine WC.seq ?_ | refine WC.reg ?_ | refine WL.pure rfl rfl rfl ?_ | refine WL.nil ?_ | refine WC.skip ?_ | refine WC.block ?_ | refine WC.condT rfl ?_ | refine WC.condF rfl ?_ | refine WL.off rfl rfl rfl ?_ | refine WL.off0 rfl rfl ?_ | refine WC.exit ?_ | refine blk_hit ?_ | refine blk_miss rfl ?_ | refine WC.ret ?_)
  refine WC.loop (Nat × Nat) (fun (t, nb) => [(1, .int .i64 (k : Nat)), (6, .pointer (some ⟨b8, 0, none⟩)), (7, .int .i64 (L.length : Nat)), (8, .slice (some ⟨nb, 0, none⟩) L.length L.length), (9, .int .i64 (SS l k t : Nat)), (10, .int .i64 (t : Nat))])
    (fun (t, nb) w' => t ≤ L.length + 1 ∧ (∀ j, j < t → NN l k j ≠ 0) ∧ SS l k t ≤ 4611686018427387904 ∧ Hp w1 w' [Bz nb (nowL l k L t), Xm b8 (.slice sa L.length sc) (.slice ta R.length tc)])
    (fun (t, _) => L.length + 1 - t) (0, nb0) ⟨rfl, rfl, rfl, rfl, rfl, rfl, rfl⟩ ⟨Nat.zero_le _, fun j h => absurd h (Nat.not_lt_zero j), Nat.zero_le _, hp5⟩ ?_
  clear hp5
  rintro ⟨t, nb⟩ w6 ⟨ht, hNN, hSM, hp6⟩
  repeat (first | refine WC.seq ?_ | refine WC.reg ?_ | refine WL.pure rfl rfl rfl ?_ | refine WL.nil ?_ | refine WC.skip ?_ | refine WC.block ?_ | refine WC.condT rfl ?_ | refine WC.condF rfl ?_ | refine WL.off rfl rfl rfl ?_ | refine WL.off0 rfl rfl ?_ | refine WC.exit ?_ | refine blk_hit ?_ | refine blk_miss rfl ?_ | refine WC.ret ?_)
  refine WC.cond rfl (fun hc => ?_) (fun hc => ?_)
  · have ht : t ≤ L.length := by have := of_decide_eq_true hc; omega
    have stept := wrap_succ (show t < L.length + 1 by omega) (by omega)
    have hcs := cvec_sum hM t
    have hcl := cvec_len l k L t
    have hnl := nowL_len l k L t
    have hng : ∀ j (h : j < (nowL l k L t).length) (h2 : j < (cvec l k L t).length), (nowL l k L t)[j] = ((satN (cvec l k L t)[j] : Nat) : Int) := fun j h h2 => nowL_get h h2
    have hacc := acc_now hM t
    generalize cvec l k L t = ns at *
    generalize hNW : nowL l k L t = NW at *
    repeat (first | refine WC.seq ?_ | refine WC.reg ?_ | refine WL.pure rfl rfl rfl ?_ | refine WL.nil ?_ | refine WC.skip ?_ | refine WC.block ?_ | refine WC.condT rfl ?_ | refine WC.condF rfl ?_ | refine WL.off rfl rfl rfl ?_ | refine WL.off0 rfl rfl ?_ | refine WC.exit ?_ | refine blk_hit ?_ | refine blk_miss rfl ?_ | refine WC.ret ?_)
    refine WL.make rfl rfl rfl rfl rfl rfl rfl rfl (by show 8 * L.length ≤ _; omega) (by unfold maxLen; omega) ?_
    intro bn w7 hbn
    have hp7 : Hp w1 w7 [Bz bn (List.replicate L.length 0), Bz nb NW, Xm b8 (.slice sa L.length sc) (.slice ta R.length tc)] := by
      have := hp6.new hbn
      unfold Bz zs
      rw [List.map_replicate]
      exact this
    have hz0 : List.replicate L.length (0 : Int) = nxL L.length fun j => accS (ns.take 0) (tab.take 0) j := (nxL_zero L.length).symm
    rw [hz0] at hp7
    clear hp6 hbn hz0
    repeat (first | refine WC.seq ?_ | refine WC.reg ?_ | refine WL.pure rfl rfl rfl ?_ | refine WL.nil ?_ | refine WC.skip ?_ | refine WC.block ?_ | refine WC.condT rfl ?_ | refine WC.condF rfl ?_ | refine WL.off rfl rfl rfl ?_ | refine WL.off0 rfl rfl ?_ | refine WC.exit ?_ | refine blk_hit ?_ | refine blk_miss rfl ?_ | refine WC.ret ?_)
    refine WC.loop Nat (fun q => [(1, .int .i64 (k : Nat)), (6, .pointer (some ⟨b8, 0, none⟩)), (7, .int .i64 (L.length : Nat)), (8, .slice (some ⟨nb, 0, none⟩) L.length L.length), (9, .int .i64 (SS l k t + (ns.take q).sum : Nat)), (10, .int .i64 (t : Nat)), (11, .slice (some ⟨bn, 0, none⟩) L.length L.length), (12, .bool (decide (0 < (ns.take q).sum))), (13, .int .i64 (q : Nat))])
      (fun q w' => q ≤ L.length ∧ SS l k t + (ns.take q).sum ≤ 4611686018427387904 ∧ Hp w1 w' [Bz bn (nxL L.length fun j => accS (ns.take q) (tab.take q) j), Bz nb NW, Xm b8 (.slice sa L.length sc) (.slice ta R.length tc)]) (fun q => L.length - q) 0 ⟨rfl, rfl, rfl, rfl, rfl, rfl, rfl, rfl, rfl, rfl⟩ ⟨Nat.zero_le _, hSM, hp7⟩ ?_
    clear hp7
    rintro q w8 ⟨hq, hsum, hp8⟩
    repeat (first | refine WC.seq ?_ | refine WC.reg ?_ | refine WL.pure rfl rfl rfl ?_ | refine WL.nil ?_ | refine WC.skip ?_ | refine WC.block ?_ | refine WC.condT rfl ?_ | refine WC.condF rfl ?_ | refine WL.off rfl rfl rfl ?_ | refine WL.off0 rfl rfl ?_ | refine WC.exit ?_ | refine blk_hit ?_ | refine blk_miss rfl ?_ | refine WC.ret ?_)
    refine WC.cond rfl (fun hc1 => ?_) (fun hc1 => ?_)
    · have hq : q < L.length := by have := of_decide_eq_true hc1; omega
      have stepq := wrap_succ hq (by omega)
      have hqn : q < ns.length := by omega
      have hqt : q < tab.length := by omega
      have hqR : q < R.length := by omega
      have hcell := bz_cell hp8 (i := 1) rfl (j := q) (by omega)
      have hnq := hng q (by omega) hqn
      rw [hnq] at hcell
      have hss := sum_take_succ hqn
      have hsl := sum_take_le ns (q + 1)
      obtain ⟨hrl, hrt⟩ := tab_get hM hqt
      have hat := accS_take ns tab q hqn hqt
      have hRq := hRt q hqR hqt
      have e48 : IntKind.i64.wrap (4611686018427387904 - (((SS l k t + (ns.take q).sum : Nat)) : Int)) = 4611686018427387904 - (((SS l k t + (ns.take q).sum : Nat)) : Int) := by rw [wrap_mid (by omega) (by omega)]
      generalize ns[q] = x at *
      repeat (first | refine WC.seq ?_ | refine WC.reg ?_ | refine WL.pure rfl rfl rfl ?_ | refine WL.nil ?_ | refine WC.skip ?_ | refine WC.block ?_ | refine WC.condT rfl ?_ | refine WC.condF rfl ?_ | refine WL.off rfl rfl rfl ?_ | refine WL.off0 rfl rfl ?_ | refine WC.exit ?_ | refine blk_hit ?_ | refine blk_miss rfl ?_ | refine WC.ret ?_)
      refine WL.ix1 rfl rfl rfl rfl rfl rfl rfl hq ?_
      refine WL.load rfl rfl rfl rfl rfl hcell ?_
      repeat (first | refine WC.seq ?_ | refine WC.reg ?_ | refine WL.pure rfl rfl rfl ?_ | refine WL.nil ?_ | refine WC.skip ?_ | refine WC.block ?_ | refine WC.condT rfl ?_ | refine WC.condF rfl ?_ | refine WL.off rfl rfl rfl ?_ | refine WL.off0 rfl rfl ?_ | refine WC.exit ?_ | refine blk_hit ?_ | refine blk_miss rfl ?_ | refine WC.ret ?_)
      refine WC.cond rfl (fun h => ?_) (fun h => ?_)
      · have hx0 : x = 0 := by
          have h := eq_of_beq h
          unfold satN at h; omega
        have hs0 : (ns.take (q + 1)).sum = (ns.take q).sum := by omega
        have hsame : (nxL L.length fun j => accS (ns.take q) (tab.take q) j) = nxL L.length fun j => accS (ns.take (q + 1)) (tab.take (q + 1)) j := nxL_congr (fun j _ => by rw [hat j, hx0, Nat.zero_mul, Nat.add_zero])
        rw [hsame] at hp8
        repeat (first | refine WC.seq ?_ | refine WC.reg ?_ | refine WL.pure rfl rfl rfl ?_ | refine WL.nil ?_ | refine WC.skip ?_ | refine WC.block ?_ | refine WC.condT rfl ?_ | refine WC.condF rfl ?_ | refine WL.off rfl rfl rfl ?_ | refine WL.off0 rfl rfl ?_ | refine WC.exit ?_ | refine blk_hit ?_ | refine blk_miss rfl ?_ | refine WC.ret ?_)
        exact ⟨q + 1, by omega, ⟨rfl, rfl, rfl, rfl, congrArg (fun z : Nat => some (Value.int .i64 (SS l k t + z : Nat))) hs0.symm, rfl, rfl, congrArg (fun z : Nat => some (Value.bool (decide (0 < z)))) hs0.symm, congrArg (fun z => some (Value.int .i64 z)) stepq, rfl⟩, by omega, by omega, hp8⟩
      have hx0 : x ≠ 0 := fun h2 => by rw [h2] at h; exact absurd h (by decide)
      repeat (first | refine WC.seq ?_ | refine WC.reg ?_ | refine WL.pure rfl rfl rfl ?_ | refine WL.nil ?_ | refine WC.skip ?_ | refine WC.block ?_ | refine WC.condT rfl ?_ | refine WC.condF rfl ?_ | refine WL.off rfl rfl rfl ?_ | refine WL.off0 rfl rfl ?_ | refine WC.exit ?_ | refine blk_hit ?_ | refine blk_miss rfl ?_ | refine WC.ret ?_)
      refine WL.ix1 rfl rfl rfl rfl rfl rfl rfl hq ?_
      refine WL.load rfl rfl rfl rfl rfl hcell ?_
      repeat (first | refine WC.seq ?_ | refine WC.reg ?_ | refine WL.pure rfl rfl rfl ?_ | refine WL.nil ?_ | refine WC.skip ?_ | refine WC.block ?_ | refine WC.condT rfl ?_ | refine WC.condF rfl ?_ | refine WL.off rfl rfl rfl ?_ | refine WL.off0 rfl rfl ?_ | refine WC.exit ?_ | refine blk_hit ?_ | refine blk_miss rfl ?_ | refine WC.ret ?_)
      refine WC.cond rfl (fun h2 => ?_) (fun h2 => ?_)
      · have h2 := of_decide_eq_true h2
        rw [e48] at h2
        have hbig : 4611686018427387904 < SS l k t + NN l k t := by unfold satN at h2; omega
        have hN0 : NN l k t ≠ 0 := by omega
        have hno : ∀ T, ¬ SizP l k L.length T := by
          rintro T ⟨e, he1, he2, he3, _⟩
          have hte : t < e := by
            refine Classical.byContradiction (fun hlt => ?_)
            rcases Nat.lt_or_ge e t with h5 | h5
            · exact hNN e h5 he2
            · rw [show e = t by omega] at he2; exact hN0 he2
          have := SS_le (l := l) (k := k) (show t + 1 ≤ e from hte)
          rw [SS] at this
          omega
        repeat (first | refine WC.seq ?_ | refine WC.reg ?_ | refine WL.pure rfl rfl rfl ?_ | refine WL.nil ?_ | refine WC.skip ?_ | refine WC.block ?_ | refine WC.condT rfl ?_ | refine WC.condF rfl ?_ | refine WL.off rfl rfl rfl ?_ | refine WL.off0 rfl rfl ?_ | refine WC.exit ?_ | refine blk_hit ?_ | refine blk_miss rfl ?_ | refine WC.ret ?_)
        exact Res.two rfl rfl rfl rfl ⟨by rw [hbad hno]; rfl, (hp1.over hp8).nil'⟩
      have h2 := of_decide_eq_false h2
      rw [e48] at h2
      have hxq : x ≤ 4611686018427387904 := by unfold satN at h2; omega
      rw [sat_id hxq] at h2 hcell hnq
      have e55 : IntKind.i64.wrap ((((SS l k t + (ns.take q).sum : Nat)) : Int) + ((x : Nat) : Int)) = ((SS l k t + (ns.take (q + 1)).sum : Nat) : Int) := by rw [wrap_i64_in (by omega) (by omega)]; omega
      have hany : true = decide (0 < (ns.take (q + 1)).sum) := (decide_eq_true (by omega)).symm
      obtain ⟨tb, to_, rb, rcc, hta, _, _⟩ := (hMem _ _ hp8).at_ hqR
      subst hta
      have hrow : ∀ w' X, Hp w1 w' X → ∃ rb rcc, w'.cell? ⟨tb, to_ + q, none⟩ = some (.slice (some ⟨rb, 0, none⟩) tab[q].length rcc) ∧ Sl w' (some ⟨rb, 0, none⟩) (zs tab[q]) := fun w' X h => by
        obtain ⟨tb', to', rb, rcc, he, h2, h3⟩ := (hMem _ _ h).at_ hqR
        simp only [Option.some.injEq, Addr.mk.injEq, and_true] at he
        obtain ⟨rfl, rfl⟩ := he
        rw [← hRq] at h2 h3
        exact ⟨rb, rcc, h2, h3⟩
      generalize tab[q] = row at *
      have hst0 : (nxL L.length fun j => accS (ns.take q) (tab.take q) j) = nxL L.length fun j => accS (ns.take q) (tab.take q) j + x * hits (row.take 0) j := nxL_congr (fun j _ => by show _ = _ + x * 0; rw [Nat.mul_zero, Nat.add_zero])
      rw [hst0] at hp8
      have hb1 : satN x = x := sat_id hxq
      repeat (first | refine WC.seq ?_ | refine WC.reg ?_ | refine WL.pure rfl rfl rfl ?_ | refine WL.nil ?_ | refine WC.skip ?_ | refine WC.block ?_ | refine WC.condT rfl ?_ | refine WC.condF rfl ?_ | refine WL.off rfl rfl rfl ?_ | refine WL.off0 rfl rfl ?_ | refine WC.exit ?_ | refine blk_hit ?_ | refine blk_miss rfl ?_ | refine WC.ret ?_)
      refine WL.ix1 rfl rfl rfl rfl rfl rfl rfl hq ?_
      refine WL.load rfl rfl rfl rfl rfl hcell ?_
      repeat (first | refine WC.seq ?_ | refine WC.reg ?_ | refine WL.pure rfl rfl rfl ?_ | refine WL.nil ?_ | refine WC.skip ?_ | refine WC.block ?_ | refine WC.condT rfl ?_ | refine WC.condF rfl ?_ | refine WL.off rfl rfl rfl ?_ | refine WL.off0 rfl rfl ?_ | refine WC.exit ?_ | refine blk_hit ?_ | refine blk_miss rfl ?_ | refine WC.ret ?_)
      refine WC.loop Nat (fun c => [(1, .int .i64 (k : Nat)), (6, .pointer (some ⟨b8, 0, none⟩)), (7, .int .i64 (L.length : Nat)), (8, .slice (some ⟨nb, 0, none⟩) L.length L.length), (9, .int .i64 (SS l k t + (ns.take (q + 1)).sum : Nat)), (10, .int .i64 (t : Nat)), (11, .slice (some ⟨bn, 0, none⟩) L.length L.length), (12, .bool (decide (0 < (ns.take (q + 1)).sum))), (13, .int .i64 (q : Nat)), (14, .int .i64 (c : Nat))])
        (fun c w' => c ≤ k ∧ Hp w1 w' [Bz bn (nxL L.length fun j => accS (ns.take q) (tab.take q) j + x * hits (row.take c) j), Bz nb NW, Xm b8 (.slice sa L.length sc) (.slice (some ⟨tb, to_, none⟩) R.length tc)]) (fun c => k - c) 0 ⟨rfl, rfl, rfl, rfl, congrArg (fun z => some (Value.int .i64 z)) e55, rfl, rfl, congrArg (fun z => some (Value.bool z)) hany, rfl, rfl, rfl⟩ ⟨Nat.zero_le _, hp8⟩ ?_
      clear hp8 hst0 hcell
      rintro c w12 ⟨hc, hp12⟩
      repeat (first | refine WC.seq ?_ | refine WC.reg ?_ | refine WL.pure rfl rfl rfl ?_ | refine WL.nil ?_ | refine WC.skip ?_ | refine WC.block ?_ | refine WC.condT rfl ?_ | refine WC.condF rfl ?_ | refine WL.off rfl rfl rfl ?_ | refine WL.off0 rfl rfl ?_ | refine WC.exit ?_ | refine blk_hit ?_ | refine blk_miss rfl ?_ | refine WC.ret ?_)
      refine WC.cond rfl (fun hc2 => ?_) (fun hc2 => ?_)
      · have hc : c < k := by have := of_decide_eq_true hc2; omega
        have stepc := wrap_succ hc (by omega)
        have hcr : c < row.length := by omega
        obtain ⟨rb, rcc, hcell1, hsl⟩ := hrow _ _ hp12
        obtain ⟨_, _, he, hcell2⟩ := zs_cellS hsl hcr
        simp only [Option.some.injEq, Addr.mk.injEq, and_true] at he
        obtain ⟨rfl, rfl⟩ := he
        have hht := hits_take hcr
        have hlt := hrt row[c] (List.getElem_mem hcr)
        generalize row[c] = to at *
        repeat (first | refine WC.seq ?_ | refine WC.reg ?_ | refine WL.pure rfl rfl rfl ?_ | refine WL.nil ?_ | refine WC.skip ?_ | refine WC.block ?_ | refine WC.condT rfl ?_ | refine WC.condF rfl ?_ | refine WL.off rfl rfl rfl ?_ | refine WL.off0 rfl rfl ?_ | refine WC.exit ?_ | refine blk_hit ?_ | refine blk_miss rfl ?_ | refine WC.ret ?_)
        refine WL.loadB rfl rfl rfl rfl rfl (hp12.obj 2 rfl) (j := 1) rfl ?_
        repeat (first | refine WC.seq ?_ | refine WC.reg ?_ | refine WL.pure rfl rfl rfl ?_ | refine WL.nil ?_ | refine WC.skip ?_ | refine WC.block ?_ | refine WC.condT rfl ?_ | refine WC.condF rfl ?_ | refine WL.off rfl rfl rfl ?_ | refine WL.off0 rfl rfl ?_ | refine WC.exit ?_ | refine blk_hit ?_ | refine blk_miss rfl ?_ | refine WC.ret ?_)
        refine WL.ix1 rfl rfl rfl rfl rfl rfl rfl hqR ?_
        refine WL.load rfl rfl rfl rfl rfl hcell1 ?_
        repeat (first | refine WC.seq ?_ | refine WC.reg ?_ | refine WL.pure rfl rfl rfl ?_ | refine WL.nil ?_ | refine WC.skip ?_ | refine WC.block ?_ | refine WC.condT rfl ?_ | refine WC.condF rfl ?_ | refine WL.off rfl rfl rfl ?_ | refine WL.off0 rfl rfl ?_ | refine WC.exit ?_ | refine blk_hit ?_ | refine blk_miss rfl ?_ | refine WC.ret ?_)
        refine WL.ix1 rfl rfl rfl rfl rfl rfl rfl hcr ?_
        refine WL.load rfl rfl rfl rfl rfl hcell2 ?_
        repeat (first | refine WC.seq ?_ | refine WC.reg ?_ | refine WL.pure rfl rfl rfl ?_ | refine WL.nil ?_ | refine WC.skip ?_ | refine WC.block ?_ | refine WC.condT rfl ?_ | refine WC.condF rfl ?_ | refine WL.off rfl rfl rfl ?_ | refine WL.off0 rfl rfl ?_ | refine WC.exit ?_ | refine blk_hit ?_ | refine blk_miss rfl ?_ | refine WC.ret ?_)
        refine WC.cond rfl (fun h5 => ?_) (fun h5 => ?_)
        · have h5 := of_decide_eq_true h5
          obtain ⟨tn, rfl⟩ : ∃ tn : Nat, to = (tn : Int) := ⟨to.toNat, by omega⟩
          have htn : tn < L.length := by omega
          have hset := nxL_set (m := L.length) (f := fun j => accS (ns.take q) (tab.take q) j + x * hits (row.take c) j) (g := fun j => accS (ns.take q) (tab.take q) j + x * hits (row.take (c + 1)) j) (t := tn) (b := x) (by
            show _ + x * hits (row.take (c + 1)) tn = _ + x * hits (row.take c) tn + x
            rw [hht tn, if_pos rfl, Nat.mul_add, Nat.mul_one]; omega) (fun j hj => by
            show _ + x * hits (row.take (c + 1)) j = _ + x * hits (row.take c) j
            rw [hht j, if_neg (by omega), Nat.add_zero])
          obtain ⟨y, hy⟩ : ∃ y, accS (ns.take q) (tab.take q) tn + x * hits (row.take c) tn = y := ⟨_, rfl⟩
          have hset : (nxL L.length fun j => accS (ns.take q) (tab.take q) j + x * hits (row.take c) j).set tn ((satN (y + x) : Nat) : Int) = nxL L.length fun j => accS (ns.take q) (tab.take q) j + x * hits (row.take (c + 1)) j := by rw [← hy]; exact hset
          have hpl := plus_any y x hxq
          obtain ⟨FV, hvl, hvg, hset, hp12⟩ : ∃ FV : List Int, FV.length = L.length ∧ (∀ h : tn < FV.length, FV[tn] = ((satN y : Nat) : Int)) ∧ FV.set tn ((satN (y + x) : Nat) : Int) = (nxL L.length fun j => accS (ns.take q) (tab.take q) j + x * hits (row.take (c + 1)) j) ∧
              Hp w1 w12 [Bz bn FV, Bz nb NW, Xm b8 (.slice sa L.length sc) (.slice (some ⟨tb, to_, none⟩) R.length tc)] :=
            ⟨_, nxL_len _ _, fun h => by rw [nxL_get]; show ((satN (accS (ns.take q) (tab.take q) tn + x * hits (row.take c) tn) : Nat) : Int) = _; rw [hy], hset, hp12⟩
          repeat (first | refine WC.seq ?_ | refine WC.skip ?_ | refine WC.block ?_)
          refine WC.mid Unit (fun _ => [(1, .int .i64 (k : Nat)), (6, .pointer (some ⟨b8, 0, none⟩)), (7, .int .i64 (L.length : Nat)), (8, .slice (some ⟨nb, 0, none⟩) L.length L.length), (9, .int .i64 (SS l k t + (ns.take (q + 1)).sum : Nat)), (10, .int .i64 (t : Nat)), (11, .slice (some ⟨bn, 0, none⟩) L.length L.length), (12, .bool (decide (0 < (ns.take (q + 1)).sum))), (13, .int .i64 (q : Nat)), (14, .int .i64 (c : Nat))])
            (fun _ w' => Hp w1 w' [Bz bn (FV.set tn ((satN (y + x) : Nat) : Int)), Bz nb NW, Xm b8 (.slice sa L.length sc) (.slice (some ⟨tb, to_, none⟩) R.length tc)]) ?_ ?_
          · refine WC.regH (fun _ => True) mixed (by kernel_rfl) (fun w13 hw13 hh13 => ?_)
            have hp13 := hp12.keep hw13
            refine WH.pure 0 (by kernel_rfl) rfl (by kernel_rfl) rfl rfl rfl (trivial) ?_
            refine WH.pure 1 (by kernel_rfl) rfl (by kernel_rfl) rfl rfl rfl (trivial) ?_
            refine WH.pure 2 (by kernel_rfl) rfl (by kernel_rfl) rfl rfl rfl (trivial) ?_
            refine WH.pure 3 (by kernel_rfl) rfl (by kernel_rfl) rfl rfl rfl (trivial) ?_
            refine WH.ixS 4 (by kernel_rfl) rfl (by kernel_rfl) rfl rfl rfl rfl rfl rfl htn trivial ?_
            refine WH.pure 6 (by kernel_rfl) rfl (by kernel_rfl) rfl rfl rfl (trivial) ?_
            refine WH.pure 7 (by kernel_rfl) rfl (by kernel_rfl) rfl rfl rfl (trivial) ?_
            refine WH.ixS 8 (by kernel_rfl) rfl (by kernel_rfl) rfl rfl rfl rfl rfl rfl hq trivial ?_
            have hc5 := bz_cell hp13 (i := 0) rfl (j := tn) (by omega)
            have hc9 := bz_cell hp13 (i := 1) rfl (j := q) (by omega)
            rw [hvg] at hc5
            rw [hnq] at hc9
            have hfin : ∀ w14, SetB w13 bn (.cells ((zs FV).toArray.setIfInBounds (0 + tn * ti3.size) (.int .i64 ((satN (y + x) : Nat) : Int))) 3 (0, 0)) w14 → Hp w1 w14 [Bz bn (FV.set tn ((satN (y + x) : Nat) : Int)), Bz nb NW, Xm b8 (.slice sa L.length sc) (.slice (some ⟨tb, to_, none⟩) R.length tc)] := fun w14 h => by
              rw [show 0 + tn * ti3.size = tn by show 0 + tn * 1 = tn; omega, zs_set] at h
              exact hp13.set 0 rfl rfl h
            refine WH.two 5 9 rfl rfl (by kernel_rfl) ?_ ?_
            · refine WL.load rfl rfl rfl rfl rfl (by rw [show tn * ti3.size = tn from Nat.mul_one tn]; exact hc5) (WL.nil ⟨trivial, ?_⟩)
              refine WH.one 9 rfl (by kernel_rfl) ?_
              refine WL.load rfl rfl rfl rfl rfl (by rw [show q * ti3.size = q from Nat.mul_one q]; exact hc9) (WL.nil ⟨trivial, ?_⟩)
              refine WH.one 10 rfl (by kernel_rfl) ?_
              refine WL.callP rfl rfl rfl rfl rfl ent58 (hpl w13) (WL.nil ⟨trivial, ?_⟩)
              refine WH.ixS 11 (by kernel_rfl) rfl (by kernel_rfl) rfl rfl rfl rfl rfl rfl htn trivial ?_
              refine WH.one 12 rfl (by kernel_rfl) ?_
              refine WL.store rfl rfl rfl rfl rfl rfl (hp13.obj 0 rfl) (by rw [List.size_toArray, zs_len, hvl]; show 0 + tn * 1 < _; omega) (fun w14 hw14 => WL.nil ⟨trivial, ?_⟩)
              refine WH.done (by kernel_rfl) ?_
              exact ⟨(), ⟨rfl, rfl, rfl, rfl, rfl, rfl, rfl, rfl, rfl, rfl, rfl⟩, hfin w14 hw14⟩
            · refine WL.load rfl rfl rfl rfl rfl (by rw [show q * ti3.size = q from Nat.mul_one q]; exact hc9) (WL.nil ⟨trivial, ?_⟩)
              refine WH.one 5 rfl (by kernel_rfl) ?_
              refine WL.load rfl rfl rfl rfl rfl (by rw [show tn * ti3.size = tn from Nat.mul_one tn]; exact hc5) (WL.nil ⟨trivial, ?_⟩)
              refine WH.one 10 rfl (by kernel_rfl) ?_
              refine WL.callP rfl rfl rfl rfl rfl ent58 (hpl w13) (WL.nil ⟨trivial, ?_⟩)
              refine WH.ixS 11 (by kernel_rfl) rfl (by kernel_rfl) rfl rfl rfl rfl rfl rfl htn trivial ?_
              refine WH.one 12 rfl (by kernel_rfl) ?_
              refine WL.store rfl rfl rfl rfl rfl rfl (hp13.obj 0 rfl) (by rw [List.size_toArray, zs_len, hvl]; show 0 + tn * 1 < _; omega) (fun w14 hw14 => WL.nil ⟨trivial, ?_⟩)
              refine WH.done (by kernel_rfl) ?_
              exact ⟨(), ⟨rfl, rfl, rfl, rfl, rfl, rfl, rfl, rfl, rfl, rfl, rfl⟩, hfin w14 hw14⟩
          rintro ⟨⟩ e15 w15 hsub15 hp15
          refine WC.sub hsub15 ?_
          rw [hset] at hp15
          repeat (first | refine WC.seq ?_ | refine WC.reg ?_ | refine WL.pure rfl rfl rfl ?_ | refine WL.nil ?_ | refine WC.skip ?_ | refine WC.block ?_ | refine WC.condT rfl ?_ | refine WC.condF rfl ?_ | refine WL.off rfl rfl rfl ?_ | refine WL.off0 rfl rfl ?_ | refine WC.exit ?_ | refine blk_hit ?_ | refine blk_miss rfl ?_ | refine WC.ret ?_)
          exact ⟨c + 1, by omega, ⟨rfl, rfl, rfl, rfl, rfl, rfl, rfl, rfl, rfl, congrArg (fun z => some (Value.int .i64 z)) stepc, rfl⟩, by omega, hp15⟩
        · have h5 := of_decide_eq_false h5
          have hsame : (nxL L.length fun j => accS (ns.take q) (tab.take q) j + x * hits (row.take c) j) = nxL L.length fun j => accS (ns.take q) (tab.take q) j + x * hits (row.take (c + 1)) j := nxL_congr (fun j _ => by rw [hht j, if_neg (by omega), Nat.add_zero])
          rw [hsame] at hp12
          repeat (first | refine WC.seq ?_ | refine WC.reg ?_ | refine WL.pure rfl rfl rfl ?_ | refine WL.nil ?_ | refine WC.skip ?_ | refine WC.block ?_ | refine WC.condT rfl ?_ | refine WC.condF rfl ?_ | refine WL.off rfl rfl rfl ?_ | refine WL.off0 rfl rfl ?_ | refine WC.exit ?_ | refine blk_hit ?_ | refine blk_miss rfl ?_ | refine WC.ret ?_)
          exact ⟨c + 1, by omega, ⟨rfl, rfl, rfl, rfl, rfl, rfl, rfl, rfl, rfl, congrArg (fun z => some (Value.int .i64 z)) stepc, rfl⟩, by omega, hp12⟩
      · have hc : c = k := by have := of_decide_eq_false hc2; omega
        have hsame : (nxL L.length fun j => accS (ns.take q) (tab.take q) j + x * hits (row.take c) j) = nxL L.length fun j => accS (ns.take (q + 1)) (tab.take (q + 1)) j := nxL_congr (fun j _ => by rw [hat j, List.take_of_length_le (l := row) (by omega)])
        rw [hsame] at hp12
        repeat (first | refine WC.seq ?_ | refine WC.reg ?_ | refine WL.pure rfl rfl rfl ?_ | refine WL.nil ?_ | refine WC.skip ?_ | refine WC.block ?_ | refine WC.condT rfl ?_ | refine WC.condF rfl ?_ | refine WL.off rfl rfl rfl ?_ | refine WL.off0 rfl rfl ?_ | refine WC.exit ?_ | refine blk_hit ?_ | refine blk_miss rfl ?_ | refine WC.ret ?_)
        exact ⟨q + 1, by omega, ⟨rfl, rfl, rfl, rfl, rfl, rfl, rfl, rfl, congrArg (fun z => some (Value.int .i64 z)) stepq, rfl⟩, by omega, by omega, hp12⟩
    · have hq : q = L.length := by have := of_decide_eq_false hc1; omega
      have hsum2 : (ns.take q).sum = NN l k t := by rw [List.take_of_length_le (by omega), hcs]
      have hsame : (nxL L.length fun j => accS (ns.take q) (tab.take q) j) = nowL l k L (t + 1) := by
        rw [← hacc]
        refine nxL_congr (fun j _ => ?_)
        rw [List.take_of_length_le (l := ns) (by omega), List.take_of_length_le (l := tab) (by omega)]
      rw [hsame] at hp8
      repeat (first | refine WC.seq ?_ | refine WC.reg ?_ | refine WL.pure rfl rfl rfl ?_ | refine WL.nil ?_ | refine WC.skip ?_ | refine WC.block ?_ | refine WC.condT rfl ?_ | refine WC.condF rfl ?_ | refine WL.off rfl rfl rfl ?_ | refine WL.off0 rfl rfl ?_ | refine WC.exit ?_ | refine blk_hit ?_ | refine blk_miss rfl ?_ | refine WC.ret ?_)
      refine WC.cond rfl (fun h => ?_) (fun h => ?_)
      · have hz : NN l k t = 0 := by
          have h : decide (0 < (ns.take q).sum) = false := by simpa using h
          have := of_decide_eq_false h
          omega
        have hg := hgood ((SS l k t : Nat) : Int) ⟨t, ht, hz, by omega, rfl⟩
        have hs3 : SS l k t + (ns.take q).sum = SS l k t := by omega
        repeat (first | refine WC.seq ?_ | refine WC.reg ?_ | refine WL.pure rfl rfl rfl ?_ | refine WL.nil ?_ | refine WC.skip ?_ | refine WC.block ?_ | refine WC.condT rfl ?_ | refine WC.condF rfl ?_ | refine WL.off rfl rfl rfl ?_ | refine WL.off0 rfl rfl ?_ | refine WC.exit ?_ | refine blk_hit ?_ | refine blk_miss rfl ?_ | refine WC.ret ?_)
        exact Res.two rfl rfl rfl rfl ⟨by rw [hg, hs3]; rfl, (hp1.over hp8).nil'⟩
      · have hz : NN l k t ≠ 0 := by
          have h : decide (0 < (ns.take q).sum) = true := by simpa using h
          have := of_decide_eq_true h
          omega
        have hs3 : SS l k t + (ns.take q).sum = SS l k (t + 1) := by rw [SS]; omega
        rw [hs3] at hsum
        repeat (first | refine WC.seq ?_ | refine WC.reg ?_ | refine WL.pure rfl rfl rfl ?_ | refine WL.nil ?_ | refine WC.skip ?_ | refine WC.block ?_ | refine WC.condT rfl ?_ | refine WC.condF rfl ?_ | refine WL.off rfl rfl rfl ?_ | refine WL.off0 rfl rfl ?_ | refine WC.exit ?_ | refine blk_hit ?_ | refine blk_miss rfl ?_ | refine WC.ret ?_)
        refine ⟨(t + 1, bn), (by show L.length + 1 - (t + 1) < L.length + 1 - t; omega), ⟨rfl, rfl, rfl, rfl, congrArg (fun z : Nat => some (Value.int .i64 z)) hs3, congrArg (fun z => some (Value.int .i64 z)) stept, rfl⟩, by omega, fun j hj => ?_, hsum, hp8.drop1⟩
        rcases Nat.lt_or_ge j t with h6 | h6
        · exact hNN j h6
        · rw [show j = t by omega]; exact hz
  · have ht : t = L.length + 1 := by have := of_decide_eq_false hc; omega
    have hno : ∀ T, ¬ SizP l k L.length T := by
      rintro T ⟨e, he1, he2, _⟩
      exact hNN e (by omega) he2
    repeat (first | refine WC.seq ?_ | refine WC.reg ?_ | refine WL.pure rfl rfl rfl ?_ | refine WL.nil ?_ | refine WC.skip ?_ | refine WC.block ?_ | refine WC.condT rfl ?_ | refine WC.condF rfl ?_ | refine WL.off rfl rfl rfl ?_ | refine WL.off0 rfl rfl ?_ | refine WC.exit ?_ | refine blk_hit ?_ | refine blk_miss rfl ?_ | refine WC.ret ?_)
    exact Res.two rfl rfl rfl rfl ⟨by rw [hbad hno]; rfl, (hp1.over hp6).nil'⟩
end Go.Proofs.YtoghnhbjdnjghaaGreat
