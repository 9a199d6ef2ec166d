/- The walk of WordsNormalOnes. -/
import Derived.Test.YtoghnhbjdnjghaaV40
import Derived.Test.YtoghnhbjdnjghaaXi
namespace Go.Words
open Go.W Go.Proofs.Ytoghnhbjdnjghaa
theorem exts_len (k : Nat) (w : Str) : (exts k w).length = k := by unfold exts; rw [List.length_map, List.length_range]
theorem Wn_len (k : Nat) : ∀ n, (Wn k n).length = k ^ n := by
  intro n
  induction n with
  | zero => rfl
  | succ n ih =>
    have h : ∀ L : List Str, (L.flatMap (exts k)).length = L.length * k := by
      intro L
      induction L with
      | nil => exact (Nat.zero_mul k).symm
      | cons w L ih2 => rw [List.flatMap_cons, List.length_append, exts_len, ih2, List.length_cons, Nat.add_mul, Nat.one_mul, Nat.add_comm]
    rw [Wn, h, ih, Nat.pow_succ]
theorem Wn_dg {k : Nat} (hk : k ≤ 8) : ∀ n, ∀ w ∈ Wn k n, w.length = n ∧ Dg 97 k w := by
  intro n
  induction n with
  | zero =>
    intro w hw
    obtain rfl := List.mem_singleton.1 hw
    exact ⟨rfl, fun c hc => by cases hc⟩
  | succ n ih =>
    intro w hw
    rw [Wn] at hw
    obtain ⟨v, hv, hw⟩ := List.mem_flatMap.1 hw
    unfold exts at hw
    obtain ⟨c, hc, rfl⟩ := List.mem_map.1 hw
    have hc := List.mem_range.1 hc
    obtain ⟨h1, h2⟩ := ih v hv
    refine ⟨by rw [List.length_append, h1]; rfl, Dg.app.2 ⟨h2, fun d hd => ?_⟩⟩
    rw [List.mem_singleton.1 hd]
    unfold ltr
    have h4 : (UInt8.ofNat (97 + c)).toNat = 97 + c := by rw [UInt8.toNat_ofNat']; omega
    rw [h4]; omega
theorem NN_pow {l : List Rl} (hd : Dc l) (k n : Nat) : NN l k n ≤ k ^ n := by
  unfold NN
  rw [nm_eq hd, ← Wn_len k n]
  exact List.length_filter_le _ _
theorem NN_cnt {l : List Rl} (hd : Dc l) (k n : Nat) : NN l k n = ((Wn k n).filter fun w => (firstM l w).isNone).length := by
  unfold NN
  rw [nm_eq hd]
theorem SS_all {l : List Rl} {k e : Nat} (h : NN l k e = 0) (j : Nat) : SS l k j ≤ SS l k e := by
  rcases Nat.le_total j e with h1 | h1
  · exact SS_le h1
  · rw [SS_zero h h1]; exact Nat.le_refl _
theorem pow_small {k n : Nat} (hk : k ≤ 3) (hn : n ≤ 6) : k ^ n ≤ 729 := by
  refine Nat.le_trans (Nat.pow_le_pow_left hk n) ?_
  exact Nat.le_trans (Nat.pow_le_pow_right (by decide) hn) (by decide)
end Go.Words
namespace Go.Proofs.Ytoghnhbjdnjghaa
open Go.W Go.Words Go.RowKit
set_option maxRecDepth 100000
attribute [local irreducible] WC WL WQ WS WH

set_option maxHeartbeats 2000000 in
theorem WordsNormalOnes_any (a : Option Addr) (cap : Nat) (l : List Rl) (z : Int) (hlen : l.length ≤ 9223372036854775807) (hsm : Sm 9223372036854775807 l) (w : World) (hmx : Mx w) (hs : Sl w a (rcs l)) :
    Ret Try.prog 6 [.slice a l.length cap, .int .i64 z] w fun u w' => u = .bool true ∧ Hp w w' [] := by
  have hTl := tameM_len l 6 4 3
  have hTs := tameM_sm l 6 4 3
  have hTg := tameM_lg l 6 4 (k := 3) (by decide) (by decide)
  refine enter Try.func6 rfl rfl ⟨rfl, rfl⟩ rfl ?_
  repeat (first | refine WC.seq ?_ | refine WC.reg ?_ | refine WL.pure rfl rfl rfl ?_ | refine WL.nil ?_ | refine WC.skip ?_ | refine WC.block ?_ | refine WC.condT rfl ?_ | refine WC.condF rfl ?_ | refine WL.off rfl rfl rfl ?_ | refine WL.off0 rfl rfl ?_ | refine WC.exit ?_ | refine blk_hit ?_ | refine blk_miss rfl ?_ | refine WC.ret ?_)
  refine WL.call rfl rfl rfl rfl rfl ent9 (tame_any a cap l 6 4 3 (by decide) (by decide) (by decide) (by decide) hlen hsm w hs) ?_
  rintro _ w1 ⟨qa, qc, rfl, hp1⟩
  generalize tameM l 6 4 3 = T at *
  refine WL.call rfl rfl rfl rfl rfl ent19 (oriented_any qa qc T (by omega) w1 (Sl.of_row (hp1.at 0 rfl))) ?_
  rintro _ w2 ⟨oa, oc, rfl, hp2⟩
  have hp2 := (hp1.comb hp2).drop1
  have hL := (eqsM_inv hTs).2
  have hLl := eqsM_len T
  have hK := eqsM_kp hTg
  have hsys : sysB (eqsM T) = true := sys_of (hK.mono (by decide)) (hL.mono (by decide)) (by omega)
  generalize eqsM T = O at *
  have hp2 : Hp w w2 [Rt (.slice oa O.length oc) O] := hp2
  have hm := modN_lt (n := 3) (by decide) z
  repeat (first | refine WC.seq ?_ | refine WC.reg ?_ | refine WL.pure rfl rfl rfl ?_ | refine WL.nil ?_ | refine WC.skip ?_ | refine WC.block ?_ | refine WC.condT rfl ?_ | refine WC.condF rfl ?_ | refine WL.off rfl rfl rfl ?_ | refine WL.off0 rfl rfl ?_ | refine WC.exit ?_ | refine blk_hit ?_ | refine blk_miss rfl ?_ | refine WC.ret ?_)
  refine WL.callP rfl rfl rfl rfl rfl ent15 (modO_any z 3 (by decide) (by decide) w2) ?_
  obtain ⟨k, hk⟩ : ∃ k, 1 + modN z 3 = k := ⟨_, rfl⟩
  have hk1 : 1 ≤ k := by omega
  have hk3 : k ≤ 3 := by omega
  have e0 : IntKind.i64.wrap (1 + ((modN z 3 : Nat) : Int)) = ((k : Nat) : Int) := by rw [wrap_i64_in (by omega) (by omega)]; omega
  clear hk hm
  refine WL.pure (v := .int .i64 (k : Nat)) rfl (congrArg (fun z => some (Value.int .i64 z)) e0) rfl ?_
  clear e0
  have hcb : cntB O (k : Nat) = true := by
    unfold cntB
    rw [hsys, decide_eq_true (show (1 : Int) ≤ (k : Nat) by omega), decide_eq_true (show ((k : Nat) : Int) ≤ 8 by omega)]; rfl
  have hN : ∀ j, j ≤ 5 → (NN O k j : Int) ≤ 4611686018427387904 := fun j hj => by
    have h1 := NN_pow hK.dc k j
    have h2 := pow_small hk3 (show j ≤ 6 by omega)
    omega
  repeat (first | refine WC.seq ?_ | refine WC.reg ?_ | refine WL.pure rfl rfl rfl ?_ | refine WL.nil ?_ | refine WC.skip ?_ | refine WC.block ?_ | refine WC.condT rfl ?_ | refine WC.condF rfl ?_ | refine WL.off rfl rfl rfl ?_ | refine WL.off0 rfl rfl ?_ | refine WC.exit ?_ | refine blk_hit ?_ | refine blk_miss rfl ?_ | refine WC.ret ?_)
  refine WL.call rfl rfl rfl rfl rfl ent20 (Count_any oa oc O (k : Nat) (5 : Nat) (hL.mono (by decide)) w2 (Sl.of_row (hp2.at 0 rfl))) ?_
  intro u w3 hu
  unfold CouQ at hu
  rw [hcb, if_pos (by decide), Int.toNat_natCast, Int.toNat_natCast, countM_ok hK.dc hN] at hu
  obtain ⟨ca, cc, rfl, hp3⟩ := hu
  have hp3 := hp2.comb hp3
  have hCl : ((List.range (5 + 1)).map fun j => (NN O k j : Int)).length = 6 := by rw [List.length_map, List.length_range]
  have hCg : ∀ j (hj : j < ((List.range (5 + 1)).map fun j => (NN O k j : Int)).length), ((List.range (5 + 1)).map fun j => (NN O k j : Int))[j] = (NN O k j : Int) := fun j hj => by rw [List.getElem_map, List.getElem_range]
  generalize ((List.range (5 + 1)).map fun j => (NN O k j : Int)) = C at *
  have hp3 : Hp w w3 [Ri (.slice ca C.length cc) C, Rt (.slice oa O.length oc) O] := hp3
  repeat (first | refine WC.seq ?_ | refine WC.reg ?_ | refine WL.pure rfl rfl rfl ?_ | refine WL.nil ?_ | refine WC.skip ?_ | refine WC.block ?_ | refine WC.condT rfl ?_ | refine WC.condF rfl ?_ | refine WL.off rfl rfl rfl ?_ | refine WL.off0 rfl rfl ?_ | refine WC.exit ?_ | refine blk_hit ?_ | refine blk_miss rfl ?_ | refine WC.ret ?_)
  refine WC.cond rfl (fun h => ?_) (fun _ => ?_)
  · exfalso
    have h : (((C.length : Nat) : Int) != 6) = true := h
    rw [hCl] at h
    exact absurd h (by decide)
  repeat (first | refine WC.seq ?_ | refine WC.reg ?_ | refine WL.pure rfl rfl rfl ?_ | refine WL.nil ?_ | refine WC.skip ?_ | refine WC.block ?_ | refine WC.condT rfl ?_ | refine WC.condF rfl ?_ | refine WL.off rfl rfl rfl ?_ | refine WL.off0 rfl rfl ?_ | refine WC.exit ?_ | refine blk_hit ?_ | refine blk_miss rfl ?_ | refine WC.ret ?_)
  refine WL.buildS (cs := [st []]) rfl rfl rfl rfl rfl rfl rfl rfl rfl ?_
  intro b9 w4 hb9
  have hp4 := (hp3.new hb9).rowN (n := 1) (cap := 1) (s := 1) rfl (Nat.le_refl _) (by unfold maxLen; decide)
  have hp4 : Hp w w4 [Rs (.slice (some ⟨b9, 0, none⟩) (Wn k 0).length 1) (Wn k 0), Ri (.slice ca C.length cc) C, Rt (.slice oa O.length oc) O] := hp4
  repeat (first | refine WC.seq ?_ | refine WC.reg ?_ | refine WL.pure rfl rfl rfl ?_ | refine WL.nil ?_ | refine WC.skip ?_ | refine WC.block ?_ | refine WC.condT rfl ?_ | refine WC.condF rfl ?_ | refine WL.off rfl rfl rfl ?_ | refine WL.off0 rfl rfl ?_ | refine WC.exit ?_ | refine blk_hit ?_ | refine blk_miss rfl ?_ | refine WC.ret ?_)
  refine WC.loop (Nat × Option Addr × Nat) (fun (n, na, nc) => [(5, .slice oa O.length oc), (6, .int .i64 (k : Nat)), (7, .slice ca C.length cc), (9, .slice na (Wn k n).length nc), (10, .int .i64 (n : Nat))])
    (fun (n, na, nc) w' => n ≤ 6 ∧ Hp w w' [Rs (.slice na (Wn k n).length nc) (Wn k n), Ri (.slice ca C.length cc) C, Rt (.slice oa O.length oc) O]) (fun (n, _) => 6 - n) (0, some ⟨b9, 0, none⟩, 1) ⟨rfl, rfl, rfl, rfl, rfl, rfl⟩ ⟨Nat.zero_le _, hp4⟩ ?_
  clear hp4 hp3 hp2 hp1 hb9
  rintro ⟨n, na, nc⟩ w5 ⟨hn, hp5⟩
  repeat (first | refine WC.seq ?_ | refine WC.reg ?_ | refine WL.pure rfl rfl rfl ?_ | refine WL.nil ?_ | refine WC.skip ?_ | refine WC.block ?_ | refine WC.condT rfl ?_ | refine WC.condF rfl ?_ | refine WL.off rfl rfl rfl ?_ | refine WL.off0 rfl rfl ?_ | refine WC.exit ?_ | refine blk_hit ?_ | refine blk_miss rfl ?_ | refine WC.ret ?_)
  refine WC.cond rfl (fun hc => ?_) (fun hc => ?_)
  · have hn : n ≤ 5 := by have := of_decide_eq_true hc; omega
    have stepn := wrap_succ (show n < 6 by omega) (by decide)
    have hWl := Wn_len k n
    have hWd := Wn_dg (k := k) (by omega) n
    have hW7 := pow_small hk3 (show n ≤ 6 by omega)
    have hcnt := NN_cnt hK.dc k n
    have hWs : Wn k (n + 1) = (Wn k n).flatMap (exts k) := rfl
    generalize hWn : Wn k n = W at *
    repeat (first | refine WC.seq ?_ | refine WC.reg ?_ | refine WL.pure rfl rfl rfl ?_ | refine WL.nil ?_ | refine WC.skip ?_ | refine WC.block ?_ | refine WC.condT rfl ?_ | refine WC.condF rfl ?_ | refine WL.off rfl rfl rfl ?_ | refine WL.off0 rfl rfl ?_ | refine WC.exit ?_ | refine blk_hit ?_ | refine blk_miss rfl ?_ | refine WC.ret ?_)
    refine WC.loop (Nat × Option Addr × Nat × List Str) (fun (i, xa, xc, Q) => [(5, .slice oa O.length oc), (6, .int .i64 (k : Nat)), (7, .slice ca C.length cc), (9, .slice na W.length nc), (10, .int .i64 (n : Nat)), (11, .int .i64 (((W.take i).filter fun w => (firstM O w).isNone).length : Nat)), (12, .slice xa Q.length xc), (13, .int .i64 (i : Nat))])
      (fun (i, xa, xc, Q) w' => i ≤ W.length ∧ Q = (W.take i).flatMap (exts k) ∧ Q.length = i * k ∧ Hp w w' [Rs (.slice xa Q.length xc) Q, Rs (.slice na W.length nc) W, Ri (.slice ca C.length cc) C, Rt (.slice oa O.length oc) O]) (fun (i, _) => W.length - i) (0, none, 0, []) ⟨rfl, rfl, rfl, congrArg (fun W : List Str => some (Value.slice na W.length nc)) hWn, rfl, rfl, rfl, rfl, rfl⟩ ⟨Nat.zero_le _, rfl, (Nat.zero_mul k).symm, hp5.nilrow _ _⟩ ?_
    clear hp5
    rintro ⟨i, xa, xc, Q⟩ w6 ⟨hi, hQ, hQl, hp6⟩
    repeat (first | refine WC.seq ?_ | refine WC.reg ?_ | refine WL.pure rfl rfl rfl ?_ | refine WL.nil ?_ | refine WC.skip ?_ | refine WC.block ?_ | refine WC.condT rfl ?_ | refine WC.condF rfl ?_ | refine WL.off rfl rfl rfl ?_ | refine WL.off0 rfl rfl ?_ | refine WC.exit ?_ | refine blk_hit ?_ | refine blk_miss rfl ?_ | refine WC.ret ?_)
    refine WC.cond rfl (fun hc2 => ?_) (fun hc2 => ?_)
    · have hi : i < W.length := by have := of_decide_eq_true hc2; omega
      have stepi := wrap_succ hi (by omega)
      obtain ⟨hsl, hsg⟩ := hWd _ (List.getElem_mem hi)
      have hsg3 : Dg 97 3 W[i] := hsg.mono hk3
      obtain ⟨nb, no, hna⟩ : ∃ nb no, na = some ⟨nb, no, none⟩ := by
        obtain ⟨b, o, hva, _⟩ := (Sl.of_row (hp6.at 1 rfl) : Sl w6 na (W.map st)) i _ (by rw [List.getElem?_map, List.getElem?_eq_getElem hi]; rfl)
        exact ⟨b, o, hva⟩
      subst hna
      have hcell : ∀ (w' : World) (X : Ent), Hp w w' [X, Rs (.slice (some ⟨nb, no, none⟩) W.length nc) W, Ri (.slice ca C.length cc) C, Rt (.slice oa O.length oc) O] → w'.cell? ⟨nb, no + i, none⟩ = some (st W[i]) := fun w' X hp => by
        obtain ⟨b', o', he', hcell⟩ := (Sl.of_row (hp.at 1 rfl) : Sl w' (some ⟨nb, no, none⟩) (W.map st)) i (st W[i]) (by rw [List.getElem?_map, List.getElem?_eq_getElem hi]; rfl)
        simp only [Option.some.injEq, Addr.mk.injEq] at he'
        obtain ⟨rfl, rfl, _⟩ := he'
        exact hcell
      obtain ⟨p, hp⟩ : ∃ p, normM O W[i] = some p := by
        refine normN_ok hK.dc hK.lg 20000 0 _ hsg3 ?_
        have h1 := vl_hi hsg3
        have h2 := geo_mono 3 (show W[i].length + 1 ≤ 6 by omega)
        have h3 : geo 3 6 = 364 := by decide
        omega
      obtain ⟨t, m⟩ := p
      obtain ⟨_, _, hm0⟩ := normM_sts hp
      have hNV : NorV O W[i] = .tuple #[st t, .int .i64 (m : Nat), .int .i64 0] := by
        unfold NorV
        rw [hsys, strB_dg hsg3 (by omega), hp]
        rfl
      have hfs : ((W.take (i + 1)).filter fun w => (firstM O w).isNone).length = ((W.take i).filter fun w => (firstM O w).isNone).length + (if m = 0 then 1 else 0) := by
        rw [List.take_succ_eq_append_getElem hi, List.filter_append, List.length_append]
        congr 1
        by_cases h0 : m = 0
        · rw [if_pos h0, List.filter_cons, if_pos (by rw [hm0.1 h0]; rfl)]; rfl
        · rw [if_neg h0, List.filter_cons, if_neg (by rw [Option.isNone_iff_eq_none]; exact fun h => h0 (hm0.2 h))]; rfl
      have hfl : ((W.take i).filter fun w => (firstM O w).isNone).length ≤ i := Nat.le_trans (List.length_filter_le _ _) (by rw [List.length_take]; omega)
      repeat (first | refine WC.seq ?_ | refine WC.reg ?_ | refine WL.pure rfl rfl rfl ?_ | refine WL.nil ?_ | refine WC.skip ?_ | refine WC.block ?_ | refine WC.condT rfl ?_ | refine WC.condF rfl ?_ | refine WL.off rfl rfl rfl ?_ | refine WL.off0 rfl rfl ?_ | refine WC.exit ?_ | refine blk_hit ?_ | refine blk_miss rfl ?_ | refine WC.ret ?_)
      refine WL.ix1 rfl rfl rfl rfl rfl rfl rfl hi ?_
      refine WL.load rfl rfl rfl rfl rfl (hcell _ _ hp6) ?_
      refine WL.call rfl rfl rfl rfl rfl ent12 (Normal_any oa oc O W[i] (hL.mono (by decide)) (by omega) w6 (Sl.of_row (hp6.at 3 rfl))) ?_
      rintro _ w7 ⟨rfl, hp7⟩
      have hp7 := hp6.comb hp7
      have hp7 : Hp w w7 [Rs (.slice xa Q.length xc) Q, Rs (.slice (some ⟨nb, no, none⟩) W.length nc) W, Ri (.slice ca C.length cc) C, Rt (.slice oa O.length oc) O] := hp7
      rw [hNV]
      repeat (first | refine WC.seq ?_ | refine WC.reg ?_ | refine WL.pure rfl rfl rfl ?_ | refine WL.nil ?_ | refine WC.skip ?_ | refine WC.block ?_ | refine WC.condT rfl ?_ | refine WC.condF rfl ?_ | refine WL.off rfl rfl rfl ?_ | refine WL.off0 rfl rfl ?_ | refine WC.exit ?_ | refine blk_hit ?_ | refine blk_miss rfl ?_ | refine WC.ret ?_)
      refine WC.mid Unit (fun _ => [(5, .slice oa O.length oc), (6, .int .i64 (k : Nat)), (7, .slice ca C.length cc), (9, .slice (some ⟨nb, no, none⟩) W.length nc), (10, .int .i64 (n : Nat)), (11, .int .i64 (((W.take (i + 1)).filter fun w => (firstM O w).isNone).length : Nat)), (12, .slice xa Q.length xc), (13, .int .i64 (i : Nat))]) (fun _ w' => w' = w7) ?_ ?_
      · refine WC.cond rfl (fun h0 => ?_) (fun h0 => ?_)
        · have h0 : m = 0 := by have := eq_of_beq h0; omega
          rw [if_pos h0] at hfs
          have hst : IntKind.i64.wrap (((((W.take i).filter fun w => (firstM O w).isNone).length : Nat) : Int) + 1) = ((((W.take (i + 1)).filter fun w => (firstM O w).isNone).length : Nat) : Int) := by rw [hfs, wrap_i64_in (by omega) (by omega)]; omega
          repeat (first | refine WC.seq ?_ | refine WC.reg ?_ | refine WL.pure rfl rfl rfl ?_ | refine WL.nil ?_ | refine WC.skip ?_ | refine WC.block ?_ | refine WC.condT rfl ?_ | refine WC.condF rfl ?_ | refine WL.off rfl rfl rfl ?_ | refine WL.off0 rfl rfl ?_ | refine WC.exit ?_ | refine blk_hit ?_ | refine blk_miss rfl ?_ | refine WC.ret ?_)
          exact ⟨(), ⟨rfl, rfl, rfl, rfl, rfl, congrArg (fun z => some (Value.int .i64 z)) hst, rfl, rfl, rfl⟩, rfl⟩
        · have h0 : m ≠ 0 := fun h => by rw [h] at h0; exact absurd h0 (by decide)
          rw [if_neg h0, Nat.add_zero] at hfs
          repeat (first | refine WC.seq ?_ | refine WC.reg ?_ | refine WL.pure rfl rfl rfl ?_ | refine WL.nil ?_ | refine WC.skip ?_ | refine WC.block ?_ | refine WC.condT rfl ?_ | refine WC.condF rfl ?_ | refine WL.off rfl rfl rfl ?_ | refine WL.off0 rfl rfl ?_ | refine WC.exit ?_ | refine blk_hit ?_ | refine blk_miss rfl ?_ | refine WC.ret ?_)
          exact ⟨(), ⟨rfl, rfl, rfl, rfl, rfl, congrArg (fun z : Nat => some (Value.int .i64 z)) hfs.symm, rfl, rfl, rfl⟩, rfl⟩
      rintro _ e8 w8 hsub hw8
      obtain rfl := hw8.symm
      refine WC.sub hsub ?_
      clear hsub hp6 hfs hfl hNV hm0 hp
      have hQk : Q.length ≤ 729 * 3 := by rw [hQl]; exact Nat.mul_le_mul (by omega) hk3
      generalize hse : W[i] = s at *
      repeat (first | refine WC.seq ?_ | refine WC.reg ?_ | refine WL.pure rfl rfl rfl ?_ | refine WL.nil ?_ | refine WC.skip ?_ | refine WC.block ?_ | refine WC.condT rfl ?_ | refine WC.condF rfl ?_ | refine WL.off rfl rfl rfl ?_ | refine WL.off0 rfl rfl ?_ | refine WC.exit ?_ | refine blk_hit ?_ | refine blk_miss rfl ?_ | refine WC.ret ?_)
      refine WC.loop (Nat × Option Addr × Nat × List Str) (fun (j, xa, xc, R) => [(5, .slice oa O.length oc), (6, .int .i64 (k : Nat)), (7, .slice ca C.length cc), (9, .slice (some ⟨nb, no, none⟩) W.length nc), (10, .int .i64 (n : Nat)), (11, .int .i64 (((W.take (i + 1)).filter fun w => (firstM O w).isNone).length : Nat)), (12, .slice xa R.length xc), (13, .int .i64 (i : Nat)), (17, .int .i64 (j : Nat))])
        (fun (j, xa, xc, R) w' => j ≤ k ∧ R = Q ++ (List.range j).map (fun c => s ++ [ltr c]) ∧ R.length = Q.length + j ∧ Hp w w' [Rs (.slice xa R.length xc) R, Rs (.slice (some ⟨nb, no, none⟩) W.length nc) W, Ri (.slice ca C.length cc) C, Rt (.slice oa O.length oc) O]) (fun (j, _) => k - j) (0, xa, xc, Q) ⟨rfl, rfl, rfl, rfl, rfl, rfl, rfl, rfl, rfl, rfl⟩ ⟨Nat.zero_le _, (List.append_nil Q).symm, rfl, hp7⟩ ?_
      clear hp7
      rintro ⟨j, xa, xc, R⟩ w9 ⟨hj, hR, hRl, hp9⟩
      repeat (first | refine WC.seq ?_ | refine WC.reg ?_ | refine WL.pure rfl rfl rfl ?_ | refine WL.nil ?_ | refine WC.skip ?_ | refine WC.block ?_ | refine WC.condT rfl ?_ | refine WC.condF rfl ?_ | refine WL.off rfl rfl rfl ?_ | refine WL.off0 rfl rfl ?_ | refine WC.exit ?_ | refine blk_hit ?_ | refine blk_miss rfl ?_ | refine WC.ret ?_)
      refine WC.cond rfl (fun hc3 => ?_) (fun hc3 => ?_)
      · have hj : j < k := by have := of_decide_eq_true hc3; omega
        have stepj := wrap_succ hj (by omega)
        have hRs : R ++ [s ++ [ltr j]] = Q ++ (List.range (j + 1)).map (fun c => s ++ [ltr c]) := by
          rw [hR, List.range_succ, List.map_append, List.append_assoc]; rfl
        have e1 : (R ++ [s ++ [ltr j]]).length = R.length + 1 := by rw [List.length_append]; rfl
        have hb8 := byte_val (c := j) (by omega)
        have hT : ∀ (w' : World) (X : Ent), Hp w w' [X, Rs (.slice (some ⟨nb, no, none⟩) W.length nc) W, Ri (.slice ca C.length cc) C, Rt (.slice oa O.length oc) O] → w'.cell? ⟨nb, no + i * 1, none⟩ = some (st s) := fun w' X h => by rw [Nat.mul_one]; exact hcell w' X h
        repeat (first | refine WC.seq ?_ | refine WC.reg ?_ | refine WL.pure rfl rfl rfl ?_ | refine WL.nil ?_ | refine WC.skip ?_ | refine WC.block ?_ | refine WC.condT rfl ?_ | refine WC.condF rfl ?_ | refine WL.off rfl rfl rfl ?_ | refine WL.off0 rfl rfl ?_ | refine WC.exit ?_ | refine blk_hit ?_ | refine blk_miss rfl ?_ | refine WC.ret ?_)
        refine WC.mid (Option Addr × Nat) (fun (ra, rc1) => [(5, .slice oa O.length oc), (6, .int .i64 (k : Nat)), (7, .slice ca C.length cc), (9, .slice (some ⟨nb, no, none⟩) W.length nc), (10, .int .i64 (n : Nat)), (11, .int .i64 (((W.take (i + 1)).filter fun w => (firstM O w).isNone).length : Nat)), (12, .slice ra (R ++ [s ++ [ltr j]]).length rc1), (13, .int .i64 (i : Nat)), (17, .int .i64 (j : Nat))])
          (fun (ra, rc1) w' => Hp w w' [Rs (.slice ra (R ++ [s ++ [ltr j]]).length rc1) (R ++ [s ++ [ltr j]]), Rs (.slice (some ⟨nb, no, none⟩) W.length nc) W, Ri (.slice ca C.length cc) C, Rt (.slice oa O.length oc) O]) ?_ ?_
        · refine WC.regH (fun w' => w'.cell? ⟨nb, no + i * 1, none⟩ = some (st s)) mixed (by kernel_rfl) (fun w3' hw3 hh3 => ?_)
          have hp10 := hp9.keep hw3
          have hS := hT _ _ hp10
          refine WH.pure 0 (by kernel_rfl) rfl (by kernel_rfl) rfl rfl rfl (hS) ?_
          refine WH.pure 1 (by kernel_rfl) rfl (by kernel_rfl) rfl rfl rfl (hS) ?_
          refine WH.pure 2 (by kernel_rfl) rfl (by kernel_rfl) rfl rfl rfl (hS) ?_
          refine WH.ixS 3 (by kernel_rfl) rfl (by kernel_rfl) rfl rfl rfl rfl rfl rfl hi hS ?_
          refine WH.load 4 (by kernel_rfl) rfl (by kernel_rfl) rfl rfl rfl rfl rfl (fun w' h => h) hS ?_
          refine WH.pure 5 (by kernel_rfl) rfl (by kernel_rfl) rfl rfl rfl (hS) ?_
          refine WH.pure 6 (by kernel_rfl) rfl (by kernel_rfl) rfl rfl rfl (hS) ?_
          refine WH.pure 7 (by kernel_rfl) rfl (by kernel_rfl) rfl rfl rfl (hS) ?_
          refine WH.known (d := 82) (congrArg (fun z => some (Value.int .u8 z)) hb8) ?_
          generalize hu : UInt8.ofNat (97 + j) = ub
          rw [show ltr j = ub from hu] at *
          refine WH.one 8 rfl (by kernel_rfl) ?_
          refine WL.buildS (cs := [.int .u8 (ub.toNat : Nat)]) rfl rfl rfl rfl rfl rfl rfl rfl rfl ?_
          intro b81 w11 hb81
          have hp11 := hp10.new hb81
          have hS11 := hT _ _ hp11.tail
          refine WL.nil ⟨hS11, ?_⟩
          refine WH.one 9 rfl (by kernel_rfl) ?_
          refine WL.convB (u := ub) rfl rfl rfl rfl rfl rfl rfl (cell_of_obj (hp11.obj 0 rfl) rfl) ?_
          refine WL.nil ⟨hS11, ?_⟩
          refine WH.sCat 10 (by kernel_rfl) rfl (by kernel_rfl) rfl rfl rfl rfl (by show s.length + 1 ≤ _; omega) hS11 ?_
          refine WH.one 11 rfl (by kernel_rfl) ?_
          refine WL.buildS (cs := [st (s ++ [ub])]) rfl rfl rfl rfl rfl rfl rfl rfl rfl ?_
          intro b6 w12 hb6
          have hp12 := hp11.tail.new hb6
          have hS12 := hT _ _ hp12.tail
          refine WL.nil ⟨hS12, ?_⟩
          generalize s ++ [ub] = x at *
          refine WH.one 12 rfl (by kernel_rfl) ?_
          refine WL.append 1 hp12 rfl rfl rfl rfl rfl (by decide) rfl rfl rfl (news := [st x]) (Sl.of_obj (hp12.obj 0 rfl) (fun q u hq => by simpa using hq)) rfl (st_cells [x]) (by unfold maxLen; omega) (by show (R.length + 1) * 16 ≤ _; omega) ?_
          intro ra rc1 w13 hp13 hg13
          have hp13 := hp13.tail
          refine WL.nil ⟨hT _ _ hp13, ?_⟩
          refine WH.pure 13 (by kernel_rfl) rfl (by kernel_rfl) rfl rfl rfl (hT _ _ hp13) ?_
          refine WH.done (by kernel_rfl) ?_
          refine ⟨(ra, rc1), ⟨rfl, rfl, rfl, rfl, rfl, rfl, congrArg (fun z : Nat => some (Value.slice ra z rc1)) e1.symm, rfl, rfl, rfl⟩, ?_⟩
          show Hp w w13 [Rs _ _, _, _, _]
          unfold Rs
          rw [e1, List.map_append]
          exact hp13
        rintro ⟨ra, rc1⟩ e10 w10 hsub10 hp10
        refine WC.sub hsub10 ?_
        clear hsub10
        repeat (first | refine WC.seq ?_ | refine WC.reg ?_ | refine WL.pure rfl rfl rfl ?_ | refine WL.nil ?_ | refine WC.skip ?_ | refine WC.block ?_ | refine WC.condT rfl ?_ | refine WC.condF rfl ?_ | refine WL.off rfl rfl rfl ?_ | refine WL.off0 rfl rfl ?_ | refine WC.exit ?_ | refine blk_hit ?_ | refine blk_miss rfl ?_ | refine WC.ret ?_)
        exact ⟨(j + 1, ra, rc1, R ++ [s ++ [ltr j]]), (by show k - (j + 1) < k - j; omega), ⟨rfl, rfl, rfl, rfl, rfl, rfl, rfl, rfl, congrArg (fun z => some (Value.int .i64 z)) stepj, rfl⟩, by omega, hRs, by omega, hp10⟩
      · have hj : j = k := by have := of_decide_eq_false hc3; omega
        subst hj
        have hQn : R = (W.take (i + 1)).flatMap (exts j) := by
          rw [hR, List.take_succ_eq_append_getElem hi, List.flatMap_append, ← hQ, List.flatMap_singleton, hse]; rfl
        have hRl2 : R.length = (i + 1) * j := by rw [hRl, hQl, Nat.add_mul, Nat.one_mul]
        repeat (first | refine WC.seq ?_ | refine WC.reg ?_ | refine WL.pure rfl rfl rfl ?_ | refine WL.nil ?_ | refine WC.skip ?_ | refine WC.block ?_ | refine WC.condT rfl ?_ | refine WC.condF rfl ?_ | refine WL.off rfl rfl rfl ?_ | refine WL.off0 rfl rfl ?_ | refine WC.exit ?_ | refine blk_hit ?_ | refine blk_miss rfl ?_ | refine WC.ret ?_)
        exact ⟨(i + 1, xa, xc, R), (by show W.length - (i + 1) < W.length - i; omega), ⟨rfl, rfl, rfl, rfl, rfl, rfl, rfl, congrArg (fun z => some (Value.int .i64 z)) stepi, rfl⟩, by omega, hQn, hRl2, hp9⟩
    · have hi : i = W.length := by have := of_decide_eq_false hc2; omega
      subst hi
      rw [List.take_length] at hQ
      have hn6 : n < C.length := by omega
      have hCn := hCg n hn6
      obtain ⟨cb, co, rfl, hcell⟩ := zs_cell (Sl.of_row (hp6.at 2 rfl)) hn6
      repeat (first | refine WC.seq ?_ | refine WC.reg ?_ | refine WL.pure rfl rfl rfl ?_ | refine WL.nil ?_ | refine WC.skip ?_ | refine WC.block ?_ | refine WC.condT rfl ?_ | refine WC.condF rfl ?_ | refine WL.off rfl rfl rfl ?_ | refine WL.off0 rfl rfl ?_ | refine WC.exit ?_ | refine blk_hit ?_ | refine blk_miss rfl ?_ | refine WC.ret ?_)
      refine WL.ix1 rfl rfl rfl rfl rfl rfl rfl hn6 ?_
      refine WL.load rfl rfl rfl rfl rfl hcell ?_
      repeat (first | refine WC.seq ?_ | refine WC.reg ?_ | refine WL.pure rfl rfl rfl ?_ | refine WL.nil ?_ | refine WC.skip ?_ | refine WC.block ?_ | refine WC.condT rfl ?_ | refine WC.condF rfl ?_ | refine WL.off rfl rfl rfl ?_ | refine WL.off0 rfl rfl ?_ | refine WC.exit ?_ | refine blk_hit ?_ | refine blk_miss rfl ?_ | refine WC.ret ?_)
      refine WC.cond rfl (fun h => ?_) (fun _ => ?_)
      · exfalso
        have h : (((((W.take W.length).filter fun w => (firstM O w).isNone).length : Nat) : Int) != C[n]) = true := h
        rw [hCn, hcnt, List.take_length] at h
        simp at h
      repeat (first | refine WC.seq ?_ | refine WC.reg ?_ | refine WL.pure rfl rfl rfl ?_ | refine WL.nil ?_ | refine WC.skip ?_ | refine WC.block ?_ | refine WC.condT rfl ?_ | refine WC.condF rfl ?_ | refine WL.off rfl rfl rfl ?_ | refine WL.off0 rfl rfl ?_ | refine WC.exit ?_ | refine blk_hit ?_ | refine blk_miss rfl ?_ | refine WC.ret ?_)
      exact ⟨(n + 1, xa, xc), (by show 6 - (n + 1) < 6 - n; omega), ⟨rfl, rfl, rfl, (by rw [hWs, ← hQ]; rfl), congrArg (fun z => some (Value.int .i64 z)) stepn, rfl⟩, by omega, (by rw [hWs, ← hQ]; exact hp6.drop1)⟩
  · have hn : n = 6 := by have := of_decide_eq_false hc; omega
    subst hn
    have hp5 : Hp w w5 [Rt (.slice oa O.length oc) O] := hp5.tail.tail
    have hSV : SizeV O (k : Nat) = match sizeM O k with
      | some z => .tuple #[.int .i64 z, .int .i64 0]
      | none => .tuple #[.int .i64 0, .int .i64 6] := by
      unfold SizeV
      rw [hcb, if_pos rfl, Int.toNat_natCast]
      cases sizeM O k <;> rfl
    repeat (first | refine WC.seq ?_ | refine WC.reg ?_ | refine WL.pure rfl rfl rfl ?_ | refine WL.nil ?_ | refine WC.skip ?_ | refine WC.block ?_ | refine WC.condT rfl ?_ | refine WC.condF rfl ?_ | refine WL.off rfl rfl rfl ?_ | refine WL.off0 rfl rfl ?_ | refine WC.exit ?_ | refine blk_hit ?_ | refine blk_miss rfl ?_ | refine WC.ret ?_)
    refine WL.call rfl rfl rfl rfl rfl ent16 (Size_any oa oc O (k : Nat) (hL.mono (by decide)) w5 (Sl.of_row (hp5.at 0 rfl))) ?_
    rintro _ w6 ⟨rfl, hp6⟩
    have hp6 := hp5.comb hp6
    rw [hSV]
    cases hsz : sizeM O k with
    | none =>
      repeat (first | refine WC.seq ?_ | refine WC.reg ?_ | refine WL.pure rfl rfl rfl ?_ | refine WL.nil ?_ | refine WC.skip ?_ | refine WC.block ?_ | refine WC.condT rfl ?_ | refine WC.condF rfl ?_ | refine WL.off rfl rfl rfl ?_ | refine WL.off0 rfl rfl ?_ | refine WC.exit ?_ | refine blk_hit ?_ | refine blk_miss rfl ?_ | refine WC.ret ?_)
      refine WL.call rfl rfl rfl rfl rfl ent20 (Count_any oa oc O (k : Nat) (40 : Nat) (hL.mono (by decide)) w6 (Sl.of_row (hp6.at 0 rfl))) ?_
      intro u w7 hu
      obtain ⟨pa, pn, pc, e, rfl, hp7⟩ : ∃ pa pn pc e, u = .tuple #[.slice pa pn pc, .int .i64 e] ∧ Hp w6 w7 [] := by
        unfold CouQ at hu
        split at hu
        · split at hu
          · obtain ⟨pa, pc, rfl, h⟩ := hu
            exact ⟨_, _, _, _, rfl, h.nil'⟩
          · exact ⟨_, _, _, _, hu.1, hu.2⟩
        · exact ⟨_, _, _, _, hu.1, hu.2⟩
      have hp7 := hp6.comb hp7
      repeat (first | refine WC.seq ?_ | refine WC.reg ?_ | refine WL.pure rfl rfl rfl ?_ | refine WL.nil ?_ | refine WC.skip ?_ | refine WC.block ?_ | refine WC.condT rfl ?_ | refine WC.condF rfl ?_ | refine WL.off rfl rfl rfl ?_ | refine WL.off0 rfl rfl ?_ | refine WC.exit ?_ | refine blk_hit ?_ | refine blk_miss rfl ?_ | refine WC.ret ?_)
      refine WL.call rfl rfl rfl rfl rfl ent10 (awake_any w7 (hmx.hp hp7)) ?_
      rintro _ w9 ⟨rfl, hp9⟩
      repeat (first | refine WC.seq ?_ | refine WC.reg ?_ | refine WL.pure rfl rfl rfl ?_ | refine WL.nil ?_ | refine WC.skip ?_ | refine WC.block ?_ | refine WC.condT rfl ?_ | refine WC.condF rfl ?_ | refine WL.off rfl rfl rfl ?_ | refine WL.off0 rfl rfl ?_ | refine WC.exit ?_ | refine blk_hit ?_ | refine blk_miss rfl ?_ | refine WC.ret ?_)
      exact Res.one rfl rfl rfl ⟨rfl, (hp7.comb hp9).nil'⟩
    | some T =>
      obtain ⟨e, _, he0, heM, rfl⟩ := (sizeM_iff hK.dc k T).1 hsz
      have hN40 : ∀ j, j ≤ 40 → (NN O k j : Int) ≤ 4611686018427387904 := fun j hj => by
        have h1 := SS_all he0 (j + 1)
        rw [SS] at h1
        omega
      have hSM : ∀ j, (SS O k j : Int) ≤ 4611686018427387904 := fun j => by
        have := SS_all he0 j
        omega
      repeat (first | refine WC.seq ?_ | refine WC.reg ?_ | refine WL.pure rfl rfl rfl ?_ | refine WL.nil ?_ | refine WC.skip ?_ | refine WC.block ?_ | refine WC.condT rfl ?_ | refine WC.condF rfl ?_ | refine WL.off rfl rfl rfl ?_ | refine WL.off0 rfl rfl ?_ | refine WC.exit ?_ | refine blk_hit ?_ | refine blk_miss rfl ?_ | refine WC.ret ?_)
      refine WL.call rfl rfl rfl rfl rfl ent20 (Count_any oa oc O (k : Nat) (40 : Nat) (hL.mono (by decide)) w6 (Sl.of_row (hp6.at 0 rfl))) ?_
      intro u w7 hu
      unfold CouQ at hu
      rw [hcb, if_pos (by decide), Int.toNat_natCast, Int.toNat_natCast, countM_ok hK.dc hN40] at hu
      obtain ⟨da, dc, rfl, hp7⟩ := hu
      have hp7 := hp6.comb hp7
      have hDl : ((List.range (40 + 1)).map fun j => (NN O k j : Int)).length = 41 := by rw [List.length_map, List.length_range]
      have hDg : ∀ j (hj : j < ((List.range (40 + 1)).map fun j => (NN O k j : Int)).length), ((List.range (40 + 1)).map fun j => (NN O k j : Int))[j] = (NN O k j : Int) := fun j hj => by rw [List.getElem_map, List.getElem_range]
      generalize ((List.range (40 + 1)).map fun j => (NN O k j : Int)) = D at *
      have hp7 : Hp w w7 [Ri (.slice da D.length dc) D, Rt (.slice oa O.length oc) O] := hp7
      repeat (first | refine WC.seq ?_ | refine WC.reg ?_ | refine WL.pure rfl rfl rfl ?_ | refine WL.nil ?_ | refine WC.skip ?_ | refine WC.block ?_ | refine WC.condT rfl ?_ | refine WC.condF rfl ?_ | refine WL.off rfl rfl rfl ?_ | refine WL.off0 rfl rfl ?_ | refine WC.exit ?_ | refine blk_hit ?_ | refine blk_miss rfl ?_ | refine WC.ret ?_)
      refine WC.loop Nat (fun i => [(18, .int .i64 (SS O k e : Nat)), (20, .slice da D.length dc), (21, .int .i64 0), (22, .int .i64 (SS O k i : Nat)), (23, .int .i64 (i : Nat))])
        (fun i w' => i ≤ D.length ∧ w' = w7) (fun i => D.length - i) 0 ⟨rfl, rfl, rfl, rfl, rfl, rfl⟩ ⟨Nat.zero_le _, rfl⟩ ?_
      rintro i w8 ⟨hi, hw8⟩
      obtain rfl := hw8.symm
      repeat (first | refine WC.seq ?_ | refine WC.reg ?_ | refine WL.pure rfl rfl rfl ?_ | refine WL.nil ?_ | refine WC.skip ?_ | refine WC.block ?_ | refine WC.condT rfl ?_ | refine WC.condF rfl ?_ | refine WL.off rfl rfl rfl ?_ | refine WL.off0 rfl rfl ?_ | refine WC.exit ?_ | refine blk_hit ?_ | refine blk_miss rfl ?_ | refine WC.ret ?_)
      refine WC.cond rfl (fun hc2 => ?_) (fun hc2 => ?_)
      · have hi : i < D.length := by have := of_decide_eq_true hc2; omega
        have step := wrap_succ hi (by omega)
        obtain ⟨db, dof, rfl, hcell⟩ := zs_cell (Sl.of_row (hp7.at 0 rfl)) hi
        rw [hDg i hi] at hcell
        have hs1 : IntKind.i64.wrap (((SS O k i : Nat) : Int) + (NN O k i : Int)) = ((SS O k (i + 1) : Nat) : Int) := by
          have := hSM (i + 1)
          rw [SS] at this ⊢
          rw [wrap_i64_in (by omega) (by omega)]; omega
        repeat (first | refine WC.seq ?_ | refine WC.reg ?_ | refine WL.pure rfl rfl rfl ?_ | refine WL.nil ?_ | refine WC.skip ?_ | refine WC.block ?_ | refine WC.condT rfl ?_ | refine WC.condF rfl ?_ | refine WL.off rfl rfl rfl ?_ | refine WL.off0 rfl rfl ?_ | refine WC.exit ?_ | refine blk_hit ?_ | refine blk_miss rfl ?_ | refine WC.ret ?_)
        refine WL.ix1 rfl rfl rfl rfl rfl rfl rfl hi ?_
        refine WL.load rfl rfl rfl rfl rfl hcell ?_
        repeat (first | refine WC.seq ?_ | refine WC.reg ?_ | refine WL.pure rfl rfl rfl ?_ | refine WL.nil ?_ | refine WC.skip ?_ | refine WC.block ?_ | refine WC.condT rfl ?_ | refine WC.condF rfl ?_ | refine WL.off rfl rfl rfl ?_ | refine WL.off0 rfl rfl ?_ | refine WC.exit ?_ | refine blk_hit ?_ | refine blk_miss rfl ?_ | refine WC.ret ?_)
        exact ⟨i + 1, by omega, ⟨rfl, rfl, rfl, congrArg (fun z => some (Value.int .i64 z)) hs1, congrArg (fun z => some (Value.int .i64 z)) step, rfl⟩, by omega, rfl⟩
      · have hi : i = 41 := by have := of_decide_eq_false hc2; omega
        have h40 : 40 < D.length := by omega
        obtain ⟨db, dof, rfl, hcell⟩ := zs_cell (Sl.of_row (hp7.at 0 rfl)) h40
        rw [hDg 40 h40] at hcell
        have hkey : NN O k 40 = 0 → SS O k i = SS O k e := fun h => by
          have h1 := SS_all he0 i
          have h2 := SS_all (l := O) (k := k) h e
          have h4 := SS_le (l := O) (k := k) (show 40 ≤ i by omega)
          omega
        generalize NN O k 40 = N40 at *
        have hpre : IntKind.i64.wrap (((D.length : Nat) : Int) - 1) = ((40 : Nat) : Int) := by rw [hDl]; rfl
        have hgo : 0 < ((D.length : Nat) : Int) := by omega
        repeat (first | refine WC.seq ?_ | refine WC.reg ?_ | refine WL.pure rfl rfl rfl ?_ | refine WL.nil ?_ | refine WC.skip ?_ | refine WC.block ?_ | refine WC.condT rfl ?_ | refine WC.condF rfl ?_ | refine WL.off rfl rfl rfl ?_ | refine WL.off0 rfl rfl ?_ | refine WC.exit ?_ | refine blk_hit ?_ | refine blk_miss rfl ?_ | refine WC.ret ?_)
        refine WL.split 136 rfl (fun h3 => ?_) (fun h3 => ?_)
        · repeat (first | refine WC.seq ?_ | refine WC.reg ?_ | refine WL.pure rfl rfl rfl ?_ | refine WL.nil ?_ | refine WC.skip ?_ | refine WC.block ?_ | refine WC.condT rfl ?_ | refine WC.condF rfl ?_ | refine WL.off rfl rfl rfl ?_ | refine WL.off0 rfl rfl ?_ | refine WC.exit ?_ | refine blk_hit ?_ | refine blk_miss rfl ?_ | refine WC.ret ?_)
          refine WL.call rfl rfl rfl rfl rfl ent10 (awake_any w7 (hmx.hp hp7)) ?_
          rintro _ w9 ⟨rfl, hp9⟩
          repeat (first | refine WC.seq ?_ | refine WC.reg ?_ | refine WL.pure rfl rfl rfl ?_ | refine WL.nil ?_ | refine WC.skip ?_ | refine WC.block ?_ | refine WC.condT rfl ?_ | refine WC.condF rfl ?_ | refine WL.off rfl rfl rfl ?_ | refine WL.off0 rfl rfl ?_ | refine WC.exit ?_ | refine blk_hit ?_ | refine blk_miss rfl ?_ | refine WC.ret ?_)
          exact Res.one rfl rfl rfl ⟨rfl, (hp7.comb hp9).nil'⟩
        · have h41 : SS O k i ≠ SS O k e := fun h => by rw [h] at h3; simp at h3
          have hpos : N40 ≠ 0 := fun h => h41 (hkey h)
          repeat (first | refine WC.seq ?_ | refine WC.reg ?_ | refine WL.pure rfl rfl rfl ?_ | refine WL.nil ?_ | refine WC.skip ?_ | refine WC.block ?_ | refine WC.condT rfl ?_ | refine WC.condF rfl ?_ | refine WL.off rfl rfl rfl ?_ | refine WL.off0 rfl rfl ?_ | refine WC.exit ?_ | refine blk_hit ?_ | refine blk_miss rfl ?_ | refine WC.ret ?_)
          refine WL.split 140 rfl (fun h5 => ?_) (fun h5 => ?_)
          · repeat (first | refine WC.seq ?_ | refine WC.reg ?_ | refine WL.pure rfl rfl rfl ?_ | refine WL.nil ?_ | refine WC.skip ?_ | refine WC.block ?_ | refine WC.condT rfl ?_ | refine WC.condF rfl ?_ | refine WL.off rfl rfl rfl ?_ | refine WL.off0 rfl rfl ?_ | refine WC.exit ?_ | refine blk_hit ?_ | refine blk_miss rfl ?_ | refine WC.ret ?_)
            refine WL.known (d := 144) (congrArg (fun z => some (Value.int .i64 z)) hpre) ?_
            refine WL.ix1 rfl rfl rfl rfl rfl rfl rfl h40 ?_
            refine WL.load rfl rfl rfl rfl rfl hcell ?_
            repeat (first | refine WC.seq ?_ | refine WC.reg ?_ | refine WL.pure rfl rfl rfl ?_ | refine WL.nil ?_ | refine WC.skip ?_ | refine WC.block ?_ | refine WC.condT rfl ?_ | refine WC.condF rfl ?_ | refine WL.off rfl rfl rfl ?_ | refine WL.off0 rfl rfl ?_ | refine WC.exit ?_ | refine blk_hit ?_ | refine blk_miss rfl ?_ | refine WC.ret ?_)
            refine WL.split 151 rfl (fun h6 => ?_) (fun h6 => ?_)
            · repeat (first | refine WC.seq ?_ | refine WC.reg ?_ | refine WL.pure rfl rfl rfl ?_ | refine WL.nil ?_ | refine WC.skip ?_ | refine WC.block ?_ | refine WC.condT rfl ?_ | refine WC.condF rfl ?_ | refine WL.off rfl rfl rfl ?_ | refine WL.off0 rfl rfl ?_ | refine WC.exit ?_ | refine blk_hit ?_ | refine blk_miss rfl ?_ | refine WC.ret ?_)
              refine WL.call rfl rfl rfl rfl rfl ent10 (awake_any w7 (hmx.hp hp7)) ?_
              rintro _ w9 ⟨rfl, hp9⟩
              repeat (first | refine WC.seq ?_ | refine WC.reg ?_ | refine WL.pure rfl rfl rfl ?_ | refine WL.nil ?_ | refine WC.skip ?_ | refine WC.block ?_ | refine WC.condT rfl ?_ | refine WC.condF rfl ?_ | refine WL.off rfl rfl rfl ?_ | refine WL.off0 rfl rfl ?_ | refine WC.exit ?_ | refine blk_hit ?_ | refine blk_miss rfl ?_ | refine WC.ret ?_)
              exact Res.one rfl rfl rfl ⟨rfl, (hp7.comb hp9).nil'⟩
            · exfalso
              have h6 := of_decide_eq_false h6
              omega
          · exfalso
            have h5 := of_decide_eq_false h5
            omega
end Go.Proofs.Ytoghnhbjdnjghaa
