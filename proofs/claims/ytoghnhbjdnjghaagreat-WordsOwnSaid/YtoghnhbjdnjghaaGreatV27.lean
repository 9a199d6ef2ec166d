/- The reference's Tidy. -/
import Derived.Test.YtoghnhbjdnjghaaGreatV26
namespace Go.Proofs.YtoghnhbjdnjghaaGreat
open Go.W Go.Words Go.RowKit
set_option maxRecDepth 100000
attribute [local irreducible] WC WL WQ WS WH

set_option maxHeartbeats 1000000 in
theorem rTidy_any (a : Option Addr) (cap : Nat) (l : List Rl) (hl : l.length ≤ 500) (hd : Dn l) (hm : Sm 1000 l) (w : World) (hs : Sl w a (rcs l)) :
    Ret Tryz.prog 25 [.slice a l.length cap] w (TidyP (tidyM l) w) := by
  refine enter Tryz.func25 rfl rfl ⟨rfl, rfl⟩ rfl ?_
  repeat (first | refine WC.seq ?_ | refine WC.reg ?_ | refine WL.pure rfl rfl rfl ?_ | refine WL.nil ?_ | refine WC.skip ?_ | refine WC.block ?_ | refine WC.condT rfl ?_ | refine WC.condF rfl ?_ | refine WL.off rfl rfl rfl ?_ | refine WL.off0 rfl rfl ?_ | refine WC.exit ?_ | refine blk_hit ?_ | refine blk_miss rfl ?_ | refine WC.ret ?_)
  refine WC.loop (Nat × Option Addr × Nat × List Rl) (fun (i, va, vc, acc) => [(0, .slice a l.length cap), (4, .slice va acc.length vc), (5, .int .i64 (i : Nat))])
    (fun (i, va, vc, acc) w' => i ≤ l.length ∧ acc = (l.take i).foldl putM [] ∧ acc.length ≤ i ∧ Hp w w' [Rt (.slice va acc.length vc) acc]) (fun (i, _) => l.length - i) (0, none, 0, []) ⟨rfl, rfl, rfl, rfl⟩ ⟨Nat.zero_le _, rfl, Nat.le_refl _, (Hp.start w).nilrow _ _⟩ ?_
  rintro ⟨i, va, vc, acc⟩ w1 ⟨hi, hA, hal, hp1⟩
  repeat (first | refine WC.seq ?_ | refine WC.reg ?_ | refine WL.pure rfl rfl rfl ?_ | refine WL.nil ?_ | refine WC.skip ?_ | refine WC.block ?_ | refine WC.condT rfl ?_ | refine WC.condF rfl ?_ | refine WL.off rfl rfl rfl ?_ | refine WL.off0 rfl rfl ?_ | refine WC.exit ?_ | refine blk_hit ?_ | refine blk_miss rfl ?_ | refine WC.ret ?_)
  refine WC.cond rfl (fun hc => ?_) (fun hc => ?_)
  · have hi : i < l.length := by have := of_decide_eq_true hc; omega
    have step := wrap_succ hi (by omega)
    have hsucc := foldl_take_succ putM [] hi
    rw [← hA] at hsucc
    have hpl := putM_len acc l[i]
    repeat (first | refine WC.seq ?_ | refine WC.reg ?_ | refine WL.pure rfl rfl rfl ?_ | refine WL.nil ?_ | refine WC.skip ?_ | refine WC.block ?_ | refine WC.condT rfl ?_ | refine WC.condF rfl ?_ | refine WL.off rfl rfl rfl ?_ | refine WL.off0 rfl rfl ?_ | refine WC.exit ?_ | refine blk_hit ?_ | refine blk_miss rfl ?_ | refine WC.ret ?_)
    refine WL.ixload2 rfl (fun _ => rfl) rfl rfl rfl rfl rfl rfl rfl hi rfl rfl (hs.hp hp1) hi ?_
    intro pp
    refine WL.call rfl rfl rfl rfl rfl ent48 (rput_any acc l[i] (by omega) _ w _ w1 hp1) ?_
    rintro _ w2 ⟨ra, rc1, rfl, hp2⟩
    repeat (first | refine WC.seq ?_ | refine WC.reg ?_ | refine WL.pure rfl rfl rfl ?_ | refine WL.nil ?_ | refine WC.skip ?_ | refine WC.block ?_ | refine WC.condT rfl ?_ | refine WC.condF rfl ?_ | refine WL.off rfl rfl rfl ?_ | refine WL.off0 rfl rfl ?_ | refine WC.exit ?_ | refine blk_hit ?_ | refine blk_miss rfl ?_ | refine WC.ret ?_)
    exact ⟨(i + 1, ra, rc1, putM acc l[i]), (by show l.length - (i + 1) < l.length - i; omega), ⟨rfl, rfl, congrArg (fun z => some (Value.int .i64 z)) step, rfl⟩, by omega, hsucc.symm, by omega, hp2⟩
  have hi : l.length ≤ i := by have := of_decide_eq_false hc; omega
  have hsrt : acc = srtM l := by rw [hA, List.take_of_length_le hi]; rfl
  clear hA hal
  subst hsrt
  repeat (first | refine WC.seq ?_ | refine WC.reg ?_ | refine WL.pure rfl rfl rfl ?_ | refine WL.nil ?_ | refine WC.skip ?_ | refine WC.block ?_ | refine WC.condT rfl ?_ | refine WC.condF rfl ?_ | refine WL.off rfl rfl rfl ?_ | refine WL.off0 rfl rfl ?_ | refine WC.exit ?_ | refine blk_hit ?_ | refine blk_miss rfl ?_ | refine WC.ret ?_)
  refine WC.loop (Nat × Option Addr × Nat × List Rl) (fun (n, va, vc, l') => [(4, .slice va l'.length vc), (6, .int .i64 (n : Nat))])
    (fun (n, va, vc, l') w' => n ≤ 2000 ∧ Ss l' ∧ Dn l' ∧ Sm 1000 l' ∧ l'.length ≤ 500 ∧ tidyM l = tidyN (2000 - n) l' ∧ Hp w w' [Rt (.slice va l'.length vc) l']) (fun (n, _) => 2000 - n)
    (0, va, vc, srtM l) ⟨rfl, rfl, rfl⟩ ⟨Nat.zero_le _, srtM_ss l, fun r hr => hd r (mem_srtM.1 hr), fun r hr => hm r (mem_srtM.1 hr), Nat.le_trans (srtM_len_le l) hl, rfl, hp1⟩ ?_
  clear hp1
  rintro ⟨n, va, vc, l'⟩ w2 ⟨hn, hss, hdn, hsm, hll, hT, hp2⟩
  repeat (first | refine WC.seq ?_ | refine WC.reg ?_ | refine WL.pure rfl rfl rfl ?_ | refine WL.nil ?_ | refine WC.skip ?_ | refine WC.block ?_ | refine WC.condT rfl ?_ | refine WC.condF rfl ?_ | refine WL.off rfl rfl rfl ?_ | refine WL.off0 rfl rfl ?_ | refine WC.exit ?_ | refine blk_hit ?_ | refine blk_miss rfl ?_ | refine WC.ret ?_)
  refine WC.loop Nat (fun k => [(4, .slice va l'.length vc), (6, .int .i64 (n : Nat)), (7, .int .i64 (k : Nat))])
    (fun k w' => k ≤ l'.length ∧ (∀ j, j < k → nrmB l' j = true) ∧ Hp w w' [Rt (.slice va l'.length vc) l']) (fun k => l'.length - k) 0 ⟨rfl, rfl, rfl, rfl⟩ ⟨Nat.zero_le _, fun j hj => absurd hj (Nat.not_lt_zero j), hp2⟩ ?_
  clear hp2
  rintro k w3 ⟨hk, hnj, hp3⟩
  repeat (first | refine WC.seq ?_ | refine WC.reg ?_ | refine WL.pure rfl rfl rfl ?_ | refine WL.nil ?_ | refine WC.skip ?_ | refine WC.block ?_ | refine WC.condT rfl ?_ | refine WC.condF rfl ?_ | refine WL.off rfl rfl rfl ?_ | refine WL.off0 rfl rfl ?_ | refine WC.exit ?_ | refine blk_hit ?_ | refine blk_miss rfl ?_ | refine WC.ret ?_)
  refine WL.split 33 rfl (fun h1 => ?_) (fun h1 => ?_)
  · have hk : k < l'.length := by have := of_decide_eq_true h1; omega
    have stepk := wrap_succ hk (by omega)
    repeat (first | refine WC.seq ?_ | refine WC.reg ?_ | refine WL.pure rfl rfl rfl ?_ | refine WL.nil ?_ | refine WC.skip ?_ | refine WC.block ?_ | refine WC.condT rfl ?_ | refine WC.condF rfl ?_ | refine WL.off rfl rfl rfl ?_ | refine WL.off0 rfl rfl ?_ | refine WC.exit ?_ | refine blk_hit ?_ | refine blk_miss rfl ?_ | refine WC.ret ?_)
    refine WL.call rfl rfl rfl rfl rfl ent49 (isNormal_any va vc l' k hk (by omega) (hsm.mono (by decide)) w3 (Sl.of_row (hp3.at 0 rfl))) ?_
    rintro _ w4 ⟨rfl, hp4⟩
    have hp4 := hp3.comb hp4
    repeat (first | refine WC.seq ?_ | refine WC.reg ?_ | refine WL.pure rfl rfl rfl ?_ | refine WL.nil ?_ | refine WC.skip ?_ | refine WC.block ?_ | refine WC.condT rfl ?_ | refine WC.condF rfl ?_ | refine WL.off rfl rfl rfl ?_ | refine WL.off0 rfl rfl ?_ | refine WC.exit ?_ | refine blk_hit ?_ | refine blk_miss rfl ?_ | refine WC.ret ?_)
    refine WC.cond rfl (fun h2 => ?_) (fun h2 => ?_)
    · repeat (first | refine WC.seq ?_ | refine WC.reg ?_ | refine WL.pure rfl rfl rfl ?_ | refine WL.nil ?_ | refine WC.skip ?_ | refine WC.block ?_ | refine WC.condT rfl ?_ | refine WC.condF rfl ?_ | refine WL.off rfl rfl rfl ?_ | refine WL.off0 rfl rfl ?_ | refine WC.exit ?_ | refine blk_hit ?_ | refine blk_miss rfl ?_ | refine WC.ret ?_)
      refine ⟨k + 1, by omega, ⟨rfl, rfl, congrArg (fun z => some (Value.int .i64 z)) stepk, rfl⟩, by omega, fun j hj => ?_, hp4⟩
      rcases Nat.lt_or_ge j k with h | h
      · exact hnj j h
      · rw [show j = k by omega]; exact h2
    · have hni : nextI l' = some k := find_range hk (fun j hj => by simp [hnj j hj]) (by rw [h2]; rfl)
      have hcap : l'.length ≤ vc := by
        obtain ⟨_, ⟨hv, h0⟩ | ⟨b, cap, cur, hv, _, _, hnc, _⟩⟩ := hp4.at 0 rfl
        · simp only [Value.slice.injEq] at hv; omega
        · simp only [Value.slice.injEq] at hv; omega
      repeat (first | refine WC.seq ?_ | refine WC.reg ?_ | refine WL.pure rfl rfl rfl ?_ | refine WL.nil ?_ | refine WC.skip ?_ | refine WC.block ?_ | refine WC.condT rfl ?_ | refine WC.condF rfl ?_ | refine WL.off rfl rfl rfl ?_ | refine WL.off0 rfl rfl ?_ | refine WC.exit ?_ | refine blk_hit ?_ | refine blk_miss rfl ?_ | refine WC.ret ?_)
      refine WC.cond rfl (fun h3 => ?_) (fun h3 => ?_)
      · exfalso
        have h3 : (((k : Nat) : Int) == ((l'.length : Nat) : Int)) = true := h3
        have := eq_of_beq h3
        omega
      repeat (first | refine WC.seq ?_ | refine WC.reg ?_ | refine WL.pure rfl rfl rfl ?_ | refine WL.nil ?_ | refine WC.skip ?_ | refine WC.block ?_ | refine WC.condT rfl ?_ | refine WC.condF rfl ?_ | refine WL.off rfl rfl rfl ?_ | refine WL.off0 rfl rfl ?_ | refine WC.exit ?_ | refine blk_hit ?_ | refine blk_miss rfl ?_ | refine WC.ret ?_)
      refine WC.cond rfl (fun hc => ?_) (fun hc => ?_)
      · have hn2 : n = 2000 := by have := eq_of_beq hc; omega
        subst hn2
        repeat (first | refine WC.seq ?_ | refine WC.reg ?_ | refine WL.pure rfl rfl rfl ?_ | refine WL.nil ?_ | refine WC.skip ?_ | refine WC.block ?_ | refine WC.condT rfl ?_ | refine WC.condF rfl ?_ | refine WL.off rfl rfl rfl ?_ | refine WL.off0 rfl rfl ?_ | refine WC.exit ?_ | refine blk_hit ?_ | refine blk_miss rfl ?_ | refine WC.ret ?_)
        refine Res.two rfl rfl rfl rfl ?_
        rw [hT, Nat.sub_self, tidyN_out hni]
        exact ⟨rfl, hp4.nil'⟩
      have hn2 : n < 2000 := by
        have : ¬ ((n : Int) = 2000) := fun h => by rw [h] at hc; exact absurd hc (by decide)
        omega
      have step := wrap_succ hn2 (by omega)
      obtain ⟨q, hq⟩ : ∃ q, 2000 - n = q + 1 := ⟨2000 - n - 1, by omega⟩
      have hq2 : 2000 - (n + 1) = q := by omega
      rw [hq, tidyN_go hni hk] at hT
      have hsz := hsm.at_ hk
      have hel : (l'.eraseIdx k).length + 1 = l'.length := by rw [List.length_eraseIdx_of_lt hk]; omega
      have hdn' := hdn.erase k
      have hsm' := hsm.erase k
      have hss' := hss.erase k
      obtain ⟨b, o, rfl⟩ := rcs_some (Sl.of_row (hp4.at 0 rfl)) (by omega)
      repeat (first | refine WC.seq ?_ | refine WC.reg ?_ | refine WL.pure rfl rfl rfl ?_ | refine WL.nil ?_ | refine WC.skip ?_ | refine WC.block ?_ | refine WC.condT rfl ?_ | refine WC.condF rfl ?_ | refine WL.off rfl rfl rfl ?_ | refine WL.off0 rfl rfl ?_ | refine WC.exit ?_ | refine blk_hit ?_ | refine blk_miss rfl ?_ | refine WC.ret ?_)
      refine WL.call rfl rfl rfl rfl rfl ent50 (rwithout_any _ vc l' k hk (by omega) hcap w4 (Sl.of_row (hp4.at 0 rfl))) ?_
      rintro _ w5 ⟨oa, oc, rfl, hp5⟩
      have hp5 := hp4.comb hp5
      have hs5 : Sl w5 (some ⟨b, o, none⟩) (rcs l') := Sl.of_row (hp5.at 1 rfl)
      generalize hL : l'.eraseIdx k = L2 at *
      repeat (first | refine WC.seq ?_ | refine WC.reg ?_ | refine WL.pure rfl rfl rfl ?_ | refine WL.nil ?_ | refine WC.skip ?_ | refine WC.block ?_ | refine WC.condT rfl ?_ | refine WC.condF rfl ?_ | refine WL.off rfl rfl rfl ?_ | refine WL.off0 rfl rfl ?_ | refine WC.exit ?_ | refine blk_hit ?_ | refine blk_miss rfl ?_ | refine WC.ret ?_)
      refine WL.ix rfl rfl rfl rfl rfl (j := k) hk rfl ?_
      repeat (first | refine WC.seq ?_ | refine WC.reg ?_ | refine WL.pure rfl rfl rfl ?_ | refine WL.nil ?_ | refine WC.skip ?_ | refine WC.block ?_ | refine WC.condT rfl ?_ | refine WC.condF rfl ?_ | refine WL.off rfl rfl rfl ?_ | refine WL.off0 rfl rfl ?_ | refine WC.exit ?_ | refine blk_hit ?_ | refine blk_miss rfl ?_ | refine WC.ret ?_)
      refine WL.load rfl rfl rfl rfl rfl (rcs_cell hs5 hk (q := 0) rfl) ?_
      refine WL.call rfl rfl rfl rfl rfl ent17 (rNormal_any oa oc L2 l'[k].1 (by omega) hdn' (by omega) (hsm'.mono (by decide)) w5 (Sl.of_row (hp5.at 0 rfl))) ?_
      rintro _ w6 ⟨rfl, hp6⟩
      have hp6 := hp5.comb hp6
      have hs6 : Sl w6 (some ⟨b, o, none⟩) (rcs l') := Sl.of_row (hp6.at 1 rfl)
      have hz : ∀ s, ∃ t z, norV (normM L2 s) = .tuple #[st t, .int .i64 z, .bool (normM L2 s).isSome] ∧ t = nrS L2 s := by
        intro s
        unfold nrS
        cases normM L2 s with
        | none => exact ⟨[], (0 : Nat), rfl, rfl⟩
        | some p => exact ⟨p.1, (p.2 : Nat), rfl, rfl⟩
      obtain ⟨t1, z1, e1, et1⟩ := hz l'[k].1
      rw [e1]
      repeat (first | refine WC.seq ?_ | refine WC.reg ?_ | refine WL.pure rfl rfl rfl ?_ | refine WL.nil ?_ | refine WC.skip ?_ | refine WC.block ?_ | refine WC.condT rfl ?_ | refine WC.condF rfl ?_ | refine WL.off rfl rfl rfl ?_ | refine WL.off0 rfl rfl ?_ | refine WC.exit ?_ | refine blk_hit ?_ | refine blk_miss rfl ?_ | refine WC.ret ?_)
      refine WL.ix rfl rfl rfl rfl rfl (j := k) hk rfl ?_
      repeat (first | refine WC.seq ?_ | refine WC.reg ?_ | refine WL.pure rfl rfl rfl ?_ | refine WL.nil ?_ | refine WC.skip ?_ | refine WC.block ?_ | refine WC.condT rfl ?_ | refine WC.condF rfl ?_ | refine WL.off rfl rfl rfl ?_ | refine WL.off0 rfl rfl ?_ | refine WC.exit ?_ | refine blk_hit ?_ | refine blk_miss rfl ?_ | refine WC.ret ?_)
      refine WL.load rfl rfl rfl rfl rfl (rcs_cell hs6 hk (q := 1) rfl) ?_
      refine WL.call rfl rfl rfl rfl rfl ent17 (rNormal_any oa oc L2 l'[k].2 (by omega) hdn' (by omega) (hsm'.mono (by decide)) w6 (Sl.of_row (hp6.at 0 rfl))) ?_
      rintro _ w7 ⟨rfl, hp7⟩
      have hp7 := hp6.comb hp7
      obtain ⟨t2, z2, e2, et2⟩ := hz l'[k].2
      rw [e2]
      have hna := nrS_len hdn' l'[k].1
      have hnb := nrS_len hdn' l'[k].2
      have hiso := formsM_iso L2 l'[k]
      generalize l'[k] = r at *
      repeat (first | refine WC.seq ?_ | refine WC.reg ?_ | refine WL.pure rfl rfl rfl ?_ | refine WL.nil ?_ | refine WC.skip ?_ | refine WC.block ?_ | refine WC.condT rfl ?_ | refine WC.condF rfl ?_ | refine WL.off rfl rfl rfl ?_ | refine WL.off0 rfl rfl ?_ | refine WC.exit ?_ | refine blk_hit ?_ | refine blk_miss rfl ?_ | refine WC.ret ?_)
      refine WL.split 74 rfl (fun h5 => ?_) (fun h5 => ?_)
      · have h5 : (normM L2 r.1).isSome = false := by simpa using h5
        have hf : formsM L2 r = none := by rw [h5, Bool.false_and] at hiso; exact Option.not_isSome_iff_eq_none.1 (by rw [hiso]; decide)
        rw [hf] at hT
        repeat (first | refine WC.seq ?_ | refine WC.reg ?_ | refine WL.pure rfl rfl rfl ?_ | refine WL.nil ?_ | refine WC.skip ?_ | refine WC.block ?_ | refine WC.condT rfl ?_ | refine WC.condF rfl ?_ | refine WL.off rfl rfl rfl ?_ | refine WL.off0 rfl rfl ?_ | refine WC.exit ?_ | refine blk_hit ?_ | refine blk_miss rfl ?_ | refine WC.ret ?_)
        refine Res.two rfl rfl rfl rfl ?_
        rw [hT]
        exact ⟨rfl, hp7.nil'⟩
      have h5 : (normM L2 r.1).isSome = true := by simpa using h5
      repeat (first | refine WC.seq ?_ | refine WC.reg ?_ | refine WL.pure rfl rfl rfl ?_ | refine WL.nil ?_ | refine WC.skip ?_ | refine WC.block ?_ | refine WC.condT rfl ?_ | refine WC.condF rfl ?_ | refine WL.off rfl rfl rfl ?_ | refine WL.off0 rfl rfl ?_ | refine WC.exit ?_ | refine blk_hit ?_ | refine blk_miss rfl ?_ | refine WC.ret ?_)
      refine WC.cond rfl (fun h6 => ?_) (fun h6 => ?_)
      · have h6 : (normM L2 r.2).isSome = false := by simpa using h6
        have hf : formsM L2 r = none := by rw [h6, Bool.and_false] at hiso; exact Option.not_isSome_iff_eq_none.1 (by rw [hiso]; decide)
        rw [hf] at hT
        repeat (first | refine WC.seq ?_ | refine WC.reg ?_ | refine WL.pure rfl rfl rfl ?_ | refine WL.nil ?_ | refine WC.skip ?_ | refine WC.block ?_ | refine WC.condT rfl ?_ | refine WC.condF rfl ?_ | refine WL.off rfl rfl rfl ?_ | refine WL.off0 rfl rfl ?_ | refine WC.exit ?_ | refine blk_hit ?_ | refine blk_miss rfl ?_ | refine WC.ret ?_)
        refine Res.two rfl rfl rfl rfl ?_
        rw [hT]
        exact ⟨rfl, hp7.nil'⟩
      have h6 : (normM L2 r.2).isSome = true := by simpa using h6
      obtain ⟨p, hf⟩ := Option.isSome_iff_exists.1 (show (formsM L2 r).isSome = true by rw [hiso, h5, h6]; rfl)
      have hp := formsM_some hf
      rw [hf, hp, ← et1, ← et2] at hT
      rw [← et1] at hna
      rw [← et2] at hnb
      simp only at hT
      repeat (first | refine WC.seq ?_ | refine WC.reg ?_ | refine WL.pure rfl rfl rfl ?_ | refine WL.nil ?_ | refine WC.skip ?_ | refine WC.block ?_ | refine WC.condT rfl ?_ | refine WC.condF rfl ?_ | refine WL.off rfl rfl rfl ?_ | refine WL.off0 rfl rfl ?_ | refine WC.exit ?_ | refine blk_hit ?_ | refine blk_miss rfl ?_ | refine WC.ret ?_)
      refine WL.sCmp rfl rfl rfl rfl rfl ?_
      repeat (first | refine WC.seq ?_ | refine WC.reg ?_ | refine WL.pure rfl rfl rfl ?_ | refine WL.nil ?_ | refine WC.skip ?_ | refine WC.block ?_ | refine WC.condT rfl ?_ | refine WC.condF rfl ?_ | refine WL.off rfl rfl rfl ?_ | refine WL.off0 rfl rfl ?_ | refine WC.exit ?_ | refine blk_hit ?_ | refine blk_miss rfl ?_ | refine WC.ret ?_)
      refine WC.cond rfl (fun h7 => ?_) (fun h7 => ?_)
      · have h7 : ¬ t1 = t2 := by simpa using h7
        rw [if_neg h7] at hT
        have hds := dirM_sm (n := 1000) (a := t1) (b := t2) (by omega) (by omega)
        have hpl := putM_len L2 (dirM t1 t2)
        repeat (first | refine WC.seq ?_ | refine WC.reg ?_ | refine WL.pure rfl rfl rfl ?_ | refine WL.nil ?_ | refine WC.skip ?_ | refine WC.block ?_ | refine WC.condT rfl ?_ | refine WC.condF rfl ?_ | refine WL.off rfl rfl rfl ?_ | refine WL.off0 rfl rfl ?_ | refine WC.exit ?_ | refine blk_hit ?_ | refine blk_miss rfl ?_ | refine WC.ret ?_)
        refine WL.call rfl rfl rfl rfl rfl ent42 (Oriented_any t1 t2 w7) ?_
        rintro _ w8 ⟨rfl, hp8⟩
        have hp8 := hp7.comb hp8
        refine WL.call rfl rfl rfl rfl rfl ent48 (rput_any L2 (dirM t1 t2) (by omega) _ w _ w8 hp8) ?_
        rintro _ w9 ⟨ra, rc1, rfl, hp9⟩
        repeat (first | refine WC.seq ?_ | refine WC.reg ?_ | refine WL.pure rfl rfl rfl ?_ | refine WL.nil ?_ | refine WC.skip ?_ | refine WC.block ?_ | refine WC.condT rfl ?_ | refine WC.condF rfl ?_ | refine WL.off rfl rfl rfl ?_ | refine WL.off0 rfl rfl ?_ | refine WC.exit ?_ | refine blk_hit ?_ | refine blk_miss rfl ?_ | refine WC.ret ?_)
        exact ⟨(n + 1, ra, rc1, putM L2 (dirM t1 t2)), (by show 2000 - (n + 1) < 2000 - n; omega), ⟨rfl, congrArg (fun z => some (Value.int .i64 z)) step, rfl⟩, by omega, putM_ss hss' _, hdn'.put (dirM_dn t1 t2), hsm'.put hds, by omega, by rw [hq2]; exact hT, hp9.drop1⟩
      · have h7 : t1 = t2 := by simpa using h7
        rw [if_pos h7] at hT
        repeat (first | refine WC.seq ?_ | refine WC.reg ?_ | refine WL.pure rfl rfl rfl ?_ | refine WL.nil ?_ | refine WC.skip ?_ | refine WC.block ?_ | refine WC.condT rfl ?_ | refine WC.condF rfl ?_ | refine WL.off rfl rfl rfl ?_ | refine WL.off0 rfl rfl ?_ | refine WC.exit ?_ | refine blk_hit ?_ | refine blk_miss rfl ?_ | refine WC.ret ?_)
        exact ⟨(n + 1, oa, oc, L2), (by show 2000 - (n + 1) < 2000 - n; omega), ⟨rfl, congrArg (fun z => some (Value.int .i64 z)) step, rfl⟩, by omega, hss', hdn', hsm', by omega, by rw [hq2]; exact hT, hp7.drop1⟩
  · have hk : k = l'.length := by have := of_decide_eq_false h1; omega
    have hni : nextI l' = none := by
      unfold nextI
      rw [List.find?_eq_none]
      intro j hj
      have := hnj j (by rw [hk]; exact List.mem_range.1 hj)
      simp [this]
    subst hk
    repeat (first | refine WC.seq ?_ | refine WC.reg ?_ | refine WL.pure rfl rfl rfl ?_ | refine WL.nil ?_ | refine WC.skip ?_ | refine WC.block ?_ | refine WC.condT rfl ?_ | refine WC.condF rfl ?_ | refine WL.off rfl rfl rfl ?_ | refine WL.off0 rfl rfl ?_ | refine WC.exit ?_ | refine blk_hit ?_ | refine blk_miss rfl ?_ | refine WC.ret ?_)
    refine WC.cond rfl (fun h3 => ?_) (fun h3 => ?_)
    · repeat (first | refine WC.seq ?_ | refine WC.reg ?_ | refine WL.pure rfl rfl rfl ?_ | refine WL.nil ?_ | refine WC.skip ?_ | refine WC.block ?_ | refine WC.condT rfl ?_ | refine WC.condF rfl ?_ | refine WL.off rfl rfl rfl ?_ | refine WL.off0 rfl rfl ?_ | refine WC.exit ?_ | refine blk_hit ?_ | refine blk_miss rfl ?_ | refine WC.ret ?_)
      refine Res.two rfl rfl rfl rfl ?_
      rw [hT, tidyN_none hni]
      exact ⟨va, vc, rfl, hp3⟩
    · exfalso
      have h3 : (((l'.length : Nat) : Int) == ((l'.length : Nat) : Int)) = false := h3
      simp at h3
end Go.Proofs.YtoghnhbjdnjghaaGreat
