/- The walk of WordsConfluent. -/
import Derived.Test.YtoghnhbjdnjghaaV39
import Derived.Test.YtoghnhbjdnjghaaV35a
namespace Go.Words
open Go.W Go.Proofs.Ytoghnhbjdnjghaa
/-- What is known of tame equations and what is made of them. -/
theorem comp_tame {l : List Rl} {k : Nat} (hg : Lg 97 3 l) (hs : Sm 24 l) (hl : l.length ≤ 64) (hk : k ≤ 12) :
    eqnsB l (k : Nat) = true ∧ ((completeM l k = none ∧ CompR l (k : Nat) = ([], false, 5)) ∨ ∃ t c, completeM l k = some (t, c) ∧ CompR l (k : Nat) = (t, c, 0) ∧ Kp3 97 3 t ∧ Ceq l t ∧ nextI t = none ∧ (c = true → Cf t) ∧ Stl t ∧ sysB t = true) := by
  have he : eqnsB l (k : Nat) = true := by
    have h1 : l.all eqnB = true := by
      rw [List.all_eq_true]
      intro r hr
      have h1 := hg.mono (show 3 ≤ 8 by decide) r hr
      have h2 := hs r hr
      unfold eqnB sideB
      rw [letters_dg h1.1, letters_dg h1.2, decide_eq_true h2.1, decide_eq_true h2.2]
      rfl
    unfold eqnsB
    rw [h1, decide_eq_true hl, decide_eq_true (show (0 : Int) ≤ (k : Nat) by omega), decide_eq_true (show ((k : Nat) : Int) ≤ 12 by omega)]
    rfl
  refine ⟨he, ?_⟩
  have hR : CompR l (k : Nat) = match completeM l k with
    | some (t, b) => (t, b, 0)
    | none => ([], false, 5) := by
    unfold CompR
    rw [if_pos he, Int.toNat_natCast]
    cases completeM l k <;> rfl
  cases hc : completeM l k with
  | none => rw [hc] at hR; exact .inl ⟨rfl, hR⟩
  | some q =>
    obtain ⟨t, c⟩ := q
    rw [hc] at hR
    obtain ⟨p1, p2, p3, p4⟩ := completeM_cg hc hg
    have hS := completeM_inv hc hs
    exact .inr ⟨t, c, rfl, hR, p1, p2, p3, p4, hS, sys_of (p1.mono (by decide)) hS.sm hS.len⟩
theorem strB_dg {s : Str} (h : Dg 97 3 s) (hl : s.length ≤ 200) : strB s = true := by
  unfold strB
  rw [letters_dg (h.mono (by decide)), decide_eq_true hl]
  rfl
theorem zs_cell {w : World} {a : Option Addr} {xs : List Int} (h : Sl w a (zs xs)) {i : Nat} (hi : i < xs.length) : ∃ b o, a = some ⟨b, o, none⟩ ∧ w.cell? ⟨b, o + i, none⟩ = some (.int .i64 xs[i]) :=
  h i _ (by unfold zs; rw [List.getElem?_map, List.getElem?_eq_getElem hi]; rfl)
end Go.Words
namespace Go.Proofs.Ytoghnhbjdnjghaa
open Go.W Go.Words Go.RowKit
set_option maxRecDepth 100000
attribute [local irreducible] WC WL WQ WS WH

set_option maxHeartbeats 1000000 in
theorem WordsConfluent_any (a : Option Addr) (cap : Nat) (l : List Rl) (s0 : Str) (za : Option Addr) (zc : Nat) (ch : List Int) (hlen : l.length ≤ 9223372036854775807) (hsm : Sm 9223372036854775807 l) (hs0 : s0.length ≤ 9223372036854775807) (w : World) (hmx : Mx w) (hs : Sl w a (rcs l)) (hz : Sl w za (zs ch)) :
    Ret Try.prog 3 [.slice a l.length cap, st s0, .slice za ch.length zc] w fun u w' => u = .bool true ∧ Hp w w' [] := by
  have hTl := tameM_len l 6 6 3
  have hTs := tameM_sm l 6 6 3
  have hTg := tameM_lg l 6 6 (k := 3) (by decide) (by decide)
  refine enter Try.func3 rfl rfl ⟨rfl, rfl⟩ rfl ?_
  repeat (first | refine WC.seq ?_ | refine WC.reg ?_ | refine WL.pure rfl rfl rfl ?_ | refine WL.nil ?_ | refine WC.skip ?_ | refine WC.block ?_ | refine WC.condT rfl ?_ | refine WC.condF rfl ?_ | refine WL.off rfl rfl rfl ?_ | refine WL.off0 rfl rfl ?_ | refine WC.exit ?_ | refine blk_hit ?_ | refine blk_miss rfl ?_ | refine WC.ret ?_)
  refine WL.call rfl rfl rfl rfl rfl ent9 (tame_any a cap l 6 6 3 (by decide) (by decide) (by decide) (by decide) hlen hsm w hs) ?_
  rintro _ w1 ⟨qa, qc, rfl, hp1⟩
  generalize tameM l 6 6 3 = T at *
  refine WL.call rfl rfl rfl rfl rfl ent8 (Complete_any qa qc T (6 : Nat) (hTs.mono (by decide)) w1 (hmx.hp hp1) (Sl.of_row (hp1.at 0 rfl))) ?_
  intro u w2 hu
  obtain ⟨ca, cc, rfl, hp2⟩ := hu.to
  clear hu
  have hp2 := (hp1.comb hp2).drop1
  obtain ⟨_, ⟨_, hR⟩ | ⟨t, c, _, hR, hK, _, _, hC, hS, hsys⟩⟩ := comp_tame (k := 6) hTg (hTs.mono (by decide)) (by omega) (by decide)
  · rw [hR] at hp2 ⊢
    repeat (first | refine WC.seq ?_ | refine WC.reg ?_ | refine WL.pure rfl rfl rfl ?_ | refine WL.nil ?_ | refine WC.skip ?_ | refine WC.block ?_ | refine WC.condT rfl ?_ | refine WC.condF rfl ?_ | refine WL.off rfl rfl rfl ?_ | refine WL.off0 rfl rfl ?_ | refine WC.exit ?_ | refine blk_hit ?_ | refine blk_miss rfl ?_ | refine WC.ret ?_)
    refine WL.call rfl rfl rfl rfl rfl ent10 (awake_any w2 (hmx.hp hp2)) ?_
    rintro _ w9 ⟨rfl, hp9⟩
    repeat (first | refine WC.seq ?_ | refine WC.reg ?_ | refine WL.pure rfl rfl rfl ?_ | refine WL.nil ?_ | refine WC.skip ?_ | refine WC.block ?_ | refine WC.condT rfl ?_ | refine WC.condF rfl ?_ | refine WL.off rfl rfl rfl ?_ | refine WL.off0 rfl rfl ?_ | refine WC.exit ?_ | refine blk_hit ?_ | refine blk_miss rfl ?_ | refine WC.ret ?_)
    exact Res.one rfl rfl rfl ⟨rfl, (hp2.comb hp9).nil'⟩
  rw [hR] at hp2 ⊢
  simp only at hp2 ⊢
  have hSl := hS.len
  cases c with
  | false =>
    repeat (first | refine WC.seq ?_ | refine WC.reg ?_ | refine WL.pure rfl rfl rfl ?_ | refine WL.nil ?_ | refine WC.skip ?_ | refine WC.block ?_ | refine WC.condT rfl ?_ | refine WC.condF rfl ?_ | refine WL.off rfl rfl rfl ?_ | refine WL.off0 rfl rfl ?_ | refine WC.exit ?_ | refine blk_hit ?_ | refine blk_miss rfl ?_ | refine WC.ret ?_)
    refine WL.call rfl rfl rfl rfl rfl ent10 (awake_any w2 (hmx.hp hp2)) ?_
    rintro _ w9 ⟨rfl, hp9⟩
    repeat (first | refine WC.seq ?_ | refine WC.reg ?_ | refine WL.pure rfl rfl rfl ?_ | refine WL.nil ?_ | refine WC.skip ?_ | refine WC.block ?_ | refine WC.condT rfl ?_ | refine WC.condF rfl ?_ | refine WL.off rfl rfl rfl ?_ | refine WL.off0 rfl rfl ?_ | refine WC.exit ?_ | refine blk_hit ?_ | refine blk_miss rfl ?_ | refine WC.ret ?_)
    exact Res.one rfl rfl rfl ⟨rfl, (hp2.comb hp9).nil'⟩
  | true =>
    have hC := hC rfl
    have hsl := wordM_len s0 30 3
    have hsg := wordM_dg s0 30 (many := 3) (by decide) (by decide)
    repeat (first | refine WC.seq ?_ | refine WC.reg ?_ | refine WL.pure rfl rfl rfl ?_ | refine WL.nil ?_ | refine WC.skip ?_ | refine WC.block ?_ | refine WC.condT rfl ?_ | refine WC.condF rfl ?_ | refine WL.off rfl rfl rfl ?_ | refine WL.off0 rfl rfl ?_ | refine WC.exit ?_ | refine blk_hit ?_ | refine blk_miss rfl ?_ | refine WC.ret ?_)
    refine WL.call rfl rfl rfl rfl rfl ent11 (word_any s0 30 3 hs0 (by decide) (by decide) (by decide) w2) ?_
    rintro _ w3 ⟨rfl, hp3⟩
    have hp3 := hp2.comb hp3
    have hp3 : Hp w w3 [Rt (.slice ca t.length cc) t] := hp3
    generalize wordM s0 30 3 = s at *
    have hNV : NorV t s = match normM t s with
      | some (u, n) => .tuple #[st u, .int .i64 (n : Nat), .int .i64 0]
      | none => .tuple #[st [], .int .i64 (0 : Nat), .int .i64 5] := by
      unfold NorV
      rw [hsys, strB_dg hsg (by omega)]
      rfl
    repeat (first | refine WC.seq ?_ | refine WC.reg ?_ | refine WL.pure rfl rfl rfl ?_ | refine WL.nil ?_ | refine WC.skip ?_ | refine WC.block ?_ | refine WC.condT rfl ?_ | refine WC.condF rfl ?_ | refine WL.off rfl rfl rfl ?_ | refine WL.off0 rfl rfl ?_ | refine WC.exit ?_ | refine blk_hit ?_ | refine blk_miss rfl ?_ | refine WC.ret ?_)
    refine WL.call rfl rfl rfl rfl rfl ent12 (Normal_any ca cc t s (hS.sm.mono (by decide)) (by omega) w3 (Sl.of_row (hp3.at 0 rfl))) ?_
    rintro _ w4 ⟨rfl, hp4⟩
    have hp4 := hp3.comb hp4
    have hp4 : Hp w w4 [Rt (.slice ca t.length cc) t] := hp4
    rw [hNV]
    cases hn : normM t s with
    | none =>
      repeat (first | refine WC.seq ?_ | refine WC.reg ?_ | refine WL.pure rfl rfl rfl ?_ | refine WL.nil ?_ | refine WC.skip ?_ | refine WC.block ?_ | refine WC.condT rfl ?_ | refine WC.condF rfl ?_ | refine WL.off rfl rfl rfl ?_ | refine WL.off0 rfl rfl ?_ | refine WC.exit ?_ | refine blk_hit ?_ | refine blk_miss rfl ?_ | refine WC.ret ?_)
      refine WL.sCmp (a := []) (b := []) rfl rfl rfl rfl rfl ?_
      repeat (first | refine WC.seq ?_ | refine WC.reg ?_ | refine WL.pure rfl rfl rfl ?_ | refine WL.nil ?_ | refine WC.skip ?_ | refine WC.block ?_ | refine WC.condT rfl ?_ | refine WC.condF rfl ?_ | refine WL.off rfl rfl rfl ?_ | refine WL.off0 rfl rfl ?_ | refine WC.exit ?_ | refine blk_hit ?_ | refine blk_miss rfl ?_ | refine WC.ret ?_)
      refine WL.call rfl rfl rfl rfl rfl ent10 (awake_any w4 (hmx.hp hp4)) ?_
      rintro _ w9 ⟨rfl, hp9⟩
      repeat (first | refine WC.seq ?_ | refine WC.reg ?_ | refine WL.pure rfl rfl rfl ?_ | refine WL.nil ?_ | refine WC.skip ?_ | refine WC.block ?_ | refine WC.condT rfl ?_ | refine WC.condF rfl ?_ | refine WL.off rfl rfl rfl ?_ | refine WL.off0 rfl rfl ?_ | refine WC.exit ?_ | refine blk_hit ?_ | refine blk_miss rfl ?_ | refine WC.ret ?_)
      exact Res.one rfl rfl rfl ⟨rfl, (hp4.comb hp9).nil'⟩
    | some p =>
      obtain ⟨t', n⟩ := p
      obtain ⟨hst, hnf, hn0⟩ := normM_sts hn
      have hdn := hst.down hK.dc
      have hgr : grtB t' s = false := by
        unfold grtB
        rw [decide_eq_false_iff_not]
        rcases hdn with h | h
        · rw [h, ordS_self]; decide
        · omega
      have heq : n = 0 ↔ t' = s := by
        rw [hn0]
        constructor
        · intro h
          exact ((firstM_nf hK.dc h).sts hst)
        · intro h; rw [← h]; exact hnf
      have hPg := rGreater_any t' s
      rw [hgr] at hPg
      repeat (first | refine WC.seq ?_ | refine WC.reg ?_ | refine WL.pure rfl rfl rfl ?_ | refine WL.nil ?_ | refine WC.skip ?_ | refine WC.block ?_ | refine WC.condT rfl ?_ | refine WC.condF rfl ?_ | refine WL.off rfl rfl rfl ?_ | refine WL.off0 rfl rfl ?_ | refine WC.exit ?_ | refine blk_hit ?_ | refine blk_miss rfl ?_ | refine WC.ret ?_)
      refine WL.callP rfl rfl rfl rfl rfl ent13 (hPg w4) ?_
      repeat (first | refine WC.seq ?_ | refine WC.reg ?_ | refine WL.pure rfl rfl rfl ?_ | refine WL.nil ?_ | refine WC.skip ?_ | refine WC.block ?_ | refine WC.condT rfl ?_ | refine WC.condF rfl ?_ | refine WL.off rfl rfl rfl ?_ | refine WL.off0 rfl rfl ?_ | refine WC.exit ?_ | refine blk_hit ?_ | refine blk_miss rfl ?_ | refine WC.ret ?_)
      refine WL.sCmp rfl rfl rfl rfl rfl ?_
      repeat (first | refine WC.seq ?_ | refine WC.reg ?_ | refine WL.pure rfl rfl rfl ?_ | refine WL.nil ?_ | refine WC.skip ?_ | refine WC.block ?_ | refine WC.condT rfl ?_ | refine WC.condF rfl ?_ | refine WL.off rfl rfl rfl ?_ | refine WL.off0 rfl rfl ?_ | refine WC.exit ?_ | refine blk_hit ?_ | refine blk_miss rfl ?_ | refine WC.ret ?_)
      refine WC.cond rfl (fun h1 => ?_) (fun h1 => ?_)
      · exfalso
        have h1 : ((((n : Nat) : Int) == 0) != decide (t' = s)) = true := h1
        by_cases h2 : n = 0
        · rw [decide_eq_true (heq.1 h2), h2] at h1; exact absurd h1 (by decide)
        · rw [decide_eq_false (fun h => h2 (heq.2 h))] at h1
          have h3 : (((n : Nat) : Int) == 0) = false := by rw [beq_eq_false_iff_ne]; omega
          rw [h3] at h1
          exact absurd h1 (by decide)
      repeat (first | refine WC.seq ?_ | refine WC.reg ?_ | refine WL.pure rfl rfl rfl ?_ | refine WL.nil ?_ | refine WC.skip ?_ | refine WC.block ?_ | refine WC.condT rfl ?_ | refine WC.condF rfl ?_ | refine WL.off rfl rfl rfl ?_ | refine WL.off0 rfl rfl ?_ | refine WC.exit ?_ | refine blk_hit ?_ | refine blk_miss rfl ?_ | refine WC.ret ?_)
      refine WC.loop (Nat × Str) (fun (i, u) => [(2, .slice za ch.length zc), (7, .slice ca t.length cc), (10, st t'), (13, st u), (14, .int .i64 (i : Nat))])
        (fun (i, u) w' => i ≤ 3000 ∧ Sts t s u ∧ Hp w w' [Rt (.slice ca t.length cc) t]) (fun (i, _) => 3000 - i) (0, s) ⟨rfl, rfl, rfl, rfl, rfl, rfl⟩ ⟨Nat.zero_le _, .rfl _, hp4⟩ ?_
      clear hp4 hp3 hp2 hp1
      rintro ⟨i, u⟩ w5 ⟨hi, hsu, hp5⟩
      have hul : u.length ≤ 30 := by
        rcases hsu.down hK.dc with h | h
        · rw [h]; exact hsl
        · exact Nat.le_trans (ordS_len h) hsl
      repeat (first | refine WC.seq ?_ | refine WC.reg ?_ | refine WL.pure rfl rfl rfl ?_ | refine WL.nil ?_ | refine WC.skip ?_ | refine WC.block ?_ | refine WC.condT rfl ?_ | refine WC.condF rfl ?_ | refine WL.off rfl rfl rfl ?_ | refine WL.off0 rfl rfl ?_ | refine WC.exit ?_ | refine blk_hit ?_ | refine blk_miss rfl ?_ | refine WC.ret ?_)
      refine WC.cond rfl (fun hc => ?_) (fun hc => ?_)
      · have hi : i < 3000 := by have := of_decide_eq_true hc; omega
        have step := wrap_succ hi (by omega)
        repeat (first | refine WC.seq ?_ | refine WC.reg ?_ | refine WL.pure rfl rfl rfl ?_ | refine WL.nil ?_ | refine WC.skip ?_ | refine WC.block ?_ | refine WC.condT rfl ?_ | refine WC.condF rfl ?_ | refine WL.off rfl rfl rfl ?_ | refine WL.off0 rfl rfl ?_ | refine WC.exit ?_ | refine blk_hit ?_ | refine blk_miss rfl ?_ | refine WC.ret ?_)
        refine WC.mid Int (fun z => [(2, .slice za ch.length zc), (7, .slice ca t.length cc), (10, st t'), (13, st u), (14, .int .i64 (i : Nat)), (15, .int .i64 z)]) (fun _ w' => w' = w5) ?_ ?_
        · refine WC.cond rfl (fun hc2 => ?_) (fun hc2 => ?_)
          · have hc2 : i < ch.length := by have := of_decide_eq_true hc2; omega
            obtain ⟨b, o, rfl, hcell⟩ := zs_cell (hz.hp hp5) hc2
            repeat (first | refine WC.seq ?_ | refine WC.reg ?_ | refine WL.pure rfl rfl rfl ?_ | refine WL.nil ?_ | refine WC.skip ?_ | refine WC.block ?_ | refine WC.condT rfl ?_ | refine WC.condF rfl ?_ | refine WL.off rfl rfl rfl ?_ | refine WL.off0 rfl rfl ?_ | refine WC.exit ?_ | refine blk_hit ?_ | refine blk_miss rfl ?_ | refine WC.ret ?_)
            refine WL.ix1 rfl rfl rfl rfl rfl rfl rfl hc2 ?_
            refine WL.load rfl rfl rfl rfl rfl hcell ?_
            repeat (first | refine WC.seq ?_ | refine WC.reg ?_ | refine WL.pure rfl rfl rfl ?_ | refine WL.nil ?_ | refine WC.skip ?_ | refine WC.block ?_ | refine WC.condT rfl ?_ | refine WC.condF rfl ?_ | refine WL.off rfl rfl rfl ?_ | refine WL.off0 rfl rfl ?_ | refine WC.exit ?_ | refine blk_hit ?_ | refine blk_miss rfl ?_ | refine WC.ret ?_)
            exact ⟨_, ⟨rfl, rfl, rfl, rfl, rfl, rfl, rfl⟩, rfl⟩
          · repeat (first | refine WC.seq ?_ | refine WC.reg ?_ | refine WL.pure rfl rfl rfl ?_ | refine WL.nil ?_ | refine WC.skip ?_ | refine WC.block ?_ | refine WC.condT rfl ?_ | refine WC.condF rfl ?_ | refine WL.off rfl rfl rfl ?_ | refine WL.off0 rfl rfl ?_ | refine WC.exit ?_ | refine blk_hit ?_ | refine blk_miss rfl ?_ | refine WC.ret ?_)
            exact ⟨0, ⟨rfl, rfl, rfl, rfl, rfl, rfl, rfl⟩, rfl⟩
        rintro z e6 w6 hsub hw6
        obtain rfl := hw6.symm
        refine WC.sub hsub ?_
        repeat (first | refine WC.seq ?_ | refine WC.reg ?_ | refine WL.pure rfl rfl rfl ?_ | refine WL.nil ?_ | refine WC.skip ?_ | refine WC.block ?_ | refine WC.condT rfl ?_ | refine WC.condF rfl ?_ | refine WL.off rfl rfl rfl ?_ | refine WL.off0 rfl rfl ?_ | refine WC.exit ?_ | refine blk_hit ?_ | refine blk_miss rfl ?_ | refine WC.ret ?_)
        refine WL.call rfl rfl rfl rfl rfl ent14 (replacedO_any ca cc t u z (by omega) (hS.sm.mono (by decide)) (by omega) w5 (Sl.of_row (hp5.at 0 rfl))) ?_
        rintro _ w7 ⟨hp7, ⟨hfn, rfl⟩ | ⟨v, hfn, hv, rfl⟩⟩
        · have hp7 := hp5.comb hp7
          have hu : u = t' := hC.uniq hK.dc (hsu.cg.symm.trans hst.cg) hfn hnf
          subst hu
          repeat (first | refine WC.seq ?_ | refine WC.reg ?_ | refine WL.pure rfl rfl rfl ?_ | refine WL.nil ?_ | refine WC.skip ?_ | refine WC.block ?_ | refine WC.condT rfl ?_ | refine WC.condF rfl ?_ | refine WL.off rfl rfl rfl ?_ | refine WL.off0 rfl rfl ?_ | refine WC.exit ?_ | refine blk_hit ?_ | refine blk_miss rfl ?_ | refine WC.ret ?_)
          refine WL.sCmp rfl rfl rfl rfl rfl ?_
          repeat (first | refine WC.seq ?_ | refine WC.reg ?_ | refine WL.pure rfl rfl rfl ?_ | refine WL.nil ?_ | refine WC.skip ?_ | refine WC.block ?_ | refine WC.condT rfl ?_ | refine WC.condF rfl ?_ | refine WL.off rfl rfl rfl ?_ | refine WL.off0 rfl rfl ?_ | refine WC.exit ?_ | refine blk_hit ?_ | refine blk_miss rfl ?_ | refine WC.ret ?_)
          refine WL.split 88 rfl (fun h3 => ?_) (fun h3 => absurd h3 (by simp))
          repeat (first | refine WC.seq ?_ | refine WC.reg ?_ | refine WL.pure rfl rfl rfl ?_ | refine WL.nil ?_ | refine WC.skip ?_ | refine WC.block ?_ | refine WC.condT rfl ?_ | refine WC.condF rfl ?_ | refine WL.off rfl rfl rfl ?_ | refine WL.off0 rfl rfl ?_ | refine WC.exit ?_ | refine blk_hit ?_ | refine blk_miss rfl ?_ | refine WC.ret ?_)
          refine WL.call rfl rfl rfl rfl rfl ent10 (awake_any w7 (hmx.hp hp7)) ?_
          rintro _ w9 ⟨rfl, hp9⟩
          repeat (first | refine WC.seq ?_ | refine WC.reg ?_ | refine WL.pure rfl rfl rfl ?_ | refine WL.nil ?_ | refine WC.skip ?_ | refine WC.block ?_ | refine WC.condT rfl ?_ | refine WC.condF rfl ?_ | refine WL.off rfl rfl rfl ?_ | refine WL.off0 rfl rfl ?_ | refine WC.exit ?_ | refine blk_hit ?_ | refine blk_miss rfl ?_ | refine WC.ret ?_)
          exact Res.one rfl rfl rfl ⟨rfl, (hp7.comb hp9).nil'⟩
        · have hp7 := hp5.comb hp7
          have hgr2 : grtB u v = true := by
            unfold grtB
            rw [decide_eq_true_iff, ordS_neg]
            have := hv.down hK.dc
            omega
          have hPg2 := rGreater_any u v
          rw [hgr2] at hPg2
          repeat (first | refine WC.seq ?_ | refine WC.reg ?_ | refine WL.pure rfl rfl rfl ?_ | refine WL.nil ?_ | refine WC.skip ?_ | refine WC.block ?_ | refine WC.condT rfl ?_ | refine WC.condF rfl ?_ | refine WL.off rfl rfl rfl ?_ | refine WL.off0 rfl rfl ?_ | refine WC.exit ?_ | refine blk_hit ?_ | refine blk_miss rfl ?_ | refine WC.ret ?_)
          refine WL.callP rfl rfl rfl rfl rfl ent13 (hPg2 w7) ?_
          repeat (first | refine WC.seq ?_ | refine WC.reg ?_ | refine WL.pure rfl rfl rfl ?_ | refine WL.nil ?_ | refine WC.skip ?_ | refine WC.block ?_ | refine WC.condT rfl ?_ | refine WC.condF rfl ?_ | refine WL.off rfl rfl rfl ?_ | refine WL.off0 rfl rfl ?_ | refine WC.exit ?_ | refine blk_hit ?_ | refine blk_miss rfl ?_ | refine WC.ret ?_)
          exact ⟨(i + 1, v), (by show 3000 - (i + 1) < 3000 - i; omega), ⟨rfl, rfl, rfl, rfl, congrArg (fun z => some (Value.int .i64 z)) step, rfl⟩, by omega, hsu.trans (Sts.one hv), hp7⟩
      · repeat (first | refine WC.seq ?_ | refine WC.reg ?_ | refine WL.pure rfl rfl rfl ?_ | refine WL.nil ?_ | refine WC.skip ?_ | refine WC.block ?_ | refine WC.condT rfl ?_ | refine WC.condF rfl ?_ | refine WL.off rfl rfl rfl ?_ | refine WL.off0 rfl rfl ?_ | refine WC.exit ?_ | refine blk_hit ?_ | refine blk_miss rfl ?_ | refine WC.ret ?_)
        refine WL.call rfl rfl rfl rfl rfl ent10 (awake_any w5 (hmx.hp hp5)) ?_
        rintro _ w9 ⟨rfl, hp9⟩
        repeat (first | refine WC.seq ?_ | refine WC.reg ?_ | refine WL.pure rfl rfl rfl ?_ | refine WL.nil ?_ | refine WC.skip ?_ | refine WC.block ?_ | refine WC.condT rfl ?_ | refine WC.condF rfl ?_ | refine WL.off rfl rfl rfl ?_ | refine WL.off0 rfl rfl ?_ | refine WC.exit ?_ | refine blk_hit ?_ | refine blk_miss rfl ?_ | refine WC.ret ?_)
        exact Res.one rfl rfl rfl ⟨rfl, (hp5.comb hp9).nil'⟩
end Go.Proofs.Ytoghnhbjdnjghaa
