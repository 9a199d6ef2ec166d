/- The walks of the reference's widths, best order and order. -/
import Derived.Test.YtdnkkflpgebfbaaDoorL17
import Derived.Test.YtdnkkflpgebfbaaDoorRb
namespace Go.Proofs.YtdnkkflpgebfbaaDoor
open Go.W Go.Tree
set_option maxRecDepth 100000
attribute [local irreducible] WC WL WQ WS WH

theorem fulli {n : Nat} (hn : n ≤ 14) : IntKind.i64.wrap (shl .i64 1 n - 1) = (full n : Nat) := by
  have h1 := shl_one (v := n) (by omega)
  have h2 : 2 ^ n ≤ 2 ^ 14 := Nat.pow_le_pow_right (by decide) hn
  have h3 := Nat.two_pow_pos n
  rw [h1, wrap_i64_in (by omega) (by omega)]
  unfold full; omega

theorem Widths_any (ea : Option Addr) (cap : Nat) (g : List Nat) (es : List Ed) (w : World) (hs : Sl w ea (prs es)) (hlen : es.length ≤ 4611686018427387904) (hmk : mkG (g.length : Nat) es = some g) :
    Ret Tryd.prog 58 [.int .i64 (g.length : Nat), .slice ea es.length cap] w fun v w' => ∃ b, Hp w w' [.blk b (.cells (zs (wdRow g 0)).toArray 3 (0, 0))] ∧ v = .slice (some ⟨b, 0, none⟩) (2 ^ g.length) (2 ^ g.length) := by
  obtain ⟨hg, _, _, _, _⟩ := mkG_gr hmk
  have hn := hg.len
  have hp14 : 2 ^ g.length ≤ 2 ^ 14 := Nat.pow_le_pow_right (by decide) hn
  have hpos := Nat.two_pow_pos g.length
  have hfull : full g.length + 1 = 2 ^ g.length := by unfold full; omega
  refine enter Tryd.func58 rfl rfl ⟨rfl, rfl⟩ rfl ?_
  repeat (first | refine WC.seq ?_ | refine WC.reg ?_ | refine WL.pure rfl rfl rfl ?_ | refine WL.nil ?_ | refine WC.skip ?_ | refine WC.block ?_ | refine WC.condT rfl ?_ | refine WC.condF rfl ?_ | refine WL.off rfl rfl rfl ?_ | refine WL.off0 rfl rfl ?_ | refine WC.exit ?_ | refine blk_hit ?_ | refine blk_miss rfl ?_ | refine WC.ret ?_)
  refine WL.call rfl rfl rfl rfl rfl ent50 (Neighbors_any ea cap g es w hs hlen hmk) ?_
  rintro _ w1 ⟨bn, hp1, rfl⟩
  repeat (first | refine WC.seq ?_ | refine WC.reg ?_ | refine WL.pure rfl rfl rfl ?_ | refine WL.nil ?_ | refine WC.skip ?_ | refine WC.block ?_ | refine WC.condT rfl ?_ | refine WC.condF rfl ?_ | refine WL.off rfl rfl rfl ?_ | refine WL.off0 rfl rfl ?_ | refine WC.exit ?_ | refine blk_hit ?_ | refine blk_miss rfl ?_ | refine WC.ret ?_)
  refine WL.known (d := 15) (congrArg (fun z => some (Value.int .i64 z)) (shl_one (v := g.length) (by omega))) ?_
  refine WL.make (m := 2 ^ g.length) rfl rfl rfl rfl rfl rfl rfl rfl ?_ ?_ ?_
  · show 8 * 2 ^ g.length ≤ _; omega
  · unfold maxLen; omega
  intro b w2 hb
  have hz : (List.replicate (2 ^ g.length) ti3.zero) = zs (List.replicate (2 ^ g.length) 0) := by simp only [zs, List.map_replicate]; rfl
  rw [hz] at hb
  have hp2 := hp1.new hb
  have hfl : full g.length < 2 ^ g.length := full_lt _
  repeat (first | refine WC.seq ?_ | refine WC.reg ?_ | refine WL.pure rfl rfl rfl ?_ | refine WL.nil ?_ | refine WC.skip ?_ | refine WC.block ?_ | refine WC.condT rfl ?_ | refine WC.condF rfl ?_ | refine WL.off rfl rfl rfl ?_ | refine WL.off0 rfl rfl ?_ | refine WC.exit ?_ | refine blk_hit ?_ | refine blk_miss rfl ?_ | refine WC.ret ?_)
  refine WL.known (d := 7) (congrArg (fun z => some (Value.int .i64 z)) (fulli hn)) ?_
  refine WL.known (d := 21) (congrArg (fun z => some (Value.int .i64 z)) (fulli hn)) ?_
  refine WL.ix1 rfl rfl rfl rfl rfl rfl rfl hfl ?_
  refine WL.store rfl rfl rfl rfl rfl rfl (hp2.obj 0 rfl) (by simp [zs]; omega) (fun w3 hw3 => ?_)
  rw [Nat.zero_add, zs_set, wdRow_start] at hw3
  have hp3 := hp2.set 0 rfl rfl hw3
  have e24 : IntKind.i64.wrap (((full g.length : Nat) : Int) - 1) = ((full g.length : Nat) : Int) - 1 := by rw [IntKind.wrap_i64]; omega
  repeat (first | refine WC.seq ?_ | refine WC.reg ?_ | refine WL.pure rfl rfl rfl ?_ | refine WL.nil ?_ | refine WC.skip ?_ | refine WC.block ?_ | refine WC.condT rfl ?_ | refine WC.condF rfl ?_ | refine WL.off rfl rfl rfl ?_ | refine WL.off0 rfl rfl ?_ | refine WC.exit ?_ | refine blk_hit ?_ | refine blk_miss rfl ?_ | refine WC.ret ?_)
  refine WC.loop Int (fun G => [(0, .int .i64 (g.length : Nat)), (5, .slice (some ⟨bn, 0, none⟩) g.length g.length), (6, .slice (some ⟨b, 0, none⟩) (2 ^ g.length) (2 ^ g.length)), (8, .int .i64 G)])
    (fun G w' => -1 ≤ G ∧ G < full g.length ∧ Hp w w' [.blk b (.cells (zs (wdRow g (G + 1).toNat)).toArray 3 (0, 0)), .blk bn (.cells (ints g).toArray 3 (0, 0))]) (fun G => (G + 1).toNat) ((full g.length : Nat) - 1)
    ⟨rfl, rfl, rfl, congrArg (fun z => some (Value.int .i64 z)) e24, rfl⟩ ⟨by omega, by omega, by rw [show (((full g.length : Nat) : Int) - 1 + 1).toNat = full g.length by omega]; exact hp3⟩ ?_
  rintro G w4 ⟨hG1, hG2, hp4⟩
  repeat (first | refine WC.seq ?_ | refine WC.reg ?_ | refine WL.pure rfl rfl rfl ?_ | refine WL.nil ?_ | refine WC.skip ?_ | refine WC.block ?_ | refine WC.condT rfl ?_ | refine WC.condF rfl ?_ | refine WL.off rfl rfl rfl ?_ | refine WL.off0 rfl rfl ?_ | refine WC.exit ?_ | refine blk_hit ?_ | refine blk_miss rfl ?_ | refine WC.ret ?_)
  refine WC.cond rfl (fun hc => ?_) (fun hc => ?_)
  · have hG0 : 0 ≤ G := of_decide_eq_true hc
    obtain ⟨S, rfl⟩ := Int.eq_ofNat_of_zero_le hG0
    have hS : S < full g.length := by omega
    rw [show ((S : Int) + 1).toNat = S + 1 by omega] at hp4
    have hcl : bd (full g.length) S < 2 ^ g.length := bd_lt hfl
    have hcb : ∀ v, v < g.length → ((bd (full g.length) S).testBit v = !S.testBit v) := fun v hv => by rw [testBit_bd, full_testBit]; simp [hv]
    generalize hcc : bd (full g.length) S = c at *
    repeat (first | refine WC.seq ?_ | refine WC.reg ?_ | refine WL.pure rfl rfl rfl ?_ | refine WL.nil ?_ | refine WC.skip ?_ | refine WC.block ?_ | refine WC.condT rfl ?_ | refine WC.condF rfl ?_ | refine WL.off rfl rfl rfl ?_ | refine WL.off0 rfl rfl ?_ | refine WC.exit ?_ | refine blk_hit ?_ | refine blk_miss rfl ?_ | refine WC.ret ?_)
    refine WC.loop (Nat × Int) (fun (v, best) => [(0, .int .i64 (g.length : Nat)), (5, .slice (some ⟨bn, 0, none⟩) g.length g.length), (6, .slice (some ⟨b, 0, none⟩) (2 ^ g.length) (2 ^ g.length)), (8, .int .i64 (S : Nat)), (9, .int .i64 best), (10, .int .i64 (v : Nat))])
      (fun (v, best) w' => v ≤ g.length ∧ best = (elsTo c v).foldl (wdStep g S (wd g)) g.length ∧ Hp w w' [.blk b (.cells (zs (wdRow g (S + 1))).toArray 3 (0, 0)), .blk bn (.cells (ints g).toArray 3 (0, 0))]) (fun (v, _) => g.length - v) (0, (g.length : Nat))
      ⟨rfl, rfl, rfl, rfl, rfl, rfl, rfl⟩ ⟨Nat.zero_le _, rfl, hp4⟩ ?_
    rintro ⟨v, best⟩ w5 ⟨hv, hbest, hp5⟩
    repeat (first | refine WC.seq ?_ | refine WC.reg ?_ | refine WL.pure rfl rfl rfl ?_ | refine WL.nil ?_ | refine WC.skip ?_ | refine WC.block ?_ | refine WC.condT rfl ?_ | refine WC.condF rfl ?_ | refine WL.off rfl rfl rfl ?_ | refine WL.off0 rfl rfl ?_ | refine WC.exit ?_ | refine blk_hit ?_ | refine blk_miss rfl ?_ | refine WC.ret ?_)
    refine WC.cond rfl (fun hc2 => ?_) (fun hc2 => ?_)
    · have hv : v < g.length := by have := of_decide_eq_true hc2; omega
      have step : IntKind.i64.wrap ((v : Int) + 1) = ((v + 1 : Nat) : Int) := by rw [wrap_i64_in (by omega) (by omega)]; omega
      repeat (first | refine WC.seq ?_ | refine WC.reg ?_ | refine WL.pure rfl rfl rfl ?_ | refine WL.nil ?_ | refine WC.skip ?_ | refine WC.block ?_ | refine WC.condT rfl ?_ | refine WC.condF rfl ?_ | refine WL.off rfl rfl rfl ?_ | refine WL.off0 rfl rfl ?_ | refine WC.exit ?_ | refine blk_hit ?_ | refine blk_miss rfl ?_ | refine WC.ret ?_)
      refine WL.callP rfl rfl rfl rfl rfl ent51 (Has_any S v (by omega) _) ?_
      repeat (first | refine WC.seq ?_ | refine WC.reg ?_ | refine WL.pure rfl rfl rfl ?_ | refine WL.nil ?_ | refine WC.skip ?_ | refine WC.block ?_ | refine WC.condT rfl ?_ | refine WC.condF rfl ?_ | refine WL.off rfl rfl rfl ?_ | refine WL.off0 rfl rfl ?_ | refine WC.exit ?_ | refine blk_hit ?_ | refine blk_miss rfl ?_ | refine WC.ret ?_)
      refine WC.cond rfl (fun hb1 => ?_) (fun hb1 => ?_)
      · have hb1 : S.testBit v = false := by simpa using hb1
        have hor : S ||| 2 ^ v < 2 ^ g.length := or_pow_lt (by omega) hv
        have hpv := Nat.pow_lt_pow_right (a := 2) (by decide) hv
        have hgt : S + 1 ≤ S ||| 2 ^ v := by
          rcases Nat.lt_or_ge S (S ||| 2 ^ v) with h | h
          · exact h
          · have h1 : S ||| 2 ^ v = S := Nat.le_antisymm h Nat.left_le_or
            have h2 : (S ||| 2 ^ v).testBit v = true := by simp
            rw [h1, hb1] at h2; cases h2
        repeat (first | refine WC.seq ?_ | refine WC.reg ?_ | refine WL.pure rfl rfl rfl ?_ | refine WL.nil ?_ | refine WC.skip ?_ | refine WC.block ?_ | refine WC.condT rfl ?_ | refine WC.condF rfl ?_ | refine WL.off rfl rfl rfl ?_ | refine WL.off0 rfl rfl ?_ | refine WC.exit ?_ | refine blk_hit ?_ | refine blk_miss rfl ?_ | refine WC.ret ?_)
        refine WL.call rfl rfl rfl rfl rfl ent59 (rlater_any _ _ g S v w5 (Sl.of_obj (hp5.obj 1 rfl) (fun i u h => by simpa using h)) hg hv (by omega)) ?_
        rintro _ w6 ⟨rfl, hp6⟩
        have hp6 := hp5.call hp6.below
        repeat (first | refine WC.seq ?_ | refine WC.reg ?_ | refine WL.pure rfl rfl rfl ?_ | refine WL.nil ?_ | refine WC.skip ?_ | refine WC.block ?_ | refine WC.condT rfl ?_ | refine WC.condF rfl ?_ | refine WL.off rfl rfl rfl ?_ | refine WL.off0 rfl rfl ?_ | refine WC.exit ?_ | refine blk_hit ?_ | refine blk_miss rfl ?_ | refine WC.ret ?_)
        refine WL.callP rfl rfl rfl rfl rfl ent52 (bit_any v (by omega) _) ?_
        refine WL.pure rfl rfl rfl ?_
        refine WL.known (d := 48) (congrArg (fun z => some (Value.int .i64 z)) (or_i64 (a := S) (b := 2 ^ v) (by omega) (by omega))) ?_
        refine WL.ixload rfl (fun _ => rfl) rfl rfl rfl rfl rfl rfl rfl hor rfl rfl (Sl.of_obj (hp6.obj 0 rfl) (cs := zs (wdRow g (S + 1))) (fun i u h => by simpa using h)) (wdRow_at hor hgt) ?_
        intro p
        repeat (first | refine WC.seq ?_ | refine WC.reg ?_ | refine WL.pure rfl rfl rfl ?_ | refine WL.nil ?_ | refine WC.skip ?_ | refine WC.block ?_ | refine WC.condT rfl ?_ | refine WC.condF rfl ?_ | refine WL.off rfl rfl rfl ?_ | refine WL.off0 rfl rfl ?_ | refine WC.exit ?_ | refine blk_hit ?_ | refine blk_miss rfl ?_ | refine WC.ret ?_)
        refine ⟨(v + 1, wdStep g S (wd g) best v), by show g.length - (v + 1) < g.length - v; omega, ⟨rfl, rfl, rfl, rfl, rfl, congrArg (fun z => some (Value.int .i64 z)) step, rfl⟩, hv, ?_, hp6⟩
        rw [elsTo_succ, hcb v hv, hb1, List.foldl_append, ← hbest]
        rfl
      · have hb1 : S.testBit v = true := by simpa using hb1
        repeat (first | refine WC.seq ?_ | refine WC.reg ?_ | refine WL.pure rfl rfl rfl ?_ | refine WL.nil ?_ | refine WC.skip ?_ | refine WC.block ?_ | refine WC.condT rfl ?_ | refine WC.condF rfl ?_ | refine WL.off rfl rfl rfl ?_ | refine WL.off0 rfl rfl ?_ | refine WC.exit ?_ | refine blk_hit ?_ | refine blk_miss rfl ?_ | refine WC.ret ?_)
        refine ⟨(v + 1, best), by show g.length - (v + 1) < g.length - v; omega, ⟨rfl, rfl, rfl, rfl, rfl, congrArg (fun z => some (Value.int .i64 z)) step, rfl⟩, hv, ?_, hp5⟩
        rw [elsTo_succ, hcb v hv, hb1, hbest]
        simp
    · have hv : v = g.length := by have := of_decide_eq_false hc2; omega
      subst hv
      have hbest : best = wd g S := by rw [wd_eq hn (by omega), hcc, hbest, elsTo_all (by omega) hcl]
      subst hbest
      repeat (first | refine WC.seq ?_ | refine WC.reg ?_ | refine WL.pure rfl rfl rfl ?_ | refine WL.nil ?_ | refine WC.skip ?_ | refine WC.block ?_ | refine WC.condT rfl ?_ | refine WC.condF rfl ?_ | refine WL.off rfl rfl rfl ?_ | refine WL.off0 rfl rfl ?_ | refine WC.exit ?_ | refine blk_hit ?_ | refine blk_miss rfl ?_ | refine WC.ret ?_)
      refine WL.ix1 rfl rfl rfl rfl rfl rfl rfl (j := S) (by omega) ?_
      refine WL.store rfl rfl rfl rfl rfl rfl (hp5.obj 0 rfl) (by simp [zs, wdRow]; omega) (fun w6 hw6 => ?_)
      rw [Nat.zero_add, zs_set, wdRow_next (by omega)] at hw6
      have hp6 := hp5.set 0 rfl rfl hw6
      repeat (first | refine WC.seq ?_ | refine WC.reg ?_ | refine WL.pure rfl rfl rfl ?_ | refine WL.nil ?_ | refine WC.skip ?_ | refine WC.block ?_ | refine WC.condT rfl ?_ | refine WC.condF rfl ?_ | refine WL.off rfl rfl rfl ?_ | refine WL.off0 rfl rfl ?_ | refine WC.exit ?_ | refine blk_hit ?_ | refine blk_miss rfl ?_ | refine WC.ret ?_)
      refine ⟨(S : Int) - 1, by show ((S : Int) - 1 + 1).toNat < ((S : Int) + 1).toNat; omega, ⟨rfl, rfl, rfl, congrArg (fun z => some (Value.int .i64 z)) (show IntKind.i64.wrap ((S : Int) - 1) = (S : Int) - 1 by rw [IntKind.wrap_i64]; omega), rfl⟩, by omega, by omega, ?_⟩
      rw [show ((S : Int) - 1 + 1).toNat = S by omega]
      exact hp6
  · have hG0 : G = -1 := by have := of_decide_eq_false hc; omega
    subst hG0
    repeat (first | refine WC.seq ?_ | refine WC.reg ?_ | refine WL.pure rfl rfl rfl ?_ | refine WL.nil ?_ | refine WC.skip ?_ | refine WC.block ?_ | refine WC.condT rfl ?_ | refine WC.condF rfl ?_ | refine WL.off rfl rfl rfl ?_ | refine WL.off0 rfl rfl ?_ | refine WC.exit ?_ | refine blk_hit ?_ | refine blk_miss rfl ?_ | refine WC.ret ?_)
    exact Res.one rfl rfl rfl ⟨b, hp4.pick [0] (by decide), rfl⟩

theorem RBest_any (ea : Option Addr) (cap : Nat) (g : List Nat) (es : List Ed) (w : World) (hs : Sl w ea (prs es)) (hlen : es.length ≤ 4611686018427387904) (hmk : mkG (g.length : Nat) es = some g) :
    Ret Tryd.prog 30 [.int .i64 (g.length : Nat), .slice ea es.length cap] w fun v w' => ∃ a c, Hp w w' [.row 3 1 (.slice a g.length c) g.length (ints (bestO g))] ∧ v = .slice a g.length c := by
  obtain ⟨hg, _, _, _, _⟩ := mkG_gr hmk
  have hn := hg.len
  have hp14 : 2 ^ g.length ≤ 2 ^ 14 := Nat.pow_le_pow_right (by decide) hn
  have hpos := Nat.two_pow_pos g.length
  refine enter Tryd.func30 rfl rfl ⟨rfl, rfl⟩ rfl ?_
  repeat (first | refine WC.seq ?_ | refine WC.reg ?_ | refine WL.pure rfl rfl rfl ?_ | refine WL.nil ?_ | refine WC.skip ?_ | refine WC.block ?_ | refine WC.condT rfl ?_ | refine WC.condF rfl ?_ | refine WL.off rfl rfl rfl ?_ | refine WL.off0 rfl rfl ?_ | refine WC.exit ?_ | refine blk_hit ?_ | refine blk_miss rfl ?_ | refine WC.ret ?_)
  refine WL.call rfl rfl rfl rfl rfl ent50 (Neighbors_any ea cap g es w hs hlen hmk) ?_
  rintro _ w1 ⟨bn, hp1, rfl⟩
  repeat (first | refine WC.seq ?_ | refine WC.reg ?_ | refine WL.pure rfl rfl rfl ?_ | refine WL.nil ?_ | refine WC.skip ?_ | refine WC.block ?_ | refine WC.condT rfl ?_ | refine WC.condF rfl ?_ | refine WL.off rfl rfl rfl ?_ | refine WL.off0 rfl rfl ?_ | refine WC.exit ?_ | refine blk_hit ?_ | refine blk_miss rfl ?_ | refine WC.ret ?_)
  refine WL.call rfl rfl rfl rfl rfl ent58 (Widths_any ea cap g es w1 (hs.hp hp1) hlen hmk) ?_
  rintro _ w2 ⟨b, hp2, rfl⟩
  have hp2 := (hp1.comb hp2).nilrow 3 1
  have hat : ∀ (S : Nat), S < 2 ^ g.length → ∀ w' L, Hp w w' L → nth L 1 = some (.blk b (.cells (zs (wdRow g 0)).toArray 3 (0, 0))) → w'.cell? ⟨b, 0 + S, none⟩ = some (.int .i64 (wd g S)) := by
    intro S hS w' L hp h1
    refine cell_of_obj (hp.obj 1 h1) ?_
    have := wdRow_at (g := g) hS (Nat.zero_le S)
    simpa using this
  repeat (first | refine WC.seq ?_ | refine WC.reg ?_ | refine WL.pure rfl rfl rfl ?_ | refine WL.nil ?_ | refine WC.skip ?_ | refine WC.block ?_ | refine WC.condT rfl ?_ | refine WC.condF rfl ?_ | refine WL.off rfl rfl rfl ?_ | refine WL.off0 rfl rfl ?_ | refine WC.exit ?_ | refine blk_hit ?_ | refine blk_miss rfl ?_ | refine WC.ret ?_)
  refine WC.loop (Nat × List Nat × Option Addr × Nat) (fun (S, ord, a, c) => [(0, .int .i64 (g.length : Nat)), (5, .slice (some ⟨bn, 0, none⟩) g.length g.length), (6, .slice (some ⟨b, 0, none⟩) (2 ^ g.length) (2 ^ g.length)), (7, .slice a ord.length c), (8, .int .i64 (S : Nat))])
    (fun (S, ord, a, c) w' => S < 2 ^ g.length ∧ ord.length = card S ∧ wd g S ≤ wd g 0 ∧ ord ++ bestF g (g.length - ord.length) S = bestO g ∧
      Hp w w' [.row 3 1 (.slice a ord.length c) ord.length (ints ord), .blk b (.cells (zs (wdRow g 0)).toArray 3 (0, 0)), .blk bn (.cells (ints g).toArray 3 (0, 0))]) (fun (S, ord, a, c) => g.length - ord.length) (0, [], none, 0)
    ⟨rfl, rfl, rfl, rfl, rfl, rfl⟩ ⟨hpos, by rw [card_zero]; rfl, Int.le_refl _, rfl, hp2⟩ ?_
  rintro ⟨S, ord, a, c⟩ w2 ⟨hS, hcard, hwS, hord, hp⟩
  repeat (first | refine WC.seq ?_ | refine WC.reg ?_ | refine WL.pure rfl rfl rfl ?_ | refine WL.nil ?_ | refine WC.skip ?_ | refine WC.block ?_ | refine WC.condT rfl ?_ | refine WC.condF rfl ?_ | refine WL.off rfl rfl rfl ?_ | refine WL.off0 rfl rfl ?_ | refine WC.exit ?_ | refine blk_hit ?_ | refine blk_miss rfl ?_ | refine WC.ret ?_)
  refine WC.cond rfl (fun hc => ?_) (fun hc => ?_)
  · have hlt : ord.length < g.length := by have := of_decide_eq_true hc; omega
    have hne : S ≠ full g.length := by
      intro e
      have := card_full (n := g.length) (by omega)
      rw [e] at hcard
      unfold full at hcard
      omega
    obtain ⟨v0, hv0, h01, h02, h03⟩ := exists_best hg hS hne hwS
    have hf0 : fine g S v0 = true := fine_iff.2 ⟨h01, h02, h03⟩
    repeat (first | refine WC.seq ?_ | refine WC.reg ?_ | refine WL.pure rfl rfl rfl ?_ | refine WL.nil ?_ | refine WC.skip ?_ | refine WC.block ?_ | refine WC.condT rfl ?_ | refine WC.condF rfl ?_ | refine WL.off rfl rfl rfl ?_ | refine WL.off0 rfl rfl ?_ | refine WC.exit ?_ | refine blk_hit ?_ | refine blk_miss rfl ?_ | refine WC.ret ?_)
    refine WC.loop Nat (fun v => [(0, .int .i64 (g.length : Nat)), (5, .slice (some ⟨bn, 0, none⟩) g.length g.length), (6, .slice (some ⟨b, 0, none⟩) (2 ^ g.length) (2 ^ g.length)), (7, .slice a ord.length c), (8, .int .i64 (S : Nat)), (9, .int .i64 (v : Nat))])
      (fun v w' => v ≤ v0 ∧ (∀ u, u < v → fine g S u = false) ∧ Hp w w' [.row 3 1 (.slice a ord.length c) ord.length (ints ord), .blk b (.cells (zs (wdRow g 0)).toArray 3 (0, 0)), .blk bn (.cells (ints g).toArray 3 (0, 0))]) (fun v => v0 - v) 0
      ⟨rfl, rfl, rfl, rfl, rfl, rfl, rfl⟩ ⟨Nat.zero_le _, (fun u hu => by omega), hp⟩ ?_
    rintro v w3 ⟨hvv, hno, hp3⟩
    have hv : v < g.length := by omega
    have hor : S ||| 2 ^ v < 2 ^ g.length := or_pow_lt hS hv
    have hpv : 2 ^ v < 16384 := lt_pow16 hn (Nat.pow_lt_pow_right (by decide) hv)
    have e3 : bits .or .i64 (S : Int) ((2 ^ v : Nat) : Int) = ((S ||| 2 ^ v : Nat) : Int) := or_i64 (by omega) (by omega)
    have step : IntKind.i64.wrap ((v : Int) + 1) = ((v + 1 : Nat) : Int) := by rw [wrap_i64_in (by omega) (by omega)]; omega
    have no : fine g S v = false → v + 1 ≤ v0 ∧ ∀ u, u < v + 1 → fine g S u = false := fun h => by
      refine ⟨?_, fun u hu => ?_⟩
      · have : v ≠ v0 := fun e => by rw [e, hf0] at h; cases h
        omega
      · rcases Nat.lt_or_ge u v with h1 | h1
        · exact hno u h1
        · rw [show u = v by omega]; exact h
    repeat (first | refine WC.seq ?_ | refine WC.reg ?_ | refine WL.pure rfl rfl rfl ?_ | refine WL.nil ?_ | refine WC.skip ?_ | refine WC.block ?_ | refine WC.condT rfl ?_ | refine WC.condF rfl ?_ | refine WL.off rfl rfl rfl ?_ | refine WL.off0 rfl rfl ?_ | refine WC.exit ?_ | refine blk_hit ?_ | refine blk_miss rfl ?_ | refine WC.ret ?_)
    refine WC.regQ (fun w4 => Hp w w4 [.row 3 1 (.slice a ord.length c) ord.length (ints ord), .blk b (.cells (zs (wdRow g 0)).toArray 3 (0, 0)), .blk bn (.cells (ints g).toArray 3 (0, 0))]) mixed (by kernel_rfl) (fun w4 hw4 => hp3.keep hw4) ?_
    repeat (first | refine WQ.pure rfl rfl rfl ?_ | refine WQ.off rfl rfl rfl ?_ | refine WQ.nil ?_)
    refine WQ.call rfl rfl rfl rfl rfl ent51 (fun w4 h4 => (Has_any S v (by omega) w4).mono fun u w5 ⟨h5, h6⟩ => ⟨h5, by rw [h6]; exact h4⟩) ?_
    refine WQ.pure rfl rfl rfl ?_
    refine WQ.split 23 rfl (fun hb => ?_) (fun hb => ?_)
    · repeat (first | refine WQ.pure rfl rfl rfl ?_ | refine WQ.off rfl rfl rfl ?_ | refine WQ.nil ?_)
      intro w4 hp4
      repeat (first | refine WC.seq ?_ | refine WC.reg ?_ | refine WL.pure rfl rfl rfl ?_ | refine WL.nil ?_ | refine WC.skip ?_ | refine WC.block ?_ | refine WC.condT rfl ?_ | refine WC.condF rfl ?_ | refine WL.off rfl rfl rfl ?_ | refine WL.off0 rfl rfl ?_ | refine WC.exit ?_ | refine blk_hit ?_ | refine blk_miss rfl ?_ | refine WC.ret ?_)
      obtain ⟨n1, n2⟩ := no (by simp [fine, hb])
      exact ⟨v + 1, by show v0 - (v + 1) < v0 - v; omega, ⟨rfl, rfl, rfl, rfl, rfl, congrArg (fun z => some (Value.int .i64 z)) step, rfl⟩, n1, n2, hp4⟩
    repeat (first | refine WQ.pure rfl rfl rfl ?_ | refine WQ.off rfl rfl rfl ?_ | refine WQ.nil ?_)
    refine WQ.call rfl rfl rfl rfl rfl ent59 (fun w4 h4 => (rlater_any _ _ g S v w4 (Sl.of_obj (h4.obj 2 rfl) (fun i u h => by simpa using h)) hg hv (by omega)).mono fun u w5 ⟨h5, h6⟩ => ⟨h5, h4.call h6.below⟩) ?_
    repeat (first | refine WQ.pure rfl rfl rfl ?_ | refine WQ.off rfl rfl rfl ?_ | refine WQ.nil ?_)
    refine WQ.call rfl rfl rfl rfl rfl ent52 (fun w4 h4 => (bit_any v (by omega) w4).mono fun u w5 ⟨h5, h6⟩ => ⟨h5, by rw [h6]; exact h4⟩) ?_
    refine WQ.pure rfl rfl rfl ?_
    refine WQ.known (d := 32) (congrArg (fun z => some (Value.int .i64 z)) e3) ?_
    refine WQ.ixload rfl (fun _ => rfl) rfl rfl rfl rfl rfl rfl rfl hor rfl rfl (fun w4 h4 => hat _ hor w4 _ h4 rfl) ?_
    repeat (first | refine WQ.pure rfl rfl rfl ?_ | refine WQ.off rfl rfl rfl ?_ | refine WQ.nil ?_)
    refine WQ.ixload (j := 0) rfl (fun _ => rfl) rfl rfl rfl rfl rfl rfl rfl hpos rfl rfl (fun w4 h4 => hat 0 hpos w4 _ h4 rfl) ?_
    repeat (first | refine WQ.pure rfl rfl rfl ?_ | refine WQ.off rfl rfl rfl ?_ | refine WQ.nil ?_)
    intro w4 hp4
    repeat (first | refine WC.seq ?_ | refine WC.reg ?_ | refine WL.pure rfl rfl rfl ?_ | refine WL.nil ?_ | refine WC.skip ?_ | refine WC.block ?_ | refine WC.condT rfl ?_ | refine WC.condF rfl ?_ | refine WL.off rfl rfl rfl ?_ | refine WL.off0 rfl rfl ?_ | refine WC.exit ?_ | refine blk_hit ?_ | refine blk_miss rfl ?_ | refine WC.ret ?_)
    refine WC.cond rfl (fun hb2 => ?_) (fun hb2 => ?_)
    · have hb2 : wd g 0 < max (pc (lat g S v) : Int) (wd g (S ||| 2 ^ v)) := of_decide_eq_true hb2
      repeat (first | refine WC.seq ?_ | refine WC.reg ?_ | refine WL.pure rfl rfl rfl ?_ | refine WL.nil ?_ | refine WC.skip ?_ | refine WC.block ?_ | refine WC.condT rfl ?_ | refine WC.condF rfl ?_ | refine WL.off rfl rfl rfl ?_ | refine WL.off0 rfl rfl ?_ | refine WC.exit ?_ | refine blk_hit ?_ | refine blk_miss rfl ?_ | refine WC.ret ?_)
      obtain ⟨n1, n2⟩ := no (by
        cases hf : fine g S v with
        | false => rfl
        | true => obtain ⟨_, h1, h2⟩ := fine_iff.1 hf; omega)
      exact ⟨v + 1, by show v0 - (v + 1) < v0 - v; omega, ⟨rfl, rfl, rfl, rfl, rfl, congrArg (fun z => some (Value.int .i64 z)) step, rfl⟩, n1, n2, hp4⟩
    · have hb2 : ¬ wd g 0 < max (pc (lat g S v) : Int) (wd g (S ||| 2 ^ v)) := of_decide_eq_false hb2
      have hf : fine g S v = true := fine_iff.2 ⟨hb, by omega, by omega⟩
      repeat (first | refine WC.seq ?_ | refine WC.reg ?_ | refine WL.pure rfl rfl rfl ?_ | refine WL.nil ?_ | refine WC.skip ?_ | refine WC.block ?_ | refine WC.condT rfl ?_ | refine WC.condF rfl ?_ | refine WL.off rfl rfl rfl ?_ | refine WL.off0 rfl rfl ?_ | refine WC.exit ?_ | refine blk_hit ?_ | refine blk_miss rfl ?_ | refine WC.ret ?_)
      refine WL.buildS (cs := [.int .i64 v]) rfl rfl rfl rfl rfl rfl rfl rfl rfl ?_
      intro b2 w5 hb2'
      have hp5 := hp4.new hb2'
      refine WL.append 1 hp5 rfl rfl rfl rfl rfl Nat.zero_lt_one rfl rfl rfl (news := [.int .i64 v]) ?_ rfl ?_ ?_ ?_ ?_
      · exact Sl.of_obj (hp5.obj 0 rfl) (fun q u hq => by simpa using hq)
      · exact Cells.cons rfl Cells.nil
      · unfold maxLen; omega
      · show (ord.length + 1) * 8 ≤ _; omega
      intro a' cap' w6 hp6 hg6
      repeat (first | refine WC.seq ?_ | refine WC.reg ?_ | refine WL.pure rfl rfl rfl ?_ | refine WL.nil ?_ | refine WC.skip ?_ | refine WC.block ?_ | refine WC.condT rfl ?_ | refine WC.condF rfl ?_ | refine WL.off rfl rfl rfl ?_ | refine WL.off0 rfl rfl ?_ | refine WC.exit ?_ | refine blk_hit ?_ | refine blk_miss rfl ?_ | refine WC.ret ?_)
      refine WL.callP rfl rfl rfl rfl rfl ent52 (bit_any v (by omega) _) ?_
      repeat (first | refine WC.seq ?_ | refine WC.reg ?_ | refine WL.pure rfl rfl rfl ?_ | refine WL.nil ?_ | refine WC.skip ?_ | refine WC.block ?_ | refine WC.condT rfl ?_ | refine WC.condF rfl ?_ | refine WL.off rfl rfl rfl ?_ | refine WL.off0 rfl rfl ?_ | refine WC.exit ?_ | refine blk_hit ?_ | refine blk_miss rfl ?_ | refine WC.ret ?_)
      have hF := find_at hv hf hno
      refine ⟨(S ||| 2 ^ v, ord ++ [v], a', cap'), ?_, ⟨rfl, rfl, rfl, ?_, congrArg (fun z => some (Value.int .i64 z)) e3, rfl⟩, hor, ?_, (fine_iff.1 hf).2.2, ?_, ?_⟩
      · show g.length - (ord ++ [v]).length < g.length - ord.length
        rw [List.length_append, List.length_singleton]; omega
      · rw [List.length_append, List.length_singleton]; rfl
      · rw [List.length_append, List.length_singleton, hcard, card_add hn hS hv hb]
      · rw [List.length_append, List.length_singleton, ← hord, List.append_assoc]
        congr 1
        rw [show g.length - ord.length = (g.length - (ord.length + 1)) + 1 by omega, bestF, hF]
        rfl
      · have := hp6.tail
        rw [List.length_append, List.length_singleton, show ints (ord ++ [v]) = ints ord ++ ints [v] by simp [ints]]
        exact this
  · have hle := card_le (s := S) (n := g.length) (by omega) hS
    have hlen' : ord.length = g.length := by have := of_decide_eq_false hc; omega
    have hO : ord = bestO g := by
      rw [hlen', Nat.sub_self] at hord
      simpa [bestF] using hord
    repeat (first | refine WC.seq ?_ | refine WC.reg ?_ | refine WL.pure rfl rfl rfl ?_ | refine WL.nil ?_ | refine WC.skip ?_ | refine WC.block ?_ | refine WC.condT rfl ?_ | refine WC.condF rfl ?_ | refine WL.off rfl rfl rfl ?_ | refine WL.off0 rfl rfl ?_ | refine WC.exit ?_ | refine blk_hit ?_ | refine blk_miss rfl ?_ | refine WC.ret ?_)
    refine Res.one rfl rfl rfl ⟨a, c, ?_, ?_⟩
    · rw [← hO, ← hlen']; exact hp.pick [0] (by decide)
    · rw [hlen']
end Go.Proofs.YtdnkkflpgebfbaaDoor
