/- The walks of the reference's widths. -/
import Derived.Test.YtdnkkflpgebfbaaDoorL16
import Derived.Test.YtdnkkflpgebfbaaDoorRc
import Derived.Test.YtdnkkflpgebfbaaDoorBo
import Derived.Test.YtdnkkflpgebfbaaDoorOd
namespace Go.Proofs.YtdnkkflpgebfbaaDoor
open Go.W Go.Tree
set_option maxRecDepth 100000
attribute [local irreducible] WC WL WQ WS WH

theorem rlater_any (ga : Option Addr) (cap : Nat) (g : List Nat) (S v : Nat) (w : World) (hs : Sl w ga (ints g)) (hg : Gr g) (hv : v < g.length) (hS : S < 16384) :
    Ret Tryd.prog 59 [.slice ga g.length cap, .int .i64 S, .int .i64 v] w fun u w' => u = .int .i64 (pc (lat g S v)) ∧ Hp w w' [] := by
  have hn := hg.len
  have hp14 : 2 ^ g.length ≤ 2 ^ 14 := Nat.pow_le_pow_right (by decide) hn
  have hpow : ∀ u, u < g.length → 2 ^ u < 2 ^ g.length := fun u hu => Nat.pow_lt_pow_right (by decide) hu
  obtain ⟨b, o, rfl⟩ := Sl.some hs (ints_at hv)
  refine enter Tryd.func59 rfl rfl ⟨rfl, rfl⟩ rfl ?_
  repeat (first | refine WC.seq ?_ | refine WC.reg ?_ | refine WL.pure rfl rfl rfl ?_ | refine WL.nil ?_ | refine WC.skip ?_ | refine WC.block ?_ | refine WC.condT rfl ?_ | refine WC.condF rfl ?_ | refine WL.off rfl rfl rfl ?_ | refine WL.off0 rfl rfl ?_ | refine WC.exit ?_ | refine blk_hit ?_ | refine blk_miss rfl ?_ | refine WC.ret ?_)
  refine WC.regQ (fun w2 => Hp w w2 []) mixed (by kernel_rfl) (fun w2 hw2 => (Hp.start w).keep hw2) ?_
  repeat (first | refine WQ.pure rfl rfl rfl ?_ | refine WQ.off rfl rfl rfl ?_ | refine WQ.nil ?_)
  refine WQ.call rfl rfl rfl rfl rfl ent52 (fun w4 h4 => (bit_any v (by omega) w4).mono fun u w5 ⟨h5, h6⟩ => ⟨h5, by rw [h6]; exact h4⟩) ?_
  repeat (first | refine WQ.pure rfl rfl rfl ?_ | refine WQ.off rfl rfl rfl ?_ | refine WQ.nil ?_)
  refine WQ.ixload rfl (fun _ => rfl) rfl rfl rfl rfl rfl rfl rfl hv rfl rfl (fun w2 h2 => Sl.cell (hs.hp h2) (ints_at hv)) ?_
  repeat (first | refine WQ.pure rfl rfl rfl ?_ | refine WQ.off rfl rfl rfl ?_ | refine WQ.nil ?_)
  intro w1 hp1
  repeat (first | refine WC.seq ?_ | refine WC.reg ?_ | refine WL.pure rfl rfl rfl ?_ | refine WL.nil ?_ | refine WC.skip ?_ | refine WC.block ?_ | refine WC.condT rfl ?_ | refine WC.condF rfl ?_ | refine WL.off rfl rfl rfl ?_ | refine WL.off0 rfl rfl ?_ | refine WC.exit ?_ | refine blk_hit ?_ | refine blk_miss rfl ?_ | refine WC.ret ?_)
  refine WC.loop (Nat × Nat × Nat) (fun (seen, queue, out) => [(0, .slice (some ⟨b, o, none⟩) g.length cap), (1, .int .i64 (S : Nat)), (7, .int .i64 (seen : Nat)), (8, .int .i64 (queue : Nat)), (9, .int .i64 (out : Nat))])
    (fun (seen, queue, out) w' => seen < 2 ^ g.length ∧ queue < 2 ^ g.length ∧ RJ g S v seen queue out ∧ Hp w w' []) (fun (seen, queue, out) => 16 * card (bd (full g.length) seen) + card queue) (2 ^ v, g.getD v 0, 0)
    ⟨rfl, rfl, rfl, rfl, rfl, rfl⟩ ⟨hpow v hv, hg.lt v, RJ.init g S v, hp1⟩ ?_
  rintro ⟨seen, queue, out⟩ w2 ⟨hseen, hqueue, hR, hp2⟩
  repeat (first | refine WC.seq ?_ | refine WC.reg ?_ | refine WL.pure rfl rfl rfl ?_ | refine WL.nil ?_ | refine WC.skip ?_ | refine WC.block ?_ | refine WC.condT rfl ?_ | refine WC.condF rfl ?_ | refine WL.off rfl rfl rfl ?_ | refine WL.off0 rfl rfl ?_ | refine WC.exit ?_ | refine blk_hit ?_ | refine blk_miss rfl ?_ | refine WC.ret ?_)
  refine WC.cond rfl (fun hc => ?_) (fun hc => ?_)
  · have hq0 : queue ≠ 0 := by intro h; rw [h] at hc; simp at hc
    obtain ⟨i0, hi0⟩ := pos_testBit hq0
    have hi0n := lt_of_testBit hqueue hi0
    repeat (first | refine WC.seq ?_ | refine WC.reg ?_ | refine WL.pure rfl rfl rfl ?_ | refine WL.nil ?_ | refine WC.skip ?_ | refine WC.block ?_ | refine WC.condT rfl ?_ | refine WC.condF rfl ?_ | refine WL.off rfl rfl rfl ?_ | refine WL.off0 rfl rfl ?_ | refine WC.exit ?_ | refine blk_hit ?_ | refine blk_miss rfl ?_ | refine WC.ret ?_)
    refine WC.loop Nat (fun u => [(0, .slice (some ⟨b, o, none⟩) g.length cap), (1, .int .i64 (S : Nat)), (7, .int .i64 (seen : Nat)), (8, .int .i64 (queue : Nat)), (9, .int .i64 (out : Nat)), (10, .int .i64 (u : Nat))])
      (fun u w' => u ≤ i0 ∧ (∀ j, j < u → queue.testBit j = false) ∧ Hp w w' []) (fun u => i0 - u) 0 ⟨rfl, rfl, rfl, rfl, rfl, rfl, rfl⟩ ⟨Nat.zero_le _, (fun j hj => by omega), hp2⟩ ?_
    rintro u w3 ⟨hu, hno, hp3⟩
    repeat (first | refine WC.seq ?_ | refine WC.reg ?_ | refine WL.pure rfl rfl rfl ?_ | refine WL.nil ?_ | refine WC.skip ?_ | refine WC.block ?_ | refine WC.condT rfl ?_ | refine WC.condF rfl ?_ | refine WL.off rfl rfl rfl ?_ | refine WL.off0 rfl rfl ?_ | refine WC.exit ?_ | refine blk_hit ?_ | refine blk_miss rfl ?_ | refine WC.ret ?_)
    refine WL.callP rfl rfl rfl rfl rfl ent51 (Has_any queue u (by omega) _) ?_
    repeat (first | refine WC.seq ?_ | refine WC.reg ?_ | refine WL.pure rfl rfl rfl ?_ | refine WL.nil ?_ | refine WC.skip ?_ | refine WC.block ?_ | refine WC.condT rfl ?_ | refine WC.condF rfl ?_ | refine WL.off rfl rfl rfl ?_ | refine WL.off0 rfl rfl ?_ | refine WC.exit ?_ | refine blk_hit ?_ | refine blk_miss rfl ?_ | refine WC.ret ?_)
    refine WC.cond rfl (fun hb => ?_) (fun hb => ?_)
    · have hb : queue.testBit u = false := by simpa using hb
      have hne : u ≠ i0 := fun h => by rw [h, hi0] at hb; cases hb
      have step : IntKind.i64.wrap ((u : Int) + 1) = ((u + 1 : Nat) : Int) := by rw [wrap_i64_in (by omega) (by omega)]; omega
      repeat (first | refine WC.seq ?_ | refine WC.reg ?_ | refine WL.pure rfl rfl rfl ?_ | refine WL.nil ?_ | refine WC.skip ?_ | refine WC.block ?_ | refine WC.condT rfl ?_ | refine WC.condF rfl ?_ | refine WL.off rfl rfl rfl ?_ | refine WL.off0 rfl rfl ?_ | refine WC.exit ?_ | refine blk_hit ?_ | refine blk_miss rfl ?_ | refine WC.ret ?_)
      refine ⟨u + 1, by show i0 - (u + 1) < i0 - u; omega, ⟨rfl, rfl, rfl, rfl, rfl, congrArg (fun z => some (Value.int .i64 z)) step, rfl⟩, by omega, ?_, hp3⟩
      intro j hj
      rcases Nat.lt_or_ge j u with h | h
      · exact hno j h
      · rw [show j = u by omega]; exact hb
    · have hb : queue.testBit u = true := by simpa using hb
      have hun := lt_of_testBit hqueue hb
      have hpu := hpow u hun
      have e1 : bits .andNot .i64 (queue : Int) ((2 ^ u : Nat) : Int) = ((bd queue (2 ^ u) : Nat) : Int) := andNot_i64 (by omega) (by omega)
      have hq1 : bd queue (2 ^ u) < 2 ^ g.length := bd_lt hqueue
      have hcq : card (bd queue (2 ^ u)) + 1 = card queue := by
        have h1 := card_bd (a := queue) (b := 2 ^ u) (fun i hi => by
          rw [Nat.testBit_two_pow] at hi
          have : u = i := by simpa using hi
          rw [← this]; exact hb)
        have h2 : card (2 ^ u) = 1 := card_pow (by omega)
        omega
      repeat (first | refine WC.seq ?_ | refine WC.reg ?_ | refine WL.pure rfl rfl rfl ?_ | refine WL.nil ?_ | refine WC.skip ?_ | refine WC.block ?_ | refine WC.condT rfl ?_ | refine WC.condF rfl ?_ | refine WL.off rfl rfl rfl ?_ | refine WL.off0 rfl rfl ?_ | refine WC.exit ?_ | refine blk_hit ?_ | refine blk_miss rfl ?_ | refine WC.ret ?_)
      refine WL.callP rfl rfl rfl rfl rfl ent52 (bit_any u (by omega) _) ?_
      repeat (first | refine WC.seq ?_ | refine WC.reg ?_ | refine WL.pure rfl rfl rfl ?_ | refine WL.nil ?_ | refine WC.skip ?_ | refine WC.block ?_ | refine WC.condT rfl ?_ | refine WC.condF rfl ?_ | refine WL.off rfl rfl rfl ?_ | refine WL.off0 rfl rfl ?_ | refine WC.exit ?_ | refine blk_hit ?_ | refine blk_miss rfl ?_ | refine WC.ret ?_)
      refine WL.callP rfl rfl rfl rfl rfl ent51 (Has_any seen u (by omega) _) ?_
      repeat (first | refine WC.seq ?_ | refine WC.reg ?_ | refine WL.pure rfl rfl rfl ?_ | refine WL.nil ?_ | refine WC.skip ?_ | refine WC.block ?_ | refine WC.condT rfl ?_ | refine WC.condF rfl ?_ | refine WL.off rfl rfl rfl ?_ | refine WL.off0 rfl rfl ?_ | refine WC.exit ?_ | refine blk_hit ?_ | refine blk_miss rfl ?_ | refine WC.ret ?_)
      refine WC.cond rfl (fun hs1 => ?_) (fun hs1 => ?_)
      · repeat (first | refine WC.seq ?_ | refine WC.reg ?_ | refine WL.pure rfl rfl rfl ?_ | refine WL.nil ?_ | refine WC.skip ?_ | refine WC.block ?_ | refine WC.condT rfl ?_ | refine WC.condF rfl ?_ | refine WL.off rfl rfl rfl ?_ | refine WL.off0 rfl rfl ?_ | refine WC.exit ?_ | refine blk_hit ?_ | refine blk_miss rfl ?_ | refine WC.ret ?_)
        exact ⟨(seen, bd queue (2 ^ u), out), by show 16 * card (bd (full g.length) seen) + card (bd queue (2 ^ u)) < 16 * card (bd (full g.length) seen) + card queue; omega, ⟨rfl, rfl, rfl, congrArg (fun z => some (Value.int .i64 z)) e1, rfl, rfl⟩, hseen, hq1, hR.skip hs1, hp3⟩
      · have hs1 : seen.testBit u = false := by simpa using hs1
        have e2 : bits .or .i64 (seen : Int) ((2 ^ u : Nat) : Int) = ((seen ||| 2 ^ u : Nat) : Int) := or_i64 (by omega) (by omega)
        have hs2 : seen ||| 2 ^ u < 2 ^ g.length := or_pow_lt hseen hun
        have hcm := card_more hn hun hs1
        repeat (first | refine WC.seq ?_ | refine WC.reg ?_ | refine WL.pure rfl rfl rfl ?_ | refine WL.nil ?_ | refine WC.skip ?_ | refine WC.block ?_ | refine WC.condT rfl ?_ | refine WC.condF rfl ?_ | refine WL.off rfl rfl rfl ?_ | refine WL.off0 rfl rfl ?_ | refine WC.exit ?_ | refine blk_hit ?_ | refine blk_miss rfl ?_ | refine WC.ret ?_)
        refine WL.callP rfl rfl rfl rfl rfl ent52 (bit_any u (by omega) _) ?_
        repeat (first | refine WC.seq ?_ | refine WC.reg ?_ | refine WL.pure rfl rfl rfl ?_ | refine WL.nil ?_ | refine WC.skip ?_ | refine WC.block ?_ | refine WC.condT rfl ?_ | refine WC.condF rfl ?_ | refine WL.off rfl rfl rfl ?_ | refine WL.off0 rfl rfl ?_ | refine WC.exit ?_ | refine blk_hit ?_ | refine blk_miss rfl ?_ | refine WC.ret ?_)
        refine WL.callP rfl rfl rfl rfl rfl ent51 (Has_any S u (by omega) _) ?_
        repeat (first | refine WC.seq ?_ | refine WC.reg ?_ | refine WL.pure rfl rfl rfl ?_ | refine WL.nil ?_ | refine WC.skip ?_ | refine WC.block ?_ | refine WC.condT rfl ?_ | refine WC.condF rfl ?_ | refine WL.off rfl rfl rfl ?_ | refine WL.off0 rfl rfl ?_ | refine WC.exit ?_ | refine blk_hit ?_ | refine blk_miss rfl ?_ | refine WC.ret ?_)
        refine WC.cond rfl (fun hS1 => ?_) (fun hS1 => ?_)
        · have hgu := hg.lt u
          have e3 : bits .or .i64 (bits .andNot .i64 (queue : Int) ((2 ^ u : Nat) : Int)) (bits .andNot .i64 ((g.getD u 0 : Nat) : Int) (bits .or .i64 (seen : Int) ((2 ^ u : Nat) : Int))) = ((bd queue (2 ^ u) ||| bd (g.getD u 0) (seen ||| 2 ^ u) : Nat) : Int) := by
            rw [e1, e2, andNot_i64 (by omega) (by omega), or_i64 (by omega) (by have := bd_le (g.getD u 0) (seen ||| 2 ^ u); omega)]
          have hq2 : bd queue (2 ^ u) ||| bd (g.getD u 0) (seen ||| 2 ^ u) < 2 ^ g.length := or_lt hq1 (bd_lt hgu)
          have hcard := card_le (by omega) hq2
          repeat (first | refine WC.seq ?_ | refine WC.reg ?_ | refine WL.pure rfl rfl rfl ?_ | refine WL.nil ?_ | refine WC.skip ?_ | refine WC.block ?_ | refine WC.condT rfl ?_ | refine WC.condF rfl ?_ | refine WL.off rfl rfl rfl ?_ | refine WL.off0 rfl rfl ?_ | refine WC.exit ?_ | refine blk_hit ?_ | refine blk_miss rfl ?_ | refine WC.ret ?_)
          refine WL.ixload rfl (fun _ => rfl) rfl rfl rfl rfl rfl rfl rfl hun rfl rfl (hs.hp hp3) (ints_at hun) ?_
          intro p
          repeat (first | refine WC.seq ?_ | refine WC.reg ?_ | refine WL.pure rfl rfl rfl ?_ | refine WL.nil ?_ | refine WC.skip ?_ | refine WC.block ?_ | refine WC.condT rfl ?_ | refine WC.condF rfl ?_ | refine WL.off rfl rfl rfl ?_ | refine WL.off0 rfl rfl ?_ | refine WC.exit ?_ | refine blk_hit ?_ | refine blk_miss rfl ?_ | refine WC.ret ?_)
          exact ⟨(seen ||| 2 ^ u, bd queue (2 ^ u) ||| bd (g.getD u 0) (seen ||| 2 ^ u), out), by show 16 * card (bd (full g.length) (seen ||| 2 ^ u)) + card (bd queue (2 ^ u) ||| bd (g.getD u 0) (seen ||| 2 ^ u)) < 16 * card (bd (full g.length) seen) + card queue; omega,
            ⟨rfl, rfl, congrArg (fun z => some (Value.int .i64 z)) e2, congrArg (fun z => some (Value.int .i64 z)) e3, rfl, rfl⟩, hs2, hq2, hR.grow hb hs1 hS1, hp3⟩
        · have hS1 : S.testBit u = false := by simpa using hS1
          have ho : out ≤ 16 := by
            rw [hR.out]; exact card_le (Nat.le_refl 16) (bd_lt (bd_lt (show seen < 2 ^ 16 by omega)))
          have e4 : IntKind.i64.wrap ((out : Int) + 1) = ((out + 1 : Nat) : Int) := by rw [wrap_i64_in (by omega) (by omega)]; omega
          have hcard := card_le (by omega) hq1
          repeat (first | refine WC.seq ?_ | refine WC.reg ?_ | refine WL.pure rfl rfl rfl ?_ | refine WL.nil ?_ | refine WC.skip ?_ | refine WC.block ?_ | refine WC.condT rfl ?_ | refine WC.condF rfl ?_ | refine WL.off rfl rfl rfl ?_ | refine WL.off0 rfl rfl ?_ | refine WC.exit ?_ | refine blk_hit ?_ | refine blk_miss rfl ?_ | refine WC.ret ?_)
          exact ⟨(seen ||| 2 ^ u, bd queue (2 ^ u), out + 1), by show 16 * card (bd (full g.length) (seen ||| 2 ^ u)) + card (bd queue (2 ^ u)) < 16 * card (bd (full g.length) seen) + card queue; omega,
            ⟨rfl, rfl, congrArg (fun z => some (Value.int .i64 z)) e2, congrArg (fun z => some (Value.int .i64 z)) e1, congrArg (fun z => some (Value.int .i64 z)) e4, rfl⟩, hs2, hq1, hR.take hb hs1 (by omega) hS1, hp3⟩
  · have hq0 : queue = 0 := by have := of_decide_eq_false hc; omega
    subst hq0
    repeat (first | refine WC.seq ?_ | refine WC.reg ?_ | refine WL.pure rfl rfl rfl ?_ | refine WL.nil ?_ | refine WC.skip ?_ | refine WC.block ?_ | refine WC.condT rfl ?_ | refine WC.condF rfl ?_ | refine WL.off rfl rfl rfl ?_ | refine WL.off0 rfl rfl ?_ | refine WC.exit ?_ | refine blk_hit ?_ | refine blk_miss rfl ?_ | refine WC.ret ?_)
    exact Res.one rfl rfl rfl ⟨by rw [hR.final hg hv], hp2⟩

theorem Neighbors_any (ea : Option Addr) (cap : Nat) (g : List Nat) (es : List Ed) (w : World) (hs : Sl w ea (prs es)) (hlen : es.length ≤ 4611686018427387904) (hmk : mkG (g.length : Nat) es = some g) :
    Ret Tryd.prog 50 [.int .i64 (g.length : Nat), .slice ea es.length cap] w fun v w' => ∃ b, Hp w w' [.blk b (.cells (ints g).toArray 3 (0, 0))] ∧ v = .slice (some ⟨b, 0, none⟩) g.length g.length := by
  obtain ⟨hg, _, _, _, hl100⟩ := mkG_gr hmk
  have hn := hg.len
  have hadd : addEs g.length (List.replicate g.length 0) es = some g := by
    rw [mkG, if_neg (by omega)] at hmk; exact hmk
  refine enter Tryd.func50 rfl rfl ⟨rfl, rfl⟩ rfl ?_
  repeat (first | refine WC.seq ?_ | refine WC.reg ?_ | refine WL.pure rfl rfl rfl ?_ | refine WL.nil ?_ | refine WC.skip ?_ | refine WC.block ?_ | refine WC.condT rfl ?_ | refine WC.condF rfl ?_ | refine WL.off rfl rfl rfl ?_ | refine WL.off0 rfl rfl ?_ | refine WC.exit ?_ | refine blk_hit ?_ | refine blk_miss rfl ?_ | refine WC.ret ?_)
  refine WL.make (m := g.length) rfl rfl rfl rfl rfl rfl rfl rfl ?_ ?_ ?_
  · show 8 * g.length ≤ _; omega
  · unfold maxLen; omega
  intro b w1 hb
  have hz : (List.replicate g.length ti3.zero) = ints (List.replicate g.length 0) := by simp only [ints, List.map_replicate]; rfl
  rw [hz] at hb
  have hp1 := (Hp.start w).new hb
  generalize hnn : g.length = n at *
  repeat (first | refine WC.seq ?_ | refine WC.reg ?_ | refine WL.pure rfl rfl rfl ?_ | refine WL.nil ?_ | refine WC.skip ?_ | refine WC.block ?_ | refine WC.condT rfl ?_ | refine WC.condF rfl ?_ | refine WL.off rfl rfl rfl ?_ | refine WL.off0 rfl rfl ?_ | refine WC.exit ?_ | refine blk_hit ?_ | refine blk_miss rfl ?_ | refine WC.ret ?_)
  refine WC.loop (Nat × List Nat) (fun (i, _) => [(0, .int .i64 (n : Nat)), (1, .slice ea es.length cap), (5, .slice (some ⟨b, 0, none⟩) n n), (6, .int .i64 (i : Nat))])
    (fun (i, h) w' => i ≤ es.length ∧ addEs n (List.replicate n 0) (es.take i) = some h ∧ Hp w w' [.blk b (.cells (ints h).toArray 3 (0, 0))]) (fun (i, _) => es.length - i) (0, List.replicate n 0)
    ⟨rfl, rfl, rfl, rfl, rfl⟩ ⟨Nat.zero_le _, by rw [List.take_zero, addEs], hp1⟩ ?_
  rintro ⟨i, h⟩ w2 ⟨hi, hh, hp2⟩
  repeat (first | refine WC.seq ?_ | refine WC.reg ?_ | refine WL.pure rfl rfl rfl ?_ | refine WL.nil ?_ | refine WC.skip ?_ | refine WC.block ?_ | refine WC.condT rfl ?_ | refine WC.condF rfl ?_ | refine WL.off rfl rfl rfl ?_ | refine WL.off0 rfl rfl ?_ | refine WC.exit ?_ | refine blk_hit ?_ | refine blk_miss rfl ?_ | refine WC.ret ?_)
  refine WC.cond rfl (fun hc => ?_) (fun hc => ?_)
  · have hi : i < es.length := by have := of_decide_eq_true hc; omega
    have step : IntKind.i64.wrap ((i : Int) + 1) = ((i + 1 : Nat) : Int) := by rw [wrap_i64_in (by omega) (by omega)]; omega
    have hbad : ¬ Bad n h es[i] := fun hb => by rw [take_bad hh hi hb] at hadd; cases hadd
    have hgood := take_good hh hi hbad
    obtain ⟨hgh, hgl⟩ := addEs_gr _ _ _ (zero_gr hn) (by simp) hh
    obtain ⟨be, oe, rfl⟩ := Sl.some hs (prs_get hi).1
    have lod : ∀ (w2 : World), Hp w w2 [.blk b (.cells (ints h).toArray 3 (0, 0))] → ∀ j v, (pr es[i])[j]? = some v → w2.cell? ⟨be, oe + i * 2 + j, none⟩ = some v := by
      intro w2 h2 j v hj
      rw [Nat.add_assoc]
      exact Sl.cell (hs.hp h2) (prs_at es i hi j v hj)
    generalize hee : es[i] = ee at *
    obtain ⟨u, v⟩ := ee
    have hb2 := hbad
    unfold Bad at hb2
    simp only [not_or] at hb2
    obtain ⟨h1, h2, h3, h4, h5, h6⟩ := hb2
    obtain ⟨u, rfl⟩ := Int.eq_ofNat_of_zero_le (show 0 ≤ u by omega)
    obtain ⟨v, rfl⟩ := Int.eq_ofNat_of_zero_le (show 0 ≤ v by omega)
    have hu : u < h.length := by omega
    have hv : v < h.length := by omega
    simp only [Int.toNat_natCast] at hgood
    have hgu := lt_pow16 hgh.len (hgh.lt u)
    have hpv : 2 ^ v < 16384 := lt_pow16 hgh.len (Nat.pow_lt_pow_right (by decide) hv)
    have hpu : 2 ^ u < 16384 := lt_pow16 hgh.len (Nat.pow_lt_pow_right (by decide) hu)
    repeat (first | refine WC.seq ?_ | refine WC.reg ?_ | refine WL.pure rfl rfl rfl ?_ | refine WL.nil ?_ | refine WC.skip ?_ | refine WC.block ?_ | refine WC.condT rfl ?_ | refine WC.condF rfl ?_ | refine WL.off rfl rfl rfl ?_ | refine WL.off0 rfl rfl ?_ | refine WC.exit ?_ | refine blk_hit ?_ | refine blk_miss rfl ?_ | refine WC.ret ?_)
    refine WC.regQ (fun w2 => Hp w w2 [.blk b (.cells (ints h).toArray 3 (0, 0))]) mixed (by kernel_rfl) (fun w3 hw3 => hp2.keep hw3) ?_
    repeat (first | refine WQ.pure rfl rfl rfl ?_ | refine WQ.off rfl rfl rfl ?_ | refine WQ.nil ?_)
    refine WQ.ix rfl rfl rfl rfl rfl rfl hi ?_
    repeat (first | refine WQ.pure rfl rfl rfl ?_ | refine WQ.off rfl rfl rfl ?_ | refine WQ.nil ?_)
    refine WQ.load rfl rfl rfl rfl rfl (fun w2 h2 => lod w2 h2 0 _ rfl) ?_
    repeat (first | refine WQ.pure rfl rfl rfl ?_ | refine WQ.off rfl rfl rfl ?_ | refine WQ.nil ?_)
    refine WQ.ix rfl rfl rfl rfl rfl rfl hi ?_
    repeat (first | refine WQ.pure rfl rfl rfl ?_ | refine WQ.off rfl rfl rfl ?_ | refine WQ.nil ?_)
    refine WQ.load rfl rfl rfl rfl rfl (fun w2 h2 => lod w2 h2 1 _ rfl) ?_
    repeat (first | refine WQ.pure rfl rfl rfl ?_ | refine WQ.off rfl rfl rfl ?_ | refine WQ.nil ?_)
    intro w3 hp3
    repeat (first | refine WC.seq ?_ | refine WC.reg ?_ | refine WL.pure rfl rfl rfl ?_ | refine WL.nil ?_ | refine WC.skip ?_ | refine WC.block ?_ | refine WC.condT rfl ?_ | refine WC.condF rfl ?_ | refine WL.off rfl rfl rfl ?_ | refine WL.off0 rfl rfl ?_ | refine WC.exit ?_ | refine blk_hit ?_ | refine blk_miss rfl ?_ | refine WC.ret ?_)
    refine WC.regS 10 mixed (by kernel_rfl) rfl rfl (fun w4 hw4 hh4 => ?_)
    have hp4 := hp3.keep hw4
    repeat (first | refine WS.pure rfl rfl rfl ?_ | refine WS.off rfl rfl rfl ?_ | refine WS.nil ?_)
    refine WS.ix1 rfl rfl rfl rfl rfl rfl rfl (j := u) (by omega) ?_
    refine WS.loadB rfl rfl rfl rfl rfl (hp4.obj 0 rfl) (j := 0 + u) (by rw [nth_eq, Nat.zero_add]; exact ints_at hu) ?_
    repeat (first | refine WS.pure rfl rfl rfl ?_ | refine WS.off rfl rfl rfl ?_ | refine WS.nil ?_)
    refine WS.call rfl rfl rfl rfl rfl ent52 (bit_any v (by omega) w4) ?_
    repeat (first | refine WS.pure rfl rfl rfl ?_ | refine WS.off rfl rfl rfl ?_ | refine WS.nil ?_)
    refine WS.ix1 rfl rfl rfl rfl rfl rfl rfl (j := u) (by omega) ?_
    repeat (first | refine WS.pure rfl rfl rfl ?_ | refine WS.off rfl rfl rfl ?_ | refine WS.nil ?_)
    refine WL.store rfl rfl rfl rfl rfl rfl (hp4.obj 0 rfl) (by simp [ints]; omega) (fun w5 hw5 => ?_)
    rw [Nat.zero_add, or_i64 (by omega) (by omega), ints_set] at hw5
    have hp5 := hp4.set 0 rfl rfl hw5
    change Hp w w5 [.blk b (.cells (ints (put1 h u v)).toArray 3 (0, 0))] at hp5
    have hg1 : Gr (put1 h u v) := put1_gr hgh hu hv
    have hl1 := put1_len h u v
    have hgv1 := lt_pow16 hg1.len (hg1.lt v)
    repeat (first | refine WC.seq ?_ | refine WC.reg ?_ | refine WL.pure rfl rfl rfl ?_ | refine WL.nil ?_ | refine WC.skip ?_ | refine WC.block ?_ | refine WC.condT rfl ?_ | refine WC.condF rfl ?_ | refine WL.off rfl rfl rfl ?_ | refine WL.off0 rfl rfl ?_ | refine WC.exit ?_ | refine blk_hit ?_ | refine blk_miss rfl ?_ | refine WC.ret ?_)
    refine WC.regS 10 mixed (by kernel_rfl) rfl rfl (fun w6 hw6 hh6 => ?_)
    have hp6 := hp5.keep hw6
    repeat (first | refine WS.pure rfl rfl rfl ?_ | refine WS.off rfl rfl rfl ?_ | refine WS.nil ?_)
    refine WS.ix1 rfl rfl rfl rfl rfl rfl rfl (j := v) (by omega) ?_
    refine WS.loadB rfl rfl rfl rfl rfl (hp6.obj 0 rfl) (j := 0 + v) (by rw [nth_eq, Nat.zero_add]; exact ints_at (by omega)) ?_
    repeat (first | refine WS.pure rfl rfl rfl ?_ | refine WS.off rfl rfl rfl ?_ | refine WS.nil ?_)
    refine WS.call rfl rfl rfl rfl rfl ent52 (bit_any u (by omega) w6) ?_
    repeat (first | refine WS.pure rfl rfl rfl ?_ | refine WS.off rfl rfl rfl ?_ | refine WS.nil ?_)
    refine WS.ix1 rfl rfl rfl rfl rfl rfl rfl (j := v) (by omega) ?_
    repeat (first | refine WS.pure rfl rfl rfl ?_ | refine WS.off rfl rfl rfl ?_ | refine WS.nil ?_)
    refine WL.store rfl rfl rfl rfl rfl rfl (hp6.obj 0 rfl) (by simp [ints]; omega) (fun w7 hw7 => ?_)
    rw [Nat.zero_add, or_i64 (by omega) (by omega), ints_set] at hw7
    have hp7 := hp6.set 0 rfl rfl hw7
    change Hp w w7 [.blk b (.cells (ints (put1 (put1 h u v) v u)).toArray 3 (0, 0))] at hp7
    repeat (first | refine WC.seq ?_ | refine WC.reg ?_ | refine WL.pure rfl rfl rfl ?_ | refine WL.nil ?_ | refine WC.skip ?_ | refine WC.block ?_ | refine WC.condT rfl ?_ | refine WC.condF rfl ?_ | refine WL.off rfl rfl rfl ?_ | refine WL.off0 rfl rfl ?_ | refine WC.exit ?_ | refine blk_hit ?_ | refine blk_miss rfl ?_ | refine WC.ret ?_)
    exact ⟨(i + 1, put1 (put1 h u v) v u), by show es.length - (i + 1) < es.length - i; omega, ⟨rfl, rfl, rfl, congrArg (fun z => some (Value.int .i64 z)) step, rfl⟩, hi, hgood, hp7⟩
  · have hi : es.length ≤ i := by have := of_decide_eq_false hc; omega
    rw [List.take_of_length_le hi, hadd] at hh
    simp only [Option.some.injEq] at hh
    subst hh
    repeat (first | refine WC.seq ?_ | refine WC.reg ?_ | refine WL.pure rfl rfl rfl ?_ | refine WL.nil ?_ | refine WC.skip ?_ | refine WC.block ?_ | refine WC.condT rfl ?_ | refine WC.condF rfl ?_ | refine WL.off rfl rfl rfl ?_ | refine WL.off0 rfl rfl ?_ | refine WC.exit ?_ | refine blk_hit ?_ | refine blk_miss rfl ?_ | refine WC.ret ?_)
    exact Res.one rfl rfl rfl ⟨b, hp2, rfl⟩
end Go.Proofs.YtdnkkflpgebfbaaDoor
