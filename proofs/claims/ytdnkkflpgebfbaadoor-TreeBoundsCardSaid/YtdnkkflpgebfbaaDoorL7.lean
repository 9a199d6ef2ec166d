/- The walk of 'best'. -/
import Derived.Test.YtdnkkflpgebfbaaDoorL6
import Derived.Test.YtdnkkflpgebfbaaDoorBo
namespace Go.Proofs.YtdnkkflpgebfbaaDoor
open Go.W Go.Tree
set_option maxRecDepth 100000
attribute [local irreducible] WC WL WQ WS

theorem ints_append (xs ys : List Nat) : ints (xs ++ ys) = ints xs ++ ints ys := by simp [ints]

theorem best_any (ga : Option Addr) (cap : Nat) (g : List Nat) (w : World) (hs : Sl w ga (ints g)) (hT : Tb w) (hg : Gr g) :
    Ret Tryd.prog 54 [.slice ga g.length cap] w fun v w' =>
      ∃ a cap', Hp w w' [.row 3 1 (.slice a g.length cap') g.length (ints (bestO g))] ∧ v = .tuple #[.slice a g.length cap', .int .i64 (wd g 0)] := by
  have hn := hg.len
  have hp14 : 2 ^ g.length ≤ 2 ^ 14 := Nat.pow_le_pow_right (by decide) hn
  have hpos := Nat.two_pow_pos g.length
  refine enter Tryd.func54 rfl rfl ⟨rfl, rfl⟩ rfl ?_
  repeat (first | refine WC.seq ?_ | refine WC.reg ?_ | refine WL.pure rfl rfl rfl ?_ | refine WL.nil ?_ | refine WC.skip ?_ | refine WC.block ?_ | refine WC.condT rfl ?_ | refine WC.condF rfl ?_ | refine WL.off rfl rfl rfl ?_ | refine WL.off0 rfl rfl ?_ | refine WC.exit ?_ | refine blk_hit ?_ | refine blk_miss rfl ?_ | refine WC.ret ?_)
  refine WL.call rfl rfl rfl rfl rfl ent68 (widths_any ga cap g w hs hT hg) ?_
  rintro _ w1 ⟨b, hp1, rfl⟩
  have hp1 := hp1.nilrow 3 1
  have hat : ∀ (S : Nat), S < 2 ^ g.length → ∀ w' L, Hp w w' L → nth L 1 = some (.blk b (.cells (zs (wdRow g 0)).toArray 3 (0, 0))) → w'.cell? ⟨b, 0 + S, none⟩ = some (.int .i64 (wd g S)) := by
    intro S hS w' L hp h1
    refine cell_of_obj (hp.obj 1 h1) ?_
    have := wdRow_at (g := g) hS (Nat.zero_le S)
    simpa using this
  repeat (first | refine WC.seq ?_ | refine WC.reg ?_ | refine WL.pure rfl rfl rfl ?_ | refine WL.nil ?_ | refine WC.skip ?_ | refine WC.block ?_ | refine WC.condT rfl ?_ | refine WC.condF rfl ?_ | refine WL.off rfl rfl rfl ?_ | refine WL.off0 rfl rfl ?_ | refine WC.exit ?_ | refine blk_hit ?_ | refine blk_miss rfl ?_ | refine WC.ret ?_)
  refine WC.loop (Nat × List Nat × Option Addr × Nat) (fun (S, ord, a, c) => [(0, .slice ga g.length cap), (4, .slice (some ⟨b, 0, none⟩) (2 ^ g.length) (2 ^ g.length)), (5, .slice a ord.length c), (6, .int .i64 (S : Nat))])
    (fun (S, ord, a, c) w' => S < 2 ^ g.length ∧ ord.length = card S ∧ wd g S ≤ wd g 0 ∧ ord ++ bestF g (g.length - ord.length) S = bestO g ∧
      Hp w w' [.row 3 1 (.slice a ord.length c) ord.length (ints ord), .blk b (.cells (zs (wdRow g 0)).toArray 3 (0, 0))]) (fun (S, ord, a, c) => g.length - ord.length) (0, [], none, 0)
    ⟨rfl, rfl, rfl, rfl, rfl⟩ ⟨hpos, by rw [card_zero]; rfl, Int.le_refl _, rfl, hp1⟩ ?_
  rintro ⟨S, ord, a, c⟩ w2 ⟨hS, hcard, hwS, hord, hp⟩
  have hS14 : S < 16384 := by omega
  repeat (first | refine WC.seq ?_ | refine WC.reg ?_ | refine WL.pure rfl rfl rfl ?_ | refine WL.nil ?_ | refine WC.skip ?_ | refine WC.block ?_ | refine WC.condT rfl ?_ | refine WC.condF rfl ?_ | refine WL.off rfl rfl rfl ?_ | refine WL.off0 rfl rfl ?_ | refine WC.exit ?_ | refine blk_hit ?_ | refine blk_miss rfl ?_ | refine WC.ret ?_)
  refine WC.cond rfl (fun hc => ?_) (fun hc => ?_)
  · have hlt : ord.length < g.length := by simp at hc; omega
    have hne : S ≠ full g.length := by
      intro e
      have := card_full (n := g.length) (by omega)
      rw [e] at hcard
      unfold full at hcard
      omega
    repeat (first | refine WC.seq ?_ | refine WC.reg ?_ | refine WL.pure rfl rfl rfl ?_ | refine WL.nil ?_ | refine WC.skip ?_ | refine WC.block ?_ | refine WC.condT rfl ?_ | refine WC.condF rfl ?_ | refine WL.off rfl rfl rfl ?_ | refine WL.off0 rfl rfl ?_ | refine WC.exit ?_ | refine blk_hit ?_ | refine blk_miss rfl ?_ | refine WC.ret ?_)
    refine WC.loop Nat (fun v => [(0, .slice ga g.length cap), (4, .slice (some ⟨b, 0, none⟩) (2 ^ g.length) (2 ^ g.length)), (5, .slice a ord.length c), (6, .int .i64 (S : Nat)), (16, .int .i64 (g.length : Nat)), (17, .int .i64 (v : Nat))])
      (fun v w' => v ≤ g.length ∧ (∀ u, u < v → fine g S u = false) ∧ Hp w w' [.row 3 1 (.slice a ord.length c) ord.length (ints ord), .blk b (.cells (zs (wdRow g 0)).toArray 3 (0, 0))]) (fun v => g.length - v) 0
      ⟨rfl, rfl, rfl, rfl, rfl, rfl, rfl⟩ ⟨Nat.zero_le _, (fun u hu => by omega), hp⟩ ?_
    rintro v w3 ⟨hv, hno, hp3⟩
    repeat (first | refine WC.seq ?_ | refine WC.reg ?_ | refine WL.pure rfl rfl rfl ?_ | refine WL.nil ?_ | refine WC.skip ?_ | refine WC.block ?_ | refine WC.condT rfl ?_ | refine WC.condF rfl ?_ | refine WL.off rfl rfl rfl ?_ | refine WL.off0 rfl rfl ?_ | refine WC.exit ?_ | refine blk_hit ?_ | refine blk_miss rfl ?_ | refine WC.ret ?_)
    refine WC.cond rfl (fun hc2 => ?_) (fun hc2 => ?_)
    · have hv : v < g.length := by simp at hc2; omega
      have hor : S ||| 2 ^ v < 2 ^ g.length := or_pow_lt hS hv
      have hpv : 2 ^ v < 16384 := lt_pow16 hn (Nat.pow_lt_pow_right (by decide) hv)
      have hlat := lat_lt hg hv (gone := S)
      have e3 : bits .or .i64 (S : Int) (shl .i64 1 v) = ((S ||| 2 ^ v : Nat) : Int) := by rw [shl_one (by omega), or_i64 (by omega) (by omega)]
      have step : IntKind.i64.wrap ((v : Int) + 1) = ((v + 1 : Nat) : Int) := by rw [wrap_i64_in (by omega) (by omega)]; omega
      have no : fine g S v = false → ∀ u, u < v + 1 → fine g S u = false := fun h u hu => by
        rcases Nat.lt_or_ge u v with h1 | h1
        · exact hno u h1
        · rw [show u = v by omega]; exact h
      repeat (first | refine WC.seq ?_ | refine WC.reg ?_ | refine WL.pure rfl rfl rfl ?_ | refine WL.nil ?_ | refine WC.skip ?_ | refine WC.block ?_ | refine WC.condT rfl ?_ | refine WC.condF rfl ?_ | refine WL.off rfl rfl rfl ?_ | refine WL.off0 rfl rfl ?_ | refine WC.exit ?_ | refine blk_hit ?_ | refine blk_miss rfl ?_ | refine WC.ret ?_)
      refine WC.regQ (fun w4 => Hp w w4 [.row 3 1 (.slice a ord.length c) ord.length (ints ord), .blk b (.cells (zs (wdRow g 0)).toArray 3 (0, 0))]) mixed (by kernel_rfl) (fun w4 hw4 => hp3.keep hw4) ?_
      repeat (first | refine WQ.pure rfl rfl rfl ?_ | refine WQ.off rfl rfl rfl ?_ | refine WQ.nil ?_)
      refine WQ.call rfl rfl rfl rfl rfl ent44 (fun w4 h4 => (has_any S v (by omega) w4).mono fun u w5 ⟨h5, h6⟩ => ⟨h5, by rw [h6]; exact h4⟩) ?_
      refine WQ.split 22 rfl (fun hb => ?_) (fun hb => ?_)
      · repeat (first | refine WQ.pure rfl rfl rfl ?_ | refine WQ.off rfl rfl rfl ?_ | refine WQ.nil ?_)
        intro w4 hp4
        repeat (first | refine WC.seq ?_ | refine WC.reg ?_ | refine WL.pure rfl rfl rfl ?_ | refine WL.nil ?_ | refine WC.skip ?_ | refine WC.block ?_ | refine WC.condT rfl ?_ | refine WC.condF rfl ?_ | refine WL.off rfl rfl rfl ?_ | refine WL.off0 rfl rfl ?_ | refine WC.exit ?_ | refine blk_hit ?_ | refine blk_miss rfl ?_ | refine WC.ret ?_)
        exact ⟨v + 1, by show g.length - (v + 1) < g.length - v; omega, ⟨rfl, rfl, rfl, rfl, rfl, congrArg (fun z => some (Value.int .i64 z)) step, rfl⟩, by omega, no (by simp [fine, hb]), hp4⟩
      repeat (first | refine WQ.pure rfl rfl rfl ?_ | refine WQ.off rfl rfl rfl ?_ | refine WQ.nil ?_)
      refine WQ.call rfl rfl rfl rfl rfl ent55 (fun w4 h4 => (later_any ga cap g S v w4 (hs.hp h4) (hT.below h4.below) hg hv hS14).mono fun u w5 ⟨h5, h6⟩ => ⟨h5, by rw [h6]; exact h4⟩) ?_
      refine WQ.call rfl rfl rfl rfl rfl ent41 (fun w4 h4 => (size_any _ (by omega) w4).mono fun u w5 ⟨h5, h6⟩ => ⟨h5, by rw [h6]; exact h4⟩) ?_
      repeat (first | refine WQ.pure rfl rfl rfl ?_ | refine WQ.off rfl rfl rfl ?_ | refine WQ.nil ?_)
      refine WQ.ixload (j := 0) rfl (fun _ => rfl) rfl rfl rfl rfl rfl rfl rfl hpos rfl rfl (fun w4 h4 => hat 0 hpos w4 _ h4 rfl) ?_
      refine WQ.pure rfl rfl rfl ?_
      refine WQ.split 33 rfl (fun hb1 => ?_) (fun hb1 => ?_)
      · repeat (first | refine WQ.pure rfl rfl rfl ?_ | refine WQ.off rfl rfl rfl ?_ | refine WQ.nil ?_)
        refine WQ.known (d := 40) (congrArg (fun z => some (Value.int .i64 z)) e3) ?_
        refine WQ.ixload rfl (fun _ => rfl) rfl rfl rfl rfl rfl rfl rfl hor rfl rfl (fun w4 h4 => hat _ hor w4 _ h4 rfl) ?_
        repeat (first | refine WQ.pure rfl rfl rfl ?_ | refine WQ.off rfl rfl rfl ?_ | refine WQ.nil ?_)
        refine WQ.ixload (j := 0) rfl (fun _ => rfl) rfl rfl rfl rfl rfl rfl rfl hpos rfl rfl (fun w4 h4 => hat 0 hpos w4 _ h4 rfl) ?_
        repeat (first | refine WQ.pure rfl rfl rfl ?_ | refine WQ.off rfl rfl rfl ?_ | refine WQ.nil ?_)
        intro w4 hp4
        repeat (first | refine WC.seq ?_ | refine WC.reg ?_ | refine WL.pure rfl rfl rfl ?_ | refine WL.nil ?_ | refine WC.skip ?_ | refine WC.block ?_ | refine WC.condT rfl ?_ | refine WC.condF rfl ?_ | refine WL.off rfl rfl rfl ?_ | refine WL.off0 rfl rfl ?_ | refine WC.exit ?_ | refine blk_hit ?_ | refine blk_miss rfl ?_ | refine WC.ret ?_)
        refine WC.cond rfl (fun hb2 => ?_) (fun hb2 => ?_)
        · have hf : fine g S v = true := fine_iff.2 ⟨hb, by simpa using hb1, by simpa using hb2⟩
          repeat (first | refine WC.seq ?_ | refine WC.reg ?_ | refine WL.pure rfl rfl rfl ?_ | refine WL.nil ?_ | refine WC.skip ?_ | refine WC.block ?_ | refine WC.condT rfl ?_ | refine WC.condF rfl ?_ | refine WL.off rfl rfl rfl ?_ | refine WL.off0 rfl rfl ?_ | refine WC.exit ?_ | refine blk_hit ?_ | refine blk_miss rfl ?_ | refine WC.ret ?_)
          refine WL.buildS (cs := [.int .i64 v]) rfl rfl rfl rfl rfl rfl rfl rfl rfl ?_
          intro b2 w5 hb2'
          have hp5 := hp4.new hb2'
          refine WL.append 1 hp5 rfl rfl rfl rfl rfl Nat.zero_lt_one rfl rfl rfl (news := [.int .i64 v]) ?_ rfl ?_ ?_ ?_ ?_
          · exact Sl.of_obj (hp5.obj 0 rfl) (fun q u hq => by simpa using hq)
          · exact Cells.cons rfl Cells.nil
          · unfold maxLen; omega
          · show (ord.length + 1) * 8 ≤ _; omega
          intro a' cap' w6 hp6 hg6
          repeat (first | refine WC.seq ?_ | refine WC.reg ?_ | refine WL.pure rfl rfl rfl ?_ | refine WL.nil ?_ | refine WC.skip ?_ | refine WC.block ?_ | refine WC.condT rfl ?_ | refine WC.condF rfl ?_ | refine WL.off rfl rfl rfl ?_ | refine WL.off0 rfl rfl ?_ | refine WC.exit ?_ | refine blk_hit ?_ | refine blk_miss rfl ?_ | refine WC.ret ?_)
          have hF := find_at hv hf hno
          refine ⟨(S ||| 2 ^ v, ord ++ [v], a', cap'), ?_, ⟨rfl, rfl, ?_, congrArg (fun z => some (Value.int .i64 z)) e3, rfl⟩, hor, ?_, (fine_iff.1 hf).2.2, ?_, ?_⟩
          · show g.length - (ord ++ [v]).length < g.length - ord.length
            rw [List.length_append, List.length_singleton]; omega
          · rw [List.length_append, List.length_singleton]; rfl
          · rw [List.length_append, List.length_singleton, hcard, card_add hn hS hv hb]
          · rw [List.length_append, List.length_singleton, ← hord, List.append_assoc]
            congr 1
            rw [show g.length - ord.length = (g.length - (ord.length + 1)) + 1 by omega, bestF, hF]
            rfl
          · have := hp6.tail
            rw [List.length_append, List.length_singleton, ints_append]
            exact this
        · repeat (first | refine WC.seq ?_ | refine WC.reg ?_ | refine WL.pure rfl rfl rfl ?_ | refine WL.nil ?_ | refine WC.skip ?_ | refine WC.block ?_ | refine WC.condT rfl ?_ | refine WC.condF rfl ?_ | refine WL.off rfl rfl rfl ?_ | refine WL.off0 rfl rfl ?_ | refine WC.exit ?_ | refine blk_hit ?_ | refine blk_miss rfl ?_ | refine WC.ret ?_)
          refine ⟨v + 1, by show g.length - (v + 1) < g.length - v; omega, ⟨rfl, rfl, rfl, rfl, rfl, congrArg (fun z => some (Value.int .i64 z)) step, rfl⟩, by omega, no ?_, hp4⟩
          have : ¬ wd g (S ||| 2 ^ v) ≤ wd g 0 := by simpa using hb2
          simp [fine, this]
      · repeat (first | refine WQ.pure rfl rfl rfl ?_ | refine WQ.off rfl rfl rfl ?_ | refine WQ.nil ?_)
        intro w4 hp4
        repeat (first | refine WC.seq ?_ | refine WC.reg ?_ | refine WL.pure rfl rfl rfl ?_ | refine WL.nil ?_ | refine WC.skip ?_ | refine WC.block ?_ | refine WC.condT rfl ?_ | refine WC.condF rfl ?_ | refine WL.off rfl rfl rfl ?_ | refine WL.off0 rfl rfl ?_ | refine WC.exit ?_ | refine blk_hit ?_ | refine blk_miss rfl ?_ | refine WC.ret ?_)
        refine ⟨v + 1, by show g.length - (v + 1) < g.length - v; omega, ⟨rfl, rfl, rfl, rfl, rfl, congrArg (fun z => some (Value.int .i64 z)) step, rfl⟩, by omega, no ?_, hp4⟩
        have : ¬ (pc (lat g S v) : Int) ≤ wd g 0 := by simpa using hb1
        simp [fine, this]
    · exfalso
      have hv : g.length ≤ v := by simp at hc2; omega
      obtain ⟨u, hu, h1, h2, h3⟩ := exists_best hg hS hne hwS
      have := hno u (by omega)
      rw [fine_iff.2 ⟨h1, h2, h3⟩] at this
      cases this
  · have hle := card_le (s := S) (n := g.length) (by omega) hS
    have hlen : ord.length = g.length := by simp at hc; omega
    have hO : ord = bestO g := by
      rw [hlen, Nat.sub_self] at hord
      simpa [bestF] using hord
    repeat (first | refine WC.seq ?_ | refine WC.reg ?_ | refine WL.pure rfl rfl rfl ?_ | refine WL.nil ?_ | refine WC.skip ?_ | refine WC.block ?_ | refine WC.condT rfl ?_ | refine WC.condF rfl ?_ | refine WL.off rfl rfl rfl ?_ | refine WL.off0 rfl rfl ?_ | refine WC.exit ?_ | refine blk_hit ?_ | refine blk_miss rfl ?_ | refine WC.ret ?_)
    refine WC.regQ (fun w4 => Hp w w4 [.row 3 1 (.slice a ord.length c) ord.length (ints ord), .blk b (.cells (zs (wdRow g 0)).toArray 3 (0, 0))]) mixed (by kernel_rfl) (fun w4 hw4 => hp.keep hw4) ?_
    repeat (first | refine WQ.pure rfl rfl rfl ?_ | refine WQ.off rfl rfl rfl ?_ | refine WQ.nil ?_)
    refine WQ.ixload (j := 0) rfl (fun _ => rfl) rfl rfl rfl rfl rfl rfl rfl hpos rfl rfl (fun w4 h4 => hat 0 hpos w4 _ h4 rfl) ?_
    repeat (first | refine WQ.pure rfl rfl rfl ?_ | refine WQ.off rfl rfl rfl ?_ | refine WQ.nil ?_)
    intro w4 hp4
    repeat (first | refine WC.seq ?_ | refine WC.reg ?_ | refine WL.pure rfl rfl rfl ?_ | refine WL.nil ?_ | refine WC.skip ?_ | refine WC.block ?_ | refine WC.condT rfl ?_ | refine WC.condF rfl ?_ | refine WL.off rfl rfl rfl ?_ | refine WL.off0 rfl rfl ?_ | refine WC.exit ?_ | refine blk_hit ?_ | refine blk_miss rfl ?_ | refine WC.ret ?_)
    refine Res.two rfl rfl rfl rfl ⟨a, c, ?_, ?_⟩
    · rw [← hO, ← hlen]; exact hp4.swap.tail
    · rw [hlen]
end Go.Proofs.YtdnkkflpgebfbaaDoor
