/- The walks of 'Order' and 'Best'. -/
import Derived.Test.YtdnkkflpgebfbaaDoorL7
import Derived.Test.YtdnkkflpgebfbaaDoorL9
import Derived.Test.YtdnkkflpgebfbaaDoorOd
namespace Go.Proofs.YtdnkkflpgebfbaaDoor
open Go.W Go.Tree
set_option maxRecDepth 100000
attribute [local irreducible] WC WL WQ WS

def ordV (n : Int) (es : List Ed) (o : List Int) : Value := match mkG n es with
  | none => .tuple #[.int .i64 0, .int .i64 2]
  | some g => if (o.length : Int) ≠ n then .tuple #[.int .i64 0, .int .i64 2] else match ordL g o 0 (-1) with
    | none => .tuple #[.int .i64 0, .int .i64 2]
    | some k => .tuple #[.int .i64 k, .int .i64 0]

theorem zs_get {xs : List Int} {i : Nat} (h : i < xs.length) : (zs xs)[i]? = some (.int .i64 (xs.getD i 0)) := by simp [zs, h]

theorem Order_any (ea oa : Option Addr) (cap oc : Nat) (n : Int) (es : List Ed) (o : List Int) (w : World) (hs : Sl w ea (prs es)) (hlen : es.length ≤ 4611686018427387904) (ho : Sl w oa (zs o)) (hol : o.length ≤ 4611686018427387904) (hT : Tb w) :
    Ret Tryd.prog 31 [.int .i64 n, .slice ea es.length cap, .slice oa o.length oc] w fun v w' => Hp w w' [] ∧ v = ordV n es o := by
  refine enter Tryd.func31 rfl rfl ⟨rfl, rfl⟩ rfl ?_
  repeat (first | refine WC.seq ?_ | refine WC.reg ?_ | refine WL.pure rfl rfl rfl ?_ | refine WL.nil ?_ | refine WC.skip ?_ | refine WC.block ?_ | refine WC.condT rfl ?_ | refine WC.condF rfl ?_ | refine WL.off rfl rfl rfl ?_ | refine WL.off0 rfl rfl ?_ | refine WC.exit ?_ | refine blk_hit ?_ | refine blk_miss rfl ?_ | refine WC.ret ?_)
  refine WL.call rfl rfl rfl rfl rfl ent38 (newGraph_any ea cap n es w hs hlen) ?_
  intro v1 w1 hG
  cases hmk : mkG n es with
  | none =>
    obtain ⟨hp1, rfl⟩ := graph_none hG hmk
    repeat (first | refine WC.seq ?_ | refine WC.reg ?_ | refine WL.pure rfl rfl rfl ?_ | refine WL.nil ?_ | refine WC.skip ?_ | refine WC.block ?_ | refine WC.condT rfl ?_ | refine WC.condF rfl ?_ | refine WL.off rfl rfl rfl ?_ | refine WL.off0 rfl rfl ?_ | refine WC.exit ?_ | refine blk_hit ?_ | refine blk_miss rfl ?_ | refine WC.ret ?_)
    exact Res.two rfl rfl rfl rfl ⟨hp1, by rw [ordV, hmk]⟩
  | some g =>
    obtain ⟨hg, hgn, hn0, _, _⟩ := mkG_gr hmk
    have hn := hg.len
    have hp14 : 2 ^ g.length ≤ 2 ^ 14 := Nat.pow_le_pow_right (by decide) hn
    obtain ⟨bg, hp1, rfl⟩ := graph_hp hG hmk
    obtain ⟨m, rfl⟩ := Int.eq_ofNat_of_zero_le hn0
    have hgn : g.length = m := by simpa using hgn
    subst hgn
    repeat (first | refine WC.seq ?_ | refine WC.reg ?_ | refine WL.pure rfl rfl rfl ?_ | refine WL.nil ?_ | refine WC.skip ?_ | refine WC.block ?_ | refine WC.condT rfl ?_ | refine WC.condF rfl ?_ | refine WL.off rfl rfl rfl ?_ | refine WL.off0 rfl rfl ?_ | refine WC.exit ?_ | refine blk_hit ?_ | refine blk_miss rfl ?_ | refine WC.ret ?_)
    refine WC.cond rfl (fun h0 => ?_) (fun h0 => ?_)
    · have h0 : (o.length : Int) ≠ (g.length : Nat) := by simpa using h0
      repeat (first | refine WC.seq ?_ | refine WC.reg ?_ | refine WL.pure rfl rfl rfl ?_ | refine WL.nil ?_ | refine WC.skip ?_ | refine WC.block ?_ | refine WC.condT rfl ?_ | refine WC.condF rfl ?_ | refine WL.off rfl rfl rfl ?_ | refine WL.off0 rfl rfl ?_ | refine WC.exit ?_ | refine blk_hit ?_ | refine blk_miss rfl ?_ | refine WC.ret ?_)
      exact Res.two rfl rfl rfl rfl ⟨hp1.nil', by simp only [ordV, hmk]; rw [if_pos h0]⟩
    have h0 : (o.length : Int) = (g.length : Nat) := by simpa using h0
    have hval : ordV (g.length : Nat) es o = match ordL g o 0 (-1) with
      | none => .tuple #[.int .i64 0, .int .i64 2]
      | some k => .tuple #[.int .i64 k, .int .i64 0] := by
      simp only [ordV, hmk]; rw [if_neg (fun h => h h0)]
    repeat (first | refine WC.seq ?_ | refine WC.reg ?_ | refine WL.pure rfl rfl rfl ?_ | refine WL.nil ?_ | refine WC.skip ?_ | refine WC.block ?_ | refine WC.condT rfl ?_ | refine WC.condF rfl ?_ | refine WL.off rfl rfl rfl ?_ | refine WL.off0 rfl rfl ?_ | refine WC.exit ?_ | refine blk_hit ?_ | refine blk_miss rfl ?_ | refine WC.ret ?_)
    refine WC.loop (Nat × Nat × Int) (fun (i, S, k) => [(0, .int .i64 (g.length : Nat)), (8, .slice (some ⟨bg, 0, none⟩) g.length g.length), (10, .int .i64 k), (11, .int .i64 (S : Nat)), (28, .slice oa o.length oc), (29, .int .i64 (o.length : Nat)), (30, .int .i64 (i : Nat))])
      (fun (i, S, k) w' => i ≤ o.length ∧ S < 2 ^ g.length ∧ ordL g o 0 (-1) = ordL g (o.drop i) S k ∧ Hp w w' [.blk bg (.cells (ints g).toArray 76 (0, 0))]) (fun (i, _) => o.length - i) (0, 0, -1)
      ⟨rfl, rfl, rfl, rfl, rfl, rfl, rfl, rfl⟩ ⟨Nat.zero_le _, Nat.two_pow_pos _, rfl, hp1⟩ ?_
    rintro ⟨i, S, k⟩ w2 ⟨hi, hS, hr, hp2⟩
    repeat (first | refine WC.seq ?_ | refine WC.reg ?_ | refine WL.pure rfl rfl rfl ?_ | refine WL.nil ?_ | refine WC.skip ?_ | refine WC.block ?_ | refine WC.condT rfl ?_ | refine WC.condF rfl ?_ | refine WL.off rfl rfl rfl ?_ | refine WL.off0 rfl rfl ?_ | refine WC.exit ?_ | refine blk_hit ?_ | refine blk_miss rfl ?_ | refine WC.ret ?_)
    refine WC.cond rfl (fun hc => ?_) (fun hc => ?_)
    · have hi : i < o.length := by have := of_decide_eq_true hc; omega
      have step : IntKind.i64.wrap ((i : Int) + 1) = ((i + 1 : Nat) : Int) := by rw [wrap_i64_in (by omega) (by omega)]; omega
      have hdrop : o.drop i = o.getD i 0 :: o.drop (i + 1) := by rw [List.drop_eq_getElem_cons hi]; simp [hi]
      repeat (first | refine WC.seq ?_ | refine WC.reg ?_ | refine WL.pure rfl rfl rfl ?_ | refine WL.nil ?_ | refine WC.skip ?_ | refine WC.block ?_ | refine WC.condT rfl ?_ | refine WC.condF rfl ?_ | refine WL.off rfl rfl rfl ?_ | refine WL.off0 rfl rfl ?_ | refine WC.exit ?_ | refine blk_hit ?_ | refine blk_miss rfl ?_ | refine WC.ret ?_)
      refine WL.ixload rfl (fun _ => rfl) rfl rfl rfl rfl rfl rfl rfl hi rfl rfl (ho.hp hp2) (zs_get hi) ?_
      intro p
      rw [hdrop, ordL] at hr
      generalize o.getD i 0 = v at *
      have bad : (v < 0 ∨ (g.length : Int) ≤ v ∨ S.testBit v.toNat = true) → ordV (g.length : Nat) es o = .tuple #[.int .i64 0, .int .i64 2] := by
        intro h
        rw [if_pos h] at hr
        rw [hval, hr]
      repeat (first | refine WC.seq ?_ | refine WC.reg ?_ | refine WL.pure rfl rfl rfl ?_ | refine WL.nil ?_ | refine WC.skip ?_ | refine WC.block ?_ | refine WC.condT rfl ?_ | refine WC.condF rfl ?_ | refine WL.off rfl rfl rfl ?_ | refine WL.off0 rfl rfl ?_ | refine WC.exit ?_ | refine blk_hit ?_ | refine blk_miss rfl ?_ | refine WC.ret ?_)
      refine WL.split 36 rfl (fun q1 => ?_) (fun q1 => ?_)
      · repeat (first | refine WC.seq ?_ | refine WC.reg ?_ | refine WL.pure rfl rfl rfl ?_ | refine WL.nil ?_ | refine WC.skip ?_ | refine WC.block ?_ | refine WC.condT rfl ?_ | refine WC.condF rfl ?_ | refine WL.off rfl rfl rfl ?_ | refine WL.off0 rfl rfl ?_ | refine WC.exit ?_ | refine blk_hit ?_ | refine blk_miss rfl ?_ | refine WC.ret ?_)
        exact Res.two rfl rfl rfl rfl ⟨hp2.nil', (bad (.inl (of_decide_eq_true q1))).symm⟩
      have q1 : ¬ v < 0 := of_decide_eq_false q1
      repeat (first | refine WC.seq ?_ | refine WC.reg ?_ | refine WL.pure rfl rfl rfl ?_ | refine WL.nil ?_ | refine WC.skip ?_ | refine WC.block ?_ | refine WC.condT rfl ?_ | refine WC.condF rfl ?_ | refine WL.off rfl rfl rfl ?_ | refine WL.off0 rfl rfl ?_ | refine WC.exit ?_ | refine blk_hit ?_ | refine blk_miss rfl ?_ | refine WC.ret ?_)
      refine WL.split 41 rfl (fun q2 => ?_) (fun q2 => ?_)
      · repeat (first | refine WC.seq ?_ | refine WC.reg ?_ | refine WL.pure rfl rfl rfl ?_ | refine WL.nil ?_ | refine WC.skip ?_ | refine WC.block ?_ | refine WC.condT rfl ?_ | refine WC.condF rfl ?_ | refine WL.off rfl rfl rfl ?_ | refine WL.off0 rfl rfl ?_ | refine WC.exit ?_ | refine blk_hit ?_ | refine blk_miss rfl ?_ | refine WC.ret ?_)
        exact Res.two rfl rfl rfl rfl ⟨hp2.nil', (bad (.inr (.inl (of_decide_eq_true q2)))).symm⟩
      have q2 : ¬ (g.length : Int) ≤ v := of_decide_eq_false q2
      obtain ⟨v, rfl⟩ := Int.eq_ofNat_of_zero_le (show 0 ≤ v by omega)
      have hv : v < g.length := by omega
      simp only [Int.toNat_natCast] at bad hr
      repeat (first | refine WC.seq ?_ | refine WC.reg ?_ | refine WL.pure rfl rfl rfl ?_ | refine WL.nil ?_ | refine WC.skip ?_ | refine WC.block ?_ | refine WC.condT rfl ?_ | refine WC.condF rfl ?_ | refine WL.off rfl rfl rfl ?_ | refine WL.off0 rfl rfl ?_ | refine WC.exit ?_ | refine blk_hit ?_ | refine blk_miss rfl ?_ | refine WC.ret ?_)
      refine WL.callP rfl rfl rfl rfl rfl ent44 (has_any S v (by omega) _) ?_
      repeat (first | refine WC.seq ?_ | refine WC.reg ?_ | refine WL.pure rfl rfl rfl ?_ | refine WL.nil ?_ | refine WC.skip ?_ | refine WC.block ?_ | refine WC.condT rfl ?_ | refine WC.condF rfl ?_ | refine WL.off rfl rfl rfl ?_ | refine WL.off0 rfl rfl ?_ | refine WC.exit ?_ | refine blk_hit ?_ | refine blk_miss rfl ?_ | refine WC.ret ?_)
      refine WC.cond rfl (fun q3 => ?_) (fun q3 => ?_)
      · repeat (first | refine WC.seq ?_ | refine WC.reg ?_ | refine WL.pure rfl rfl rfl ?_ | refine WL.nil ?_ | refine WC.skip ?_ | refine WC.block ?_ | refine WC.condT rfl ?_ | refine WC.condF rfl ?_ | refine WL.off rfl rfl rfl ?_ | refine WL.off0 rfl rfl ?_ | refine WC.exit ?_ | refine blk_hit ?_ | refine blk_miss rfl ?_ | refine WC.ret ?_)
        exact Res.two rfl rfl rfl rfl ⟨hp2.nil', (bad (.inr (.inr q3))).symm⟩
      rw [if_neg (fun h => h.elim q1 (fun h => h.elim q2 (fun h => by rw [q3] at h; cases h)))] at hr
      have hlat := lat_lt hg hv (gone := S)
      have e3 : bits .or .i64 (S : Int) (shl .i64 1 v) = ((S ||| 2 ^ v : Nat) : Int) := by rw [shl_one (by omega), or_i64 (by omega) (by have := Nat.pow_lt_pow_right (a := 2) (by decide) hv; omega)]
      repeat (first | refine WC.seq ?_ | refine WC.reg ?_ | refine WL.pure rfl rfl rfl ?_ | refine WL.nil ?_ | refine WC.skip ?_ | refine WC.block ?_ | refine WC.condT rfl ?_ | refine WC.condF rfl ?_ | refine WL.off rfl rfl rfl ?_ | refine WL.off0 rfl rfl ?_ | refine WC.exit ?_ | refine blk_hit ?_ | refine blk_miss rfl ?_ | refine WC.ret ?_)
      refine WL.callP rfl rfl rfl rfl rfl ent55 (later_any _ _ g S v w2 (Sl.of_obj (hp2.obj 0 rfl) (fun i u h => by simpa using h)) (hT.below hp2.below) hg hv (by omega)) ?_
      refine WL.callP rfl rfl rfl rfl rfl ent41 (size_any _ (by omega) _) ?_
      repeat (first | refine WC.seq ?_ | refine WC.reg ?_ | refine WL.pure rfl rfl rfl ?_ | refine WL.nil ?_ | refine WC.skip ?_ | refine WC.block ?_ | refine WC.condT rfl ?_ | refine WC.condF rfl ?_ | refine WL.off rfl rfl rfl ?_ | refine WL.off0 rfl rfl ?_ | refine WC.exit ?_ | refine blk_hit ?_ | refine blk_miss rfl ?_ | refine WC.ret ?_)
      exact ⟨(i + 1, S ||| 2 ^ v, max k (pc (lat g S v) : Nat)), by show o.length - (i + 1) < o.length - i; omega, ⟨rfl, rfl, rfl, congrArg (fun z => some (Value.int .i64 z)) e3, rfl, rfl, congrArg (fun z => some (Value.int .i64 z)) step, rfl⟩, hi, or_pow_lt hS hv, hr, hp2⟩
    · have hi : o.length ≤ i := by have := of_decide_eq_false hc; omega
      rw [List.drop_eq_nil_of_le hi, ordL] at hr
      repeat (first | refine WC.seq ?_ | refine WC.reg ?_ | refine WL.pure rfl rfl rfl ?_ | refine WL.nil ?_ | refine WC.skip ?_ | refine WC.block ?_ | refine WC.condT rfl ?_ | refine WC.condF rfl ?_ | refine WL.off rfl rfl rfl ?_ | refine WL.off0 rfl rfl ?_ | refine WC.exit ?_ | refine blk_hit ?_ | refine blk_miss rfl ?_ | refine WC.ret ?_)
      exact Res.two rfl rfl rfl rfl ⟨hp2.nil', by rw [hval, hr]⟩

def BestIs (w : World) (n : Int) (es : List Ed) (v : Value) (w' : World) : Prop := match mkG n es with
  | none => Hp w w' [] ∧ v = .tuple #[.slice none 0 0, .int .i64 2]
  | some g => ∃ a c, Hp w w' [.row 3 1 (.slice a g.length c) g.length (ints (bestO g))] ∧ v = .tuple #[.slice a g.length c, .int .i64 0]
theorem Best_any (ea : Option Addr) (cap : Nat) (n : Int) (es : List Ed) (w : World) (hs : Sl w ea (prs es)) (hlen : es.length ≤ 4611686018427387904) (hT : Tb w) :
    Ret Tryd.prog 28 [.int .i64 n, .slice ea es.length cap] w (BestIs w n es) := by
  refine enter Tryd.func28 rfl rfl ⟨rfl, rfl⟩ rfl ?_
  repeat (first | refine WC.seq ?_ | refine WC.reg ?_ | refine WL.pure rfl rfl rfl ?_ | refine WL.nil ?_ | refine WC.skip ?_ | refine WC.block ?_ | refine WC.condT rfl ?_ | refine WC.condF rfl ?_ | refine WL.off rfl rfl rfl ?_ | refine WL.off0 rfl rfl ?_ | refine WC.exit ?_ | refine blk_hit ?_ | refine blk_miss rfl ?_ | refine WC.ret ?_)
  refine WL.call rfl rfl rfl rfl rfl ent38 (newGraph_any ea cap n es w hs hlen) ?_
  intro v1 w1 hG
  cases hmk : mkG n es with
  | none =>
    obtain ⟨hp1, rfl⟩ := graph_none hG hmk
    repeat (first | refine WC.seq ?_ | refine WC.reg ?_ | refine WL.pure rfl rfl rfl ?_ | refine WL.nil ?_ | refine WC.skip ?_ | refine WC.block ?_ | refine WC.condT rfl ?_ | refine WC.condF rfl ?_ | refine WL.off rfl rfl rfl ?_ | refine WL.off0 rfl rfl ?_ | refine WC.exit ?_ | refine blk_hit ?_ | refine blk_miss rfl ?_ | refine WC.ret ?_)
    exact Res.two rfl rfl rfl rfl (by unfold BestIs; rw [hmk]; exact ⟨hp1, rfl⟩)
  | some g =>
    obtain ⟨hg, _, _, _, _⟩ := mkG_gr hmk
    obtain ⟨bg, hp1, rfl⟩ := graph_hp hG hmk
    repeat (first | refine WC.seq ?_ | refine WC.reg ?_ | refine WL.pure rfl rfl rfl ?_ | refine WL.nil ?_ | refine WC.skip ?_ | refine WC.block ?_ | refine WC.condT rfl ?_ | refine WC.condF rfl ?_ | refine WL.off rfl rfl rfl ?_ | refine WL.off0 rfl rfl ?_ | refine WC.exit ?_ | refine blk_hit ?_ | refine blk_miss rfl ?_ | refine WC.ret ?_)
    refine WL.call rfl rfl rfl rfl rfl ent54 (best_any _ _ g w1 (Sl.of_obj (hp1.obj 0 rfl) (fun i u h => by simpa using h)) (hT.below hp1.below) hg) ?_
    rintro _ w2 ⟨a, c, hp2, rfl⟩
    have hp2 := hp1.comb hp2
    repeat (first | refine WC.seq ?_ | refine WC.reg ?_ | refine WL.pure rfl rfl rfl ?_ | refine WL.nil ?_ | refine WC.skip ?_ | refine WC.block ?_ | refine WC.condT rfl ?_ | refine WC.condF rfl ?_ | refine WL.off rfl rfl rfl ?_ | refine WL.off0 rfl rfl ?_ | refine WC.exit ?_ | refine blk_hit ?_ | refine blk_miss rfl ?_ | refine WC.ret ?_)
    exact Res.two rfl rfl rfl rfl (by unfold BestIs; rw [hmk]; exact ⟨a, c, hp2.pick [0] (by decide), rfl⟩)
end Go.Proofs.YtdnkkflpgebfbaaDoor
