/- The walks of the reference's graph. -/
import Derived.Test.YtdnkkflpgebfbaaDoorL15
namespace Go.Proofs.YtdnkkflpgebfbaaDoor
open Go.W Go.Tree
set_option maxRecDepth 100000
attribute [local irreducible] WC WL WQ WS WH

theorem Graph3_any (ea : Option Addr) (cap : Nat) (n : Int) (es : List Ed) (w : World) (hs : Sl w ea (prs es)) (hlen : es.length ≤ 4611686018427387904) :
    Ret Tryd.prog 47 [.int .i64 n, .slice ea es.length cap, .int .i64 14] w fun v w' => Hp w w' [] ∧ v = .bool (mkG n es).isSome := by
  refine enter Tryd.func47 rfl rfl ⟨rfl, rfl⟩ rfl ?_
  repeat (first | refine WC.seq ?_ | refine WC.reg ?_ | refine WL.pure rfl rfl rfl ?_ | refine WL.nil ?_ | refine WC.skip ?_ | refine WC.block ?_ | refine WC.condT rfl ?_ | refine WC.condF rfl ?_ | refine WL.off rfl rfl rfl ?_ | refine WL.off0 rfl rfl ?_ | refine WC.exit ?_ | refine blk_hit ?_ | refine blk_miss rfl ?_ | refine WC.ret ?_)
  refine WL.split 13 rfl (fun h1 => ?_) (fun h1 => ?_)
  · have h1 : n < 0 := of_decide_eq_true h1
    repeat (first | refine WC.seq ?_ | refine WC.reg ?_ | refine WL.pure rfl rfl rfl ?_ | refine WL.nil ?_ | refine WC.skip ?_ | refine WC.block ?_ | refine WC.condT rfl ?_ | refine WC.condF rfl ?_ | refine WL.off rfl rfl rfl ?_ | refine WL.off0 rfl rfl ?_ | refine WC.exit ?_ | refine blk_hit ?_ | refine blk_miss rfl ?_ | refine WC.ret ?_)
    exact Res.one rfl rfl rfl ⟨Hp.start w, by rw [mkG, if_pos (.inl h1)]; rfl⟩
  have h1 : ¬ n < 0 := of_decide_eq_false h1
  repeat (first | refine WC.seq ?_ | refine WC.reg ?_ | refine WL.pure rfl rfl rfl ?_ | refine WL.nil ?_ | refine WC.skip ?_ | refine WC.block ?_ | refine WC.condT rfl ?_ | refine WC.condF rfl ?_ | refine WL.off rfl rfl rfl ?_ | refine WL.off0 rfl rfl ?_ | refine WC.exit ?_ | refine blk_hit ?_ | refine blk_miss rfl ?_ | refine WC.ret ?_)
  refine WL.split 18 rfl (fun h2 => ?_) (fun h2 => ?_)
  · have h2 : 14 < n := of_decide_eq_true h2
    repeat (first | refine WC.seq ?_ | refine WC.reg ?_ | refine WL.pure rfl rfl rfl ?_ | refine WL.nil ?_ | refine WC.skip ?_ | refine WC.block ?_ | refine WC.condT rfl ?_ | refine WC.condF rfl ?_ | refine WL.off rfl rfl rfl ?_ | refine WL.off0 rfl rfl ?_ | refine WC.exit ?_ | refine blk_hit ?_ | refine blk_miss rfl ?_ | refine WC.ret ?_)
    exact Res.one rfl rfl rfl ⟨Hp.start w, by rw [mkG, if_pos (.inr (.inl h2))]; rfl⟩
  have h2 : ¬ 14 < n := of_decide_eq_false h2
  repeat (first | refine WC.seq ?_ | refine WC.reg ?_ | refine WL.pure rfl rfl rfl ?_ | refine WL.nil ?_ | refine WC.skip ?_ | refine WC.block ?_ | refine WC.condT rfl ?_ | refine WC.condF rfl ?_ | refine WL.off rfl rfl rfl ?_ | refine WL.off0 rfl rfl ?_ | refine WC.exit ?_ | refine blk_hit ?_ | refine blk_miss rfl ?_ | refine WC.ret ?_)
  refine WC.cond rfl (fun h3 => ?_) (fun h3 => ?_)
  · have h3 : 100 < es.length := by have := of_decide_eq_true h3; omega
    repeat (first | refine WC.seq ?_ | refine WC.reg ?_ | refine WL.pure rfl rfl rfl ?_ | refine WL.nil ?_ | refine WC.skip ?_ | refine WC.block ?_ | refine WC.condT rfl ?_ | refine WC.condF rfl ?_ | refine WL.off rfl rfl rfl ?_ | refine WL.off0 rfl rfl ?_ | refine WC.exit ?_ | refine blk_hit ?_ | refine blk_miss rfl ?_ | refine WC.ret ?_)
    exact Res.one rfl rfl rfl ⟨Hp.start w, by rw [mkG, if_pos (.inr (.inr h3))]; rfl⟩
  have h3 : ¬ 100 < es.length := by have := of_decide_eq_false h3; omega
  obtain ⟨m, rfl⟩ := Int.eq_ofNat_of_zero_le (show 0 ≤ n by omega)
  have hm : m ≤ 14 := by omega
  have hmk : mkG (m : Nat) es = addEs m (List.replicate m 0) es := by rw [mkG, if_neg (by omega)]; rfl
  rw [hmk]
  repeat (first | refine WC.seq ?_ | refine WC.reg ?_ | refine WL.pure rfl rfl rfl ?_ | refine WL.nil ?_ | refine WC.skip ?_ | refine WC.block ?_ | refine WC.condT rfl ?_ | refine WC.condF rfl ?_ | refine WL.off rfl rfl rfl ?_ | refine WL.off0 rfl rfl ?_ | refine WC.exit ?_ | refine blk_hit ?_ | refine blk_miss rfl ?_ | refine WC.ret ?_)
  refine WC.loop Nat (fun i => [(0, .int .i64 (m : Nat)), (1, .slice ea es.length cap), (7, .int .i64 (i : Nat))]) (fun i w' => i ≤ es.length ∧ (∃ g, addEs m (List.replicate m 0) (es.take i) = some g) ∧ Hp w w' []) (fun i => es.length - i) 0
    ⟨rfl, rfl, rfl, rfl⟩ ⟨Nat.zero_le _, ⟨_, by rw [List.take_zero, addEs]⟩, Hp.start w⟩ ?_
  rintro i w1 ⟨hi, ⟨g, hg⟩, hp1⟩
  repeat (first | refine WC.seq ?_ | refine WC.reg ?_ | refine WL.pure rfl rfl rfl ?_ | refine WL.nil ?_ | refine WC.skip ?_ | refine WC.block ?_ | refine WC.condT rfl ?_ | refine WC.condF rfl ?_ | refine WL.off rfl rfl rfl ?_ | refine WL.off0 rfl rfl ?_ | refine WC.exit ?_ | refine blk_hit ?_ | refine blk_miss rfl ?_ | refine WC.ret ?_)
  refine WC.cond rfl (fun hc => ?_) (fun hc => ?_)
  · have hi : i < es.length := by have := of_decide_eq_true hc; omega
    have step : IntKind.i64.wrap ((i : Int) + 1) = ((i + 1 : Nat) : Int) := by rw [wrap_i64_in (by omega) (by omega)]; omega
    obtain ⟨be, oe, rfl⟩ := Sl.some hs (prs_get hi).1
    obtain ⟨hgg, hgl⟩ := addEs_gr _ _ _ (zero_gr hm) (by simp) hg
    have hbits := addEs_bits hm _ _ hg
    have hgood := take_good hg hi
    have hbad := take_bad hg hi
    have lod : ∀ (k : Nat) (hk : k < es.length) (w2 : World), Hp w w2 [] → ∀ j v, (pr es[k])[j]? = some v → w2.cell? ⟨be, oe + k * 2 + j, none⟩ = some v := by
      intro k hk w2 h2 j v hj
      rw [Nat.add_assoc]
      exact Sl.cell (hs.hp h2) (prs_at es k hk j v hj)
    have lod0 : ∀ (k : Nat) (hk : k < es.length) (w2 : World), Hp w w2 [] → w2.cell? ⟨be, oe + k * 2 + 0 * 1, none⟩ = some (.int .i64 (es[k]).1) := fun k hk w2 h2 => lod k hk w2 h2 0 _ rfl
    have lod1 : ∀ (k : Nat) (hk : k < es.length) (w2 : World), Hp w w2 [] → w2.cell? ⟨be, oe + k * 2 + 1 * 1, none⟩ = some (.int .i64 (es[k]).2) := fun k hk w2 h2 => lod k hk w2 h2 1 _ rfl
    have hdup : (∃ k, ∃ hk : k < es.length, k < i ∧ (es[k] = es[i] ∨ (es[k].1 = es[i].2 ∧ es[k].2 = es[i].1))) → hasE (es.take i) (es[i]).1 (es[i]).2 := by
      rintro ⟨k, hk, hki, h⟩
      refine ⟨es[k], ?_, h.imp (fun h => by rw [h]) (fun h => Prod.ext h.1 h.2)⟩
      rw [List.mem_take_iff_getElem]
      exact ⟨k, by omega, rfl⟩
    have hnodup : hasE (es.take i) (es[i]).1 (es[i]).2 → ∃ k, ∃ hk : k < es.length, k < i ∧ (es[k] = es[i] ∨ (es[k].1 = es[i].2 ∧ es[k].2 = es[i].1)) := by
      rintro ⟨e, he, h⟩
      rw [List.mem_take_iff_getElem] at he
      obtain ⟨k, hk, rfl⟩ := he
      exact ⟨k, by omega, by omega, h.imp id (fun h => by rw [h]; exact ⟨rfl, rfl⟩)⟩
    repeat (first | refine WC.seq ?_ | refine WC.reg ?_ | refine WL.pure rfl rfl rfl ?_ | refine WL.nil ?_ | refine WC.skip ?_ | refine WC.block ?_ | refine WC.condT rfl ?_ | refine WC.condF rfl ?_ | refine WL.off rfl rfl rfl ?_ | refine WL.off0 rfl rfl ?_ | refine WC.exit ?_ | refine blk_hit ?_ | refine blk_miss rfl ?_ | refine WC.ret ?_)
    refine WC.regQ (fun w2 => Hp w w2 []) mixed (by kernel_rfl) (fun w2 hw2 => hp1.keep hw2) ?_
    repeat (first | refine WQ.pure rfl rfl rfl ?_ | refine WQ.off rfl rfl rfl ?_ | refine WQ.nil ?_)
    refine WQ.ix rfl rfl rfl rfl rfl rfl hi ?_
    repeat (first | refine WQ.pure rfl rfl rfl ?_ | refine WQ.off rfl rfl rfl ?_ | refine WQ.nil ?_)
    refine WQ.load rfl rfl rfl rfl rfl (fun w2 h2 => lod0 i hi w2 h2) ?_
    repeat (first | refine WQ.pure rfl rfl rfl ?_ | refine WQ.off rfl rfl rfl ?_ | refine WQ.nil ?_)
    refine WQ.ix rfl rfl rfl rfl rfl rfl hi ?_
    repeat (first | refine WQ.pure rfl rfl rfl ?_ | refine WQ.off rfl rfl rfl ?_ | refine WQ.nil ?_)
    refine WQ.load rfl rfl rfl rfl rfl (fun w2 h2 => lod1 i hi w2 h2) ?_
    repeat (first | refine WQ.pure rfl rfl rfl ?_ | refine WQ.off rfl rfl rfl ?_ | refine WQ.nil ?_)
    intro w2 hp2
    generalize hee : es[i] = ee at *
    obtain ⟨a, b⟩ := ee
    simp only at *
    have K : ∀ w3, Hp w w3 [] → Bad m g (a, b) → Hp w w3 [] ∧ Value.bool false = Value.bool (addEs m (List.replicate m 0) es).isSome := fun w3 h3 hb => ⟨h3, by rw [hbad hb]; rfl⟩
    repeat (first | refine WC.seq ?_ | refine WC.reg ?_ | refine WL.pure rfl rfl rfl ?_ | refine WL.nil ?_ | refine WC.skip ?_ | refine WC.block ?_ | refine WC.condT rfl ?_ | refine WC.condF rfl ?_ | refine WL.off rfl rfl rfl ?_ | refine WL.off0 rfl rfl ?_ | refine WC.exit ?_ | refine blk_hit ?_ | refine blk_miss rfl ?_ | refine WC.ret ?_)
    refine WL.split 41 rfl (fun q1 => ?_) (fun q1 => ?_)
    · repeat (first | refine WC.seq ?_ | refine WC.reg ?_ | refine WL.pure rfl rfl rfl ?_ | refine WL.nil ?_ | refine WC.skip ?_ | refine WC.block ?_ | refine WC.condT rfl ?_ | refine WC.condF rfl ?_ | refine WL.off rfl rfl rfl ?_ | refine WL.off0 rfl rfl ?_ | refine WC.exit ?_ | refine blk_hit ?_ | refine blk_miss rfl ?_ | refine WC.ret ?_)
      exact Res.one rfl rfl rfl (K _ hp2 (.inl (of_decide_eq_true q1)))
    have r1 : ¬ a < 0 := of_decide_eq_false q1
    repeat (first | refine WC.seq ?_ | refine WC.reg ?_ | refine WL.pure rfl rfl rfl ?_ | refine WL.nil ?_ | refine WC.skip ?_ | refine WC.block ?_ | refine WC.condT rfl ?_ | refine WC.condF rfl ?_ | refine WL.off rfl rfl rfl ?_ | refine WL.off0 rfl rfl ?_ | refine WC.exit ?_ | refine blk_hit ?_ | refine blk_miss rfl ?_ | refine WC.ret ?_)
    refine WL.split 46 rfl (fun q2 => ?_) (fun q2 => ?_)
    · repeat (first | refine WC.seq ?_ | refine WC.reg ?_ | refine WL.pure rfl rfl rfl ?_ | refine WL.nil ?_ | refine WC.skip ?_ | refine WC.block ?_ | refine WC.condT rfl ?_ | refine WC.condF rfl ?_ | refine WL.off rfl rfl rfl ?_ | refine WL.off0 rfl rfl ?_ | refine WC.exit ?_ | refine blk_hit ?_ | refine blk_miss rfl ?_ | refine WC.ret ?_)
      exact Res.one rfl rfl rfl (K _ hp2 (.inr (.inl (of_decide_eq_true q2))))
    have r2 : ¬ (m : Int) ≤ a := of_decide_eq_false q2
    repeat (first | refine WC.seq ?_ | refine WC.reg ?_ | refine WL.pure rfl rfl rfl ?_ | refine WL.nil ?_ | refine WC.skip ?_ | refine WC.block ?_ | refine WC.condT rfl ?_ | refine WC.condF rfl ?_ | refine WL.off rfl rfl rfl ?_ | refine WL.off0 rfl rfl ?_ | refine WC.exit ?_ | refine blk_hit ?_ | refine blk_miss rfl ?_ | refine WC.ret ?_)
    refine WL.split 50 rfl (fun q3 => ?_) (fun q3 => ?_)
    · repeat (first | refine WC.seq ?_ | refine WC.reg ?_ | refine WL.pure rfl rfl rfl ?_ | refine WL.nil ?_ | refine WC.skip ?_ | refine WC.block ?_ | refine WC.condT rfl ?_ | refine WC.condF rfl ?_ | refine WL.off rfl rfl rfl ?_ | refine WL.off0 rfl rfl ?_ | refine WC.exit ?_ | refine blk_hit ?_ | refine blk_miss rfl ?_ | refine WC.ret ?_)
      exact Res.one rfl rfl rfl (K _ hp2 (.inr (.inr (.inl (of_decide_eq_true q3)))))
    have r3 : ¬ b < 0 := of_decide_eq_false q3
    repeat (first | refine WC.seq ?_ | refine WC.reg ?_ | refine WL.pure rfl rfl rfl ?_ | refine WL.nil ?_ | refine WC.skip ?_ | refine WC.block ?_ | refine WC.condT rfl ?_ | refine WC.condF rfl ?_ | refine WL.off rfl rfl rfl ?_ | refine WL.off0 rfl rfl ?_ | refine WC.exit ?_ | refine blk_hit ?_ | refine blk_miss rfl ?_ | refine WC.ret ?_)
    refine WL.split 55 rfl (fun q4 => ?_) (fun q4 => ?_)
    · repeat (first | refine WC.seq ?_ | refine WC.reg ?_ | refine WL.pure rfl rfl rfl ?_ | refine WL.nil ?_ | refine WC.skip ?_ | refine WC.block ?_ | refine WC.condT rfl ?_ | refine WC.condF rfl ?_ | refine WL.off rfl rfl rfl ?_ | refine WL.off0 rfl rfl ?_ | refine WC.exit ?_ | refine blk_hit ?_ | refine blk_miss rfl ?_ | refine WC.ret ?_)
      exact Res.one rfl rfl rfl (K _ hp2 (.inr (.inr (.inr (.inl (of_decide_eq_true q4))))))
    have r4 : ¬ (m : Int) ≤ b := of_decide_eq_false q4
    repeat (first | refine WC.seq ?_ | refine WC.reg ?_ | refine WL.pure rfl rfl rfl ?_ | refine WL.nil ?_ | refine WC.skip ?_ | refine WC.block ?_ | refine WC.condT rfl ?_ | refine WC.condF rfl ?_ | refine WL.off rfl rfl rfl ?_ | refine WL.off0 rfl rfl ?_ | refine WC.exit ?_ | refine blk_hit ?_ | refine blk_miss rfl ?_ | refine WC.ret ?_)
    refine WC.cond rfl (fun q5 => ?_) (fun q5 => ?_)
    · repeat (first | refine WC.seq ?_ | refine WC.reg ?_ | refine WL.pure rfl rfl rfl ?_ | refine WL.nil ?_ | refine WC.skip ?_ | refine WC.block ?_ | refine WC.condT rfl ?_ | refine WC.condF rfl ?_ | refine WL.off rfl rfl rfl ?_ | refine WL.off0 rfl rfl ?_ | refine WC.exit ?_ | refine blk_hit ?_ | refine blk_miss rfl ?_ | refine WC.ret ?_)
      exact Res.one rfl rfl rfl (K _ hp2 (.inr (.inr (.inr (.inr (.inl (by simpa using q5)))))))
    have r5 : a ≠ b := by simpa using q5
    obtain ⟨a, rfl⟩ := Int.eq_ofNat_of_zero_le (show 0 ≤ a by omega)
    obtain ⟨b, rfl⟩ := Int.eq_ofNat_of_zero_le (show 0 ≤ b by omega)
    have hb1 := hbits a b (by omega) (by omega)
    have Bdup : (∃ k, ∃ hk : k < es.length, k < i ∧ (es[k] = ((a : Int), (b : Int)) ∨ (es[k].1 = (b : Int) ∧ es[k].2 = (a : Int)))) → Bad m g ((a : Int), (b : Int)) := fun h =>
      .inr (.inr (.inr (.inr (.inr (by simp only [Int.toNat_natCast]; exact hb1.2 (hdup h))))))
    have Bno : (∀ k, ∀ hk : k < es.length, k < i → ¬ (es[k] = ((a : Int), (b : Int)) ∨ (es[k].1 = (b : Int) ∧ es[k].2 = (a : Int)))) → ¬ Bad m g ((a : Int), (b : Int)) := by
      intro hA hB
      unfold Bad at hB
      simp only [Int.toNat_natCast] at hB
      rcases hB with h | h | h | h | h | h
      · exact r1 h
      · exact r2 h
      · exact r3 h
      · exact r4 h
      · exact r5 h
      · obtain ⟨k, hk, hki, hd⟩ := hnodup (hb1.1 h)
        exact absurd hd (hA k hk hki)
    repeat (first | refine WC.seq ?_ | refine WC.reg ?_ | refine WL.pure rfl rfl rfl ?_ | refine WL.nil ?_ | refine WC.skip ?_ | refine WC.block ?_ | refine WC.condT rfl ?_ | refine WC.condF rfl ?_ | refine WL.off rfl rfl rfl ?_ | refine WL.off0 rfl rfl ?_ | refine WC.exit ?_ | refine blk_hit ?_ | refine blk_miss rfl ?_ | refine WC.ret ?_)
    refine WC.loop Nat (fun k => [(0, .int .i64 (m : Nat)), (1, .slice (some ⟨be, oe, none⟩) es.length cap), (7, .int .i64 (i : Nat)), (8, .int .i64 (a : Nat)), (9, .int .i64 (b : Nat)), (10, .int .i64 (k : Nat))])
      (fun k w' => k ≤ i ∧ (∀ k', ∀ hk : k' < es.length, k' < k → ¬ (es[k'] = ((a : Int), (b : Int)) ∨ (es[k'].1 = (b : Int) ∧ es[k'].2 = (a : Int)))) ∧ Hp w w' []) (fun k => i - k) 0 ⟨rfl, rfl, rfl, rfl, rfl, rfl, rfl⟩ ⟨Nat.zero_le _, (fun k hk h => by omega), hp2⟩ ?_
    rintro k w3 ⟨hk, hno, hp3⟩
    repeat (first | refine WC.seq ?_ | refine WC.reg ?_ | refine WL.pure rfl rfl rfl ?_ | refine WL.nil ?_ | refine WC.skip ?_ | refine WC.block ?_ | refine WC.condT rfl ?_ | refine WC.condF rfl ?_ | refine WL.off rfl rfl rfl ?_ | refine WL.off0 rfl rfl ?_ | refine WC.exit ?_ | refine blk_hit ?_ | refine blk_miss rfl ?_ | refine WC.ret ?_)
    refine WC.cond rfl (fun hc2 => ?_) (fun hc2 => ?_)
    · have hk : k < i := by have := of_decide_eq_true hc2; omega
      have hkl : k < es.length := by omega
      have step2 : IntKind.i64.wrap ((k : Int) + 1) = ((k + 1 : Nat) : Int) := by rw [wrap_i64_in (by omega) (by omega)]; omega
      have loi : ∀ (w2 : World), Hp w w2 [] → ∀ j v, (pr ((a : Int), (b : Int)))[j]? = some v → w2.cell? ⟨be, oe + i * 2 + j, none⟩ = some v := fun w2 h2 j v hj => lod i hi w2 h2 j v (by rw [hee]; exact hj)
      have no : ¬ (es[k] = ((a : Int), (b : Int)) ∨ (es[k].1 = (b : Int) ∧ es[k].2 = (a : Int))) → ∀ k', ∀ hk : k' < es.length, k' < k + 1 → ¬ (es[k'] = ((a : Int), (b : Int)) ∨ (es[k'].1 = (b : Int) ∧ es[k'].2 = (a : Int))) := by
        intro h k' hk' hlt
        rcases Nat.lt_or_ge k' k with h4 | h4
        · exact hno k' hk' h4
        · have : k' = k := by omega
          subst this; exact h
      repeat (first | refine WC.seq ?_ | refine WC.reg ?_ | refine WL.pure rfl rfl rfl ?_ | refine WL.nil ?_ | refine WC.skip ?_ | refine WC.block ?_ | refine WC.condT rfl ?_ | refine WC.condF rfl ?_ | refine WL.off rfl rfl rfl ?_ | refine WL.off0 rfl rfl ?_ | refine WC.exit ?_ | refine blk_hit ?_ | refine blk_miss rfl ?_ | refine WC.ret ?_)
      refine WC.regQ (fun w2 => Hp w w2 []) mixed (by kernel_rfl) (fun w2 hw2 => hp3.keep hw2) ?_
      repeat (first | refine WQ.pure rfl rfl rfl ?_ | refine WQ.off rfl rfl rfl ?_ | refine WQ.nil ?_)
      refine WQ.ix rfl rfl rfl rfl rfl rfl hkl ?_
      refine WQ.loadN (cs := pr es[k]) rfl rfl rfl rfl rfl rfl (fun w2 h2 => lod k hkl w2 h2) ?_
      repeat (first | refine WQ.pure rfl rfl rfl ?_ | refine WQ.off rfl rfl rfl ?_ | refine WQ.nil ?_)
      refine WQ.ix rfl rfl rfl rfl rfl rfl hi ?_
      refine WQ.loadN (cs := pr ((a : Int), (b : Int))) rfl rfl rfl rfl rfl rfl loi ?_
      refine WQ.cmp2 rfl rfl rfl rfl (by kernel_rfl) rfl rfl (.inl ⟨rfl, rfl⟩) ?_
      refine WQ.pure rfl rfl rfl ?_
      refine WQ.split 74 rfl (fun s1 => ?_) (fun s1 => ?_)
      · repeat (first | refine WQ.pure rfl rfl rfl ?_ | refine WQ.off rfl rfl rfl ?_ | refine WQ.nil ?_)
        intro w4 hp4
        repeat (first | refine WC.seq ?_ | refine WC.reg ?_ | refine WL.pure rfl rfl rfl ?_ | refine WL.nil ?_ | refine WC.skip ?_ | refine WC.block ?_ | refine WC.condT rfl ?_ | refine WC.condF rfl ?_ | refine WL.off rfl rfl rfl ?_ | refine WL.off0 rfl rfl ?_ | refine WC.exit ?_ | refine blk_hit ?_ | refine blk_miss rfl ?_ | refine WC.ret ?_)
        refine Res.one rfl rfl rfl (K _ hp4 (Bdup ⟨k, hkl, hk, .inl ?_⟩))
        simp at s1
        exact Prod.ext s1.1 s1.2
      have s1' : es[k] ≠ ((a : Int), (b : Int)) := by intro h; rw [h] at s1; simp at s1
      repeat (first | refine WQ.pure rfl rfl rfl ?_ | refine WQ.off rfl rfl rfl ?_ | refine WQ.nil ?_)
      refine WQ.ix rfl rfl rfl rfl rfl rfl hkl ?_
      repeat (first | refine WQ.pure rfl rfl rfl ?_ | refine WQ.off rfl rfl rfl ?_ | refine WQ.nil ?_)
      refine WQ.load rfl rfl rfl rfl rfl (fun w2 h2 => lod0 k hkl w2 h2) ?_
      repeat (first | refine WQ.pure rfl rfl rfl ?_ | refine WQ.off rfl rfl rfl ?_ | refine WQ.nil ?_)
      refine WQ.split 82 rfl (fun s2 => ?_) (fun s2 => ?_)
      · have s2 : es[k].1 = (b : Int) := by simpa using s2
        repeat (first | refine WQ.pure rfl rfl rfl ?_ | refine WQ.off rfl rfl rfl ?_ | refine WQ.nil ?_)
        refine WQ.ix rfl rfl rfl rfl rfl rfl hkl ?_
        repeat (first | refine WQ.pure rfl rfl rfl ?_ | refine WQ.off rfl rfl rfl ?_ | refine WQ.nil ?_)
        refine WQ.load rfl rfl rfl rfl rfl (fun w2 h2 => lod1 k hkl w2 h2) ?_
        repeat (first | refine WQ.pure rfl rfl rfl ?_ | refine WQ.off rfl rfl rfl ?_ | refine WQ.nil ?_)
        intro w4 hp4
        repeat (first | refine WC.seq ?_ | refine WC.reg ?_ | refine WL.pure rfl rfl rfl ?_ | refine WL.nil ?_ | refine WC.skip ?_ | refine WC.block ?_ | refine WC.condT rfl ?_ | refine WC.condF rfl ?_ | refine WL.off rfl rfl rfl ?_ | refine WL.off0 rfl rfl ?_ | refine WC.exit ?_ | refine blk_hit ?_ | refine blk_miss rfl ?_ | refine WC.ret ?_)
        refine WC.cond rfl (fun s3 => ?_) (fun s3 => ?_)
        · have s3 : es[k].2 = (a : Int) := by simpa using s3
          repeat (first | refine WC.seq ?_ | refine WC.reg ?_ | refine WL.pure rfl rfl rfl ?_ | refine WL.nil ?_ | refine WC.skip ?_ | refine WC.block ?_ | refine WC.condT rfl ?_ | refine WC.condF rfl ?_ | refine WL.off rfl rfl rfl ?_ | refine WL.off0 rfl rfl ?_ | refine WC.exit ?_ | refine blk_hit ?_ | refine blk_miss rfl ?_ | refine WC.ret ?_)
          exact Res.one rfl rfl rfl (K _ hp4 (Bdup ⟨k, hkl, hk, .inr ⟨s2, s3⟩⟩))
        · have s3 : ¬ es[k].2 = (a : Int) := by simpa using s3
          repeat (first | refine WC.seq ?_ | refine WC.reg ?_ | refine WL.pure rfl rfl rfl ?_ | refine WL.nil ?_ | refine WC.skip ?_ | refine WC.block ?_ | refine WC.condT rfl ?_ | refine WC.condF rfl ?_ | refine WL.off rfl rfl rfl ?_ | refine WL.off0 rfl rfl ?_ | refine WC.exit ?_ | refine blk_hit ?_ | refine blk_miss rfl ?_ | refine WC.ret ?_)
          exact ⟨k + 1, by show i - (k + 1) < i - k; omega, ⟨rfl, rfl, rfl, rfl, rfl, congrArg (fun z => some (Value.int .i64 z)) step2, rfl⟩, hk, no (fun h => h.elim s1' (fun h => s3 h.2)), hp4⟩
      · have s2 : ¬ es[k].1 = (b : Int) := by simpa using s2
        repeat (first | refine WQ.pure rfl rfl rfl ?_ | refine WQ.off rfl rfl rfl ?_ | refine WQ.nil ?_)
        intro w4 hp4
        repeat (first | refine WC.seq ?_ | refine WC.reg ?_ | refine WL.pure rfl rfl rfl ?_ | refine WL.nil ?_ | refine WC.skip ?_ | refine WC.block ?_ | refine WC.condT rfl ?_ | refine WC.condF rfl ?_ | refine WL.off rfl rfl rfl ?_ | refine WL.off0 rfl rfl ?_ | refine WC.exit ?_ | refine blk_hit ?_ | refine blk_miss rfl ?_ | refine WC.ret ?_)
        exact ⟨k + 1, by show i - (k + 1) < i - k; omega, ⟨rfl, rfl, rfl, rfl, rfl, congrArg (fun z => some (Value.int .i64 z)) step2, rfl⟩, hk, no (fun h => h.elim s1' (fun h => s2 h.1)), hp4⟩
    · have hk : k = i := by have := of_decide_eq_false hc2; omega
      subst hk
      repeat (first | refine WC.seq ?_ | refine WC.reg ?_ | refine WL.pure rfl rfl rfl ?_ | refine WL.nil ?_ | refine WC.skip ?_ | refine WC.block ?_ | refine WC.condT rfl ?_ | refine WC.condF rfl ?_ | refine WL.off rfl rfl rfl ?_ | refine WL.off0 rfl rfl ?_ | refine WC.exit ?_ | refine blk_hit ?_ | refine blk_miss rfl ?_ | refine WC.ret ?_)
      exact ⟨k + 1, by show es.length - (k + 1) < es.length - k; omega, ⟨rfl, rfl, congrArg (fun z => some (Value.int .i64 z)) step, rfl⟩, hi, ⟨_, hgood (Bno hno)⟩, hp3⟩
  · have hi : es.length ≤ i := by have := of_decide_eq_false hc; omega
    rw [List.take_of_length_le hi] at hg
    repeat (first | refine WC.seq ?_ | refine WC.reg ?_ | refine WL.pure rfl rfl rfl ?_ | refine WL.nil ?_ | refine WC.skip ?_ | refine WC.block ?_ | refine WC.condT rfl ?_ | refine WC.condF rfl ?_ | refine WL.off rfl rfl rfl ?_ | refine WL.off0 rfl rfl ?_ | refine WC.exit ?_ | refine blk_hit ?_ | refine blk_miss rfl ?_ | refine WC.ret ?_)
    exact Res.one rfl rfl rfl ⟨hp1, by rw [hg]; rfl⟩

theorem Graph_any (ea : Option Addr) (cap : Nat) (n : Int) (es : List Ed) (w : World) (hs : Sl w ea (prs es)) (hlen : es.length ≤ 4611686018427387904) :
    Ret Tryd.prog 18 [.int .i64 n, .slice ea es.length cap] w fun v w' => Hp w w' [] ∧ v = .bool (mkG n es).isSome := by
  refine enter Tryd.func18 rfl rfl ⟨rfl, rfl⟩ rfl ?_
  repeat (first | refine WC.seq ?_ | refine WC.reg ?_ | refine WL.pure rfl rfl rfl ?_ | refine WL.nil ?_ | refine WC.skip ?_ | refine WC.block ?_ | refine WC.condT rfl ?_ | refine WC.condF rfl ?_ | refine WL.off rfl rfl rfl ?_ | refine WL.off0 rfl rfl ?_ | refine WC.exit ?_ | refine blk_hit ?_ | refine blk_miss rfl ?_ | refine WC.ret ?_)
  refine WL.call rfl rfl rfl rfl rfl ent47 (Graph3_any ea cap n es w hs hlen) ?_
  rintro _ w1 ⟨hp1, rfl⟩
  repeat (first | refine WC.seq ?_ | refine WC.reg ?_ | refine WL.pure rfl rfl rfl ?_ | refine WL.nil ?_ | refine WC.skip ?_ | refine WC.block ?_ | refine WC.condT rfl ?_ | refine WC.condF rfl ?_ | refine WL.off rfl rfl rfl ?_ | refine WL.off0 rfl rfl ?_ | refine WC.exit ?_ | refine blk_hit ?_ | refine blk_miss rfl ?_ | refine WC.ret ?_)
  exact Res.one rfl rfl rfl ⟨hp1, rfl⟩
end Go.Proofs.YtdnkkflpgebfbaaDoor
