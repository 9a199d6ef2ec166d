/- The walk of 'newGraph'. -/
import Derived.Test.YtdnkkflpgebfbaaDoorL2
import Derived.Test.YtdnkkflpgebfbaaDoorMk
namespace Go.Proofs.YtdnkkflpgebfbaaDoor
open Go.W Go.Tree
set_option maxRecDepth 100000
attribute [local irreducible] WC WL WQ WS

/-- What newGraph hands back. -/
def GraphIs (w : World) (n : Int) (es : List Ed) (v : Value) (w' : World) : Prop :=
  RowKit.Below w.heap.size w w' ∧
  match mkG n es with
  | none => v = .tuple #[.slice none 0 0, .bool false]
  | some g => ∃ b, w.heap.size ≤ b ∧ w'.heap[b]? = some (.cells (ints g).toArray 76 (0, 0)) ∧ v = .tuple #[.slice (some ⟨b, 0, none⟩) g.length g.length, .bool true]

theorem ints_len (xs : List Nat) : (ints xs).length = xs.length := by simp [ints]
theorem ints_set (xs : List Nat) (i x : Nat) : (ints xs).toArray.setIfInBounds i (.int .i64 x) = (ints (xs.set i x)).toArray := by
  rw [← Array.toList_inj]; simp [ints, List.map_set]

theorem newGraph_any (ea : Option Addr) (cap : Nat) (n : Int) (es : List Ed) (w : World) (hs : Sl w ea (prs es)) (hlen : es.length ≤ 4611686018427387904) :
    Ret Tryd.prog 38 [.int .i64 n, .slice ea es.length cap] w (GraphIs w n es) := by
  refine enter Tryd.func38 rfl rfl ⟨rfl, rfl⟩ rfl ?_
  repeat (first | refine WC.seq ?_ | refine WC.reg ?_ | refine WL.pure rfl rfl rfl ?_ | refine WL.nil ?_ | refine WC.skip ?_ | refine WC.block ?_ | refine WC.condT rfl ?_ | refine WC.condF rfl ?_ | refine WL.off rfl rfl rfl ?_ | refine WL.off0 rfl rfl ?_ | refine WC.exit ?_ | refine blk_hit ?_ | refine blk_miss rfl ?_ | refine WC.ret ?_)
  refine WL.split 13 rfl (fun h1 => ?_) (fun h1 => ?_)
  · have h1 : n < 0 := by simpa using h1
    repeat (first | refine WC.seq ?_ | refine WC.reg ?_ | refine WL.pure rfl rfl rfl ?_ | refine WL.nil ?_ | refine WC.skip ?_ | refine WC.block ?_ | refine WC.condT rfl ?_ | refine WC.condF rfl ?_ | refine WL.off rfl rfl rfl ?_ | refine WL.off0 rfl rfl ?_ | refine WC.exit ?_ | refine blk_hit ?_ | refine blk_miss rfl ?_ | refine WC.ret ?_)
    refine Res.two rfl rfl rfl rfl ⟨RowKit.Below.refl _ _, ?_⟩
    rw [mkG, if_pos (.inl h1)]
  have h1 : 0 ≤ n := by simpa using h1
  repeat (first | refine WC.seq ?_ | refine WC.reg ?_ | refine WL.pure rfl rfl rfl ?_ | refine WL.nil ?_ | refine WC.skip ?_ | refine WC.block ?_ | refine WC.condT rfl ?_ | refine WC.condF rfl ?_ | refine WL.off rfl rfl rfl ?_ | refine WL.off0 rfl rfl ?_ | refine WC.exit ?_ | refine blk_hit ?_ | refine blk_miss rfl ?_ | refine WC.ret ?_)
  refine WL.split 17 rfl (fun h2 => ?_) (fun h2 => ?_)
  · have h2 : 14 < n := by simpa using h2
    repeat (first | refine WC.seq ?_ | refine WC.reg ?_ | refine WL.pure rfl rfl rfl ?_ | refine WL.nil ?_ | refine WC.skip ?_ | refine WC.block ?_ | refine WC.condT rfl ?_ | refine WC.condF rfl ?_ | refine WL.off rfl rfl rfl ?_ | refine WL.off0 rfl rfl ?_ | refine WC.exit ?_ | refine blk_hit ?_ | refine blk_miss rfl ?_ | refine WC.ret ?_)
    refine Res.two rfl rfl rfl rfl ⟨RowKit.Below.refl _ _, ?_⟩
    rw [mkG, if_pos (.inr (.inl h2))]
  have h2 : n ≤ 14 := by simpa using h2
  repeat (first | refine WC.seq ?_ | refine WC.reg ?_ | refine WL.pure rfl rfl rfl ?_ | refine WL.nil ?_ | refine WC.skip ?_ | refine WC.block ?_ | refine WC.condT rfl ?_ | refine WC.condF rfl ?_ | refine WL.off rfl rfl rfl ?_ | refine WL.off0 rfl rfl ?_ | refine WC.exit ?_ | refine blk_hit ?_ | refine blk_miss rfl ?_ | refine WC.ret ?_)
  refine WC.cond rfl (fun h3 => ?_) (fun h3 => ?_)
  · have h3 : 100 < es.length := by simp at h3; omega
    repeat (first | refine WC.seq ?_ | refine WC.reg ?_ | refine WL.pure rfl rfl rfl ?_ | refine WL.nil ?_ | refine WC.skip ?_ | refine WC.block ?_ | refine WC.condT rfl ?_ | refine WC.condF rfl ?_ | refine WL.off rfl rfl rfl ?_ | refine WL.off0 rfl rfl ?_ | refine WC.exit ?_ | refine blk_hit ?_ | refine blk_miss rfl ?_ | refine WC.ret ?_)
    refine Res.two rfl rfl rfl rfl ⟨RowKit.Below.refl _ _, ?_⟩
    rw [mkG, if_pos (.inr (.inr h3))]
  have h3 : es.length ≤ 100 := by simp at h3; omega
  obtain ⟨m, rfl⟩ := Int.eq_ofNat_of_zero_le h1
  have hm : m ≤ 14 := by omega
  repeat (first | refine WC.seq ?_ | refine WC.reg ?_ | refine WL.pure rfl rfl rfl ?_ | refine WL.nil ?_ | refine WC.skip ?_ | refine WC.block ?_ | refine WC.condT rfl ?_ | refine WC.condF rfl ?_ | refine WL.off rfl rfl rfl ?_ | refine WL.off0 rfl rfl ?_ | refine WC.exit ?_ | refine blk_hit ?_ | refine blk_miss rfl ?_ | refine WC.ret ?_)
  refine WL.make (m := m) rfl rfl rfl rfl rfl rfl rfl rfl ?_ ?_ ?_
  · show 8 * m ≤ _; omega
  · unfold maxLen; omega
  intro b w1 hb1
  have hz : (List.replicate m ti76.zero) = ints (List.replicate m 0) := by simp only [ints, List.map_replicate]; rfl
  rw [hz] at hb1
  have hp1 := (Hp.start w).new hb1
  repeat (first | refine WC.seq ?_ | refine WC.reg ?_ | refine WL.pure rfl rfl rfl ?_ | refine WL.nil ?_ | refine WC.skip ?_ | refine WC.block ?_ | refine WC.condT rfl ?_ | refine WC.condF rfl ?_ | refine WL.off rfl rfl rfl ?_ | refine WL.off0 rfl rfl ?_ | refine WC.exit ?_ | refine blk_hit ?_ | refine blk_miss rfl ?_ | refine WC.ret ?_)
  refine WC.loop (Nat × List Nat) (fun (i, g) => [(0, .int .i64 (m : Nat)), (6, .slice (some ⟨b, 0, none⟩) m m), (24, .slice ea es.length cap), (25, .int .i64 (es.length : Nat)), (26, .int .i64 (i : Nat))])
    (fun (i, g) w' => i ≤ es.length ∧ Gr g ∧ g.length = m ∧ Hp w w' [.blk b (.cells (ints g).toArray 76 (0, 0))] ∧ addEs m (List.replicate m 0) es = addEs m g (es.drop i)) (fun (i, g) => es.length - i) (0, List.replicate m 0)
    ⟨rfl, rfl, rfl, rfl, rfl, rfl⟩ ⟨Nat.zero_le _, zero_gr hm, by simp, hp1, rfl⟩ ?_
  rintro ⟨i, g⟩ w' ⟨hi, hg, hgl, hp, hrun⟩
  subst hgl
  repeat (first | refine WC.seq ?_ | refine WC.reg ?_ | refine WL.pure rfl rfl rfl ?_ | refine WL.nil ?_ | refine WC.skip ?_ | refine WC.block ?_ | refine WC.condT rfl ?_ | refine WC.condF rfl ?_ | refine WL.off rfl rfl rfl ?_ | refine WL.off0 rfl rfl ?_ | refine WC.exit ?_ | refine blk_hit ?_ | refine blk_miss rfl ?_ | refine WC.ret ?_)
  refine WC.cond rfl (fun hc => ?_) (fun hc => ?_)
  · have hlt : i < es.length := by simp at hc; omega
    have hdrop : es.drop i = es[i] :: es.drop (i + 1) := List.drop_eq_getElem_cons hlt
    generalize he : es[i] = e at hdrop
    obtain ⟨u, v⟩ := e
    repeat (first | refine WC.seq ?_ | refine WC.reg ?_ | refine WL.pure rfl rfl rfl ?_ | refine WL.nil ?_ | refine WC.skip ?_ | refine WC.block ?_ | refine WC.condT rfl ?_ | refine WC.condF rfl ?_ | refine WL.off rfl rfl rfl ?_ | refine WL.off0 rfl rfl ?_ | refine WC.exit ?_ | refine blk_hit ?_ | refine blk_miss rfl ?_ | refine WC.ret ?_)
    refine WL.ixloadN rfl (fun _ => rfl) rfl rfl rfl rfl rfl rfl rfl rfl (cs' := pr (u, v)) hlt rfl rfl (hs.hp hp) rfl (fun q x hq => prs_at es i hlt q x (by rw [he]; exact hq)) ?_
    intro p
    refine WL.var rfl rfl rfl (fun _ => rfl) rfl rfl (by intro y hy; simp [pr, Value.cells] at hy; rcases hy with rfl | rfl <;> rfl) ?_
    intro c w2 hc2
    have hp2 := hp.new hc2
    repeat (first | refine WC.seq ?_ | refine WC.reg ?_ | refine WL.pure rfl rfl rfl ?_ | refine WL.nil ?_ | refine WC.skip ?_ | refine WC.block ?_ | refine WC.condT rfl ?_ | refine WC.condF rfl ?_ | refine WL.off rfl rfl rfl ?_ | refine WL.off0 rfl rfl ?_ | refine WC.exit ?_ | refine blk_hit ?_ | refine blk_miss rfl ?_ | refine WC.ret ?_)
    refine WC.regQ (fun w3 => Hp w w3 _) mixed (by kernel_rfl) (fun w3 hw3 => hp2.keep hw3) ?_
    repeat (first | refine WQ.pure rfl rfl rfl ?_ | refine WQ.off rfl rfl rfl ?_ | refine WQ.nil ?_)
    refine WQ.load rfl rfl rfl rfl rfl (fun w3 h3 => cell_of_obj (h3.obj 0 rfl) rfl) ?_
    repeat (first | refine WQ.pure rfl rfl rfl ?_ | refine WQ.off rfl rfl rfl ?_ | refine WQ.nil ?_)
    refine WQ.load rfl rfl rfl rfl rfl (fun w3 h3 => cell_of_obj (h3.obj 0 rfl) rfl) ?_
    repeat (first | refine WQ.pure rfl rfl rfl ?_ | refine WQ.off rfl rfl rfl ?_ | refine WQ.nil ?_)
    intro w3 hp3
    have K : ∀ w4, Hp w w4 [.blk c (.cells (Value.agg (pr (u, v)).toArray).cells 50 (0, 0)), .blk b (.cells (ints g).toArray 76 (0, 0))] → Bad g.length g (u, v) → GraphIs w g.length es (.tuple #[.slice none 0 0, .bool false]) w4 := by
      intro w4 h4 hbad
      refine ⟨h4.below, ?_⟩
      have : mkG g.length es = none := by
        unfold mkG
        split
        · rfl
        · show addEs g.length (List.replicate g.length 0) es = none
          rw [hrun, hdrop, addEs, addE, if_pos hbad]
      rw [this]
    repeat (first | refine WC.seq ?_ | refine WC.reg ?_ | refine WL.pure rfl rfl rfl ?_ | refine WL.nil ?_ | refine WC.skip ?_ | refine WC.block ?_ | refine WC.condT rfl ?_ | refine WC.condF rfl ?_ | refine WL.off rfl rfl rfl ?_ | refine WL.off0 rfl rfl ?_ | refine WC.exit ?_ | refine blk_hit ?_ | refine blk_miss rfl ?_ | refine WC.ret ?_)
    refine WL.split 36 rfl (fun q1 => ?_) (fun q1 => ?_)
    · repeat (first | refine WC.seq ?_ | refine WC.reg ?_ | refine WL.pure rfl rfl rfl ?_ | refine WL.nil ?_ | refine WC.skip ?_ | refine WC.block ?_ | refine WC.condT rfl ?_ | refine WC.condF rfl ?_ | refine WL.off rfl rfl rfl ?_ | refine WL.off0 rfl rfl ?_ | refine WC.exit ?_ | refine blk_hit ?_ | refine blk_miss rfl ?_ | refine WC.ret ?_)
      exact Res.two rfl rfl rfl rfl (K _ hp3 (.inl (by simpa using q1)))
    have r1 : 0 ≤ u := by simpa using q1
    repeat (first | refine WC.seq ?_ | refine WC.reg ?_ | refine WL.pure rfl rfl rfl ?_ | refine WL.nil ?_ | refine WC.skip ?_ | refine WC.block ?_ | refine WC.condT rfl ?_ | refine WC.condF rfl ?_ | refine WL.off rfl rfl rfl ?_ | refine WL.off0 rfl rfl ?_ | refine WC.exit ?_ | refine blk_hit ?_ | refine blk_miss rfl ?_ | refine WC.ret ?_)
    refine WL.split 41 rfl (fun q2 => ?_) (fun q2 => ?_)
    · repeat (first | refine WC.seq ?_ | refine WC.reg ?_ | refine WL.pure rfl rfl rfl ?_ | refine WL.nil ?_ | refine WC.skip ?_ | refine WC.block ?_ | refine WC.condT rfl ?_ | refine WC.condF rfl ?_ | refine WL.off rfl rfl rfl ?_ | refine WL.off0 rfl rfl ?_ | refine WC.exit ?_ | refine blk_hit ?_ | refine blk_miss rfl ?_ | refine WC.ret ?_)
      exact Res.two rfl rfl rfl rfl (K _ hp3 (.inr (.inl (by simpa using q2))))
    have r2 : u < g.length := by simpa using q2
    repeat (first | refine WC.seq ?_ | refine WC.reg ?_ | refine WL.pure rfl rfl rfl ?_ | refine WL.nil ?_ | refine WC.skip ?_ | refine WC.block ?_ | refine WC.condT rfl ?_ | refine WC.condF rfl ?_ | refine WL.off rfl rfl rfl ?_ | refine WL.off0 rfl rfl ?_ | refine WC.exit ?_ | refine blk_hit ?_ | refine blk_miss rfl ?_ | refine WC.ret ?_)
    refine WL.split 45 rfl (fun q3 => ?_) (fun q3 => ?_)
    · repeat (first | refine WC.seq ?_ | refine WC.reg ?_ | refine WL.pure rfl rfl rfl ?_ | refine WL.nil ?_ | refine WC.skip ?_ | refine WC.block ?_ | refine WC.condT rfl ?_ | refine WC.condF rfl ?_ | refine WL.off rfl rfl rfl ?_ | refine WL.off0 rfl rfl ?_ | refine WC.exit ?_ | refine blk_hit ?_ | refine blk_miss rfl ?_ | refine WC.ret ?_)
      exact Res.two rfl rfl rfl rfl (K _ hp3 (.inr (.inr (.inl (by simpa using q3)))))
    have r3 : 0 ≤ v := by simpa using q3
    repeat (first | refine WC.seq ?_ | refine WC.reg ?_ | refine WL.pure rfl rfl rfl ?_ | refine WL.nil ?_ | refine WC.skip ?_ | refine WC.block ?_ | refine WC.condT rfl ?_ | refine WC.condF rfl ?_ | refine WL.off rfl rfl rfl ?_ | refine WL.off0 rfl rfl ?_ | refine WC.exit ?_ | refine blk_hit ?_ | refine blk_miss rfl ?_ | refine WC.ret ?_)
    refine WL.split 50 rfl (fun q4 => ?_) (fun q4 => ?_)
    · repeat (first | refine WC.seq ?_ | refine WC.reg ?_ | refine WL.pure rfl rfl rfl ?_ | refine WL.nil ?_ | refine WC.skip ?_ | refine WC.block ?_ | refine WC.condT rfl ?_ | refine WC.condF rfl ?_ | refine WL.off rfl rfl rfl ?_ | refine WL.off0 rfl rfl ?_ | refine WC.exit ?_ | refine blk_hit ?_ | refine blk_miss rfl ?_ | refine WC.ret ?_)
      exact Res.two rfl rfl rfl rfl (K _ hp3 (.inr (.inr (.inr (.inl (by simpa using q4))))))
    have r4 : v < g.length := by simpa using q4
    repeat (first | refine WC.seq ?_ | refine WC.reg ?_ | refine WL.pure rfl rfl rfl ?_ | refine WL.nil ?_ | refine WC.skip ?_ | refine WC.block ?_ | refine WC.condT rfl ?_ | refine WC.condF rfl ?_ | refine WL.off rfl rfl rfl ?_ | refine WL.off0 rfl rfl ?_ | refine WC.exit ?_ | refine blk_hit ?_ | refine blk_miss rfl ?_ | refine WC.ret ?_)
    refine WL.split 55 rfl (fun q5 => ?_) (fun q5 => ?_)
    · repeat (first | refine WC.seq ?_ | refine WC.reg ?_ | refine WL.pure rfl rfl rfl ?_ | refine WL.nil ?_ | refine WC.skip ?_ | refine WC.block ?_ | refine WC.condT rfl ?_ | refine WC.condF rfl ?_ | refine WL.off rfl rfl rfl ?_ | refine WL.off0 rfl rfl ?_ | refine WC.exit ?_ | refine blk_hit ?_ | refine blk_miss rfl ?_ | refine WC.ret ?_)
      exact Res.two rfl rfl rfl rfl (K _ hp3 (.inr (.inr (.inr (.inr (.inl (by simpa using q5)))))))
    have r5 : u ≠ v := by simpa using q5
    obtain ⟨u, rfl⟩ := Int.eq_ofNat_of_zero_le r1
    obtain ⟨v, rfl⟩ := Int.eq_ofNat_of_zero_le r3
    have hu : u < g.length := by omega
    have hv : v < g.length := by omega
    have huv : u ≠ v := fun h => r5 (by rw [h])
    have hgu := lt_pow16 hg.len (hg.lt u)
    have hgv := lt_pow16 hg.len (hg.lt v)
    have hsg : Sl w3 (some ⟨b, 0, none⟩) (ints g) := Sl.of_obj (hp3.obj 1 rfl) (fun q x hq => by simpa using hq)
    repeat (first | refine WC.seq ?_ | refine WC.reg ?_ | refine WL.pure rfl rfl rfl ?_ | refine WL.nil ?_ | refine WC.skip ?_ | refine WC.block ?_ | refine WC.condT rfl ?_ | refine WC.condF rfl ?_ | refine WL.off rfl rfl rfl ?_ | refine WL.off0 rfl rfl ?_ | refine WC.exit ?_ | refine blk_hit ?_ | refine blk_miss rfl ?_ | refine WC.ret ?_)
    refine WL.ixload rfl (fun _ => rfl) rfl rfl rfl rfl rfl rfl rfl (cs := ints g) hu rfl rfl hsg (ints_at hu) ?_
    intro p2
    repeat (first | refine WC.seq ?_ | refine WC.reg ?_ | refine WL.pure rfl rfl rfl ?_ | refine WL.nil ?_ | refine WC.skip ?_ | refine WC.block ?_ | refine WC.condT rfl ?_ | refine WC.condF rfl ?_ | refine WL.off rfl rfl rfl ?_ | refine WL.off0 rfl rfl ?_ | refine WC.exit ?_ | refine blk_hit ?_ | refine blk_miss rfl ?_ | refine WC.ret ?_)
    refine WL.callP rfl rfl rfl rfl rfl ent44 (has_any _ _ (by omega) _) ?_
    repeat (first | refine WC.seq ?_ | refine WC.reg ?_ | refine WL.pure rfl rfl rfl ?_ | refine WL.nil ?_ | refine WC.skip ?_ | refine WC.block ?_ | refine WC.condT rfl ?_ | refine WC.condF rfl ?_ | refine WL.off rfl rfl rfl ?_ | refine WL.off0 rfl rfl ?_ | refine WC.exit ?_ | refine blk_hit ?_ | refine blk_miss rfl ?_ | refine WC.ret ?_)
    refine WC.cond rfl (fun q6 => ?_) (fun q6 => ?_)
    · repeat (first | refine WC.seq ?_ | refine WC.reg ?_ | refine WL.pure rfl rfl rfl ?_ | refine WL.nil ?_ | refine WC.skip ?_ | refine WC.block ?_ | refine WC.condT rfl ?_ | refine WC.condF rfl ?_ | refine WL.off rfl rfl rfl ?_ | refine WL.off0 rfl rfl ?_ | refine WC.exit ?_ | refine blk_hit ?_ | refine blk_miss rfl ?_ | refine WC.ret ?_)
      exact Res.two rfl rfl rfl rfl (K _ hp3 (.inr (.inr (.inr (.inr (.inr (by simpa using q6)))))))
    have hpv : 2 ^ v < 16384 := lt_pow16 hg.len (Nat.pow_lt_pow_right (by decide) hv)
    have hpu : 2 ^ u < 16384 := lt_pow16 hg.len (Nat.pow_lt_pow_right (by decide) hu)
    have hbad : ¬ Bad g.length g ((u : Int), (v : Int)) := by
      unfold Bad
      simp only [Int.toNat_natCast]
      intro h
      rcases h with h | h | h | h | h | h
      all_goals first | omega | (rw [q6] at h; cases h)
    repeat (first | refine WC.seq ?_ | refine WC.reg ?_ | refine WL.pure rfl rfl rfl ?_ | refine WL.nil ?_ | refine WC.skip ?_ | refine WC.block ?_ | refine WC.condT rfl ?_ | refine WC.condF rfl ?_ | refine WL.off rfl rfl rfl ?_ | refine WL.off0 rfl rfl ?_ | refine WC.exit ?_ | refine blk_hit ?_ | refine blk_miss rfl ?_ | refine WC.ret ?_)
    refine WC.regS 8 mixed (by kernel_rfl) rfl rfl (fun w4 hw4 hh4 => ?_)
    have hp4 := hp3.keep hw4
    repeat (first | refine WS.pure rfl rfl rfl ?_ | refine WS.off rfl rfl rfl ?_ | refine WS.nil ?_)
    refine WS.ix1 rfl rfl rfl rfl rfl rfl rfl hu ?_
    repeat (first | refine WS.pure rfl rfl rfl ?_ | refine WS.off rfl rfl rfl ?_ | refine WS.nil ?_)
    refine WS.loadB rfl rfl rfl rfl rfl (hp4.obj 1 rfl) (j := 0 + u) (by rw [nth_eq, Nat.zero_add]; exact ints_at hu) ?_
    repeat (first | refine WS.pure rfl rfl rfl ?_ | refine WS.off rfl rfl rfl ?_ | refine WS.nil ?_)
    refine WS.ix1 rfl rfl rfl rfl rfl rfl rfl hu ?_
    repeat (first | refine WS.pure rfl rfl rfl ?_ | refine WS.off rfl rfl rfl ?_ | refine WS.nil ?_)
    have e1 : bits .or .i64 ((g.getD u 0 : Nat) : Int) (shl .i64 1 v) = ((g.getD u 0 ||| 2 ^ v : Nat) : Int) := by
      rw [shl_one (by omega), or_i64 (by omega) (by omega)]
    refine WL.store rfl rfl rfl rfl rfl rfl (hp4.obj 1 rfl) (by simp [ints]; omega) (fun w5 hw5 => ?_)
    rw [Nat.zero_add, e1, ints_set] at hw5
    have hp5 := hp4.set 1 rfl rfl hw5
    have hg1 : Gr (put1 g u v) := put1_gr hg hu hv
    have hl1 := put1_len g u v
    change Hp w w5 [_, .blk b (.cells (ints (put1 g u v)).toArray 76 (0, 0))] at hp5
    have hv1 : v < (put1 g u v).length := by rw [hl1]; exact hv
    have hgv1 := lt_pow16 hg1.len (hg1.lt v)
    repeat (first | refine WC.seq ?_ | refine WC.reg ?_ | refine WL.pure rfl rfl rfl ?_ | refine WL.nil ?_ | refine WC.skip ?_ | refine WC.block ?_ | refine WC.condT rfl ?_ | refine WC.condF rfl ?_ | refine WL.off rfl rfl rfl ?_ | refine WL.off0 rfl rfl ?_ | refine WC.exit ?_ | refine blk_hit ?_ | refine blk_miss rfl ?_ | refine WC.ret ?_)
    refine WC.regS 8 mixed (by kernel_rfl) rfl rfl (fun w6 hw6 hh6 => ?_)
    have hp6 := hp5.keep hw6
    repeat (first | refine WS.pure rfl rfl rfl ?_ | refine WS.off rfl rfl rfl ?_ | refine WS.nil ?_)
    refine WS.ix1 rfl rfl rfl rfl rfl rfl rfl hv ?_
    repeat (first | refine WS.pure rfl rfl rfl ?_ | refine WS.off rfl rfl rfl ?_ | refine WS.nil ?_)
    refine WS.loadB rfl rfl rfl rfl rfl (hp6.obj 1 rfl) (j := 0 + v) (by rw [nth_eq, Nat.zero_add]; exact ints_at hv1) ?_
    repeat (first | refine WS.pure rfl rfl rfl ?_ | refine WS.off rfl rfl rfl ?_ | refine WS.nil ?_)
    refine WS.ix1 rfl rfl rfl rfl rfl rfl rfl hv ?_
    repeat (first | refine WS.pure rfl rfl rfl ?_ | refine WS.off rfl rfl rfl ?_ | refine WS.nil ?_)
    have e2 : bits .or .i64 (((put1 g u v).getD v 0 : Nat) : Int) (shl .i64 1 u) = (((put1 g u v).getD v 0 ||| 2 ^ u : Nat) : Int) := by
      rw [shl_one (by omega), or_i64 (by omega) (by omega)]
    refine WL.store rfl rfl rfl rfl rfl rfl (hp6.obj 1 rfl) (by simp [ints]; omega) (fun w7 hw7 => ?_)
    rw [Nat.zero_add, e2, ints_set] at hw7
    have hp7 := (hp6.set 1 rfl rfl hw7).tail
    change Hp w w7 [.blk b (.cells (ints (put1 (put1 g u v) v u)).toArray 76 (0, 0))] at hp7
    repeat (first | refine WC.seq ?_ | refine WC.reg ?_ | refine WL.pure rfl rfl rfl ?_ | refine WL.nil ?_ | refine WC.skip ?_ | refine WC.block ?_ | refine WC.condT rfl ?_ | refine WC.condF rfl ?_ | refine WL.off rfl rfl rfl ?_ | refine WL.off0 rfl rfl ?_ | refine WC.exit ?_ | refine blk_hit ?_ | refine blk_miss rfl ?_ | refine WC.ret ?_)
    have e3 : IntKind.i64.wrap ((i : Int) + 1) = ((i + 1 : Nat) : Int) := by rw [wrap_i64_in (by omega) (by omega)]; omega
    refine ⟨(i + 1, put1 (put1 g u v) v u), by show es.length - (i + 1) < es.length - i; omega, ?_, by omega, put1_gr hg1 hv1 (by omega), by rw [put1_len, put1_len], hp7, ?_⟩
    · exact ⟨rfl, rfl, rfl, rfl, congrArg (fun z => some (Value.int .i64 z)) e3, rfl⟩
    · rw [hrun, hdrop, addEs, addE, if_neg hbad]
      rfl
  · have hge : es.length ≤ i := by simp at hc; omega
    repeat (first | refine WC.seq ?_ | refine WC.reg ?_ | refine WL.pure rfl rfl rfl ?_ | refine WL.nil ?_ | refine WC.skip ?_ | refine WC.block ?_ | refine WC.condT rfl ?_ | refine WC.condF rfl ?_ | refine WL.off rfl rfl rfl ?_ | refine WL.off0 rfl rfl ?_ | refine WC.exit ?_ | refine blk_hit ?_ | refine blk_miss rfl ?_ | refine WC.ret ?_)
    refine Res.two rfl rfl rfl rfl ⟨hp.below, ?_⟩
    have hm2 : mkG (g.length : Int) es = some g := by
      unfold mkG
      rw [if_neg (by omega)]
      show addEs g.length (List.replicate g.length 0) es = some g
      rw [hrun, List.drop_eq_nil_of_le hge, addEs]
    simp only [hm2]
    exact ⟨b, (hp.at 0 rfl).1, hp.obj 0 rfl, rfl⟩
end Go.Proofs.YtdnkkflpgebfbaaDoor
