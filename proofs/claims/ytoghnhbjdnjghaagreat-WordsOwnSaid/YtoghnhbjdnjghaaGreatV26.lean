/- The reference's tidying. -/
import Derived.Test.YtoghnhbjdnjghaaGreatV24
import Derived.Test.YtoghnhbjdnjghaaGreatV26a
namespace Go.Proofs.YtoghnhbjdnjghaaGreat
open Go.W Go.Words Go.RowKit
set_option maxRecDepth 100000
attribute [local irreducible] WC WL WQ WS WH

theorem before_any (x y : Rl) (w : World) : Ret Tryz.prog 79 [.agg #[st x.1, st x.2], .agg #[st y.1, st y.2]] w fun u w' => u = .bool (decide (ordR x y < 0)) ∧ Hp w w' [] := by
  have hB := bef_eq x y
  refine enter Tryz.func79 rfl rfl ⟨rfl, rfl⟩ rfl ?_
  repeat (first | refine WC.seq ?_ | refine WC.reg ?_ | refine WL.pure rfl rfl rfl ?_ | refine WL.nil ?_ | refine WC.skip ?_ | refine WC.block ?_ | refine WC.condT rfl ?_ | refine WC.condF rfl ?_ | refine WL.off rfl rfl rfl ?_ | refine WL.off0 rfl rfl ?_ | refine WC.exit ?_ | refine blk_hit ?_ | refine blk_miss rfl ?_ | refine WC.ret ?_)
  refine WL.box rfl rfl rfl ?_
  intro b1 w1 hb1
  have hp1 := (Hp.start w).new hb1
  refine WL.box rfl rfl rfl ?_
  intro b2 w2 hb2
  have hp2 : Hp w w2 [Bx b2 y, Bx b1 x] := hp1.new hb2
  repeat (first | refine WC.seq ?_ | refine WC.reg ?_ | refine WL.pure rfl rfl rfl ?_ | refine WL.nil ?_ | refine WC.skip ?_ | refine WC.block ?_ | refine WC.condT rfl ?_ | refine WC.condF rfl ?_ | refine WL.off rfl rfl rfl ?_ | refine WL.off0 rfl rfl ?_ | refine WC.exit ?_ | refine blk_hit ?_ | refine blk_miss rfl ?_ | refine WC.ret ?_)
  refine WL.loadB rfl rfl rfl rfl rfl (hp2.obj 1 rfl) (j := 0) rfl ?_
  repeat (first | refine WC.seq ?_ | refine WC.reg ?_ | refine WL.pure rfl rfl rfl ?_ | refine WL.nil ?_ | refine WC.skip ?_ | refine WC.block ?_ | refine WC.condT rfl ?_ | refine WC.condF rfl ?_ | refine WL.off rfl rfl rfl ?_ | refine WL.off0 rfl rfl ?_ | refine WC.exit ?_ | refine blk_hit ?_ | refine blk_miss rfl ?_ | refine WC.ret ?_)
  refine WL.loadB rfl rfl rfl rfl rfl (hp2.obj 0 rfl) (j := 0) rfl ?_
  refine WL.sCmp rfl rfl rfl rfl rfl ?_
  repeat (first | refine WC.seq ?_ | refine WC.reg ?_ | refine WL.pure rfl rfl rfl ?_ | refine WL.nil ?_ | refine WC.skip ?_ | refine WC.block ?_ | refine WC.condT rfl ?_ | refine WC.condF rfl ?_ | refine WL.off rfl rfl rfl ?_ | refine WL.off0 rfl rfl ?_ | refine WC.exit ?_ | refine blk_hit ?_ | refine blk_miss rfl ?_ | refine WC.ret ?_)
  refine WC.cond rfl (fun h1 => ?_) (fun h1 => ?_)
  · have h1 : ¬ x.1 = y.1 := by simpa using h1
    rw [if_neg h1] at hB
    repeat (first | refine WC.seq ?_ | refine WC.reg ?_ | refine WL.pure rfl rfl rfl ?_ | refine WL.nil ?_ | refine WC.skip ?_ | refine WC.block ?_ | refine WC.condT rfl ?_ | refine WC.condF rfl ?_ | refine WL.off rfl rfl rfl ?_ | refine WL.off0 rfl rfl ?_ | refine WC.exit ?_ | refine blk_hit ?_ | refine blk_miss rfl ?_ | refine WC.ret ?_)
    refine WL.loadB rfl rfl rfl rfl rfl (hp2.obj 0 rfl) (j := 0) rfl ?_
    repeat (first | refine WC.seq ?_ | refine WC.reg ?_ | refine WL.pure rfl rfl rfl ?_ | refine WL.nil ?_ | refine WC.skip ?_ | refine WC.block ?_ | refine WC.condT rfl ?_ | refine WC.condF rfl ?_ | refine WL.off rfl rfl rfl ?_ | refine WL.off0 rfl rfl ?_ | refine WC.exit ?_ | refine blk_hit ?_ | refine blk_miss rfl ?_ | refine WC.ret ?_)
    refine WL.loadB rfl rfl rfl rfl rfl (hp2.obj 1 rfl) (j := 0) rfl ?_
    refine WL.callP rfl rfl rfl rfl rfl ent37 (rGreater_any y.1 x.1 w2) ?_
    repeat (first | refine WC.seq ?_ | refine WC.reg ?_ | refine WL.pure rfl rfl rfl ?_ | refine WL.nil ?_ | refine WC.skip ?_ | refine WC.block ?_ | refine WC.condT rfl ?_ | refine WC.condF rfl ?_ | refine WL.off rfl rfl rfl ?_ | refine WL.off0 rfl rfl ?_ | refine WC.exit ?_ | refine blk_hit ?_ | refine blk_miss rfl ?_ | refine WC.ret ?_)
    exact Res.one rfl rfl rfl ⟨by rw [hB], hp2.nil'⟩
  · have h1 : x.1 = y.1 := by simpa using h1
    rw [if_pos h1] at hB
    repeat (first | refine WC.seq ?_ | refine WC.reg ?_ | refine WL.pure rfl rfl rfl ?_ | refine WL.nil ?_ | refine WC.skip ?_ | refine WC.block ?_ | refine WC.condT rfl ?_ | refine WC.condF rfl ?_ | refine WL.off rfl rfl rfl ?_ | refine WL.off0 rfl rfl ?_ | refine WC.exit ?_ | refine blk_hit ?_ | refine blk_miss rfl ?_ | refine WC.ret ?_)
    refine WL.loadB rfl rfl rfl rfl rfl (hp2.obj 0 rfl) (j := 1) rfl ?_
    repeat (first | refine WC.seq ?_ | refine WC.reg ?_ | refine WL.pure rfl rfl rfl ?_ | refine WL.nil ?_ | refine WC.skip ?_ | refine WC.block ?_ | refine WC.condT rfl ?_ | refine WC.condF rfl ?_ | refine WL.off rfl rfl rfl ?_ | refine WL.off0 rfl rfl ?_ | refine WC.exit ?_ | refine blk_hit ?_ | refine blk_miss rfl ?_ | refine WC.ret ?_)
    refine WL.loadB rfl rfl rfl rfl rfl (hp2.obj 1 rfl) (j := 1) rfl ?_
    refine WL.callP rfl rfl rfl rfl rfl ent37 (rGreater_any y.2 x.2 w2) ?_
    repeat (first | refine WC.seq ?_ | refine WC.reg ?_ | refine WL.pure rfl rfl rfl ?_ | refine WL.nil ?_ | refine WC.skip ?_ | refine WC.block ?_ | refine WC.condT rfl ?_ | refine WC.condF rfl ?_ | refine WL.off rfl rfl rfl ?_ | refine WL.off0 rfl rfl ?_ | refine WC.exit ?_ | refine blk_hit ?_ | refine blk_miss rfl ?_ | refine WC.ret ?_)
    exact Res.one rfl rfl rfl ⟨by rw [hB], hp2.nil'⟩
theorem rwithout_any (a : Option Addr) (cap : Nat) (l : List Rl) (i : Nat) (hi : i < l.length) (hl : l.length ≤ 1000000) (hc : l.length ≤ cap) (w : World) (hs : Sl w a (rcs l)) :
    Ret Tryz.prog 50 [.slice a l.length cap, .int .i64 (i : Nat)] w fun u w' => ∃ ra rc, u = .slice ra (l.eraseIdx i).length rc ∧ Hp w w' [Rt u (l.eraseIdx i)] := by
  have step := wrap_succ hi (by omega)
  have hel : (l.eraseIdx i).length = i + (l.length - (i + 1)) := by rw [List.length_eraseIdx_of_lt hi]; omega
  have hee : rcs (l.eraseIdx i) = rcs (l.take i) ++ rcs (l.drop (i + 1)) := by rw [List.eraseIdx_eq_take_drop_succ, rcs_app]
  refine enter Tryz.func50 rfl rfl ⟨rfl, rfl⟩ rfl ?_
  repeat (first | refine WC.seq ?_ | refine WC.reg ?_ | refine WL.pure rfl rfl rfl ?_ | refine WL.nil ?_ | refine WC.skip ?_ | refine WC.block ?_ | refine WC.condT rfl ?_ | refine WC.condF rfl ?_ | refine WL.off rfl rfl rfl ?_ | refine WL.off0 rfl rfl ?_ | refine WC.exit ?_ | refine blk_hit ?_ | refine blk_miss rfl ?_ | refine WC.ret ?_)
  refine WL.sliceHi (h := i) rfl rfl rfl rfl rfl rfl (by omega) ?_
  refine WL.append 0 ((Hp.start w).nilrow 56 2) rfl rfl rfl rfl rfl (by decide) rfl rfl rfl (news := rcs (l.take i)) (by rw [← rcs_take]; exact hs.take _) (by rw [rcs_len, List.length_take, Nat.min_eq_left (by omega)]; rfl) (rcs_cells _) (by unfold maxLen; omega) (by show (0 + i) * 32 ≤ _; omega) ?_
  intro ra rc1 w1 hp1 hg1
  rw [Nat.zero_add] at hp1 ⊢
  rw [List.nil_append] at hp1
  repeat (first | refine WC.seq ?_ | refine WC.reg ?_ | refine WL.pure rfl rfl rfl ?_ | refine WL.nil ?_ | refine WC.skip ?_ | refine WC.block ?_ | refine WC.condT rfl ?_ | refine WC.condF rfl ?_ | refine WL.off rfl rfl rfl ?_ | refine WL.off0 rfl rfl ?_ | refine WC.exit ?_ | refine blk_hit ?_ | refine blk_miss rfl ?_ | refine WC.ret ?_)
  refine WL.known (d := 14) (congrArg (fun z => some (Value.int .i64 z)) step) ?_
  refine WL.val rfl rfl rfl (ySlLo (l := i + 1) rfl rfl rfl rfl (by omega) hc) ?_
  refine WL.append 0 hp1 rfl rfl rfl rfl rfl (by decide) rfl rfl rfl (news := rcs (l.drop (i + 1))) (by rw [← rcs_drop]; exact (hs.hp hp1).ofs (by omega) hc (by rw [rcs_len]; exact Nat.le_refl _)) (by rw [rcs_len, List.length_drop]; rfl) (rcs_cells _) (by unfold maxLen; omega) (by show (i + (l.length - (i + 1))) * 32 ≤ _; omega) ?_
  intro rb rc2 w2 hp2 hg2
  repeat (first | refine WC.seq ?_ | refine WC.reg ?_ | refine WL.pure rfl rfl rfl ?_ | refine WL.nil ?_ | refine WC.skip ?_ | refine WC.block ?_ | refine WC.condT rfl ?_ | refine WC.condF rfl ?_ | refine WL.off rfl rfl rfl ?_ | refine WL.off0 rfl rfl ?_ | refine WC.exit ?_ | refine blk_hit ?_ | refine blk_miss rfl ?_ | refine WC.ret ?_)
  refine Res.one (v := .slice rb (i + (l.length - (i + 1))) rc2) rfl rfl rfl ⟨rb, rc2, by rw [hel], ?_⟩
  unfold Rt
  rw [hel, hee]
  exact hp2
theorem isNormal_any (a : Option Addr) (cap : Nat) (l : List Rl) (k : Nat) (hk : k < l.length) (hl : l.length ≤ 1000000) (hm : Sm 1000000000 l) (w : World) (hs : Sl w a (rcs l)) :
    Ret Tryz.prog 49 [.slice a l.length cap, .int .i64 (k : Nat)] w fun u w' => u = .bool (nrmB l k) ∧ Hp w w' [] := by
  have hsz := hm.at_ hk
  obtain ⟨b, o, rfl⟩ := rcs_some hs (by omega)
  have hz : ∀ s, ∃ t, stpV s (firstM (l.eraseIdx k) s) = .tuple #[st t, .bool (!(firstM (l.eraseIdx k) s).isNone)] := by
    intro s
    cases firstM (l.eraseIdx k) s with
    | none => exact ⟨s, rfl⟩
    | some p => exact ⟨_, rfl⟩
  rw [nrmB_eq hk]
  refine enter Tryz.func49 rfl rfl ⟨rfl, rfl⟩ rfl ?_
  repeat (first | refine WC.seq ?_ | refine WC.reg ?_ | refine WL.pure rfl rfl rfl ?_ | refine WL.nil ?_ | refine WC.skip ?_ | refine WC.block ?_ | refine WC.condT rfl ?_ | refine WC.condF rfl ?_ | refine WL.off rfl rfl rfl ?_ | refine WL.off0 rfl rfl ?_ | refine WC.exit ?_ | refine blk_hit ?_ | refine blk_miss rfl ?_ | refine WC.ret ?_)
  refine WL.ix rfl rfl rfl rfl rfl (j := k) hk rfl ?_
  repeat (first | refine WC.seq ?_ | refine WC.reg ?_ | refine WL.pure rfl rfl rfl ?_ | refine WL.nil ?_ | refine WC.skip ?_ | refine WC.block ?_ | refine WC.condT rfl ?_ | refine WC.condF rfl ?_ | refine WL.off rfl rfl rfl ?_ | refine WL.off0 rfl rfl ?_ | refine WC.exit ?_ | refine blk_hit ?_ | refine blk_miss rfl ?_ | refine WC.ret ?_)
  refine WL.load rfl rfl rfl rfl rfl (rcs_cell hs hk (q := 0) rfl) ?_
  have h1 := rstep_any (some ⟨b, o, none⟩) cap l (k : Int) l[k].1 hl (by omega) hm w hs
  rw [dr_nat] at h1
  refine WL.call rfl rfl rfl rfl rfl ent66 h1 ?_
  rintro _ w1 ⟨rfl, hp1⟩
  obtain ⟨t1, hz1⟩ := hz l[k].1
  rw [hz1]
  repeat (first | refine WC.seq ?_ | refine WC.reg ?_ | refine WL.pure rfl rfl rfl ?_ | refine WL.nil ?_ | refine WC.skip ?_ | refine WC.block ?_ | refine WC.condT rfl ?_ | refine WC.condF rfl ?_ | refine WL.off rfl rfl rfl ?_ | refine WL.off0 rfl rfl ?_ | refine WC.exit ?_ | refine blk_hit ?_ | refine blk_miss rfl ?_ | refine WC.ret ?_)
  refine WL.ix rfl rfl rfl rfl rfl (j := k) hk rfl ?_
  repeat (first | refine WC.seq ?_ | refine WC.reg ?_ | refine WL.pure rfl rfl rfl ?_ | refine WL.nil ?_ | refine WC.skip ?_ | refine WC.block ?_ | refine WC.condT rfl ?_ | refine WC.condF rfl ?_ | refine WL.off rfl rfl rfl ?_ | refine WL.off0 rfl rfl ?_ | refine WC.exit ?_ | refine blk_hit ?_ | refine blk_miss rfl ?_ | refine WC.ret ?_)
  refine WL.load rfl rfl rfl rfl rfl (rcs_cell (hs.hp hp1) hk (q := 1) rfl) ?_
  have h2 := rstep_any (some ⟨b, o, none⟩) cap l (k : Int) l[k].2 hl (by omega) hm w1 (hs.hp hp1)
  rw [dr_nat] at h2
  refine WL.call rfl rfl rfl rfl rfl ent66 h2 ?_
  rintro _ w2 ⟨rfl, hp2⟩
  have hp2 := hp1.over hp2
  obtain ⟨t2, hz2⟩ := hz l[k].2
  rw [hz2]
  generalize (firstM (l.eraseIdx k) l[k].1).isNone = A
  generalize (firstM (l.eraseIdx k) l[k].2).isNone = B
  repeat (first | refine WC.seq ?_ | refine WC.reg ?_ | refine WL.pure rfl rfl rfl ?_ | refine WL.nil ?_ | refine WC.skip ?_ | refine WC.block ?_ | refine WC.condT rfl ?_ | refine WC.condF rfl ?_ | refine WL.off rfl rfl rfl ?_ | refine WL.off0 rfl rfl ?_ | refine WC.exit ?_ | refine blk_hit ?_ | refine blk_miss rfl ?_ | refine WC.ret ?_)
  cases A with
  | true =>
    repeat (first | refine WC.seq ?_ | refine WC.reg ?_ | refine WL.pure rfl rfl rfl ?_ | refine WL.nil ?_ | refine WC.skip ?_ | refine WC.block ?_ | refine WC.condT rfl ?_ | refine WC.condF rfl ?_ | refine WL.off rfl rfl rfl ?_ | refine WL.off0 rfl rfl ?_ | refine WC.exit ?_ | refine blk_hit ?_ | refine blk_miss rfl ?_ | refine WC.ret ?_)
    exact Res.one rfl rfl rfl ⟨by cases B <;> rfl, hp2⟩
  | false =>
    repeat (first | refine WC.seq ?_ | refine WC.reg ?_ | refine WL.pure rfl rfl rfl ?_ | refine WL.nil ?_ | refine WC.skip ?_ | refine WC.block ?_ | refine WC.condT rfl ?_ | refine WC.condF rfl ?_ | refine WL.off rfl rfl rfl ?_ | refine WL.off0 rfl rfl ?_ | refine WC.exit ?_ | refine blk_hit ?_ | refine blk_miss rfl ?_ | refine WC.ret ?_)
    exact Res.one rfl rfl rfl ⟨rfl, hp2⟩
theorem before_q {b : Nat} {r x y : Rl} {w : World} {L : List Ent} : ∀ w', Hp w w' (Bx b r :: L) → Ret Tryz.prog 79 [.agg #[st x.1, st x.2], .agg #[st y.1, st y.2]] w' fun u w'' => u = .bool (decide (ordR x y < 0)) ∧ Hp w w'' (Bx b r :: L) :=
  fun w' hw' => (before_any x y w').mono fun u w'' ⟨h1, h2⟩ => ⟨h1, by have := hw'.comb h2; rwa [List.nil_append] at this⟩
theorem rput_any (l : List Rl) (r : Rl) (hl : l.length ≤ 1000000) (v : Value) (w0 : World) (L : List Ent) (w : World) (hp : Hp w0 w (Rt v l :: L)) :
    Ret Tryz.prog 48 [v, .agg #[st r.1, st r.2]] w fun u w' => ∃ pa pc, u = .slice pa (putM l r).length pc ∧ Hp w0 w' (Rt u (putM l r) :: L) := by
  obtain ⟨pa, pc, rfl⟩ := owns_shape (hp.at 0 rfl)
  have hcap : l.length ≤ pc := by
    obtain ⟨_, ⟨hv, h0⟩ | ⟨b, cap, cur, hv, _, _, hnc, _⟩⟩ := hp.at 0 rfl
    · simp only [Value.slice.injEq] at hv; omega
    · simp only [Value.slice.injEq] at hv; omega
  have hsl : ∀ w' L', Hp w0 w' (L' :: Rt (.slice pa l.length pc) l :: L) → Sl w' pa (rcs l) := fun w' L' hw' => Sl.of_row (hw'.at 1 rfl)
  refine enter Tryz.func48 rfl rfl ⟨rfl, rfl⟩ rfl ?_
  repeat (first | refine WC.seq ?_ | refine WC.reg ?_ | refine WL.pure rfl rfl rfl ?_ | refine WL.nil ?_ | refine WC.skip ?_ | refine WC.block ?_ | refine WC.condT rfl ?_ | refine WC.condF rfl ?_ | refine WL.off rfl rfl rfl ?_ | refine WL.off0 rfl rfl ?_ | refine WC.exit ?_ | refine blk_hit ?_ | refine blk_miss rfl ?_ | refine WC.ret ?_)
  refine WL.box rfl rfl rfl ?_
  intro b3 w1 hb3
  have hp1 : Hp w0 w1 (Bx b3 r :: Rt (.slice pa l.length pc) l :: L) := hp.new hb3
  repeat (first | refine WC.seq ?_ | refine WC.reg ?_ | refine WL.pure rfl rfl rfl ?_ | refine WL.nil ?_ | refine WC.skip ?_ | refine WC.block ?_ | refine WC.condT rfl ?_ | refine WC.condF rfl ?_ | refine WL.off rfl rfl rfl ?_ | refine WL.off0 rfl rfl ?_ | refine WC.exit ?_ | refine blk_hit ?_ | refine blk_miss rfl ?_ | refine WC.ret ?_)
  refine WC.loop Nat (fun k => [(0, .slice pa l.length pc), (3, .pointer (some ⟨b3, 0, none⟩)), (5, .int .i64 (k : Nat))])
    (fun k w' => k ≤ l.length ∧ (∀ (q : Nat) (h : q < l.length), q < k → ordR l[q] r < 0) ∧ Hp w0 w' (Bx b3 r :: Rt (.slice pa l.length pc) l :: L)) (fun k => l.length - k) 0 ⟨rfl, rfl, rfl, rfl⟩ ⟨Nat.zero_le _, fun q h hq => absurd hq (Nat.not_lt_zero q), hp1⟩ ?_
  clear hp1 hb3
  rintro k w2 ⟨hk, hlo, hp2⟩
  repeat (first | refine WC.seq ?_ | refine WC.reg ?_ | refine WL.pure rfl rfl rfl ?_ | refine WL.nil ?_ | refine WC.skip ?_ | refine WC.block ?_ | refine WC.condT rfl ?_ | refine WC.condF rfl ?_ | refine WL.off rfl rfl rfl ?_ | refine WL.off0 rfl rfl ?_ | refine WC.exit ?_ | refine blk_hit ?_ | refine blk_miss rfl ?_ | refine WC.ret ?_)
  refine WC.mid Bool (fun q => [(0, .slice pa l.length pc), (3, .pointer (some ⟨b3, 0, none⟩)), (5, .int .i64 (k : Nat)), (18, .bool q)])
    (fun q w' => (q = true ↔ ∃ h : k < l.length, ordR l[k] r < 0) ∧ Hp w0 w' (Bx b3 r :: Rt (.slice pa l.length pc) l :: L)) ?_ ?_
  · refine WC.regQ (fun w' => Hp w0 w' (Bx b3 r :: Rt (.slice pa l.length pc) l :: L)) mixed (by kernel_rfl) (fun w' hw' => hp2.keep hw') ?_
    repeat (first | refine WQ.pure rfl rfl rfl ?_ | refine WQ.off rfl rfl rfl ?_ | refine WQ.nil ?_)
    refine WQ.split 11 rfl (fun h1 => ?_) (fun h1 => ?_)
    · have h1 : k < l.length := by have := of_decide_eq_true h1; omega
      obtain ⟨ab, ao, rfl⟩ := rcs_some (hsl _ _ hp2) (by omega)
      repeat (first | refine WQ.pure rfl rfl rfl ?_ | refine WQ.off rfl rfl rfl ?_ | refine WQ.nil ?_)
      refine WQ.ixload2 rfl (fun _ => rfl) rfl rfl rfl rfl rfl rfl rfl (by omega) rfl rfl (fun _ hw => hsl _ _ hw) (by omega) ?_
      intro pp
      refine WQ.loadN (cs := rc r) rfl rfl rfl rfl rfl rfl (fun _ hw => box_cell hw) ?_
      refine WQ.call rfl rfl rfl rfl rfl ent79 before_q ?_
      repeat (first | refine WQ.pure rfl rfl rfl ?_ | refine WQ.off rfl rfl rfl ?_ | refine WQ.nil ?_)
      intro w' hp'
      exact ⟨_, ⟨rfl, rfl, rfl, rfl, rfl⟩, ⟨fun h => ⟨h1, of_decide_eq_true h⟩, fun h => decide_eq_true h.2⟩, hp'⟩
    · have h1 : ¬ k < l.length := by have := of_decide_eq_false h1; omega
      repeat (first | refine WQ.pure rfl rfl rfl ?_ | refine WQ.off rfl rfl rfl ?_ | refine WQ.nil ?_)
      intro w' hp'
      exact ⟨false, ⟨rfl, rfl, rfl, rfl, rfl⟩, ⟨fun h => (by cases h), fun h => absurd h.1 h1⟩, hp'⟩
  rintro q e3 w3 hsub ⟨hq, hp3⟩
  refine WC.sub hsub ?_
  clear hp2
  refine WC.cond rfl (fun hc => ?_) (fun hc => ?_)
  · obtain ⟨h1, h2⟩ := hq.1 hc
    have step := wrap_succ h1 (by omega)
    repeat (first | refine WC.seq ?_ | refine WC.reg ?_ | refine WL.pure rfl rfl rfl ?_ | refine WL.nil ?_ | refine WC.skip ?_ | refine WC.block ?_ | refine WC.condT rfl ?_ | refine WC.condF rfl ?_ | refine WL.off rfl rfl rfl ?_ | refine WL.off0 rfl rfl ?_ | refine WC.exit ?_ | refine blk_hit ?_ | refine blk_miss rfl ?_ | refine WC.ret ?_)
    refine ⟨k + 1, by omega, ⟨rfl, rfl, congrArg (fun z => some (Value.int .i64 z)) step, rfl⟩, by omega, fun q' h hq' => ?_, hp3⟩
    rcases Nat.lt_or_ge q' k with h3 | h3
    · exact hlo q' h h3
    · obtain rfl : q' = k := by omega
      exact h2
  · have hno : ∀ h : k < l.length, ¬ ordR l[k] r < 0 := fun h h2 => by rw [hq.2 ⟨h, h2⟩] at hc; cases hc
    obtain rfl : posK l r = k := posK_eq l r k hk hlo hno
    clear hq hno hlo
    generalize hK : posK l r = k at *
    repeat (first | refine WC.seq ?_ | refine WC.reg ?_ | refine WL.pure rfl rfl rfl ?_ | refine WL.nil ?_ | refine WC.skip ?_ | refine WC.block ?_ | refine WC.condT rfl ?_ | refine WC.condF rfl ?_ | refine WL.off rfl rfl rfl ?_ | refine WL.off0 rfl rfl ?_ | refine WC.exit ?_ | refine blk_hit ?_ | refine blk_miss rfl ?_ | refine WC.ret ?_)
    refine WC.mid Bool (fun q => [(0, .slice pa l.length pc), (3, .pointer (some ⟨b3, 0, none⟩)), (5, .int .i64 (k : Nat)), (32, .bool q)])
      (fun q w' => (q = true ↔ l[k]? = some r) ∧ Hp w0 w' (Bx b3 r :: Rt (.slice pa l.length pc) l :: L)) ?_ ?_
    · refine WC.regQ (fun w' => Hp w0 w' (Bx b3 r :: Rt (.slice pa l.length pc) l :: L)) mixed (by kernel_rfl) (fun w' hw' => hp3.keep hw') ?_
      repeat (first | refine WQ.pure rfl rfl rfl ?_ | refine WQ.off rfl rfl rfl ?_ | refine WQ.nil ?_)
      refine WQ.split 25 rfl (fun h1 => ?_) (fun h1 => ?_)
      · have h1 : k < l.length := by have := of_decide_eq_true h1; omega
        obtain ⟨ab, ao, rfl⟩ := rcs_some (hsl _ _ hp3) (by omega)
        repeat (first | refine WQ.pure rfl rfl rfl ?_ | refine WQ.off rfl rfl rfl ?_ | refine WQ.nil ?_)
        refine WQ.ixload2 rfl (fun _ => rfl) rfl rfl rfl rfl rfl rfl rfl (by omega) rfl rfl (fun _ hw => hsl _ _ hw) (by omega) ?_
        intro pp
        refine WQ.loadN (cs := rc r) rfl rfl rfl rfl rfl rfl (fun _ hw => box_cell hw) ?_
        refine WQ.sEqR rfl rfl rfl rfl rfl rfl (by decide) (by decide) rfl rfl (by kernel_rfl) (by kernel_rfl) rfl rfl (.inl ⟨rfl, rfl⟩) ?_
        repeat (first | refine WQ.pure rfl rfl rfl ?_ | refine WQ.off rfl rfl rfl ?_ | refine WQ.nil ?_)
        intro w' hp'
        refine ⟨_, ⟨rfl, rfl, rfl, rfl, rfl⟩, ?_, hp'⟩
        rw [eq2, decide_eq_true_iff, List.getElem?_eq_getElem h1, Option.some.injEq]
      · have h1 : ¬ k < l.length := by have := of_decide_eq_false h1; omega
        repeat (first | refine WQ.pure rfl rfl rfl ?_ | refine WQ.off rfl rfl rfl ?_ | refine WQ.nil ?_)
        intro w' hp'
        exact ⟨false, ⟨rfl, rfl, rfl, rfl, rfl⟩, ⟨fun h => (by cases h), fun h => by rw [List.getElem?_eq_none (by omega)] at h; cases h⟩, hp'⟩
    rintro q e4 w4 hsub4 ⟨hq, hp4⟩
    refine WC.sub hsub4 ?_
    clear hp3
    refine WC.cond rfl (fun hc => ?_) (fun hc => ?_)
    · have hf := hq.1 hc
      have hpm : putM l r = l := by unfold putM; rw [hK, if_pos hf]
      rw [hpm]
      repeat (first | refine WC.seq ?_ | refine WC.reg ?_ | refine WL.pure rfl rfl rfl ?_ | refine WL.nil ?_ | refine WC.skip ?_ | refine WC.block ?_ | refine WC.condT rfl ?_ | refine WC.condF rfl ?_ | refine WL.off rfl rfl rfl ?_ | refine WL.off0 rfl rfl ?_ | refine WC.exit ?_ | refine blk_hit ?_ | refine blk_miss rfl ?_ | refine WC.ret ?_)
      exact Res.one rfl rfl rfl ⟨pa, pc, rfl, hp4.tail⟩
    · have hf : ¬ l[k]? = some r := fun h => by rw [hq.2 h] at hc; cases hc
      have hpm : putM l r = insL l k r := by unfold putM; rw [hK, if_neg hf]
      have hil := insL_len l k r hk
      have hir := insL_rcs l k r
      rw [hpm]
      have hs4 := hsl _ _ hp4
      repeat (first | refine WC.seq ?_ | refine WC.reg ?_ | refine WL.pure rfl rfl rfl ?_ | refine WL.nil ?_ | refine WC.skip ?_ | refine WC.block ?_ | refine WC.condT rfl ?_ | refine WC.condF rfl ?_ | refine WL.off rfl rfl rfl ?_ | refine WL.off0 rfl rfl ?_ | refine WC.exit ?_ | refine blk_hit ?_ | refine blk_miss rfl ?_ | refine WC.ret ?_)
      refine WL.sliceHi (h := k) rfl rfl rfl rfl rfl rfl (by omega) ?_
      refine WL.append 0 (hp4.nilrow 56 2) rfl rfl rfl rfl rfl (by decide) rfl rfl rfl (news := rcs (l.take k)) (by rw [← rcs_take]; exact hs4.take _) (by rw [rcs_len, List.length_take, Nat.min_eq_left hk]; rfl) (rcs_cells _) (by unfold maxLen; omega) (by show (0 + k) * 32 ≤ _; omega) ?_
      intro ra rc1 w5 hp5 hg5
      rw [Nat.zero_add] at hp5 ⊢
      rw [List.nil_append] at hp5
      have hp5 : Hp w0 w5 (.row 56 2 (.slice ra k rc1) k (rcs (l.take k)) :: Bx b3 r :: Rt (.slice pa l.length pc) l :: L) := hp5
      repeat (first | refine WC.seq ?_ | refine WC.reg ?_ | refine WL.pure rfl rfl rfl ?_ | refine WL.nil ?_ | refine WC.skip ?_ | refine WC.block ?_ | refine WC.condT rfl ?_ | refine WC.condF rfl ?_ | refine WL.off rfl rfl rfl ?_ | refine WL.off0 rfl rfl ?_ | refine WC.exit ?_ | refine blk_hit ?_ | refine blk_miss rfl ?_ | refine WC.ret ?_)
      refine WL.loadN (cs := rc r) rfl rfl rfl rfl rfl rfl (box_cell hp5.tail) ?_
      refine WL.buildS (cs := rc r) rfl rfl rfl rfl rfl rfl rfl rfl rfl ?_
      intro b6 w6 hb6
      have hp6 := hp5.new hb6
      refine WL.append 1 hp6 rfl rfl rfl rfl rfl (by decide) rfl rfl rfl (news := rc r) (Sl.of_obj (hp6.obj 0 rfl) (fun q u hq => by simpa [rc] using hq)) rfl (rcs_cells [r]) (by unfold maxLen; omega) (by show (k + 1) * 32 ≤ _; omega) ?_
      intro rb rc2 w7 hp7 hg7
      have hp7 : Hp w0 w7 (.row 56 2 (.slice rb (k + 1) rc2) (k + 1) (rcs (l.take k) ++ rc r) :: Bx b3 r :: Rt (.slice pa l.length pc) l :: L) := hp7.tail
      have hs7 : Sl w7 pa (rcs l) := Sl.of_row (hp7.at 2 rfl)
      repeat (first | refine WC.seq ?_ | refine WC.reg ?_ | refine WL.pure rfl rfl rfl ?_ | refine WL.nil ?_ | refine WC.skip ?_ | refine WC.block ?_ | refine WC.condT rfl ?_ | refine WC.condF rfl ?_ | refine WL.off rfl rfl rfl ?_ | refine WL.off0 rfl rfl ?_ | refine WC.exit ?_ | refine blk_hit ?_ | refine blk_miss rfl ?_ | refine WC.ret ?_)
      refine WL.val rfl rfl rfl (ySlLo (l := k) rfl rfl rfl rfl hk hcap) ?_
      refine WL.append 0 hp7 rfl rfl rfl rfl rfl (by decide) rfl rfl rfl (news := rcs (l.drop k)) (by rw [← rcs_drop]; exact hs7.ofs hk hcap (by rw [rcs_len]; exact Nat.le_refl _)) (by rw [rcs_len, List.length_drop]; rfl) (rcs_cells _) (by unfold maxLen; omega) (by show (k + 1 + (l.length - k)) * 32 ≤ _; omega) ?_
      intro rd rc3 w8 hp8 hg8
      have hp8 : Hp w0 w8 (.row 56 2 (.slice rd (k + 1 + (l.length - k)) rc3) (k + 1 + (l.length - k)) (rcs (l.take k) ++ rc r ++ rcs (l.drop k)) :: Bx b3 r :: Rt (.slice pa l.length pc) l :: L) := hp8
      have hlen : k + 1 + (l.length - k) = (insL l k r).length := by omega
      repeat (first | refine WC.seq ?_ | refine WC.reg ?_ | refine WL.pure rfl rfl rfl ?_ | refine WL.nil ?_ | refine WC.skip ?_ | refine WC.block ?_ | refine WC.condT rfl ?_ | refine WC.condF rfl ?_ | refine WL.off rfl rfl rfl ?_ | refine WL.off0 rfl rfl ?_ | refine WC.exit ?_ | refine blk_hit ?_ | refine blk_miss rfl ?_ | refine WC.ret ?_)
      refine Res.one (v := .slice rd (k + 1 + (l.length - k)) rc3) rfl rfl rfl ⟨rd, rc3, by rw [hlen], ?_⟩
      unfold Rt
      rw [hir, ← hlen]
      exact hp8.drop1.drop1
end Go.Proofs.YtoghnhbjdnjghaaGreat
