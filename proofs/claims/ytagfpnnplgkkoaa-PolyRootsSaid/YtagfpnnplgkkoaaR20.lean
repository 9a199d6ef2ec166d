/- The walks of the exported quotient, value and common divisor, and of the reference's quotient. -/
import Derived.Test.YtagfpnnplgkkoaaR19
namespace Go.Poly
open Go.W Go.Tree
theorem ints_set_app (xs : List Nat) (t : List Value) {i : Nat} (x : Nat) (h : i < xs.length) : (ints xs ++ t).toArray.setIfInBounds i (.int .i64 x) = (ints (xs.set i x) ++ t).toArray := by
  rw [← Array.toList_inj]
  simp only [Array.toList_setIfInBounds]
  rw [List.set_append_left _ _ (by rw [ints_len]; exact h)]
  simp [ints, List.map_set]
end Go.Poly
namespace Go.W
open Go.RowKit
/-- A row with cells, as its block. -/
theorem Hp.toBlk {w0 w : World} {E n : Nat} {v : Value} {xs : List Value} {L : List Ent} (h : Hp w0 w (.row E 1 v n xs :: L)) (hn : 0 < n) :
    ∃ (b cap : Nat) (t : List Value), v = .slice (some ⟨b, 0, none⟩) n cap ∧ n ≤ cap ∧ cap ≤ maxLen ∧ t.length + n = cap ∧ Hp w0 w (.blk b (.cells (xs ++ t).toArray E (0, 0)) :: L) := by
  have h1 := List.pairwise_cons.1 h.dist
  obtain ⟨hl, ⟨_, hz⟩ | ⟨b, cap, cur, hv, hb, hh, hnc, hcm, hsz, ht⟩⟩ := h.sat (.row E 1 v n xs) (by simp)
  · omega
  refine ⟨b, cap, cur.toList.drop n, hv, hnc, hcm, by rw [List.length_drop, Array.length_toList]; omega, h.below, ?_, List.pairwise_cons.2 ⟨fun y hy k hk => h1.1 y hy k ?_, h1.2⟩⟩
  · intro x hx
    rcases List.mem_cons.1 hx with hx | hx
    · subst hx
      refine ⟨hb, ?_⟩
      rw [hh, ← ht, Nat.mul_one, List.take_append_drop]
    · exact h.sat x (by simp [hx])
  · simp only [Ent.owns] at hk ⊢
    rw [hv, ← hk]; rfl
/-- And back, cut to a length. -/
theorem Hp.ofBlk {w0 w : World} {E b cap m : Nat} {xs t : List Value} {L : List Ent} (h : Hp w0 w (.blk b (.cells (xs ++ t).toArray E (0, 0)) :: L)) (hl : xs.length + t.length = cap) (hc : cap ≤ maxLen) (hm : xs.length = m) :
    Hp w0 w (.row E 1 (.slice (some ⟨b, 0, none⟩) m cap) m xs :: L) := by
  have := h.toRowN (m := cap) (s := 1) m (by simp; omega) hc (by omega)
  rw [Nat.mul_one] at this
  have e : (xs ++ t).toArray.toList.take m = xs := by rw [← hm]; simp
  rwa [e] at this
end Go.W
namespace Go.Proofs.Ytagfpnnplgkkoaa
open Go.W Go.Poly Go.Tree Go.RowKit
set_option maxRecDepth 100000
attribute [local irreducible] WC WL WQ WS WH

theorem rootOf_pd (p : Nat) (vf : Value) (f : List Nat) (hp0 : 0 < p) (hp : p ≤ 1021) (hlf : f.length ≤ 1000) (w : World) (sf : Pd w vf f) :
    Ret Try.prog 102 [.int .i64 (p : Nat), vf] w fun u w' => Hp w w' [Rw u (rootL p f)] := by
  obtain ⟨fa, fc, rfl, sl, _⟩ := sf
  refine enter Try.func102 rfl rfl ⟨rfl, rfl⟩ rfl ?_
  repeat (first | refine WC.seq ?_ | refine WC.reg ?_ | refine WL.pure rfl rfl rfl ?_ | refine WL.nil ?_ | refine WC.skip ?_ | refine WC.block ?_ | refine WC.condT rfl ?_ | refine WC.condF rfl ?_ | refine WL.off rfl rfl rfl ?_ | refine WL.off0 rfl rfl ?_ | refine WC.exit ?_ | refine blk_hit ?_ | refine blk_miss rfl ?_ | refine WC.ret ?_)
  refine WC.loop (Nat × Value) (fun (m, v) => [(0, .int .i64 (p : Nat)), (1, .slice fa f.length fc), (5, v), (6, .int .i64 (m * p : Nat))])
    (fun (m, v) w' => m * p < f.length + p ∧ Hp w w' [Rw v (fl m fun j => co f (j * p))]) (fun (m, v) => f.length + p - m * p) (0, .slice none 0 0) ⟨rfl, rfl, rfl, congrArg (fun z => some (Value.int .i64 z)) (show (0 : Int) = ((0 * p : Nat) : Int) by rw [Nat.zero_mul]; rfl), rfl⟩ ⟨by omega, (Hp.start w).nilRw⟩ ?_
  rintro ⟨m, v⟩ w1 ⟨hm, hp1⟩
  have hmp : (m + 1) * p = m * p + p := Nat.succ_mul m p
  have hml : m ≤ m * p := Nat.le_mul_of_pos_right m hp0
  repeat (first | refine WC.seq ?_ | refine WC.reg ?_ | refine WL.pure rfl rfl rfl ?_ | refine WL.nil ?_ | refine WC.skip ?_ | refine WC.block ?_ | refine WC.condT rfl ?_ | refine WC.condF rfl ?_ | refine WL.off rfl rfl rfl ?_ | refine WL.off0 rfl rfl ?_ | refine WC.exit ?_ | refine blk_hit ?_ | refine blk_miss rfl ?_ | refine WC.ret ?_)
  refine WC.cond rfl (fun h => ?_) (fun h => ?_)
  · have hi : m * p < f.length := by have := of_decide_eq_true h; omega
    have step : IntKind.i64.wrap (((m * p : Nat) : Int) + (p : Int)) = (((m + 1) * p : Nat) : Int) := by rw [hmp, wrap_mid (by omega) (by omega)]; omega
    obtain ⟨va, vc, hv, -, -⟩ := Pd.row hp1 0 rfl
    rw [fl_len] at hv
    subst hv
    have hl0 : (fl m fun j => co f (j * p)).length = m := fl_len _ _
    simp only [Rw, hl0] at hp1
    repeat (first | refine WC.seq ?_ | refine WC.reg ?_ | refine WL.pure rfl rfl rfl ?_ | refine WL.nil ?_ | refine WC.skip ?_ | refine WC.block ?_ | refine WC.condT rfl ?_ | refine WC.condF rfl ?_ | refine WL.off rfl rfl rfl ?_ | refine WL.off0 rfl rfl ?_ | refine WC.exit ?_ | refine blk_hit ?_ | refine blk_miss rfl ?_ | refine WC.ret ?_)
    refine WL.ixload rfl (fun _ => rfl) rfl rfl rfl rfl rfl rfl rfl hi rfl rfl (sl.hp hp1) (ints_at hi) ?_
    intro pa
    refine WL.buildS (cs := ints [co f (m * p)]) rfl rfl rfl rfl rfl rfl rfl rfl rfl ?_
    intro bs w2 hbs
    have hp2 := hp1.new hbs
    refine WL.append 1 hp2 rfl rfl rfl rfl rfl (by decide) rfl rfl rfl (news := ints [co f (m * p)]) (Sl.of_obj (hp2.obj 0 rfl) (fun q u hq => by simpa using hq)) rfl (ints_cells _) (by unfold maxLen; omega) (by show (m + 1) * 8 ≤ _; omega) ?_
    intro a' c' w3 hp3 hg3
    have e2 : ints (fl m fun j => co f (j * p)) ++ ints [co f (m * p)] = ints (fl (m + 1) fun j => co f (j * p)) := by
      simp [ints, fl, List.range_succ]
    rw [e2] at hp3
    have hp4 := hp3.tail
    have hl1 : (fl (m + 1) fun j => co f (j * p)).length = m + 1 := fl_len _ _
    repeat (first | refine WC.seq ?_ | refine WC.reg ?_ | refine WL.pure rfl rfl rfl ?_ | refine WL.nil ?_ | refine WC.skip ?_ | refine WC.block ?_ | refine WC.condT rfl ?_ | refine WC.condF rfl ?_ | refine WL.off rfl rfl rfl ?_ | refine WL.off0 rfl rfl ?_ | refine WC.exit ?_ | refine blk_hit ?_ | refine blk_miss rfl ?_ | refine WC.ret ?_)
    refine ⟨(m + 1, .slice a' (m + 1) c'), by show f.length + p - (m + 1) * p < f.length + p - m * p; omega, ⟨rfl, rfl, rfl, congrArg (fun z => some (Value.int .i64 z)) step, rfl⟩, by omega, ?_⟩
    show Hp w w3 [Ent.row _ 1 _ _ _]
    rw [hl1]
    exact hp4
  · have hi : f.length ≤ m * p := by have := of_decide_eq_false h; omega
    have hme : (f.length + p - 1) / p = m := by
      rw [Nat.div_eq_iff hp0]
      exact ⟨by omega, by omega⟩
    repeat (first | refine WC.seq ?_ | refine WC.reg ?_ | refine WL.pure rfl rfl rfl ?_ | refine WL.nil ?_ | refine WC.skip ?_ | refine WC.block ?_ | refine WC.condT rfl ?_ | refine WC.condF rfl ?_ | refine WL.off rfl rfl rfl ?_ | refine WL.off0 rfl rfl ?_ | refine WC.exit ?_ | refine blk_hit ?_ | refine blk_miss rfl ?_ | refine WC.ret ?_)
    refine Res.one rfl rfl rfl ?_
    rw [rootL, hme]
    exact hp1

theorem RDiv_pd (p : Nat) (vf vg : Value) (f g : List Nat) (hpp : Pri p) (hp : p ≤ 1021) (hf : IsP p f) (hg : IsP p g) (hg0 : 0 < g.length) (hlf : f.length ≤ 1000) (hlg : g.length ≤ 1000) (w : World) (sf : Pd w vf f) (sg_ : Pd w vg g) :
    Ret Try.prog 25 [.int .i64 (p : Nat), vf, vg] w fun u w' => ∃ q r, u = .tuple #[q, r] ∧ Hp w w' [Rw r (remL p f g), Rw q (quoL p f g)] := by
  have hp0 := hpp.pos
  have hqp := quo_isP hpp hf hg hg0
  have hrp := rem_isP hpp hf hg hg0
  have tq := trim_id hqp.2
  have tr := trim_id hrp.2
  obtain ⟨fa, fc, rfl, sf, _⟩ := sf
  obtain ⟨ga, gc, rfl, sg_, _⟩ := sg_
  have htl := hg.co hp0 (g.length - 1)
  refine enter Try.func25 rfl rfl ⟨rfl, rfl⟩ rfl ?_
  repeat (first | refine WC.seq ?_ | refine WC.reg ?_ | refine WL.pure rfl rfl rfl ?_ | refine WL.nil ?_ | refine WC.skip ?_ | refine WC.block ?_ | refine WC.condT rfl ?_ | refine WC.condF rfl ?_ | refine WL.off rfl rfl rfl ?_ | refine WL.off0 rfl rfl ?_ | refine WC.exit ?_ | refine blk_hit ?_ | refine blk_miss rfl ?_ | refine WC.ret ?_)
  refine WL.append 0 ((Hp.start w).nilrow 3 1) rfl rfl rfl rfl rfl Nat.zero_lt_one rfl rfl rfl (news := ints f) sf (by rw [ints_len]; exact (Nat.mul_one _).symm) (ints_cells _) (by unfold maxLen; omega) (by show (0 + f.length) * 8 ≤ _; omega) ?_
  intro ra rc w1 hp1 hg1
  rw [Nat.zero_add] at hp1 ⊢
  rw [List.nil_append] at hp1
  have hp1 : Hp w w1 [.row 3 1 (.slice ra f.length rc) f.length (ints f)] := hp1
  have hrd : Pd w1 (.slice ra f.length rc) f := Pd.row hp1 0 rfl
  obtain ⟨ra', rc', he, hrs, _, hrc⟩ := hrd
  simp only [Value.slice.injEq, true_and] at he
  obtain ⟨rfl, rfl⟩ := he
  repeat (first | refine WC.seq ?_ | refine WC.reg ?_ | refine WL.pure rfl rfl rfl ?_ | refine WL.nil ?_ | refine WC.skip ?_ | refine WC.block ?_ | refine WC.condT rfl ?_ | refine WC.condF rfl ?_ | refine WL.off rfl rfl rfl ?_ | refine WL.off0 rfl rfl ?_ | refine WC.exit ?_ | refine blk_hit ?_ | refine blk_miss rfl ?_ | refine WC.ret ?_)
  refine WC.cond rfl (fun hc => ?_) (fun hc => ?_)
  · have hc : f.length < g.length := by have := of_decide_eq_true hc; omega
    have hd : quoL p f g = [] ∧ remL p f g = f := by unfold quoL remL divL; rw [if_pos hc]; exact ⟨rfl, rfl⟩
    rw [hd.2] at tr
    rw [hd.1, hd.2]
    repeat (first | refine WC.seq ?_ | refine WC.reg ?_ | refine WL.pure rfl rfl rfl ?_ | refine WL.nil ?_ | refine WC.skip ?_ | refine WC.block ?_ | refine WC.condT rfl ?_ | refine WC.condF rfl ?_ | refine WL.off rfl rfl rfl ?_ | refine WL.off0 rfl rfl ?_ | refine WC.exit ?_ | refine blk_hit ?_ | refine blk_miss rfl ?_ | refine WC.ret ?_)
    refine WL.call rfl rfl rfl rfl rfl ent47 (Rtrim_any ra rc f hrc (by omega) w1 hrs) ?_
    rintro _ w2 ⟨b2, c2, rfl, hp2⟩
    rw [tr] at hp2
    repeat (first | refine WC.seq ?_ | refine WC.reg ?_ | refine WL.pure rfl rfl rfl ?_ | refine WL.nil ?_ | refine WC.skip ?_ | refine WC.block ?_ | refine WC.condT rfl ?_ | refine WC.condF rfl ?_ | refine WL.off rfl rfl rfl ?_ | refine WL.off0 rfl rfl ?_ | refine WC.exit ?_ | refine blk_hit ?_ | refine blk_miss rfl ?_ | refine WC.ret ?_)
    refine Res.two rfl rfl rfl rfl ⟨_, _, by rw [tr], (hp1.nil'.over hp2).nilRw.swap⟩
  have hge : g.length ≤ f.length := by have := of_decide_eq_false hc; omega
  have hin := Rinverse_any p _ hpp (top_pos hg hg0) htl (by omega)
  have hlead : iv p (co g (g.length - 1)) < p := iv_lt hp0 _
  simp only [quoL, remL] at tq tr ⊢
  generalize iv p (co g (g.length - 1)) = lead at *
  have hd : divL p f g lead = (fl (f.length - g.length + 1) (dvG p g lead (f.length - g.length + 1) (co f)).1, trimL (fl f.length (dvG p g lead (f.length - g.length + 1) (co f)).2)) := by rw [divL, if_neg (by omega)]
  have en : IntKind.i64.wrap (IntKind.i64.wrap ((f.length : Int) - (g.length : Int)) + 1) = ((f.length - g.length + 1 : Nat) : Int) := by
    rw [wrap_mid (z := (f.length : Int) - (g.length : Int)) (by omega) (by omega), wrap_mid (by omega) (by omega)]; omega
  have eg : IntKind.i64.wrap ((g.length : Int) - 1) = ((g.length - 1 : Nat) : Int) := by rw [wrap_mid (by omega) (by omega)]; omega
  generalize hnn : f.length - g.length + 1 = n at *
  generalize hQR : dvG p g lead n (co f) = QR at *
  clear hc
  obtain ⟨b, cap, t, hv, hbc, hcm, htc, hpb⟩ := Hp.toBlk hp1 (by omega)
  simp only [Value.slice.injEq, true_and] at hv
  obtain ⟨rfl, rfl⟩ := hv
  repeat (first | refine WC.seq ?_ | refine WC.reg ?_ | refine WL.pure rfl rfl rfl ?_ | refine WL.nil ?_ | refine WC.skip ?_ | refine WC.block ?_ | refine WC.condT rfl ?_ | refine WC.condF rfl ?_ | refine WL.off rfl rfl rfl ?_ | refine WL.off0 rfl rfl ?_ | refine WC.exit ?_ | refine blk_hit ?_ | refine blk_miss rfl ?_ | refine WC.ret ?_)
  refine WL.known (d := 29) (congrArg (fun z => some (Value.int .i64 z)) en) ?_
  refine WL.make (m := n) rfl rfl rfl rfl rfl rfl rfl rfl ?_ ?_ ?_
  · show 8 * n ≤ _; omega
  · unfold maxLen; omega
  intro bq w3 hbq
  have hz : (List.replicate n ti3.zero) = ints (fl n fun _ => 0) := by rw [show ti3.zero = Value.int .i64 0 from rfl, ints_zero]
  rw [hz] at hbq
  have hp3 := hpb.new hbq
  have hself : ints f = ints (fl f.length (co f)) := by rw [fl_self]
  rw [hself] at hp3
  repeat (first | refine WC.seq ?_ | refine WC.reg ?_ | refine WL.pure rfl rfl rfl ?_ | refine WL.nil ?_ | refine WC.skip ?_ | refine WC.block ?_ | refine WC.condT rfl ?_ | refine WC.condF rfl ?_ | refine WL.off rfl rfl rfl ?_ | refine WL.off0 rfl rfl ?_ | refine WC.exit ?_ | refine blk_hit ?_ | refine blk_miss rfl ?_ | refine WC.ret ?_)
  refine WL.known (d := 35) (congrArg (fun z => some (Value.int .i64 z)) eg) ?_
  refine WL.ixload rfl (fun _ => rfl) rfl rfl rfl rfl rfl rfl rfl (show g.length - 1 < g.length by omega) rfl rfl (sg_.hp hp3) (ints_at (show g.length - 1 < g.length by omega)) ?_
  intro pa
  refine WL.callP rfl rfl rfl rfl rfl ent49 (hin _) ?_
  have en1 : IntKind.i64.wrap ((n : Int) - 1) = (n : Int) - 1 := wrap_mid (by omega) (by omega)
  repeat (first | refine WC.seq ?_ | refine WC.reg ?_ | refine WL.pure rfl rfl rfl ?_ | refine WL.nil ?_ | refine WC.skip ?_ | refine WC.block ?_ | refine WC.condT rfl ?_ | refine WC.condF rfl ?_ | refine WL.off rfl rfl rfl ?_ | refine WL.off0 rfl rfl ?_ | refine WC.exit ?_ | refine blk_hit ?_ | refine blk_miss rfl ?_ | refine WC.ret ?_)
  refine WC.loop (Nat × (Nat → Nat) × (Nat → Nat)) (fun (m, r, q) => [(0, .int .i64 (p : Nat)), (2, .slice ga g.length gc), (8, .slice (some ⟨b, 0, none⟩) f.length rc), (9, .slice (some ⟨bq, 0, none⟩) n n), (10, .int .i64 (lead : Nat)), (11, .int .i64 ((m : Int) - 1))])
    (fun (m, r, q) w' => m ≤ n ∧ (∀ j, r j < p) ∧ (dvG p g lead m r).2 = QR.2 ∧ (∀ j, j < m → (dvG p g lead m r).1 j = QR.1 j) ∧ (∀ j, m ≤ j → j < n → q j = QR.1 j) ∧ Hp w w' [.blk bq (.cells (ints (fl n q)).toArray 3 (0, 0)), .blk b (.cells (ints (fl f.length r) ++ t).toArray 3 (0, 0))]) (fun (m, _) => m) (n, co f, fun _ => 0)
    ⟨rfl, rfl, rfl, rfl, rfl, congrArg (fun z => some (Value.int .i64 z)) en1, rfl⟩ ⟨Nat.le_refl _, hf.co hp0, by rw [hQR], fun j _ => by rw [hQR], fun j h1 h2 => by omega, hp3⟩ ?_
  rintro ⟨m, r, q⟩ w4 ⟨hm, hr, hR, hQ, hq, hp4⟩
  repeat (first | refine WC.seq ?_ | refine WC.reg ?_ | refine WL.pure rfl rfl rfl ?_ | refine WL.nil ?_ | refine WC.skip ?_ | refine WC.block ?_ | refine WC.condT rfl ?_ | refine WC.condF rfl ?_ | refine WL.off rfl rfl rfl ?_ | refine WL.off0 rfl rfl ?_ | refine WC.exit ?_ | refine blk_hit ?_ | refine blk_miss rfl ?_ | refine WC.ret ?_)
  refine WC.cond rfl (fun hc => ?_) (fun hc => ?_)
  · have hm0 : 0 < m := by have := of_decide_eq_true hc; omega
    obtain ⟨k, rfl⟩ : ∃ k, m = k + 1 := ⟨m - 1, by omega⟩
    have ek : ((k + 1 : Nat) : Int) - 1 = ((k : Nat) : Int) := by omega
    have step : IntKind.i64.wrap ((((k + 1 : Nat) : Int) - 1) - 1) = ((k : Nat) : Int) - 1 := by rw [ek]; exact wrap_mid (by omega) (by omega)
    have hkl : k + g.length - 1 < f.length := by omega
    have eidx : IntKind.i64.wrap (IntKind.i64.wrap (((k : Nat) : Int) + (g.length : Int)) - 1) = ((k + g.length - 1 : Nat) : Int) := by
      rw [wrap_mid (z := ((k : Nat) : Int) + (g.length : Int)) (by omega) (by omega), wrap_mid (by omega) (by omega)]; omega
    have eidx2 : IntKind.i64.wrap (IntKind.i64.wrap ((((k + 1 : Nat) : Int) - 1) + (g.length : Int)) - 1) = ((k + g.length - 1 : Nat) : Int) := by rw [ek]; exact eidx
    have hv1 : (ints (fl f.length r))[k + g.length - 1]? = some (.int .i64 (r (k + g.length - 1) : Nat)) := by simp [ints, fl, hkl]
    have ec := mul_val hp0 hp (hr (k + g.length - 1)) hlead
    have hclt := Nat.mod_lt (r (k + g.length - 1) * lead) hp0
    have hR2 : (dvG p g lead k (dvS p g (r (k + g.length - 1) * lead % p) k g.length r)).2 = QR.2 := hR
    have hQ2 : ∀ j, j < k → (dvG p g lead k (dvS p g (r (k + g.length - 1) * lead % p) k g.length r)).1 j = QR.1 j := by
      intro j hj
      rw [← hQ j (by omega), dvG]
      simp only
      rw [if_neg (by omega)]
    have hQk : QR.1 k = r (k + g.length - 1) * lead % p := by rw [← hQ k (by omega), dvG]; simp
    have hsl : Sl w4 (some ⟨b, 0, none⟩) (ints (fl f.length r)) := Sl.of_obj (hp4.obj 1 rfl) (fun q u hq => by
      have hlt := (List.getElem?_eq_some_iff.1 hq).1
      simp only [List.getElem?_toArray]
      rw [List.getElem?_append_left hlt]; exact hq)
    generalize r (k + g.length - 1) * lead % p = c at *
    repeat (first | refine WC.seq ?_ | refine WC.reg ?_ | refine WL.pure rfl rfl rfl ?_ | refine WL.nil ?_ | refine WC.skip ?_ | refine WC.block ?_ | refine WC.condT rfl ?_ | refine WC.condF rfl ?_ | refine WL.off rfl rfl rfl ?_ | refine WL.off0 rfl rfl ?_ | refine WC.exit ?_ | refine blk_hit ?_ | refine blk_miss rfl ?_ | refine WC.ret ?_)
    refine WL.known (d := 51) (congrArg (fun z => some (Value.int .i64 z)) eidx2) ?_
    refine WL.ixload rfl (fun _ => rfl) rfl rfl rfl rfl rfl rfl rfl hkl rfl rfl hsl hv1 ?_
    intro pb
    repeat (first | refine WC.seq ?_ | refine WC.reg ?_ | refine WL.pure rfl rfl rfl ?_ | refine WL.nil ?_ | refine WC.skip ?_ | refine WC.block ?_ | refine WC.condT rfl ?_ | refine WC.condF rfl ?_ | refine WL.off rfl rfl rfl ?_ | refine WL.off0 rfl rfl ?_ | refine WC.exit ?_ | refine blk_hit ?_ | refine blk_miss rfl ?_ | refine WC.ret ?_)
    refine WL.rem rfl rfl rfl rfl (by omega) ?_
    refine WL.known (d := 57) (congrArg (fun z => some (Value.int .i64 z)) ec) ?_
    repeat (first | refine WC.seq ?_ | refine WC.reg ?_ | refine WL.pure rfl rfl rfl ?_ | refine WL.nil ?_ | refine WC.skip ?_ | refine WC.block ?_ | refine WC.condT rfl ?_ | refine WC.condF rfl ?_ | refine WL.off rfl rfl rfl ?_ | refine WL.off0 rfl rfl ?_ | refine WC.exit ?_ | refine blk_hit ?_ | refine blk_miss rfl ?_ | refine WC.ret ?_)
    refine WL.known (d := 59) (congrArg (fun z => some (Value.int .i64 z)) ek) ?_
    refine WL.ix1 rfl rfl rfl rfl rfl rfl rfl (j := k) (by omega) ?_
    refine WL.store rfl rfl rfl rfl rfl rfl (hp4.obj 0 rfl) (by simp [ints, fl]; omega) (fun w5 hw5 => ?_)
    rw [Nat.zero_add, ints_set, fl_set] at hw5
    have hp5 := hp4.set 0 rfl rfl hw5
    have hr0 : fl f.length r = fl f.length (dvS p g c k 0 r) := fl_congr fun j _ => by rw [dvS, if_neg (by omega)]
    rw [hr0] at hp5
    repeat (first | refine WC.seq ?_ | refine WC.reg ?_ | refine WL.pure rfl rfl rfl ?_ | refine WL.nil ?_ | refine WC.skip ?_ | refine WC.block ?_ | refine WC.condT rfl ?_ | refine WC.condF rfl ?_ | refine WL.off rfl rfl rfl ?_ | refine WL.off0 rfl rfl ?_ | refine WC.exit ?_ | refine blk_hit ?_ | refine blk_miss rfl ?_ | refine WC.ret ?_)
    refine WC.loop Nat (fun i => [(0, .int .i64 (p : Nat)), (2, .slice ga g.length gc), (8, .slice (some ⟨b, 0, none⟩) f.length rc), (9, .slice (some ⟨bq, 0, none⟩) n n), (10, .int .i64 (lead : Nat)), (11, .int .i64 (((k + 1 : Nat) : Int) - 1)), (12, .int .i64 (c : Nat)), (13, .int .i64 (i : Nat))])
      (fun i w' => i ≤ g.length ∧ Hp w w' [.blk bq (.cells (ints (fl n fun j => if j = k then c else q j)).toArray 3 (0, 0)), .blk b (.cells (ints (fl f.length (dvS p g c k i r)) ++ t).toArray 3 (0, 0))]) (fun i => g.length - i) 0 ⟨rfl, rfl, rfl, rfl, rfl, rfl, rfl, rfl, rfl⟩ ⟨Nat.zero_le _, hp5⟩ ?_
    rintro i w6 ⟨hi, hp6⟩
    repeat (first | refine WC.seq ?_ | refine WC.reg ?_ | refine WL.pure rfl rfl rfl ?_ | refine WL.nil ?_ | refine WC.skip ?_ | refine WC.block ?_ | refine WC.condT rfl ?_ | refine WC.condF rfl ?_ | refine WL.off rfl rfl rfl ?_ | refine WL.off0 rfl rfl ?_ | refine WC.exit ?_ | refine blk_hit ?_ | refine blk_miss rfl ?_ | refine WC.ret ?_)
    refine WC.cond rfl (fun hc2 => ?_) (fun hc2 => ?_)
    · have hi : i < g.length := by have := of_decide_eq_true hc2; omega
      have step2 : IntKind.i64.wrap ((i : Int) + 1) = ((i + 1 : Nat) : Int) := by rw [wrap_i64_in (by omega) (by omega)]; omega
      have eki : IntKind.i64.wrap ((((k + 1 : Nat) : Int) - 1) + (i : Int)) = ((k + i : Nat) : Int) := by rw [ek, wrap_i64_in (by omega) (by omega)]; omega
      have hki : k + i < f.length := by omega
      have hv6 : (ints (fl f.length (dvS p g c k i r)) ++ t)[k + i]? = some (.int .i64 (dvS p g c k i r (k + i) : Nat)) := by
        rw [List.getElem?_append_left (by simp [ints, fl, hki])]
        simp [ints, fl, hki]
      have hds := dvS_lt hp0 (c := c) (k := k) (i := i) (g := g) hr (k + i)
      have es : (IntKind.i64.wrap ((dvS p g c k i r (k + i) : Int) + IntKind.i64.wrap (IntKind.i64.wrap ((p : Int) - (c : Int)) * (co g i : Int)))).tmod (p : Int) = (((dvS p g c k i r (k + i) + (p - c) * co g i) % p : Nat) : Int) := by
        have h1 : (p - c) * co g i ≤ 1021 * 1021 := Nat.mul_le_mul (by omega) (by have := hg.co hp0 i; omega)
        rw [wrap_mid (z := (p : Int) - (c : Int)) (by omega) (by omega), show (p : Int) - (c : Int) = ((p - c : Nat) : Int) by omega, ← Int.natCast_mul]
        generalize (p - c) * co g i = y at *
        generalize dvS p g c k i r (k + i) = x at *
        rw [wrap_mid (z := (y : Int)) (by omega) (by omega), wrap_mid (by omega) (by omega), ← Int.natCast_add, ← Int.ofNat_tmod]
      obtain ⟨bg, og, rfl⟩ := Sl.some sg_ (ints_at hg0)
      repeat (first | refine WC.seq ?_ | refine WC.reg ?_ | refine WL.pure rfl rfl rfl ?_ | refine WL.nil ?_ | refine WC.skip ?_ | refine WC.block ?_ | refine WC.condT rfl ?_ | refine WC.condF rfl ?_ | refine WL.off rfl rfl rfl ?_ | refine WL.off0 rfl rfl ?_ | refine WC.exit ?_ | refine blk_hit ?_ | refine blk_miss rfl ?_ | refine WC.ret ?_)
      refine WC.regS 22 mixed (by kernel_rfl) rfl rfl (fun w7 hw7 hh7 => ?_)
      have hp7 := hp6.keep hw7
      repeat (first | refine WS.pure rfl rfl rfl ?_ | refine WS.off rfl rfl rfl ?_ | refine WS.nil ?_)
      refine WS.known (d := 71) (congrArg (fun z => some (Value.int .i64 z)) eki) ?_
      refine WS.known (d := 75) (congrArg (fun z => some (Value.int .i64 z)) eki) ?_
      refine WS.ix1 rfl rfl rfl rfl rfl rfl rfl (j := k + i) hki ?_
      repeat (first | refine WS.pure rfl rfl rfl ?_ | refine WS.off rfl rfl rfl ?_ | refine WS.nil ?_)
      refine WS.loadB rfl rfl rfl rfl rfl (hp7.obj 1 rfl) (j := 0 + (k + i)) (by rw [nth_eq, Nat.zero_add]; exact hv6) ?_
      repeat (first | refine WS.pure rfl rfl rfl ?_ | refine WS.off rfl rfl rfl ?_ | refine WS.nil ?_)
      refine WS.ix1 rfl rfl rfl rfl rfl rfl rfl hi ?_
      repeat (first | refine WS.pure rfl rfl rfl ?_ | refine WS.off rfl rfl rfl ?_ | refine WS.nil ?_)
      refine WS.load rfl rfl rfl rfl rfl (Sl.cell (sg_.hp hp7) (ints_at hi)) ?_
      repeat (first | refine WS.pure rfl rfl rfl ?_ | refine WS.off rfl rfl rfl ?_ | refine WS.nil ?_)
      refine WS.rem rfl rfl rfl rfl (by omega) ?_
      refine WS.known (d := 88) (congrArg (fun z => some (Value.int .i64 z)) es) ?_
      refine WS.ix1 rfl rfl rfl rfl rfl rfl rfl (j := k + i) hki ?_
      repeat (first | refine WS.pure rfl rfl rfl ?_ | refine WS.off rfl rfl rfl ?_ | refine WS.nil ?_)
      refine WL.store rfl rfl rfl rfl rfl rfl (hp7.obj 1 rfl) (by simp [ints, fl]; omega) (fun w8 hw8 => ?_)
      have e1 : (fl f.length (dvS p g c k i r)).set (k + i) ((dvS p g c k i r (k + i) + (p - c) * co g i) % p) = fl f.length (dvS p g c k (i + 1) r) := by
        rw [fl_set]
        refine fl_congr fun m _ => ?_
        rw [dvS_step]
        by_cases h : m = k + i
        · rw [if_pos h, if_pos h, h]
        · rw [if_neg h, if_neg h]
      rw [Nat.zero_add, ints_set_app _ _ _ (by rw [fl_len]; exact hki), e1] at hw8
      have hp8 := hp7.set 1 rfl rfl hw8
      repeat (first | refine WC.seq ?_ | refine WC.reg ?_ | refine WL.pure rfl rfl rfl ?_ | refine WL.nil ?_ | refine WC.skip ?_ | refine WC.block ?_ | refine WC.condT rfl ?_ | refine WC.condF rfl ?_ | refine WL.off rfl rfl rfl ?_ | refine WL.off0 rfl rfl ?_ | refine WC.exit ?_ | refine blk_hit ?_ | refine blk_miss rfl ?_ | refine WC.ret ?_)
      exact ⟨i + 1, by show g.length - (i + 1) < g.length - i; omega, ⟨rfl, rfl, rfl, rfl, rfl, rfl, rfl, congrArg (fun z => some (Value.int .i64 z)) step2, rfl⟩, hi, hp8⟩
    · have hi : i = g.length := by have := of_decide_eq_false hc2; omega
      subst i
      repeat (first | refine WC.seq ?_ | refine WC.reg ?_ | refine WL.pure rfl rfl rfl ?_ | refine WL.nil ?_ | refine WC.skip ?_ | refine WC.block ?_ | refine WC.condT rfl ?_ | refine WC.condF rfl ?_ | refine WL.off rfl rfl rfl ?_ | refine WL.off0 rfl rfl ?_ | refine WC.exit ?_ | refine blk_hit ?_ | refine blk_miss rfl ?_ | refine WC.ret ?_)
      refine ⟨(k, dvS p g c k g.length r, fun j => if j = k then c else q j), by show k < k + 1; omega, ⟨rfl, rfl, rfl, rfl, rfl, congrArg (fun z => some (Value.int .i64 z)) step, rfl⟩, by omega, dvS_lt hp0 hr, hR2, hQ2, fun j h1 h2 => ?_, hp6⟩
      simp only
      by_cases h : j = k
      · rw [if_pos h, h, hQk]
      · rw [if_neg h]; exact hq j (by omega) h2
  · have hm0 : m = 0 := by have := of_decide_eq_false hc; omega
    subst hm0
    have hrR : r = QR.2 := hR
    have hqQ : fl n q = fl n QR.1 := fl_congr fun j hj => hq j (Nat.zero_le _) hj
    rw [hrR, hqQ] at hp4
    rw [hd] at tq tr ⊢
    simp only at tq tr ⊢
    have hn1 : (fl n QR.1).length = n := fl_len _ _
    have ht1 := Rtrim_any (some ⟨bq, 0, none⟩) n (fl n QR.1) (by omega) (by omega) w4 (Sl.of_obj (hp4.obj 0 rfl) (fun q u hq => by simpa using hq))
    rw [hn1, tq] at ht1
    have hs1 : (fl f.length QR.2).length = f.length := fl_len _ _
    repeat (first | refine WC.seq ?_ | refine WC.reg ?_ | refine WL.pure rfl rfl rfl ?_ | refine WL.nil ?_ | refine WC.skip ?_ | refine WC.block ?_ | refine WC.condT rfl ?_ | refine WC.condF rfl ?_ | refine WL.off rfl rfl rfl ?_ | refine WL.off0 rfl rfl ?_ | refine WC.exit ?_ | refine blk_hit ?_ | refine blk_miss rfl ?_ | refine WC.ret ?_)
    refine WL.call rfl rfl rfl rfl rfl ent47 ht1 ?_
    rintro _ w5 ⟨qa, qc, rfl, hp5⟩
    have hp5 := hp4.comb hp5
    have ht2 := Rtrim_any (some ⟨b, 0, none⟩) rc (fl f.length QR.2) (by omega) (by omega) w5 (Sl.of_obj (hp5.obj 2 rfl) (fun q u hq => by
      have hlt := (List.getElem?_eq_some_iff.1 hq).1
      simp only [List.getElem?_toArray]
      rw [List.getElem?_append_left hlt]; exact hq))
    rw [hs1] at ht2
    repeat (first | refine WC.seq ?_ | refine WC.reg ?_ | refine WL.pure rfl rfl rfl ?_ | refine WL.nil ?_ | refine WC.skip ?_ | refine WC.block ?_ | refine WC.condT rfl ?_ | refine WC.condF rfl ?_ | refine WL.off rfl rfl rfl ?_ | refine WL.off0 rfl rfl ?_ | refine WC.exit ?_ | refine blk_hit ?_ | refine blk_miss rfl ?_ | refine WC.ret ?_)
    refine WL.call rfl rfl rfl rfl rfl ent47 ht2 ?_
    rintro _ w6 ⟨ra, rc2, rfl, hp6⟩
    have hp6 := (hp5.comb hp6).pick [0, 1] (by decide)
    repeat (first | refine WC.seq ?_ | refine WC.reg ?_ | refine WL.pure rfl rfl rfl ?_ | refine WL.nil ?_ | refine WC.skip ?_ | refine WC.block ?_ | refine WC.condT rfl ?_ | refine WC.condF rfl ?_ | refine WL.off rfl rfl rfl ?_ | refine WL.off0 rfl rfl ?_ | refine WC.exit ?_ | refine blk_hit ?_ | refine blk_miss rfl ?_ | refine WC.ret ?_)
    exact Res.two rfl rfl rfl rfl ⟨_, _, rfl, hp6⟩
end Go.Proofs.Ytagfpnnplgkkoaa
