/- PolyBezout returns true. -/
import Derived.Test.YtagfpnnplgkkoaaR38
namespace Go.Poly
/-- The common divisor of two does not hang on their order. -/
theorem gcd_comm {p : Nat} (hp : Pri p) {f g : List Nat} (hf : IsP p f) (hg : IsP p g) : gcdL p g f = gcdL p f g := by
  have i1 : IsP p (gcdL p f g) := gcd_isP hp _ f g hf hg
  have i2 : IsP p (gcdL p g f) := gcd_isP hp _ g f hg hf
  have d1 := gcd_dv hp g.length f g hf hg (Nat.le_refl _)
  have d2 := gcd_dv hp f.length g f hg hf (Nat.le_refl _)
  rw [show gcdN p g.length f g = gcdL p f g from rfl] at d1
  rw [show gcdN p f.length g f = gcdL p g f from rfl] at d2
  obtain ⟨-, ia, ib, hc⟩ := bez_gcd hp hf hg
  obtain ⟨-, ja, jb, hc2⟩ := bez_gcd hp hg hf
  have h1 : Dv p (gcdL p g f) (gcdL p f g) := by
    have := (d2.2.mul hp i2 ia).add hp i2 (d2.1.mul hp i2 ib)
    rwa [hc] at this
  have h2 : Dv p (gcdL p f g) (gcdL p g f) := by
    have := (d1.2.mul hp i1 ja).add hp i1 (d1.1.mul hp i1 jb)
    rwa [hc2] at this
  have nz : ∀ (f g : List Nat), IsP p f → IsP p g → gcdL p f g ≠ [] → co (gcdL p f g) ((gcdL p f g).length - 1) = 1 := by
    intro f g hf hg hn
    by_cases h : f ≠ [] ∨ g ≠ []
    · exact (gcd_top hp g.length f g hf hg (Nat.le_refl _) h).2
    · have hf0 : f = [] := Classical.byContradiction fun e => h (.inl e)
      have hg0 : g = [] := Classical.byContradiction fun e => h (.inr e)
      subst hf0 hg0
      exact absurd (by simp [gcdL, gcdN, monicL]) hn
  exact dv_anti hp i2 i1 h1 h2 (nz g f hg hf) (nz f g hf hg)
/-- A product divided by a factor leaves nothing. -/
theorem quo_mul' {p : Nat} (hp : Pri p) {f g : List Nat} (hf : IsP p f) (hg : IsP p g) (hg0 : 0 < g.length) : remL p (mulL p f g) g = [] := by
  have hm := mul_isP hp hf hg
  have hq := quo_isP hp hm hg hg0
  have hr := rem_isP hp hm hg hg0
  have hl := rem_lt hp hm hg hg0
  have hs := quo_rem hp hm hg hg0
  exact (div_one hp hg hg0 hq hr hf (isP_nil p) hl hg0 (by rw [hs, addL_nil' hp.pos hm])).2
theorem gcd_len16 {p : Nat} (hp : Pri p) {f g : List Nat} (hf : IsP p f) (hg : IsP p g) (lf : f.length ≤ 16) (lg : g.length ≤ 16) :
    (gcdL p f g).length ≤ 16 ∧ (bezL p f g).2.1.length ≤ 16 ∧ (bezL p f g).2.2.length ≤ 16 := by
  rcases Nat.eq_zero_or_pos g.length with h | h
  · have hg0 : g = [] := List.length_eq_zero_iff.1 h
    subst hg0
    obtain ⟨h1, h2⟩ := bez_nil_right hp hf
    rw [h1, h2]
    unfold gcdL
    rw [gcd_nil, monic_len hp hf]
    simp only [List.length_nil]
    omega
  · have hgl := (gcd_len hp g.length f g hf hg h (Nat.le_refl _)).2
    rw [show gcdN p g.length f g = gcdL p f g from rfl] at hgl
    rcases Nat.eq_zero_or_pos f.length with h2 | h2
    · have hf0 : f = [] := List.length_eq_zero_iff.1 h2
      subst hf0
      obtain ⟨h1, h2⟩ := bez_nil_left hp hg h
      rw [h1, h2]
      simp only [List.length_nil]
      omega
    · have := gcd_lens hp hf hg h2 h
      omega
end Go.Poly
namespace Go.Proofs.Ytagfpnnplgkkoaa
open Go.W Go.Poly Go.Tree Go.RowKit
set_option maxRecDepth 100000
attribute [local irreducible] WC WL WQ WS WH

theorem PolyBezout_any (p : Int) (fa ga : Option Addr) (fc gc : Nat) (xf xg : List Int) (w : World) (sf : Sl w fa (zs xf)) (sg_ : Sl w ga (zs xg)) (hfc : xf.length ≤ fc) (hgc : xg.length ≤ gc) (hfn : fa = none → fc = 0) (hgn : ga = none → gc = 0) :
    Ret Try.prog 10 [.int .i64 p, .agg #[.slice fa xf.length fc, .slice ga xg.length gc]] w fun u w' => u = .bool true ∧ Hp w w' [] := by
  have zf : Pz w (.slice fa xf.length fc) xf := ⟨_, _, rfl, sf, hfn, hfc⟩
  have zg : Pz w (.slice ga xg.length gc) xg := ⟨_, _, rfl, sg_, hgn, hgc⟩
  refine enter Try.func10 rfl rfl ⟨rfl, rfl⟩ rfl ?_
  repeat (first | refine WC.seq ?_ | refine WC.reg ?_ | refine WL.pure rfl rfl rfl ?_ | refine WL.nil ?_ | refine WC.skip ?_ | refine WC.block ?_ | refine WC.condT rfl ?_ | refine WC.condF rfl ?_ | refine WL.off rfl rfl rfl ?_ | refine WL.off0 rfl rfl ?_ | refine WC.exit ?_ | refine blk_hit ?_ | refine blk_miss rfl ?_ | refine WC.ret ?_)
  refine WL.box rfl rfl rfl ?_
  intro b1 w1 hb1
  have hp1 := (Hp.start w).new hb1
  repeat (first | refine WC.seq ?_ | refine WC.reg ?_ | refine WL.pure rfl rfl rfl ?_ | refine WL.nil ?_ | refine WC.skip ?_ | refine WC.block ?_ | refine WC.condT rfl ?_ | refine WC.condF rfl ?_ | refine WL.off rfl rfl rfl ?_ | refine WL.off0 rfl rfl ?_ | refine WC.exit ?_ | refine blk_hit ?_ | refine blk_miss rfl ?_ | refine WC.ret ?_)
  refine WL.call rfl rfl rfl rfl rfl ent26 (fieldO_any p w1) ?_
  rintro _ w2 ⟨rfl, q, rfl, hq, hq2⟩
  have hF := tm_isP hq.pos xf 16
  have hG := tm_isP hq.pos xg 16
  have lF := tm_len q xf 16
  have lG := tm_len q xg 16
  repeat (first | refine WC.seq ?_ | refine WC.reg ?_ | refine WL.pure rfl rfl rfl ?_ | refine WL.nil ?_ | refine WC.skip ?_ | refine WC.block ?_ | refine WC.condT rfl ?_ | refine WC.condF rfl ?_ | refine WL.off rfl rfl rfl ?_ | refine WL.off0 rfl rfl ?_ | refine WC.exit ?_ | refine blk_hit ?_ | refine blk_miss rfl ?_ | refine WC.ret ?_)
  refine WC.mid (Value × Value) (fun (v5, v6) => [(0, .int .i64 (q : Nat)), (5, v5), (6, v6)]) (fun (v5, v6) w' => Hp w w' [Rw v6 (tmL q xg 16), Rw v5 (tmL q xf 16)]) ?_ ?_
  · refine WC.regH (fun w' => Hp w w' [.blk b1 (.cells #[.slice fa xf.length fc, .slice ga xg.length gc] 24 (0, 0))]) mixed (by kernel_rfl) (fun w2 hw2 hh2 => ?_)
    have hp2 := hp1.keep hw2
    refine WH.pure 0 (by kernel_rfl) rfl (by kernel_rfl) rfl rfl rfl hp2 ?_
    refine WH.pure 1 (by kernel_rfl) rfl (by kernel_rfl) rfl rfl rfl hp2 ?_
    refine WH.load 2 (by kernel_rfl) rfl (by kernel_rfl) rfl rfl rfl rfl rfl (fun w' h => cell_of_obj (h.obj 0 rfl) rfl) hp2 ?_
    refine WH.pure 4 (by kernel_rfl) rfl (by kernel_rfl) rfl rfl rfl hp2 ?_
    refine WH.pure 5 (by kernel_rfl) rfl (by kernel_rfl) rfl rfl rfl hp2 ?_
    refine WH.load 6 (by kernel_rfl) rfl (by kernel_rfl) rfl rfl rfl rfl rfl (fun w' h => cell_of_obj (h.obj 0 rfl) rfl) hp2 ?_
    refine WH.one 3 rfl (by kernel_rfl) ?_
    refine WL.call rfl rfl rfl rfl rfl ent27 (tame_pz q 16 _ xf hq.pos hq2 (by omega) w2 (zf.hp hp2)) ?_
    rintro v5 w3 hp3
    have hq3 := hp2.call hp3.below
    refine WL.nil ⟨hq3, ?_⟩
    refine WH.one 7 rfl (by kernel_rfl) ?_
    refine WL.call rfl rfl rfl rfl rfl ent27 (tame_pz q 16 _ xg hq.pos hq2 (by omega) w3 (zg.hp hq3)) ?_
    rintro v6 w4 hp4
    have hq4 := hq3.call hp4.below
    refine WL.nil ⟨hq4, ?_⟩
    refine WH.pure 8 (by kernel_rfl) rfl (by kernel_rfl) rfl rfl rfl hq4 ?_
    refine WH.pure 9 (by kernel_rfl) rfl (by kernel_rfl) rfl rfl rfl hq4 ?_
    refine WH.done (by kernel_rfl) ?_
    exact ⟨(v5, v6), ⟨rfl, rfl, rfl, rfl⟩, hp2.nil'.over (hp3.comb hp4)⟩
  rintro ⟨v5, v6⟩ e2 w2 hsub (hp2 : Hp w w2 [Rw v6 (tmL q xg 16), Rw v5 (tmL q xf 16)])
  refine WC.sub hsub ?_
  have d5 : Pd w2 v5 (tmL q xf 16) := Pd.row hp2 1 rfl
  have d6 : Pd w2 v6 (tmL q xg 16) := Pd.row hp2 0 rfl
  have hw2 := hp2.nil'
  clear hsub hp1 hb1 hp2
  generalize tmL q xf 16 = F at *
  generalize tmL q xg 16 = G at *
  obtain ⟨hd1, ia, ib, hcmb⟩ := bez_gcd hq hF hG
  have hd2 : (bezL q G F).1 = gcdL q F G := by rw [(bez_gcd hq hG hF).1, gcd_comm hq hF hG]
  have id_ : IsP q (gcdL q F G) := gcd_isP hq _ F G hF hG
  obtain ⟨ld, la, lb⟩ := gcd_len16 hq hF hG lF lG
  have hdv := gcd_dv hq G.length F G hF hG (Nat.le_refl _)
  rw [show gcdN q G.length F G = gcdL q F G from rfl] at hdv
  have htop := gcd_top hq G.length F G hF hG (Nat.le_refl _)
  rw [show gcdN q G.length F G = gcdL q F G from rfl] at htop
  have d6' := d6
  have d5' := d5
  obtain ⟨g6a, g6c, rfl, -⟩ := d6
  obtain ⟨g5a, g5c, rfl, -⟩ := d5
  repeat (first | refine WC.seq ?_ | refine WC.reg ?_ | refine WL.pure rfl rfl rfl ?_ | refine WL.nil ?_ | refine WC.skip ?_ | refine WC.block ?_ | refine WC.condT rfl ?_ | refine WC.condF rfl ?_ | refine WL.off rfl rfl rfl ?_ | refine WL.off0 rfl rfl ?_ | refine WC.exit ?_ | refine blk_hit ?_ | refine blk_miss rfl ?_ | refine WC.ret ?_)
  refine WL.call rfl rfl rfl rfl rfl ent30 (Gcd_ok q hq hq2 _ _ F G hF hG (by omega) (by omega) w2 d5' d6') ?_
  rintro _ w3 ⟨vd, va, vb, rfl, hp3⟩
  rw [hd1] at hp3
  have dd := Pd.row hp3 2 rfl
  have da := Pd.row hp3 1 rfl
  have db := Pd.row hp3 0 rfl
  have h3 := hp3.nil'
  repeat (first | refine WC.seq ?_ | refine WC.reg ?_ | refine WL.pure rfl rfl rfl ?_ | refine WL.nil ?_ | refine WC.skip ?_ | refine WC.block ?_ | refine WC.condT rfl ?_ | refine WC.condF rfl ?_ | refine WL.off rfl rfl rfl ?_ | refine WL.off0 rfl rfl ?_ | refine WC.exit ?_ | refine blk_hit ?_ | refine blk_miss rfl ?_ | refine WC.ret ?_)
  refine WL.call rfl rfl rfl rfl rfl ent30 (Gcd_ok q hq hq2 _ _ G F hG hF (by omega) (by omega) w3 (d6'.hp h3) (d5'.hp h3)) ?_
  rintro _ w4 ⟨vc, vx, vy, rfl, hp4⟩
  rw [hd2] at hp4
  have dc := Pd.row hp4 2 rfl
  have hp4 := hp4.nil'
  have dd := dd.hp hp4
  have da := da.hp hp4
  have db := db.hp hp4
  have h4 := h3.over hp4
  generalize gcdL q F G = d at *
  generalize (bezL q F G).2.1 = a at *
  generalize (bezL q F G).2.2 = b at *
  have im1 := mul_isP hq ia hF
  have im2 := mul_isP hq ib hG
  have l1 := mul_len_le q a F
  have l2 := mul_len_le q b G
  repeat (first | refine WC.seq ?_ | refine WC.reg ?_ | refine WL.pure rfl rfl rfl ?_ | refine WL.nil ?_ | refine WC.skip ?_ | refine WC.block ?_ | refine WC.condT rfl ?_ | refine WC.condF rfl ?_ | refine WL.off rfl rfl rfl ?_ | refine WL.off0 rfl rfl ?_ | refine WC.exit ?_ | refine blk_hit ?_ | refine blk_miss rfl ?_ | refine WC.ret ?_)
  refine WL.call rfl rfl rfl rfl rfl ent17 (Mul_ok q hq hq2 va _ a F ia hF (by omega) (by omega) (by omega) w4 da (d5'.hp h4)) ?_
  rintro _ w5 ⟨vm, rfl, hp5⟩
  have dm := Pd.row hp5 0 rfl
  have hp5 := hp5.nil'
  have h5 := h4.over hp5
  repeat (first | refine WC.seq ?_ | refine WC.reg ?_ | refine WL.pure rfl rfl rfl ?_ | refine WL.nil ?_ | refine WC.skip ?_ | refine WC.block ?_ | refine WC.condT rfl ?_ | refine WC.condF rfl ?_ | refine WL.off rfl rfl rfl ?_ | refine WL.off0 rfl rfl ?_ | refine WC.exit ?_ | refine blk_hit ?_ | refine blk_miss rfl ?_ | refine WC.ret ?_)
  refine WL.call rfl rfl rfl rfl rfl ent17 (Mul_ok q hq hq2 vb _ b G ib hG (by omega) (by omega) (by omega) w5 (db.hp hp5) (d6'.hp h5)) ?_
  rintro _ w6 ⟨vn, rfl, hp6⟩
  have dn := Pd.row hp6 0 rfl
  have hp6 := hp6.nil'
  have h6 := h5.over hp6
  repeat (first | refine WC.seq ?_ | refine WC.reg ?_ | refine WL.pure rfl rfl rfl ?_ | refine WL.nil ?_ | refine WC.skip ?_ | refine WC.block ?_ | refine WC.condT rfl ?_ | refine WC.condF rfl ?_ | refine WL.off rfl rfl rfl ?_ | refine WL.off0 rfl rfl ?_ | refine WC.exit ?_ | refine blk_hit ?_ | refine blk_miss rfl ?_ | refine WC.ret ?_)
  refine WL.call rfl rfl rfl rfl rfl ent16 (Add_ok q hq hq2 vm vn _ _ im1 im2 (by omega) (by omega) w6 (dm.hp hp6) dn) ?_
  rintro _ w7 ⟨vs, rfl, hp7⟩
  rw [hcmb] at hp7
  have ds := Pd.row hp7 0 rfl
  have hp7 := hp7.nil'
  have h7 := h6.over hp7
  have h47 := (hp5.over hp6).over hp7
  have dd := dd.hp h47
  have dc := dc.hp h47
  repeat (first | refine WC.seq ?_ | refine WC.reg ?_ | refine WL.pure rfl rfl rfl ?_ | refine WL.nil ?_ | refine WC.skip ?_ | refine WC.block ?_ | refine WC.condT rfl ?_ | refine WC.condF rfl ?_ | refine WL.off rfl rfl rfl ?_ | refine WL.off0 rfl rfl ?_ | refine WC.exit ?_ | refine blk_hit ?_ | refine blk_miss rfl ?_ | refine WC.ret ?_)
  refine WL.call rfl rfl rfl rfl rfl ent18 (Same_pd vc vd d d (by omega) w7 dc dd) ?_
  rintro _ w8 ⟨rfl, hp8⟩
  rw [decide_eq_true rfl]
  repeat (first | refine WC.seq ?_ | refine WC.reg ?_ | refine WL.pure rfl rfl rfl ?_ | refine WL.nil ?_ | refine WC.skip ?_ | refine WC.block ?_ | refine WC.condT rfl ?_ | refine WC.condF rfl ?_ | refine WL.off rfl rfl rfl ?_ | refine WL.off0 rfl rfl ?_ | refine WC.exit ?_ | refine blk_hit ?_ | refine blk_miss rfl ?_ | refine WC.ret ?_)
  refine WL.call rfl rfl rfl rfl rfl ent18 (Same_pd vs vd d d (by omega) w8 (ds.hp hp8) (dd.hp hp8)) ?_
  rintro _ w9 ⟨rfl, hp9⟩
  rw [decide_eq_true rfl]
  have hp9 := hp8.over hp9
  have dd := dd.hp hp9
  have h9 := h7.over hp9
  have dd' := dd
  obtain ⟨da9, dc9, rfl, sd9, -⟩ := dd
  repeat (first | refine WC.seq ?_ | refine WC.reg ?_ | refine WL.pure rfl rfl rfl ?_ | refine WL.nil ?_ | refine WC.skip ?_ | refine WC.block ?_ | refine WC.condT rfl ?_ | refine WC.condF rfl ?_ | refine WL.off rfl rfl rfl ?_ | refine WL.off0 rfl rfl ?_ | refine WC.exit ?_ | refine blk_hit ?_ | refine blk_miss rfl ?_ | refine WC.ret ?_)
  refine WC.cond rfl (fun hc => ?_) (fun hc => ?_)
  · have hc : d = [] := by
      have : (d.length : Int) = 0 := by simpa using hc
      exact List.length_eq_zero_iff.1 (by omega)
    have hn : F = [] ∧ G = [] := by
      refine ⟨Classical.byContradiction fun h => (htop (.inl h)).1 hc, Classical.byContradiction fun h => (htop (.inr h)).1 hc⟩
    obtain ⟨rfl, rfl⟩ := hn
    repeat (first | refine WC.seq ?_ | refine WC.reg ?_ | refine WL.pure rfl rfl rfl ?_ | refine WL.nil ?_ | refine WC.skip ?_ | refine WC.block ?_ | refine WC.condT rfl ?_ | refine WC.condF rfl ?_ | refine WL.off rfl rfl rfl ?_ | refine WL.off0 rfl rfl ?_ | refine WC.exit ?_ | refine blk_hit ?_ | refine blk_miss rfl ?_ | refine WC.ret ?_)
    refine WL.call rfl rfl rfl rfl rfl ent21 (awake_any w9) ?_
    rintro _ wa ⟨rfl, hpa⟩
    repeat (first | refine WC.seq ?_ | refine WC.reg ?_ | refine WL.pure rfl rfl rfl ?_ | refine WL.nil ?_ | refine WC.skip ?_ | refine WC.block ?_ | refine WC.condT rfl ?_ | refine WC.condF rfl ?_ | refine WL.off rfl rfl rfl ?_ | refine WL.off0 rfl rfl ?_ | refine WC.exit ?_ | refine blk_hit ?_ | refine blk_miss rfl ?_ | refine WC.ret ?_)
    exact Res.one rfl rfl rfl ⟨rfl, (hw2.over h9).over hpa⟩
  have hc : d ≠ [] := by rintro rfl; simp at hc
  have hd0 := List.length_pos_iff.2 hc
  obtain ⟨⟨x, hx, hxF⟩, ⟨y, hy, hyG⟩⟩ := hdv
  have r1 : remL q F d = [] := by rw [← hxF]; exact (quo_mul' hq hx id_ hd0)
  have r2 : remL q G d = [] := by rw [← hyG]; exact (quo_mul' hq hy id_ hd0)
  have ht : co d (d.length - 1) = 1 := by
    refine (htop ?_).2
    apply Classical.byContradiction
    intro hno
    have e1 : F = [] := Classical.byContradiction fun h => hno (.inl h)
    have e2 : G = [] := Classical.byContradiction fun h => hno (.inr h)
    rw [e1, e2, mul_nil, mul_nil, addL_nil' hq.pos (isP_nil q)] at hcmb
    exact hc hcmb.symm
  repeat (first | refine WC.seq ?_ | refine WC.reg ?_ | refine WL.pure rfl rfl rfl ?_ | refine WL.nil ?_ | refine WC.skip ?_ | refine WC.block ?_ | refine WC.condT rfl ?_ | refine WC.condF rfl ?_ | refine WL.off rfl rfl rfl ?_ | refine WL.off0 rfl rfl ?_ | refine WC.exit ?_ | refine blk_hit ?_ | refine blk_miss rfl ?_ | refine WC.ret ?_)
  refine WL.call rfl rfl rfl rfl rfl ent24 (Div_ok q hq hq2 _ _ F d hF id_ hc (by omega) (by omega) w9 (d5'.hp h9) dd') ?_
  rintro _ wa ⟨v1, v2, rfl, hpa⟩
  rw [r1] at hpa
  have dr1 := Pd.row hpa 1 rfl
  have hpa := hpa.nil'
  have ha := h9.over hpa
  repeat (first | refine WC.seq ?_ | refine WC.reg ?_ | refine WL.pure rfl rfl rfl ?_ | refine WL.nil ?_ | refine WC.skip ?_ | refine WC.block ?_ | refine WC.condT rfl ?_ | refine WC.condF rfl ?_ | refine WL.off rfl rfl rfl ?_ | refine WL.off0 rfl rfl ?_ | refine WC.exit ?_ | refine blk_hit ?_ | refine blk_miss rfl ?_ | refine WC.ret ?_)
  refine WL.call rfl rfl rfl rfl rfl ent24 (Div_ok q hq hq2 _ _ G d hG id_ hc (by omega) (by omega) wa (d6'.hp ha) (dd'.hp hpa)) ?_
  rintro _ wb ⟨v3, v4, rfl, hpb⟩
  rw [r2] at hpb
  have dr2 := Pd.row hpb 1 rfl
  have dr1 := dr1.hp hpb
  have hpb := hpb.nil'
  have hb := ha.over hpb
  obtain ⟨x1, x2, rfl, -⟩ := dr1
  obtain ⟨x3, x4, rfl, -⟩ := dr2
  have e1 : IntKind.i64.wrap ((d.length : Int) - 1) = ((d.length - 1 : Nat) : Int) := by rw [wrap_mid (by omega) (by omega)]; omega
  have hat := ints_at (xs := d) (i := d.length - 1) (by omega)
  rw [ht] at hat
  repeat (first | refine WC.seq ?_ | refine WC.reg ?_ | refine WL.pure rfl rfl rfl ?_ | refine WL.nil ?_ | refine WC.skip ?_ | refine WC.block ?_ | refine WC.condT rfl ?_ | refine WC.condF rfl ?_ | refine WL.off rfl rfl rfl ?_ | refine WL.off0 rfl rfl ?_ | refine WC.exit ?_ | refine blk_hit ?_ | refine blk_miss rfl ?_ | refine WC.ret ?_)
  refine WL.known (d := 156) (congrArg (fun z => some (Value.int .i64 z)) e1) ?_
  refine WL.ixload rfl (fun _ => rfl) rfl rfl rfl rfl rfl rfl rfl (show d.length - 1 < d.length by omega) rfl rfl ((sd9.hp hpa).hp hpb) hat ?_
  intro pa
  repeat (first | refine WC.seq ?_ | refine WC.reg ?_ | refine WL.pure rfl rfl rfl ?_ | refine WL.nil ?_ | refine WC.skip ?_ | refine WC.block ?_ | refine WC.condT rfl ?_ | refine WC.condF rfl ?_ | refine WL.off rfl rfl rfl ?_ | refine WL.off0 rfl rfl ?_ | refine WC.exit ?_ | refine blk_hit ?_ | refine blk_miss rfl ?_ | refine WC.ret ?_)
  refine WL.call rfl rfl rfl rfl rfl ent21 (awake_any wb) ?_
  rintro _ wc ⟨rfl, hpc⟩
  repeat (first | refine WC.seq ?_ | refine WC.reg ?_ | refine WL.pure rfl rfl rfl ?_ | refine WL.nil ?_ | refine WC.skip ?_ | refine WC.block ?_ | refine WC.condT rfl ?_ | refine WC.condF rfl ?_ | refine WL.off rfl rfl rfl ?_ | refine WL.off0 rfl rfl ?_ | refine WC.exit ?_ | refine blk_hit ?_ | refine blk_miss rfl ?_ | refine WC.ret ?_)
  exact Res.one rfl rfl rfl ⟨rfl, (hw2.over hb).over hpc⟩
end Go.Proofs.Ytagfpnnplgkkoaa
