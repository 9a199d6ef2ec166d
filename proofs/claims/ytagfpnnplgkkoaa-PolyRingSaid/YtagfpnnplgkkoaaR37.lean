/- PolyRing returns true. -/
import Derived.Test.YtagfpnnplgkkoaaR36
namespace Go.Poly
theorem mul_zero_right (p : Nat) (f : List Nat) : mulL p f [] = [] := by rw [mulL, if_pos (.inr rfl)]
theorem addL_nil {p : Nat} (hp : 0 < p) {f : List Nat} (hf : IsP p f) : addL p f [] = f := by
  refine isP_ext (add_isP hp f []) hf fun i => ?_
  rw [add_co, show co ([] : List Nat) i = 0 from rfl, Nat.add_zero, Nat.mod_eq_of_lt (hf.co hp i)]
/-- A product divided by a factor is the other factor. -/
theorem quo_mul {p : Nat} (hp : Pri p) {f g : List Nat} (hf : IsP p f) (hg : IsP p g) (hg0 : 0 < g.length) : quoL p (mulL p f g) g = f ∧ remL p (mulL p f g) g = [] := by
  have hm := mul_isP hp hf hg
  have hq := quo_isP hp hm hg hg0
  have hr := rem_isP hp hm hg hg0
  have hl := rem_lt hp hm hg hg0
  have hs := quo_rem hp hm hg hg0
  obtain ⟨h1, h2⟩ := div_one hp hg hg0 hq hr hf (isP_nil p) hl hg0 (by rw [hs, addL_nil hp.pos hm])
  exact ⟨h1, h2⟩
end Go.Poly
namespace Go.Proofs.Ytagfpnnplgkkoaa
open Go.W Go.Poly Go.Tree Go.RowKit
set_option maxRecDepth 100000
attribute [local irreducible] WC WL WQ WS WH

theorem mod2_val {p a b : Nat} (hp0 : 0 < p) (hp : p ≤ 1021) (ha : a < p) (hb : b < p) : (IntKind.i64.wrap ((a : Int) + (b : Int))).tmod (p : Int) = (((a + b) % p : Nat) : Int) := by
  rw [wrap_mid (by omega) (by omega), ← Int.natCast_add, ← Int.ofNat_tmod]
theorem valL_lt {p : Nat} (hp0 : 0 < p) (f : List Nat) (x : Nat) : valL p f x < p := valN_lt hp0 f x _

set_option maxHeartbeats 1000000 in
theorem PolyRing_any (p : Int) (fa ga ha : Option Addr) (fc gc hc : Nat) (xf xg xh : List Int) (w : World) (sf : Sl w fa (zs xf)) (sg_ : Sl w ga (zs xg)) (hfc : xf.length ≤ fc) (hgc : xg.length ≤ gc) (hfn : fa = none → fc = 0) (hgn : ga = none → gc = 0)
    (sh : Sl w ha (zs xh)) (hhc : xh.length ≤ hc) (hhn : ha = none → hc = 0) :
    Ret Try.prog 9 [.int .i64 p, .agg #[.slice fa xf.length fc, .slice ga xg.length gc], .slice ha xh.length hc] w fun u w' => u = .bool true ∧ Hp w w' [] := by
  have zf : Pz w (.slice fa xf.length fc) xf := ⟨_, _, rfl, sf, hfn, hfc⟩
  have zg : Pz w (.slice ga xg.length gc) xg := ⟨_, _, rfl, sg_, hgn, hgc⟩
  have zh : Pz w (.slice ha xh.length hc) xh := ⟨_, _, rfl, sh, hhn, hhc⟩
  refine enter Try.func9 rfl rfl ⟨rfl, rfl⟩ rfl ?_
  repeat (first | refine WC.seq ?_ | refine WC.reg ?_ | refine WL.pure rfl rfl rfl ?_ | refine WL.nil ?_ | refine WC.skip ?_ | refine WC.block ?_ | refine WC.condT rfl ?_ | refine WC.condF rfl ?_ | refine WL.off rfl rfl rfl ?_ | refine WL.off0 rfl rfl ?_ | refine WC.exit ?_ | refine blk_hit ?_ | refine blk_miss rfl ?_ | refine WC.ret ?_)
  refine WL.box rfl rfl rfl ?_
  intro b1 w1 hb1
  have hp1 := (Hp.start w).new hb1
  repeat (first | refine WC.seq ?_ | refine WC.reg ?_ | refine WL.pure rfl rfl rfl ?_ | refine WL.nil ?_ | refine WC.skip ?_ | refine WC.block ?_ | refine WC.condT rfl ?_ | refine WC.condF rfl ?_ | refine WL.off rfl rfl rfl ?_ | refine WL.off0 rfl rfl ?_ | refine WC.exit ?_ | refine blk_hit ?_ | refine blk_miss rfl ?_ | refine WC.ret ?_)
  refine WL.call rfl rfl rfl rfl rfl ent26 (fieldO_any p w1) ?_
  rintro _ w2 ⟨rfl, q, rfl, hq, hq2⟩
  have hp0 := hq.pos
  have hF := tm_isP hp0 xf 10
  have hG := tm_isP hp0 xg 10
  have hK := tm_isP hp0 xh 10
  have lF := tm_len q xf 10
  have lG := tm_len q xg 10
  have lK := tm_len q xh 10
  repeat (first | refine WC.seq ?_ | refine WC.reg ?_ | refine WL.pure rfl rfl rfl ?_ | refine WL.nil ?_ | refine WC.skip ?_ | refine WC.block ?_ | refine WC.condT rfl ?_ | refine WC.condF rfl ?_ | refine WL.off rfl rfl rfl ?_ | refine WL.off0 rfl rfl ?_ | refine WC.exit ?_ | refine blk_hit ?_ | refine blk_miss rfl ?_ | refine WC.ret ?_)
  refine WC.mid (Value × Value × Value) (fun (v7, v8, v9) => [(0, .int .i64 (q : Nat)), (7, v7), (8, v8), (9, v9)]) (fun (v7, v8, v9) w' => Hp w w' [Rw v9 (tmL q xh 10), Rw v8 (tmL q xg 10), Rw v7 (tmL q xf 10)]) ?_ ?_
  · refine WC.regH (fun w' => Hp w w' [.blk b1 (.cells #[.slice fa xf.length fc, .slice ga xg.length gc] 24 (0, 0))]) mixed (by kernel_rfl) (fun w2 hw2 hh2 => ?_)
    have hp2 := hp1.keep hw2
    refine WH.pure 0 (by kernel_rfl) rfl (by kernel_rfl) rfl rfl rfl hp2 ?_
    refine WH.pure 1 (by kernel_rfl) rfl (by kernel_rfl) rfl rfl rfl hp2 ?_
    refine WH.load 2 (by kernel_rfl) rfl (by kernel_rfl) rfl rfl rfl rfl rfl (fun w' h => cell_of_obj (h.obj 0 rfl) rfl) hp2 ?_
    refine WH.pure 4 (by kernel_rfl) rfl (by kernel_rfl) rfl rfl rfl hp2 ?_
    refine WH.pure 5 (by kernel_rfl) rfl (by kernel_rfl) rfl rfl rfl hp2 ?_
    refine WH.load 6 (by kernel_rfl) rfl (by kernel_rfl) rfl rfl rfl rfl rfl (fun w' h => cell_of_obj (h.obj 0 rfl) rfl) hp2 ?_
    refine WH.pure 8 (by kernel_rfl) rfl (by kernel_rfl) rfl rfl rfl hp2 ?_
    refine WH.pure 9 (by kernel_rfl) rfl (by kernel_rfl) rfl rfl rfl hp2 ?_
    refine WH.one 3 rfl (by kernel_rfl) ?_
    refine WL.call rfl rfl rfl rfl rfl ent27 (tame_pz q 10 _ xf hp0 hq2 (by omega) w2 (zf.hp hp2)) ?_
    rintro v7 w3 hp3
    have hq3 := hp2.call hp3.below
    refine WL.nil ⟨hq3, ?_⟩
    refine WH.one 7 rfl (by kernel_rfl) ?_
    refine WL.call rfl rfl rfl rfl rfl ent27 (tame_pz q 10 _ xg hp0 hq2 (by omega) w3 (zg.hp hq3)) ?_
    rintro v8 w4 hp4
    have hq4 := hq3.call hp4.below
    refine WL.nil ⟨hq4, ?_⟩
    refine WH.one 10 rfl (by kernel_rfl) ?_
    refine WL.call rfl rfl rfl rfl rfl ent27 (tame_pz q 10 _ xh hp0 hq2 (by omega) w4 (zh.hp hq4)) ?_
    rintro v9 w5 hp5
    have hq5 := hq4.call hp5.below
    refine WL.nil ⟨hq5, ?_⟩
    refine WH.pure 11 (by kernel_rfl) rfl (by kernel_rfl) rfl rfl rfl hq5 ?_
    refine WH.pure 12 (by kernel_rfl) rfl (by kernel_rfl) rfl rfl rfl hq5 ?_
    refine WH.pure 13 (by kernel_rfl) rfl (by kernel_rfl) rfl rfl rfl hq5 ?_
    refine WH.done (by kernel_rfl) ?_
    exact ⟨(v7, v8, v9), ⟨rfl, rfl, rfl, rfl, rfl⟩, hp2.nil'.over ((hp3.comb hp4).comb hp5)⟩
  rintro ⟨v7, v8, v9⟩ e2 w2 hsub (hp2 : Hp w w2 [Rw v9 (tmL q xh 10), Rw v8 (tmL q xg 10), Rw v7 (tmL q xf 10)])
  refine WC.sub hsub ?_
  have d7 : Pd w2 v7 (tmL q xf 10) := Pd.row hp2 2 rfl
  have d8 : Pd w2 v8 (tmL q xg 10) := Pd.row hp2 1 rfl
  have d9 : Pd w2 v9 (tmL q xh 10) := Pd.row hp2 0 rfl
  have hw2 := hp2.nil'
  clear hsub hp1 hb1 hp2
  generalize tmL q xf 10 = F at *
  generalize tmL q xg 10 = G at *
  generalize tmL q xh 10 = K at *
  have iS := add_isP hp0 F G
  have iM := mul_isP hq hF hG
  have iV := mul_isP hq hF hK
  have iW := mul_isP hq hG hK
  have lS := add_len_le q F G
  have lM := mul_len_le q F G
  have lV := mul_len_le q F K
  have lW := mul_len_le q G K
  have c1 := addL_comm hq F G
  have c2 := mulL_comm hq hF hG
  have c3 := mulL_addL hq F G hK
  have c4 := mulL_assoc hq hF hG hK
  have lm2 := mul_len_le q (addL q F G) K
  have lm3 := mul_len_le q (mulL q F G) K
  have lm4 := mul_len_le q F (mulL q G K)
  have lm1 := mul_len_le q G F
  repeat (first | refine WC.seq ?_ | refine WC.reg ?_ | refine WL.pure rfl rfl rfl ?_ | refine WL.nil ?_ | refine WC.skip ?_ | refine WC.block ?_ | refine WC.condT rfl ?_ | refine WC.condF rfl ?_ | refine WL.off rfl rfl rfl ?_ | refine WL.off0 rfl rfl ?_ | refine WC.exit ?_ | refine blk_hit ?_ | refine blk_miss rfl ?_ | refine WC.ret ?_)
  refine WL.call rfl rfl rfl rfl rfl ent16 (Add_ok q hq hq2 v7 v8 F G hF hG (by omega) (by omega) w2 d7 d8) ?_
  rintro _ w3 ⟨s, rfl, hp3⟩
  have h23 := hp3.nil'
  have ds := Pd.row hp3 0 rfl
  repeat (first | refine WC.seq ?_ | refine WC.reg ?_ | refine WL.pure rfl rfl rfl ?_ | refine WL.nil ?_ | refine WC.skip ?_ | refine WC.block ?_ | refine WC.condT rfl ?_ | refine WC.condF rfl ?_ | refine WL.off rfl rfl rfl ?_ | refine WL.off0 rfl rfl ?_ | refine WC.exit ?_ | refine blk_hit ?_ | refine blk_miss rfl ?_ | refine WC.ret ?_)
  refine WL.call rfl rfl rfl rfl rfl ent16 (Add_ok q hq hq2 v8 v7 G F hG hF (by omega) (by omega) w3 (d8.hp h23) (d7.hp h23)) ?_
  rintro _ w4 ⟨t, rfl, hp4⟩
  have h24 := h23.over hp4.nil'
  have ds := ds.hp hp4
  have dt := Pd.row hp4 0 rfl
  repeat (first | refine WC.seq ?_ | refine WC.reg ?_ | refine WL.pure rfl rfl rfl ?_ | refine WL.nil ?_ | refine WC.skip ?_ | refine WC.block ?_ | refine WC.condT rfl ?_ | refine WC.condF rfl ?_ | refine WL.off rfl rfl rfl ?_ | refine WL.off0 rfl rfl ?_ | refine WC.exit ?_ | refine blk_hit ?_ | refine blk_miss rfl ?_ | refine WC.ret ?_)
  refine WL.call rfl rfl rfl rfl rfl ent17 (Mul_ok q hq hq2 v7 v8 F G hF hG (by omega) (by omega) (by omega) w4 (d7.hp h24) (d8.hp h24)) ?_
  rintro _ w5 ⟨m, rfl, hp5⟩
  have h25 := h24.over hp5.nil'
  have ds := ds.hp hp5
  have dt := dt.hp hp5
  have dm := Pd.row hp5 0 rfl
  repeat (first | refine WC.seq ?_ | refine WC.reg ?_ | refine WL.pure rfl rfl rfl ?_ | refine WL.nil ?_ | refine WC.skip ?_ | refine WC.block ?_ | refine WC.condT rfl ?_ | refine WC.condF rfl ?_ | refine WL.off rfl rfl rfl ?_ | refine WL.off0 rfl rfl ?_ | refine WC.exit ?_ | refine blk_hit ?_ | refine blk_miss rfl ?_ | refine WC.ret ?_)
  refine WL.call rfl rfl rfl rfl rfl ent17 (Mul_ok q hq hq2 v8 v7 G F hG hF (by omega) (by omega) (by omega) w5 (d8.hp h25) (d7.hp h25)) ?_
  rintro _ w6 ⟨n, rfl, hp6⟩
  have h26 := h25.over hp6.nil'
  have ds := ds.hp hp6
  have dt := dt.hp hp6
  have dm := dm.hp hp6
  have dn := Pd.row hp6 0 rfl
  repeat (first | refine WC.seq ?_ | refine WC.reg ?_ | refine WL.pure rfl rfl rfl ?_ | refine WL.nil ?_ | refine WC.skip ?_ | refine WC.block ?_ | refine WC.condT rfl ?_ | refine WC.condF rfl ?_ | refine WL.off rfl rfl rfl ?_ | refine WL.off0 rfl rfl ?_ | refine WC.exit ?_ | refine blk_hit ?_ | refine blk_miss rfl ?_ | refine WC.ret ?_)
  refine WL.call rfl rfl rfl rfl rfl ent17 (Mul_ok q hq hq2 s v9 _ K iS hK (by omega) (by omega) (by omega) w6 ds (d9.hp h26)) ?_
  rintro _ w7 ⟨u, rfl, hp7⟩
  have h27 := h26.over hp7.nil'
  have ds := ds.hp hp7
  have dt := dt.hp hp7
  have dm := dm.hp hp7
  have dn := dn.hp hp7
  have du := Pd.row hp7 0 rfl
  repeat (first | refine WC.seq ?_ | refine WC.reg ?_ | refine WL.pure rfl rfl rfl ?_ | refine WL.nil ?_ | refine WC.skip ?_ | refine WC.block ?_ | refine WC.condT rfl ?_ | refine WC.condF rfl ?_ | refine WL.off rfl rfl rfl ?_ | refine WL.off0 rfl rfl ?_ | refine WC.exit ?_ | refine blk_hit ?_ | refine blk_miss rfl ?_ | refine WC.ret ?_)
  refine WL.call rfl rfl rfl rfl rfl ent17 (Mul_ok q hq hq2 v7 v9 F K hF hK (by omega) (by omega) (by omega) w7 (d7.hp h27) (d9.hp h27)) ?_
  rintro _ w8 ⟨vv, rfl, hp8⟩
  have h28 := h27.over hp8.nil'
  have ds := ds.hp hp8
  have dt := dt.hp hp8
  have dm := dm.hp hp8
  have dn := dn.hp hp8
  have du := du.hp hp8
  have dv := Pd.row hp8 0 rfl
  repeat (first | refine WC.seq ?_ | refine WC.reg ?_ | refine WL.pure rfl rfl rfl ?_ | refine WL.nil ?_ | refine WC.skip ?_ | refine WC.block ?_ | refine WC.condT rfl ?_ | refine WC.condF rfl ?_ | refine WL.off rfl rfl rfl ?_ | refine WL.off0 rfl rfl ?_ | refine WC.exit ?_ | refine blk_hit ?_ | refine blk_miss rfl ?_ | refine WC.ret ?_)
  refine WL.call rfl rfl rfl rfl rfl ent17 (Mul_ok q hq hq2 v8 v9 G K hG hK (by omega) (by omega) (by omega) w8 (d8.hp h28) (d9.hp h28)) ?_
  rintro _ w9 ⟨ww, rfl, hp9⟩
  have h29 := h28.over hp9.nil'
  have ds := ds.hp hp9
  have dt := dt.hp hp9
  have dm := dm.hp hp9
  have dn := dn.hp hp9
  have du := du.hp hp9
  have dv := dv.hp hp9
  have dw := Pd.row hp9 0 rfl
  repeat (first | refine WC.seq ?_ | refine WC.reg ?_ | refine WL.pure rfl rfl rfl ?_ | refine WL.nil ?_ | refine WC.skip ?_ | refine WC.block ?_ | refine WC.condT rfl ?_ | refine WC.condF rfl ?_ | refine WL.off rfl rfl rfl ?_ | refine WL.off0 rfl rfl ?_ | refine WC.exit ?_ | refine blk_hit ?_ | refine blk_miss rfl ?_ | refine WC.ret ?_)
  refine WL.call rfl rfl rfl rfl rfl ent16 (Add_ok q hq hq2 vv ww _ _ iV iW (by omega) (by omega) w9 dv dw) ?_
  rintro _ wa ⟨z, rfl, hpa⟩
  have h2a := h29.over hpa.nil'
  have ds := ds.hp hpa
  have dt := dt.hp hpa
  have dm := dm.hp hpa
  have dn := dn.hp hpa
  have du := du.hp hpa
  have dw := dw.hp hpa
  have dz := Pd.row hpa 0 rfl
  rw [← c1] at dt
  rw [← c2] at dn
  rw [c3] at du
  repeat (first | refine WC.seq ?_ | refine WC.reg ?_ | refine WL.pure rfl rfl rfl ?_ | refine WL.nil ?_ | refine WC.skip ?_ | refine WC.block ?_ | refine WC.condT rfl ?_ | refine WC.condF rfl ?_ | refine WL.off rfl rfl rfl ?_ | refine WL.off0 rfl rfl ?_ | refine WC.exit ?_ | refine blk_hit ?_ | refine blk_miss rfl ?_ | refine WC.ret ?_)
  refine WL.call rfl rfl rfl rfl rfl ent18 (Same_pd s t _ _ (by omega) wa ds dt) ?_
  rintro _ wb ⟨rfl, hpb⟩
  rw [decide_eq_true rfl]
  repeat (first | refine WC.seq ?_ | refine WC.reg ?_ | refine WL.pure rfl rfl rfl ?_ | refine WL.nil ?_ | refine WC.skip ?_ | refine WC.block ?_ | refine WC.condT rfl ?_ | refine WC.condF rfl ?_ | refine WL.off rfl rfl rfl ?_ | refine WL.off0 rfl rfl ?_ | refine WC.exit ?_ | refine blk_hit ?_ | refine blk_miss rfl ?_ | refine WC.ret ?_)
  refine WL.call rfl rfl rfl rfl rfl ent18 (Same_pd m n _ _ (by omega) wb (dm.hp hpb) (dn.hp hpb)) ?_
  rintro _ wc ⟨rfl, hpc⟩
  rw [decide_eq_true rfl]
  have hac := hpb.over hpc
  repeat (first | refine WC.seq ?_ | refine WC.reg ?_ | refine WL.pure rfl rfl rfl ?_ | refine WL.nil ?_ | refine WC.skip ?_ | refine WC.block ?_ | refine WC.condT rfl ?_ | refine WC.condF rfl ?_ | refine WL.off rfl rfl rfl ?_ | refine WL.off0 rfl rfl ?_ | refine WC.exit ?_ | refine blk_hit ?_ | refine blk_miss rfl ?_ | refine WC.ret ?_)
  refine WL.call rfl rfl rfl rfl rfl ent18 (Same_pd u z _ _ (by have := add_len_le q (mulL q F K) (mulL q G K); omega) wc (du.hp hac) (dz.hp hac)) ?_
  rintro _ wd ⟨rfl, hpd⟩
  rw [decide_eq_true rfl]
  have had := hac.over hpd
  have ds := ds.hp had
  have dm := dm.hp had
  have dw := dw.hp had
  have h2d := h2a.over had
  clear hp3 hp4 hp5 hp6 hp7 hp8 hp9 hpa hpb hpc hpd dt dn du dv dz
  repeat (first | refine WC.seq ?_ | refine WC.reg ?_ | refine WL.pure rfl rfl rfl ?_ | refine WL.nil ?_ | refine WC.skip ?_ | refine WC.block ?_ | refine WC.condT rfl ?_ | refine WC.condF rfl ?_ | refine WL.off rfl rfl rfl ?_ | refine WL.off0 rfl rfl ?_ | refine WC.exit ?_ | refine blk_hit ?_ | refine blk_miss rfl ?_ | refine WC.ret ?_)
  refine WL.call rfl rfl rfl rfl rfl ent17 (Mul_ok q hq hq2 m v9 _ K iM hK (by omega) (by omega) (by omega) wd dm (d9.hp h2d)) ?_
  rintro _ we ⟨y, rfl, hpe⟩
  have dy := Pd.row hpe 0 rfl
  rw [c4] at dy
  have h2e := h2d.over hpe.nil'
  repeat (first | refine WC.seq ?_ | refine WC.reg ?_ | refine WL.pure rfl rfl rfl ?_ | refine WL.nil ?_ | refine WC.skip ?_ | refine WC.block ?_ | refine WC.condT rfl ?_ | refine WC.condF rfl ?_ | refine WL.off rfl rfl rfl ?_ | refine WL.off0 rfl rfl ?_ | refine WC.exit ?_ | refine blk_hit ?_ | refine blk_miss rfl ?_ | refine WC.ret ?_)
  refine WL.call rfl rfl rfl rfl rfl ent17 (Mul_ok q hq hq2 v7 ww F _ hF iW (by omega) (by omega) (by omega) we (d7.hp h2e) (dw.hp hpe)) ?_
  rintro _ wf ⟨o, rfl, hpf⟩
  have do_ := Pd.row hpf 0 rfl
  have dy := dy.hp hpf
  have h2f := h2e.over hpf.nil'
  have hdf := hpe.nil'.over hpf.nil'
  repeat (first | refine WC.seq ?_ | refine WC.reg ?_ | refine WL.pure rfl rfl rfl ?_ | refine WL.nil ?_ | refine WC.skip ?_ | refine WC.block ?_ | refine WC.condT rfl ?_ | refine WC.condF rfl ?_ | refine WL.off rfl rfl rfl ?_ | refine WL.off0 rfl rfl ?_ | refine WC.exit ?_ | refine blk_hit ?_ | refine blk_miss rfl ?_ | refine WC.ret ?_)
  refine WL.call rfl rfl rfl rfl rfl ent18 (Same_pd y o _ _ (by omega) wf dy do_) ?_
  rintro _ wg ⟨rfl, hpg⟩
  rw [decide_eq_true rfl]
  have h2g := h2f.over hpg
  have hdg := hdf.over hpg
  have ds := ds.hp hdg
  have dm := dm.hp hdg
  have d7 := d7.hp h2g
  have d8 := d8.hp h2g
  have hw := hw2.over h2g
  clear h23 h24 h25 h26 h27 h28 h29 h2a had hac h2d h2e h2f hdf hdg h2g hpe hpf hpg hw2 dy do_ d9 dw
  have d8' := d8
  obtain ⟨g8a, g8c, rfl, -⟩ := d8
  repeat (first | refine WC.seq ?_ | refine WC.reg ?_ | refine WL.pure rfl rfl rfl ?_ | refine WL.nil ?_ | refine WC.skip ?_ | refine WC.block ?_ | refine WC.condT rfl ?_ | refine WC.condF rfl ?_ | refine WL.off rfl rfl rfl ?_ | refine WL.off0 rfl rfl ?_ | refine WC.exit ?_ | refine blk_hit ?_ | refine blk_miss rfl ?_ | refine WC.ret ?_)
  refine WC.mid Unit (fun _ => [(0, .int .i64 (q : Nat)), (7, v7), (8, .slice g8a G.length g8c), (10, s), (14, m)]) (fun _ w' => Hp wg w' []) ?_ ?_
  · refine WC.cond rfl (fun hc => ?_) (fun hc => ?_)
    · have hG0 : 0 < G.length := by have := of_decide_eq_true hc; omega
      obtain ⟨e1, e2⟩ := quo_mul hq hF hG hG0
      repeat (first | refine WC.seq ?_ | refine WC.reg ?_ | refine WL.pure rfl rfl rfl ?_ | refine WL.nil ?_ | refine WC.skip ?_ | refine WC.block ?_ | refine WC.condT rfl ?_ | refine WC.condF rfl ?_ | refine WL.off rfl rfl rfl ?_ | refine WL.off0 rfl rfl ?_ | refine WC.exit ?_ | refine blk_hit ?_ | refine blk_miss rfl ?_ | refine WC.ret ?_)
      refine WL.call rfl rfl rfl rfl rfl ent24 (Div_ok q hq hq2 m _ _ G iM hG (List.ne_nil_of_length_pos hG0) (by omega) (by omega) wg dm d8') ?_
      rintro _ wh ⟨a, b, rfl, hph⟩
      rw [e1, e2] at hph
      have da := Pd.row hph 0 rfl
      obtain ⟨ba, bc, rfl, -⟩ := Pd.row hph 1 rfl
      have hz : decide ((0 : Int) < (([] : List Nat).length : Int)) = false := rfl
      repeat (first | refine WC.seq ?_ | refine WC.reg ?_ | refine WL.pure rfl rfl rfl ?_ | refine WL.nil ?_ | refine WC.skip ?_ | refine WC.block ?_ | refine WC.condT rfl ?_ | refine WC.condF rfl ?_ | refine WL.off rfl rfl rfl ?_ | refine WL.off0 rfl rfl ?_ | refine WC.exit ?_ | refine blk_hit ?_ | refine blk_miss rfl ?_ | refine WC.ret ?_)
      refine WL.call rfl rfl rfl rfl rfl ent18 (Same_pd a v7 F F (by omega) wh da (d7.hp hph)) ?_
      rintro _ wi ⟨rfl, hpi⟩
      rw [decide_eq_true rfl]
      repeat (first | refine WC.seq ?_ | refine WC.reg ?_ | refine WL.pure rfl rfl rfl ?_ | refine WL.nil ?_ | refine WC.skip ?_ | refine WC.block ?_ | refine WC.condT rfl ?_ | refine WC.condF rfl ?_ | refine WL.off rfl rfl rfl ?_ | refine WL.off0 rfl rfl ?_ | refine WC.exit ?_ | refine blk_hit ?_ | refine blk_miss rfl ?_ | refine WC.ret ?_)
      exact ⟨(), ⟨rfl, rfl, rfl, rfl, rfl, rfl⟩, hph.nil'.over hpi⟩
    · repeat (first | refine WC.seq ?_ | refine WC.reg ?_ | refine WL.pure rfl rfl rfl ?_ | refine WL.nil ?_ | refine WC.skip ?_ | refine WC.block ?_ | refine WC.condT rfl ?_ | refine WC.condF rfl ?_ | refine WL.off rfl rfl rfl ?_ | refine WL.off0 rfl rfl ?_ | refine WC.exit ?_ | refine blk_hit ?_ | refine blk_miss rfl ?_ | refine WC.ret ?_)
      exact ⟨(), ⟨rfl, rfl, rfl, rfl, rfl, rfl⟩, Hp.start wg⟩
  rintro ⟨⟩ e3 wh hsub (hph : Hp wg wh [])
  refine WC.sub hsub ?_
  clear hsub
  have ds := ds.hp hph
  have dm := dm.hp hph
  have d7 := d7.hp hph
  have d8 := d8'.hp hph
  have hw := hw.over hph
  repeat (first | refine WC.seq ?_ | refine WC.reg ?_ | refine WL.pure rfl rfl rfl ?_ | refine WL.nil ?_ | refine WC.skip ?_ | refine WC.block ?_ | refine WC.condT rfl ?_ | refine WC.condF rfl ?_ | refine WL.off rfl rfl rfl ?_ | refine WL.off0 rfl rfl ?_ | refine WC.exit ?_ | refine blk_hit ?_ | refine blk_miss rfl ?_ | refine WC.ret ?_)
  refine WC.loop Nat (fun i => [(0, .int .i64 (q : Nat)), (7, v7), (8, .slice g8a G.length g8c), (10, s), (14, m), (33, .int .i64 (i : Nat))]) (fun i w' => i ≤ 5 ∧ Hp wh w' []) (fun i => 5 - i) 0 ⟨rfl, rfl, rfl, rfl, rfl, rfl, rfl⟩ ⟨Nat.zero_le _, Hp.start wh⟩ ?_
  rintro i w3 ⟨hi, hp3⟩
  have finish : Hp wh w3 [] → Hp w w3 [] := fun h => hw.over h
  repeat (first | refine WC.seq ?_ | refine WC.reg ?_ | refine WL.pure rfl rfl rfl ?_ | refine WL.nil ?_ | refine WC.skip ?_ | refine WC.block ?_ | refine WC.condT rfl ?_ | refine WC.condF rfl ?_ | refine WL.off rfl rfl rfl ?_ | refine WL.off0 rfl rfl ?_ | refine WC.exit ?_ | refine blk_hit ?_ | refine blk_miss rfl ?_ | refine WC.ret ?_)
  refine WL.split 212 rfl (fun h1 => ?_) (fun h1 => ?_)
  · have h1 : i < q := by have := of_decide_eq_true h1; omega
    repeat (first | refine WC.seq ?_ | refine WC.reg ?_ | refine WL.pure rfl rfl rfl ?_ | refine WL.nil ?_ | refine WC.skip ?_ | refine WC.block ?_ | refine WC.condT rfl ?_ | refine WC.condF rfl ?_ | refine WL.off rfl rfl rfl ?_ | refine WL.off0 rfl rfl ?_ | refine WC.exit ?_ | refine blk_hit ?_ | refine blk_miss rfl ?_ | refine WC.ret ?_)
    refine WC.cond rfl (fun h2 => ?_) (fun h2 => ?_)
    · have h2 : i < 5 := by have := of_decide_eq_true h2; omega
      have step : IntKind.i64.wrap ((i : Int) + 1) = ((i + 1 : Nat) : Int) := by rw [wrap_i64_in (by omega) (by omega)]; omega
      have va := val_add hp0 F G i
      have vm := val_mul hp0 F G i
      have x1 := valL_lt hp0 F i
      have x2 := valL_lt hp0 G i
      repeat (first | refine WC.seq ?_ | refine WC.reg ?_ | refine WL.pure rfl rfl rfl ?_ | refine WL.nil ?_ | refine WC.skip ?_ | refine WC.block ?_ | refine WC.condT rfl ?_ | refine WC.condF rfl ?_ | refine WL.off rfl rfl rfl ?_ | refine WL.off0 rfl rfl ?_ | refine WC.exit ?_ | refine blk_hit ?_ | refine blk_miss rfl ?_ | refine WC.ret ?_)
      refine WL.call rfl rfl rfl rfl rfl ent28 (Value_ok q hq hq2 v7 F i hF h1 (by omega) w3 (d7.hp hp3)) ?_
      rintro _ w4 ⟨rfl, hp4⟩
      have hp4 := hp3.over hp4
      repeat (first | refine WC.seq ?_ | refine WC.reg ?_ | refine WL.pure rfl rfl rfl ?_ | refine WL.nil ?_ | refine WC.skip ?_ | refine WC.block ?_ | refine WC.condT rfl ?_ | refine WC.condF rfl ?_ | refine WL.off rfl rfl rfl ?_ | refine WL.off0 rfl rfl ?_ | refine WC.exit ?_ | refine blk_hit ?_ | refine blk_miss rfl ?_ | refine WC.ret ?_)
      refine WL.call rfl rfl rfl rfl rfl ent28 (Value_ok q hq hq2 _ G i hG h1 (by omega) w4 (d8.hp hp4)) ?_
      rintro _ w5 ⟨rfl, hp5⟩
      have hp5 := hp4.over hp5
      repeat (first | refine WC.seq ?_ | refine WC.reg ?_ | refine WL.pure rfl rfl rfl ?_ | refine WL.nil ?_ | refine WC.skip ?_ | refine WC.block ?_ | refine WC.condT rfl ?_ | refine WC.condF rfl ?_ | refine WL.off rfl rfl rfl ?_ | refine WL.off0 rfl rfl ?_ | refine WC.exit ?_ | refine blk_hit ?_ | refine blk_miss rfl ?_ | refine WC.ret ?_)
      refine WL.call rfl rfl rfl rfl rfl ent28 (Value_ok q hq hq2 s _ i iS h1 (by omega) w5 (ds.hp hp5)) ?_
      rintro _ w6 ⟨rfl, hp6⟩
      have hp6 := hp5.over hp6
      repeat (first | refine WC.seq ?_ | refine WC.reg ?_ | refine WL.pure rfl rfl rfl ?_ | refine WL.nil ?_ | refine WC.skip ?_ | refine WC.block ?_ | refine WC.condT rfl ?_ | refine WC.condF rfl ?_ | refine WL.off rfl rfl rfl ?_ | refine WL.off0 rfl rfl ?_ | refine WC.exit ?_ | refine blk_hit ?_ | refine blk_miss rfl ?_ | refine WC.ret ?_)
      refine WL.call rfl rfl rfl rfl rfl ent28 (Value_ok q hq hq2 m _ i iM h1 (by omega) w6 (dm.hp hp6)) ?_
      rintro _ w7 ⟨rfl, hp7⟩
      have hp7 := hp6.over hp7
      rw [va, vm]
      generalize valL q F i = x at *
      generalize valL q G i = y at *
      have ea := mod2_val hp0 hq2 x1 x2
      have em := mul_val hp0 hq2 x1 x2
      have nb : ∀ z : Nat, (!((z : Int) == (z : Int))) = false := fun z => by simp
      repeat (first | refine WC.seq ?_ | refine WC.reg ?_ | refine WL.pure rfl rfl rfl ?_ | refine WL.nil ?_ | refine WC.skip ?_ | refine WC.block ?_ | refine WC.condT rfl ?_ | refine WC.condF rfl ?_ | refine WL.off rfl rfl rfl ?_ | refine WL.off0 rfl rfl ?_ | refine WC.exit ?_ | refine blk_hit ?_ | refine blk_miss rfl ?_ | refine WC.ret ?_)
      refine WL.rem rfl rfl rfl rfl (by omega) ?_
      refine WL.known (d := 266) (congrArg (fun z => some (Value.int .i64 z)) ea) ?_
      refine WL.pure rfl rfl rfl ?_
      refine WL.known (d := 267) (congrArg (fun b => some (Value.bool b)) (nb _)) ?_
      repeat (first | refine WC.seq ?_ | refine WC.reg ?_ | refine WL.pure rfl rfl rfl ?_ | refine WL.nil ?_ | refine WC.skip ?_ | refine WC.block ?_ | refine WC.condT rfl ?_ | refine WC.condF rfl ?_ | refine WL.off rfl rfl rfl ?_ | refine WL.off0 rfl rfl ?_ | refine WC.exit ?_ | refine blk_hit ?_ | refine blk_miss rfl ?_ | refine WC.ret ?_)
      refine WL.rem rfl rfl rfl rfl (by omega) ?_
      refine WL.known (d := 275) (congrArg (fun z => some (Value.int .i64 z)) em) ?_
      refine WL.pure rfl rfl rfl ?_
      refine WL.known (d := 276) (congrArg (fun b => some (Value.bool b)) (nb _)) ?_
      repeat (first | refine WC.seq ?_ | refine WC.reg ?_ | refine WL.pure rfl rfl rfl ?_ | refine WL.nil ?_ | refine WC.skip ?_ | refine WC.block ?_ | refine WC.condT rfl ?_ | refine WC.condF rfl ?_ | refine WL.off rfl rfl rfl ?_ | refine WL.off0 rfl rfl ?_ | refine WC.exit ?_ | refine blk_hit ?_ | refine blk_miss rfl ?_ | refine WC.ret ?_)
      exact ⟨i + 1, by show 5 - (i + 1) < 5 - i; omega, ⟨rfl, rfl, rfl, rfl, rfl, congrArg (fun z => some (Value.int .i64 z)) step, rfl⟩, h2, hp7⟩
    · repeat (first | refine WC.seq ?_ | refine WC.reg ?_ | refine WL.pure rfl rfl rfl ?_ | refine WL.nil ?_ | refine WC.skip ?_ | refine WC.block ?_ | refine WC.condT rfl ?_ | refine WC.condF rfl ?_ | refine WL.off rfl rfl rfl ?_ | refine WL.off0 rfl rfl ?_ | refine WC.exit ?_ | refine blk_hit ?_ | refine blk_miss rfl ?_ | refine WC.ret ?_)
      refine WL.call rfl rfl rfl rfl rfl ent21 (awake_any w3) ?_
      rintro _ w9 ⟨rfl, hp9⟩
      repeat (first | refine WC.seq ?_ | refine WC.reg ?_ | refine WL.pure rfl rfl rfl ?_ | refine WL.nil ?_ | refine WC.skip ?_ | refine WC.block ?_ | refine WC.condT rfl ?_ | refine WC.condF rfl ?_ | refine WL.off rfl rfl rfl ?_ | refine WL.off0 rfl rfl ?_ | refine WC.exit ?_ | refine blk_hit ?_ | refine blk_miss rfl ?_ | refine WC.ret ?_)
      exact Res.one rfl rfl rfl ⟨rfl, (finish hp3).over hp9⟩
  · repeat (first | refine WC.seq ?_ | refine WC.reg ?_ | refine WL.pure rfl rfl rfl ?_ | refine WL.nil ?_ | refine WC.skip ?_ | refine WC.block ?_ | refine WC.condT rfl ?_ | refine WC.condF rfl ?_ | refine WL.off rfl rfl rfl ?_ | refine WL.off0 rfl rfl ?_ | refine WC.exit ?_ | refine blk_hit ?_ | refine blk_miss rfl ?_ | refine WC.ret ?_)
    refine WL.call rfl rfl rfl rfl rfl ent21 (awake_any w3) ?_
    rintro _ w9 ⟨rfl, hp9⟩
    repeat (first | refine WC.seq ?_ | refine WC.reg ?_ | refine WL.pure rfl rfl rfl ?_ | refine WL.nil ?_ | refine WC.skip ?_ | refine WC.block ?_ | refine WC.condT rfl ?_ | refine WC.condF rfl ?_ | refine WL.off rfl rfl rfl ?_ | refine WL.off0 rfl rfl ?_ | refine WC.exit ?_ | refine blk_hit ?_ | refine blk_miss rfl ?_ | refine WC.ret ?_)
    exact Res.one rfl rfl rfl ⟨rfl, (finish hp3).over hp9⟩
end Go.Proofs.Ytagfpnnplgkkoaa
