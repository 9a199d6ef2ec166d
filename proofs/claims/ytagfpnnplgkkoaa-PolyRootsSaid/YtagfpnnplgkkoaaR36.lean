/- PolyDivides returns true. -/
import Derived.Test.YtagfpnnplgkkoaaR35
namespace Go.Proofs.Ytagfpnnplgkkoaa
open Go.W Go.Poly Go.Tree Go.RowKit
set_option maxRecDepth 100000
attribute [local irreducible] WC WL WQ WS WH

theorem mul_quo_len {p : Nat} {f g : List Nat} (hg : 0 < g.length) : (mulL p (quoL p f g) g).length ≤ f.length := by
  by_cases h : g.length ≤ f.length
  · rw [mul_len (by rw [quo_len h]; omega) hg, quo_len h]; omega
  · have : quoL p f g = [] := by unfold quoL divL; rw [if_pos (by omega)]
    rw [this, mulL, if_pos (.inl rfl)]
    exact Nat.zero_le _

theorem PolyDivides_any (p : Int) (fa ga : Option Addr) (fc gc : Nat) (xf xg : List Int) (w : World) (sf : Sl w fa (zs xf)) (sg_ : Sl w ga (zs xg)) (hfc : xf.length ≤ fc) (hgc : xg.length ≤ gc) (hfn : fa = none → fc = 0) (hgn : ga = none → gc = 0) :
    Ret Try.prog 5 [.int .i64 p, .agg #[.slice fa xf.length fc, .slice ga xg.length gc]] w fun u w' => u = .bool true ∧ Hp w w' [] := by
  have zf : Pz w (.slice fa xf.length fc) xf := ⟨_, _, rfl, sf, hfn, hfc⟩
  have zg : Pz w (.slice ga xg.length gc) xg := ⟨_, _, rfl, sg_, hgn, hgc⟩
  refine enter Try.func5 rfl rfl ⟨rfl, rfl⟩ rfl ?_
  repeat (first | refine WC.seq ?_ | refine WC.reg ?_ | refine WL.pure rfl rfl rfl ?_ | refine WL.nil ?_ | refine WC.skip ?_ | refine WC.block ?_ | refine WC.condT rfl ?_ | refine WC.condF rfl ?_ | refine WL.off rfl rfl rfl ?_ | refine WL.off0 rfl rfl ?_ | refine WC.exit ?_ | refine blk_hit ?_ | refine blk_miss rfl ?_ | refine WC.ret ?_)
  refine WL.box rfl rfl rfl ?_
  intro b1 w1 hb1
  have hp1 := (Hp.start w).new hb1
  repeat (first | refine WC.seq ?_ | refine WC.reg ?_ | refine WL.pure rfl rfl rfl ?_ | refine WL.nil ?_ | refine WC.skip ?_ | refine WC.block ?_ | refine WC.condT rfl ?_ | refine WC.condF rfl ?_ | refine WL.off rfl rfl rfl ?_ | refine WL.off0 rfl rfl ?_ | refine WC.exit ?_ | refine blk_hit ?_ | refine blk_miss rfl ?_ | refine WC.ret ?_)
  refine WL.call rfl rfl rfl rfl rfl ent26 (fieldO_any p w1) ?_
  rintro _ w2 ⟨rfl, q, rfl, hq, hq2⟩
  have hF := tm_isP hq.pos xf 33
  have hG := tm_isP hq.pos xg 33
  have lF := tm_len q xf 33
  have lG := tm_len q xg 33
  repeat (first | refine WC.seq ?_ | refine WC.reg ?_ | refine WL.pure rfl rfl rfl ?_ | refine WL.nil ?_ | refine WC.skip ?_ | refine WC.block ?_ | refine WC.condT rfl ?_ | refine WC.condF rfl ?_ | refine WL.off rfl rfl rfl ?_ | refine WL.off0 rfl rfl ?_ | refine WC.exit ?_ | refine blk_hit ?_ | refine blk_miss rfl ?_ | refine WC.ret ?_)
  refine WC.mid (Value × Value) (fun (v5, v6) => [(0, .int .i64 (q : Nat)), (5, v5), (6, v6)]) (fun (v5, v6) w' => Hp w w' [Rw v6 (tmL q xg 33), Rw v5 (tmL q xf 33)]) ?_ ?_
  · refine WC.regH (fun w' => Hp w w' [.blk b1 (.cells #[.slice fa xf.length fc, .slice ga xg.length gc] 24 (0, 0))]) mixed (by kernel_rfl) (fun w2 hw2 hh2 => ?_)
    have hp2 := hp1.keep hw2
    refine WH.pure 0 (by kernel_rfl) rfl (by kernel_rfl) rfl rfl rfl hp2 ?_
    refine WH.pure 1 (by kernel_rfl) rfl (by kernel_rfl) rfl rfl rfl hp2 ?_
    refine WH.load 2 (by kernel_rfl) rfl (by kernel_rfl) rfl rfl rfl rfl rfl (fun w' h => cell_of_obj (h.obj 0 rfl) rfl) hp2 ?_
    refine WH.pure 4 (by kernel_rfl) rfl (by kernel_rfl) rfl rfl rfl hp2 ?_
    refine WH.pure 5 (by kernel_rfl) rfl (by kernel_rfl) rfl rfl rfl hp2 ?_
    refine WH.load 6 (by kernel_rfl) rfl (by kernel_rfl) rfl rfl rfl rfl rfl (fun w' h => cell_of_obj (h.obj 0 rfl) rfl) hp2 ?_
    refine WH.one 3 rfl (by kernel_rfl) ?_
    refine WL.call rfl rfl rfl rfl rfl ent27 (tame_pz q 33 _ xf hq.pos hq2 (by omega) w2 (zf.hp hp2)) ?_
    rintro v5 w3 hp3
    have hq3 := hp2.call hp3.below
    refine WL.nil ⟨hq3, ?_⟩
    refine WH.one 7 rfl (by kernel_rfl) ?_
    refine WL.call rfl rfl rfl rfl rfl ent27 (tame_pz q 33 _ xg hq.pos hq2 (by omega) w3 (zg.hp hq3)) ?_
    rintro v6 w4 hp4
    have hq4 := hq3.call hp4.below
    refine WL.nil ⟨hq4, ?_⟩
    refine WH.pure 8 (by kernel_rfl) rfl (by kernel_rfl) rfl rfl rfl hq4 ?_
    refine WH.pure 9 (by kernel_rfl) rfl (by kernel_rfl) rfl rfl rfl hq4 ?_
    refine WH.done (by kernel_rfl) ?_
    exact ⟨(v5, v6), ⟨rfl, rfl, rfl, rfl⟩, hp2.nil'.over (hp3.comb hp4)⟩
  rintro ⟨v5, v6⟩ e2 w2 hsub (hp2 : Hp w w2 [Rw v6 (tmL q xg 33), Rw v5 (tmL q xf 33)])
  refine WC.sub hsub ?_
  have d5 : Pd w2 v5 (tmL q xf 33) := Pd.row hp2 1 rfl
  have d6 : Pd w2 v6 (tmL q xg 33) := Pd.row hp2 0 rfl
  have hw2 := hp2.nil'
  clear hsub hp1 hb1 hp2
  generalize tmL q xf 33 = F at *
  generalize tmL q xg 33 = G at *
  have d6' := d6
  obtain ⟨ga6, gc6, rfl, -⟩ := d6
  repeat (first | refine WC.seq ?_ | refine WC.reg ?_ | refine WL.pure rfl rfl rfl ?_ | refine WL.nil ?_ | refine WC.skip ?_ | refine WC.block ?_ | refine WC.condT rfl ?_ | refine WC.condF rfl ?_ | refine WL.off rfl rfl rfl ?_ | refine WL.off0 rfl rfl ?_ | refine WC.exit ?_ | refine blk_hit ?_ | refine blk_miss rfl ?_ | refine WC.ret ?_)
  refine WC.cond rfl (fun hc => ?_) (fun hc => ?_)
  · repeat (first | refine WC.seq ?_ | refine WC.reg ?_ | refine WL.pure rfl rfl rfl ?_ | refine WL.nil ?_ | refine WC.skip ?_ | refine WC.block ?_ | refine WC.condT rfl ?_ | refine WC.condF rfl ?_ | refine WL.off rfl rfl rfl ?_ | refine WL.off0 rfl rfl ?_ | refine WC.exit ?_ | refine blk_hit ?_ | refine blk_miss rfl ?_ | refine WC.ret ?_)
    refine WL.call rfl rfl rfl rfl rfl ent21 (awake_any w2) ?_
    rintro _ w9 ⟨rfl, hp9⟩
    repeat (first | refine WC.seq ?_ | refine WC.reg ?_ | refine WL.pure rfl rfl rfl ?_ | refine WL.nil ?_ | refine WC.skip ?_ | refine WC.block ?_ | refine WC.condT rfl ?_ | refine WC.condF rfl ?_ | refine WL.off rfl rfl rfl ?_ | refine WL.off0 rfl rfl ?_ | refine WC.exit ?_ | refine blk_hit ?_ | refine blk_miss rfl ?_ | refine WC.ret ?_)
    exact Res.one rfl rfl rfl ⟨rfl, hw2.over hp9⟩
  · have hc : G ≠ [] := by rintro rfl; simp at hc
    have hG0 := List.length_pos_iff.2 hc
    have hqi := quo_isP hq hF hG hG0
    have hri := rem_isP hq hF hG hG0
    have hlr := rem_lt hq hF hG hG0
    have hlm := mul_quo_len (p := q) (f := F) hG0
    have hlq := quo_le q F hG0
    have hsum := quo_rem hq hF hG hG0
    repeat (first | refine WC.seq ?_ | refine WC.reg ?_ | refine WL.pure rfl rfl rfl ?_ | refine WL.nil ?_ | refine WC.skip ?_ | refine WC.block ?_ | refine WC.condT rfl ?_ | refine WC.condF rfl ?_ | refine WL.off rfl rfl rfl ?_ | refine WL.off0 rfl rfl ?_ | refine WC.exit ?_ | refine blk_hit ?_ | refine blk_miss rfl ?_ | refine WC.ret ?_)
    refine WL.call rfl rfl rfl rfl rfl ent24 (Div_ok q hq hq2 v5 _ F G hF hG hc lF lG w2 d5 d6') ?_
    rintro _ w3 ⟨a, b, rfl, hp3⟩
    have da := Pd.row hp3 0 rfl
    have db := Pd.row hp3 1 rfl
    repeat (first | refine WC.seq ?_ | refine WC.reg ?_ | refine WL.pure rfl rfl rfl ?_ | refine WL.nil ?_ | refine WC.skip ?_ | refine WC.block ?_ | refine WC.condT rfl ?_ | refine WC.condF rfl ?_ | refine WL.off rfl rfl rfl ?_ | refine WL.off0 rfl rfl ?_ | refine WC.exit ?_ | refine blk_hit ?_ | refine blk_miss rfl ?_ | refine WC.ret ?_)
    refine WL.call rfl rfl rfl rfl rfl ent17 (Mul_ok q hq hq2 a _ _ G hqi hG (by omega) lG (by omega) w3 da (d6'.hp hp3)) ?_
    rintro _ w4 ⟨m, rfl, hp4⟩
    have dm := Pd.row hp4 0 rfl
    have db4 := db.hp hp4
    repeat (first | refine WC.seq ?_ | refine WC.reg ?_ | refine WL.pure rfl rfl rfl ?_ | refine WL.nil ?_ | refine WC.skip ?_ | refine WC.block ?_ | refine WC.condT rfl ?_ | refine WC.condF rfl ?_ | refine WL.off rfl rfl rfl ?_ | refine WL.off0 rfl rfl ?_ | refine WC.exit ?_ | refine blk_hit ?_ | refine blk_miss rfl ?_ | refine WC.ret ?_)
    refine WL.call rfl rfl rfl rfl rfl ent16 (Add_ok q hq hq2 m b _ _ (mul_isP hq hqi hG) hri (by omega) (by omega) w4 dm db4) ?_
    rintro _ w5 ⟨s, rfl, hp5⟩
    rw [hsum] at hp5
    have ds := Pd.row hp5 0 rfl
    have h25 := (hp3.nil'.over hp4.nil').over hp5.nil'
    obtain ⟨ra, rc, rfl, -⟩ := db4
    have hdl : decide (((remL q F G).length : Int) < (G.length : Int)) = true := decide_eq_true (by omega)
    repeat (first | refine WC.seq ?_ | refine WC.reg ?_ | refine WL.pure rfl rfl rfl ?_ | refine WL.nil ?_ | refine WC.skip ?_ | refine WC.block ?_ | refine WC.condT rfl ?_ | refine WC.condF rfl ?_ | refine WL.off rfl rfl rfl ?_ | refine WL.off0 rfl rfl ?_ | refine WC.exit ?_ | refine blk_hit ?_ | refine blk_miss rfl ?_ | refine WC.ret ?_)
    refine WL.known (d := 67) (congrArg (fun b => some (Value.bool b)) hdl) ?_
    repeat (first | refine WC.seq ?_ | refine WC.reg ?_ | refine WL.pure rfl rfl rfl ?_ | refine WL.nil ?_ | refine WC.skip ?_ | refine WC.block ?_ | refine WC.condT rfl ?_ | refine WC.condF rfl ?_ | refine WL.off rfl rfl rfl ?_ | refine WL.off0 rfl rfl ?_ | refine WC.exit ?_ | refine blk_hit ?_ | refine blk_miss rfl ?_ | refine WC.ret ?_)
    refine WL.call rfl rfl rfl rfl rfl ent18 (Same_pd s v5 F F (by omega) w5 ds (d5.hp h25)) ?_
    rintro _ w6 ⟨rfl, hp6⟩
    rw [decide_eq_true rfl]
    repeat (first | refine WC.seq ?_ | refine WC.reg ?_ | refine WL.pure rfl rfl rfl ?_ | refine WL.nil ?_ | refine WC.skip ?_ | refine WC.block ?_ | refine WC.condT rfl ?_ | refine WC.condF rfl ?_ | refine WL.off rfl rfl rfl ?_ | refine WL.off0 rfl rfl ?_ | refine WC.exit ?_ | refine blk_hit ?_ | refine blk_miss rfl ?_ | refine WC.ret ?_)
    refine WL.call rfl rfl rfl rfl rfl ent21 (awake_any w6) ?_
    rintro _ w9 ⟨rfl, hp9⟩
    repeat (first | refine WC.seq ?_ | refine WC.reg ?_ | refine WL.pure rfl rfl rfl ?_ | refine WL.nil ?_ | refine WC.skip ?_ | refine WC.block ?_ | refine WC.condT rfl ?_ | refine WC.condF rfl ?_ | refine WL.off rfl rfl rfl ?_ | refine WL.off0 rfl rfl ?_ | refine WC.exit ?_ | refine blk_hit ?_ | refine blk_miss rfl ?_ | refine WC.ret ?_)
    exact Res.one rfl rfl rfl ⟨rfl, ((hw2.over h25).over hp6).over hp9⟩
end Go.Proofs.Ytagfpnnplgkkoaa
