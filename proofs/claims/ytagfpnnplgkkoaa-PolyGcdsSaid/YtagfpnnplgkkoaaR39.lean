/- PolyGcds returns true. -/
import Derived.Test.YtagfpnnplgkkoaaR38
namespace Go.Proofs.Ytagfpnnplgkkoaa
open Go.W Go.Poly Go.Tree Go.RowKit
set_option maxRecDepth 100000
attribute [local irreducible] WC WL WQ WS WH

theorem PolyGcds_any (p : Int) (fa ga : Option Addr) (fc gc : Nat) (xf xg : List Int) (w : World) (sf : Sl w fa (zs xf)) (sg_ : Sl w ga (zs xg)) (hfc : xf.length ≤ fc) (hgc : xg.length ≤ gc) (hfn : fa = none → fc = 0) (hgn : ga = none → gc = 0) :
    Ret Try.prog 7 [.int .i64 p, .agg #[.slice fa xf.length fc, .slice ga xg.length gc]] w fun u w' => u = .bool true ∧ Hp w w' [] := by
  have zf : Pz w (.slice fa xf.length fc) xf := ⟨_, _, rfl, sf, hfn, hfc⟩
  have zg : Pz w (.slice ga xg.length gc) xg := ⟨_, _, rfl, sg_, hgn, hgc⟩
  have hlf : (xf.take 34).length ≤ 34 := List.length_take_le _ _
  have hlg : (xg.take 34).length ≤ 34 := List.length_take_le _ _
  refine enter Try.func7 rfl rfl ⟨rfl, rfl⟩ rfl ?_
  repeat (first | refine WC.seq ?_ | refine WC.reg ?_ | refine WL.pure rfl rfl rfl ?_ | refine WL.nil ?_ | refine WC.skip ?_ | refine WC.block ?_ | refine WC.condT rfl ?_ | refine WC.condF rfl ?_ | refine WL.off rfl rfl rfl ?_ | refine WL.off0 rfl rfl ?_ | refine WC.exit ?_ | refine blk_hit ?_ | refine blk_miss rfl ?_ | refine WC.ret ?_)
  refine WL.box rfl rfl rfl ?_
  intro b1 w1 hb1
  have hp1 := (Hp.start w).new hb1
  repeat (first | refine WC.seq ?_ | refine WC.reg ?_ | refine WL.pure rfl rfl rfl ?_ | refine WL.nil ?_ | refine WC.skip ?_ | refine WC.block ?_ | refine WC.condT rfl ?_ | refine WC.condF rfl ?_ | refine WL.off rfl rfl rfl ?_ | refine WL.off0 rfl rfl ?_ | refine WC.exit ?_ | refine blk_hit ?_ | refine blk_miss rfl ?_ | refine WC.ret ?_)
  refine WC.mid (Value × Value) (fun (v5, v6) => [(0, .int .i64 p), (5, v5), (6, v6)]) (fun (v5, v6) w' => Hp w w' [Rz v6 (xg.take 34), Rz v5 (xf.take 34)]) ?_ ?_
  · refine WC.regH (fun w' => Hp w w' [.blk b1 (.cells #[.slice fa xf.length fc, .slice ga xg.length gc] 24 (0, 0))]) mixed (by kernel_rfl) (fun w2 hw2 hh2 => ?_)
    have hp2 := hp1.keep hw2
    refine WH.pure 0 (by kernel_rfl) rfl (by kernel_rfl) rfl rfl rfl hp2 ?_
    refine WH.load 1 (by kernel_rfl) rfl (by kernel_rfl) rfl rfl rfl rfl rfl (fun w' h => cell_of_obj (h.obj 0 rfl) rfl) hp2 ?_
    refine WH.pure 3 (by kernel_rfl) rfl (by kernel_rfl) rfl rfl rfl hp2 ?_
    refine WH.load 4 (by kernel_rfl) rfl (by kernel_rfl) rfl rfl rfl rfl rfl (fun w' h => cell_of_obj (h.obj 0 rfl) rfl) hp2 ?_
    refine WH.one 2 rfl (by kernel_rfl) ?_
    refine WL.call rfl rfl rfl rfl rfl ent15 (own_pz _ xf w2 (zf.hp hp2)) ?_
    rintro v5 w3 hp3
    have hq3 := hp2.call hp3.below
    refine WL.nil ⟨hq3, ?_⟩
    refine WH.one 5 rfl (by kernel_rfl) ?_
    refine WL.call rfl rfl rfl rfl rfl ent15 (own_pz _ xg w3 (zg.hp hq3)) ?_
    rintro v6 w4 hp4
    have hq4 := hq3.call hp4.below
    refine WL.nil ⟨hq4, ?_⟩
    refine WH.pure 6 (by kernel_rfl) rfl (by kernel_rfl) rfl rfl rfl hq4 ?_
    refine WH.pure 7 (by kernel_rfl) rfl (by kernel_rfl) rfl rfl rfl hq4 ?_
    refine WH.done (by kernel_rfl) ?_
    exact ⟨(v5, v6), ⟨rfl, rfl, rfl, rfl⟩, hp2.nil'.over (hp3.comb hp4)⟩
  rintro ⟨v5, v6⟩ e2 w2 hsub (hp2 : Hp w w2 [Rz v6 (xg.take 34), Rz v5 (xf.take 34)])
  refine WC.sub hsub ?_
  clear hsub hp1 hb1 w1 b1
  have z5 : Pz w2 v5 (xf.take 34) := Pz.rz hp2 1 rfl
  have z6 : Pz w2 v6 (xg.take 34) := Pz.rz hp2 0 rfl
  have hw2 := hp2.nil'
  clear hp2
  have htf := take_take34 xf
  have htg := take_take34 xg
  generalize xf.take 34 = f at *
  generalize xg.take 34 = g at *
  clear zf zg sf sg_
  repeat (first | refine WC.seq ?_ | refine WC.reg ?_ | refine WL.pure rfl rfl rfl ?_ | refine WL.nil ?_ | refine WC.skip ?_ | refine WC.block ?_ | refine WC.condT rfl ?_ | refine WC.condF rfl ?_ | refine WL.off rfl rfl rfl ?_ | refine WL.off0 rfl rfl ?_ | refine WC.exit ?_ | refine blk_hit ?_ | refine blk_miss rfl ?_ | refine WC.ret ?_)
  refine WL.call rfl rfl rfl rfl rfl ent15 (own_pz _ f w2 z5) ?_
  rintro v7 w3 hp3
  rw [htf] at hp3
  repeat (first | refine WC.seq ?_ | refine WC.reg ?_ | refine WL.pure rfl rfl rfl ?_ | refine WL.nil ?_ | refine WC.skip ?_ | refine WC.block ?_ | refine WC.condT rfl ?_ | refine WC.condF rfl ?_ | refine WL.off rfl rfl rfl ?_ | refine WL.off0 rfl rfl ?_ | refine WC.exit ?_ | refine blk_hit ?_ | refine blk_miss rfl ?_ | refine WC.ret ?_)
  refine WL.call rfl rfl rfl rfl rfl ent15 (own_pz _ g w3 (z6.hp hp3)) ?_
  rintro v8 w4 hp4
  rw [htg] at hp4
  have h24 := hp3.comb hp4
  have z7 : Pz w4 v7 f := Pz.rz h24 1 rfl
  have z8 : Pz w4 v8 g := Pz.rz h24 0 rfl
  have z5 := z5.hp h24
  have z6 := z6.hp h24
  have hp4 := hw2.over h24.nil'
  clear hw2 hp3 h24
  repeat (first | refine WC.seq ?_ | refine WC.reg ?_ | refine WL.pure rfl rfl rfl ?_ | refine WL.nil ?_ | refine WC.skip ?_ | refine WC.block ?_ | refine WC.condT rfl ?_ | refine WC.condF rfl ?_ | refine WL.off rfl rfl rfl ?_ | refine WL.off0 rfl rfl ?_ | refine WC.exit ?_ | refine blk_hit ?_ | refine blk_miss rfl ?_ | refine WC.ret ?_)
  refine WL.call rfl rfl rfl rfl rfl ent30 (Gcd_pz v7 v8 p f g (by omega) (by omega) w4 z7 z8) ?_
  rintro ua w5 ⟨ha1, ha3⟩
  have cases2 : okB p f g = false ∨ ∃ (q : Nat) (F G : List Nat), okB p f g = true ∧ p = q ∧ f = up F ∧ g = up G := by
    cases hB : okB p f g with
    | false => exact .inl rfl
    | true =>
      obtain ⟨q, F, G, e1, e2, e3, -⟩ := okB_nat hB
      exact .inr ⟨q, F, G, rfl, e1, e2, e3⟩
  have hb5 : Hp w4 w5 [] ∧ ∃ s t r e, ua = .tuple #[s, t, r, .int .i64 e] := by
    rcases cases2 with hB | ⟨q, F, G, hB, e1, e2, e3⟩
    · exact ⟨(ha1 hB).2, _, _, _, _, (ha1 hB).1⟩
    · obtain ⟨x, y, z, h1, h2⟩ := ha3 q F G hB e1 e2 e3
      exact ⟨h2.nil', _, _, _, _, h1⟩
  obtain ⟨hb5, vd, va, vb, er, rfl⟩ := hb5
  have hp5 := hp4.over hb5
  have z5 := z5.hp hb5
  have z6 := z6.hp hb5
  have z7 := z7.hp hb5
  have z8 := z8.hp hb5
  repeat (first | refine WC.seq ?_ | refine WC.reg ?_ | refine WL.pure rfl rfl rfl ?_ | refine WL.nil ?_ | refine WC.skip ?_ | refine WC.block ?_ | refine WC.condT rfl ?_ | refine WC.condF rfl ?_ | refine WL.off rfl rfl rfl ?_ | refine WL.off0 rfl rfl ?_ | refine WC.exit ?_ | refine blk_hit ?_ | refine blk_miss rfl ?_ | refine WC.ret ?_)
  refine WL.call rfl rfl rfl rfl rfl ent18 (Same_pz v7 v5 f f (by omega) w5 z7 z5) ?_
  rintro _ w7 ⟨rfl, hp7⟩
  rw [decide_eq_true rfl]
  repeat (first | refine WC.seq ?_ | refine WC.reg ?_ | refine WL.pure rfl rfl rfl ?_ | refine WL.nil ?_ | refine WC.skip ?_ | refine WC.block ?_ | refine WC.condT rfl ?_ | refine WC.condF rfl ?_ | refine WL.off rfl rfl rfl ?_ | refine WL.off0 rfl rfl ?_ | refine WC.exit ?_ | refine blk_hit ?_ | refine blk_miss rfl ?_ | refine WC.ret ?_)
  refine WL.call rfl rfl rfl rfl rfl ent18 (Same_pz v8 v6 g g (by omega) w7 (z8.hp hp7) (z6.hp hp7)) ?_
  rintro _ w8 ⟨rfl, hp8⟩
  rw [decide_eq_true rfl]
  have h68 := hp7.over hp8
  have z5 := z5.hp h68
  have z6 := z6.hp h68
  have hp8 := hp5.over h68
  repeat (first | refine WC.seq ?_ | refine WC.reg ?_ | refine WL.pure rfl rfl rfl ?_ | refine WL.nil ?_ | refine WC.skip ?_ | refine WC.block ?_ | refine WC.condT rfl ?_ | refine WC.condF rfl ?_ | refine WL.off rfl rfl rfl ?_ | refine WL.off0 rfl rfl ?_ | refine WC.exit ?_ | refine blk_hit ?_ | refine blk_miss rfl ?_ | refine WC.ret ?_)
  refine WL.callP rfl rfl rfl rfl rfl ent19 (Field_any p w8) ?_
  have badcase : okB p f g = false → vd = .slice none 0 0 ∧ va = .slice none 0 0 ∧ vb = .slice none 0 0 ∧ er = 2 := by
    intro hB
    have h1 := (ha1 hB).1
    simp only [Value.tuple.injEq, Array.mk.injEq, List.cons.injEq, Value.int.injEq, true_and, and_true] at h1
    exact h1
  cases hfB : fieldB p with
  | false =>
    obtain ⟨rfl, rfl, rfl, rfl⟩ := badcase (by simp [okB, hfB])
    repeat (first | refine WC.seq ?_ | refine WC.reg ?_ | refine WL.pure rfl rfl rfl ?_ | refine WL.nil ?_ | refine WC.skip ?_ | refine WC.block ?_ | refine WC.condT rfl ?_ | refine WC.condF rfl ?_ | refine WL.off rfl rfl rfl ?_ | refine WL.off0 rfl rfl ?_ | refine WC.exit ?_ | refine blk_hit ?_ | refine blk_miss rfl ?_ | refine WC.ret ?_)
    refine WL.call rfl rfl rfl rfl rfl ent21 (awake_any w8) ?_
    rintro _ w9 ⟨rfl, hp9⟩
    repeat (first | refine WC.seq ?_ | refine WC.reg ?_ | refine WL.pure rfl rfl rfl ?_ | refine WL.nil ?_ | refine WC.skip ?_ | refine WC.block ?_ | refine WC.condT rfl ?_ | refine WC.condF rfl ?_ | refine WL.off rfl rfl rfl ?_ | refine WL.off0 rfl rfl ?_ | refine WC.exit ?_ | refine blk_hit ?_ | refine blk_miss rfl ?_ | refine WC.ret ?_)
    exact Res.one rfl rfl rfl ⟨rfl, hp8.over hp9⟩
  | true =>
  obtain ⟨q, rfl, hq, hq2⟩ := fieldB_pri hfB
  repeat (first | refine WC.seq ?_ | refine WC.reg ?_ | refine WL.pure rfl rfl rfl ?_ | refine WL.nil ?_ | refine WC.skip ?_ | refine WC.block ?_ | refine WC.condT rfl ?_ | refine WC.condF rfl ?_ | refine WL.off rfl rfl rfl ?_ | refine WL.off0 rfl rfl ?_ | refine WC.exit ?_ | refine blk_hit ?_ | refine blk_miss rfl ?_ | refine WC.ret ?_)
  refine WL.callP rfl rfl rfl rfl rfl ent20 (RPoly_pz q v5 f w8 z5) ?_
  cases hpf : polyB q f with
  | false =>
    obtain ⟨rfl, rfl, rfl, rfl⟩ := badcase (by simp [okB, hpf])
    repeat (first | refine WC.seq ?_ | refine WC.reg ?_ | refine WL.pure rfl rfl rfl ?_ | refine WL.nil ?_ | refine WC.skip ?_ | refine WC.block ?_ | refine WC.condT rfl ?_ | refine WC.condF rfl ?_ | refine WL.off rfl rfl rfl ?_ | refine WL.off0 rfl rfl ?_ | refine WC.exit ?_ | refine blk_hit ?_ | refine blk_miss rfl ?_ | refine WC.ret ?_)
    refine WL.call rfl rfl rfl rfl rfl ent21 (awake_any w8) ?_
    rintro _ w9 ⟨rfl, hp9⟩
    repeat (first | refine WC.seq ?_ | refine WC.reg ?_ | refine WL.pure rfl rfl rfl ?_ | refine WL.nil ?_ | refine WC.skip ?_ | refine WC.block ?_ | refine WC.condT rfl ?_ | refine WC.condF rfl ?_ | refine WL.off rfl rfl rfl ?_ | refine WL.off0 rfl rfl ?_ | refine WC.exit ?_ | refine blk_hit ?_ | refine blk_miss rfl ?_ | refine WC.ret ?_)
    exact Res.one rfl rfl rfl ⟨rfl, hp8.over hp9⟩
  | true =>
  repeat (first | refine WC.seq ?_ | refine WC.reg ?_ | refine WL.pure rfl rfl rfl ?_ | refine WL.nil ?_ | refine WC.skip ?_ | refine WC.block ?_ | refine WC.condT rfl ?_ | refine WC.condF rfl ?_ | refine WL.off rfl rfl rfl ?_ | refine WL.off0 rfl rfl ?_ | refine WC.exit ?_ | refine blk_hit ?_ | refine blk_miss rfl ?_ | refine WC.ret ?_)
  refine WL.callP rfl rfl rfl rfl rfl ent20 (RPoly_pz q v6 g w8 z6) ?_
  cases hpg : polyB q g with
  | false =>
    obtain ⟨rfl, rfl, rfl, rfl⟩ := badcase (by simp [okB, hpg])
    repeat (first | refine WC.seq ?_ | refine WC.reg ?_ | refine WL.pure rfl rfl rfl ?_ | refine WL.nil ?_ | refine WC.skip ?_ | refine WC.block ?_ | refine WC.condT rfl ?_ | refine WC.condF rfl ?_ | refine WL.off rfl rfl rfl ?_ | refine WL.off0 rfl rfl ?_ | refine WC.exit ?_ | refine blk_hit ?_ | refine blk_miss rfl ?_ | refine WC.ret ?_)
    refine WL.call rfl rfl rfl rfl rfl ent21 (awake_any w8) ?_
    rintro _ w9 ⟨rfl, hp9⟩
    repeat (first | refine WC.seq ?_ | refine WC.reg ?_ | refine WL.pure rfl rfl rfl ?_ | refine WL.nil ?_ | refine WC.skip ?_ | refine WC.block ?_ | refine WC.condT rfl ?_ | refine WC.condF rfl ?_ | refine WL.off rfl rfl rfl ?_ | refine WL.off0 rfl rfl ?_ | refine WC.exit ?_ | refine blk_hit ?_ | refine blk_miss rfl ?_ | refine WC.ret ?_)
    exact Res.one rfl rfl rfl ⟨rfl, hp8.over hp9⟩
  | true =>
  have hB : okB (q : Int) f g = true := by simp [okB, hfB, hpf, hpg]
  obtain ⟨F, rfl, hF, lF⟩ := poly_nat hpf
  obtain ⟨G, rfl, hG, lG⟩ := poly_nat hpg
  obtain ⟨x, y, z, h1, h2⟩ := ha3 q F G hB rfl rfl rfl
  simp only [Value.tuple.injEq, Array.mk.injEq, List.cons.injEq, Value.int.injEq, true_and, and_true] at h1
  obtain ⟨rfl, rfl, rfl, rfl⟩ := h1
  have dd := (Pd.row h2 2 rfl).hp h68
  have da := (Pd.row h2 1 rfl).hp h68
  have db := (Pd.row h2 0 rfl).hp h68
  rw [(bez_gcd hq hF hG).1] at dd
  repeat (first | refine WC.seq ?_ | refine WC.reg ?_ | refine WL.pure rfl rfl rfl ?_ | refine WL.nil ?_ | refine WC.skip ?_ | refine WC.block ?_ | refine WC.condT rfl ?_ | refine WC.condF rfl ?_ | refine WL.off rfl rfl rfl ?_ | refine WL.off0 rfl rfl ?_ | refine WC.exit ?_ | refine blk_hit ?_ | refine blk_miss rfl ?_ | refine WC.ret ?_)
  refine WL.call rfl rfl rfl rfl rfl ent31 (IsGcd_any q v5 v6 vd va vb F G hq hq2 hF hG lF lG w8 z5.nat z6.nat dd da db) ?_
  rintro _ w9 ⟨rfl, hp9⟩
  repeat (first | refine WC.seq ?_ | refine WC.reg ?_ | refine WL.pure rfl rfl rfl ?_ | refine WL.nil ?_ | refine WC.skip ?_ | refine WC.block ?_ | refine WC.condT rfl ?_ | refine WC.condF rfl ?_ | refine WL.off rfl rfl rfl ?_ | refine WL.off0 rfl rfl ?_ | refine WC.exit ?_ | refine blk_hit ?_ | refine blk_miss rfl ?_ | refine WC.ret ?_)
  refine WL.call rfl rfl rfl rfl rfl ent21 (awake_any w9) ?_
  rintro _ wa ⟨rfl, hpa⟩
  repeat (first | refine WC.seq ?_ | refine WC.reg ?_ | refine WL.pure rfl rfl rfl ?_ | refine WL.nil ?_ | refine WC.skip ?_ | refine WC.block ?_ | refine WC.condT rfl ?_ | refine WC.condF rfl ?_ | refine WL.off rfl rfl rfl ?_ | refine WL.off0 rfl rfl ?_ | refine WC.exit ?_ | refine blk_hit ?_ | refine blk_miss rfl ?_ | refine WC.ret ?_)
  exact Res.one rfl rfl rfl ⟨rfl, (hp8.over hp9).over hpa⟩
end Go.Proofs.Ytagfpnnplgkkoaa
