/- PolySums returns true. -/
import Derived.Test.YtagfpnnplgkkoaaR31
namespace Go.Poly
open Go.W Go.Tree
theorem take_take34 (f : List Int) : (f.take 34).take 34 = f.take 34 := by rw [List.take_take]; rfl
theorem up_nil {F : List Nat} (h : (up F).length = 0) : F = [] := by rw [up_len] at h; exact List.length_eq_zero_iff.1 h
end Go.Poly
namespace Go.Proofs.Ytagfpnnplgkkoaa
open Go.W Go.Poly Go.Tree Go.RowKit
set_option maxRecDepth 100000
attribute [local irreducible] WC WL WQ WS WH

/-- A list of ints of one's own. -/
abbrev Rz (v : Value) (f : List Int) : Ent := .row 3 1 v f.length (zs f)
theorem Pz.rz {w0 w : World} {L : List Ent} {v : Value} {f : List Int} (hp : Hp w0 w L) (i : Nat) (hi : nth L i = some (Rz v f)) : Pz w v f := Pz.row hp i hi rfl
theorem own_pz (v : Value) (f : List Int) (w : World) (h : Pz w v f) :
    Ret Try.prog 15 [v] w fun u w' => Hp w w' [Rz u (f.take 34)] := by
  obtain ⟨a, c, rfl, s, _, hc⟩ := h
  refine (own_any a c f w s hc).mono ?_
  rintro _ w' ⟨a2, c2, h, rfl⟩
  exact h
theorem Add_pz (vf vg : Value) (p : Int) (f g : List Int) (hlf : f.length ≤ 1000) (hlg : g.length ≤ 1000) (w : World) (sf : Pz w vf f) (sg_ : Pz w vg g) :
    Ret Try.prog 16 [.int .i64 p, vf, vg] w fun u w' =>
      (okB p f g = false → u = .tuple #[.slice none 0 0, .int .i64 2] ∧ Hp w w' []) ∧
      (∀ (q : Nat) (F G : List Nat), okB p f g = true → p = q → f = up F → g = up G → ∃ v, u = .tuple #[v, .int .i64 0] ∧ Hp w w' [Rw v (addL q F G)]) := by
  obtain ⟨fa, fc, rfl, sf, -⟩ := sf
  obtain ⟨ga, gc, rfl, sg_, -⟩ := sg_
  refine (Add_any fa ga fc gc p f g hlf hlg w sf sg_).mono ?_
  rintro u w' ⟨h1, h2⟩
  refine ⟨h1, fun q F G e0 e1 e2 e3 => ?_⟩
  obtain ⟨a, c, h3, h4⟩ := h2 q F G e0 e1 e2 e3
  exact ⟨_, h3, h4⟩
theorem Mul_pz (vf vg : Value) (p : Int) (f g : List Int) (hlf : f.length ≤ 1000) (hlg : g.length ≤ 1000) (w : World) (sf : Pz w vf f) (sg_ : Pz w vg g) :
    Ret Try.prog 17 [.int .i64 p, vf, vg] w fun u w' =>
      (okB p f g = false → u = .tuple #[.slice none 0 0, .int .i64 2] ∧ Hp w w' []) ∧
      (∀ (q : Nat) (F G : List Nat), okB p f g = true → p = q → f = up F → g = up G → (33 < (mulL q F G).length → u = .tuple #[.slice none 0 0, .int .i64 5] ∧ Hp w w' []) ∧
        ((mulL q F G).length ≤ 33 → ∃ v, u = .tuple #[v, .int .i64 0] ∧ Hp w w' [Rw v (mulL q F G)])) := by
  obtain ⟨fa, fc, rfl, sf, -⟩ := sf
  obtain ⟨ga, gc, rfl, sg_, -⟩ := sg_
  refine (Mul_any fa ga fc gc p f g hlf hlg w sf sg_).mono ?_
  rintro u w' ⟨h1, h2⟩
  refine ⟨h1, fun q F G e0 e1 e2 e3 => ⟨(h2 q F G e0 e1 e2 e3).1, fun hl => ?_⟩⟩
  obtain ⟨a, c, h3, h4⟩ := (h2 q F G e0 e1 e2 e3).2 hl
  exact ⟨_, h3, h4⟩
theorem Same_pz (vf vg : Value) (f g : List Int) (lF : f.length ≤ 1000000) (w : World) (sf : Pz w vf f) (sg_ : Pz w vg g) :
    Ret Try.prog 18 [vf, vg] w fun u w' => u = .bool (decide (f = g)) ∧ Hp w w' [] := by
  obtain ⟨fa, fc, rfl, sf, -⟩ := sf
  obtain ⟨ga, gc, rfl, sg_, -⟩ := sg_
  exact (Same_any fa ga fc gc f g w sf sg_ (by omega)).mono fun u w' h => ⟨h.2, h.1⟩
theorem RPoly_pz (p : Nat) (vf : Value) (f : List Int) (w : World) (sf : Pz w vf f) :
    Ret Try.prog 20 [.int .i64 (p : Nat), vf] w fun u w' => u = .bool (polyB p f) ∧ w' = w := by
  obtain ⟨fa, fc, rfl, sf, -⟩ := sf
  exact RPoly_any p fa fc f w sf
theorem RAdd_pd (p : Nat) (vf vg : Value) (f g : List Nat) (hpp : Pri p) (hp : p ≤ 1021) (hf : IsP p f) (hg : IsP p g) (hlf : f.length ≤ 1000) (hlg : g.length ≤ 1000) (w : World) (sf : Pd w vf f) (sg_ : Pd w vg g) :
    Ret Try.prog 22 [.int .i64 (p : Nat), vf, vg] w fun u w' => Hp w w' [Rw u (addL p f g)] := by
  obtain ⟨fa, fc, rfl, sf, _⟩ := sf
  obtain ⟨ga, gc, rfl, sg_, _⟩ := sg_
  refine (RAdd_any fa ga fc gc p f g hpp.pos hp (hf.co hpp.pos) (hg.co hpp.pos) hlf hlg w sf sg_).mono ?_
  rintro _ w' ⟨a, c, rfl, h⟩
  exact h
theorem RMul_pd (p : Nat) (vf vg : Value) (f g : List Nat) (hpp : Pri p) (hp : p ≤ 1021) (hf : IsP p f) (hg : IsP p g) (hlf : f.length ≤ 1000) (hlg : g.length ≤ 1000) (w : World) (sf : Pd w vf f) (sg_ : Pd w vg g) :
    Ret Try.prog 23 [.int .i64 (p : Nat), vf, vg] w fun u w' => Hp w w' [Rw u (mulL p f g)] := by
  obtain ⟨fa, fc, rfl, sf, _⟩ := sf
  obtain ⟨ga, gc, rfl, sg_, _⟩ := sg_
  refine (RMul_any fa ga fc gc p f g hpp.pos hp (hf.co hpp.pos) (hg.co hpp.pos) hlf hlg w sf sg_).mono ?_
  rintro _ w' ⟨a, c, rfl, h⟩
  rw [trim_id (mul_isP hpp hf hg).2] at h ⊢
  exact h
theorem RValue_pd (p x : Nat) (vf : Value) (f : List Nat) (hpp : Pri p) (hp : p ≤ 1021) (hf : IsP p f) (hx : x < p) (hlf : f.length ≤ 1000) (w : World) (sf : Pd w vf f) :
    Ret Try.prog 29 [.int .i64 (p : Nat), vf, .int .i64 (x : Nat)] w fun u w' => u = .int .i64 (valL p f x : Nat) ∧ w' = w := by
  obtain ⟨fa, fc, rfl, sf, _⟩ := sf
  exact RValue_any fa fc p x f hpp.pos hp (hf.co hpp.pos) hx hlf w sf

theorem PolySums_any (p : Int) (fa ga : Option Addr) (fc gc : Nat) (xf xg : List Int) (w : World) (sf : Sl w fa (zs xf)) (sg_ : Sl w ga (zs xg)) (hfc : xf.length ≤ fc) (hgc : xg.length ≤ gc) (hfn : fa = none → fc = 0) (hgn : ga = none → gc = 0) :
    Ret Try.prog 3 [.int .i64 p, .agg #[.slice fa xf.length fc, .slice ga xg.length gc]] w fun u w' => u = .bool true ∧ Hp w w' [] := by
  have zf : Pz w (.slice fa xf.length fc) xf := ⟨_, _, rfl, sf, hfn, hfc⟩
  have zg : Pz w (.slice ga xg.length gc) xg := ⟨_, _, rfl, sg_, hgn, hgc⟩
  have hlf : (xf.take 34).length ≤ 34 := List.length_take_le _ _
  have hlg : (xg.take 34).length ≤ 34 := List.length_take_le _ _
  refine enter Try.func3 rfl rfl ⟨rfl, rfl⟩ rfl ?_
  repeat (first | refine WC.seq ?_ | refine WC.reg ?_ | refine WL.pure rfl rfl rfl ?_ | refine WL.nil ?_ | refine WC.skip ?_ | refine WC.block ?_ | refine WC.condT rfl ?_ | refine WC.condF rfl ?_ | refine WL.off rfl rfl rfl ?_ | refine WL.off0 rfl rfl ?_ | refine WC.exit ?_ | refine blk_hit ?_ | refine blk_miss rfl ?_ | refine WC.ret ?_)
  refine WL.box rfl rfl rfl ?_
  intro b1 w1 hb1
  have hp1 := (Hp.start w).new hb1
  repeat (first | refine WC.seq ?_ | refine WC.reg ?_ | refine WL.pure rfl rfl rfl ?_ | refine WL.nil ?_ | refine WC.skip ?_ | refine WC.block ?_ | refine WC.condT rfl ?_ | refine WC.condF rfl ?_ | refine WL.off rfl rfl rfl ?_ | refine WL.off0 rfl rfl ?_ | refine WC.exit ?_ | refine blk_hit ?_ | refine blk_miss rfl ?_ | refine WC.ret ?_)
  refine WC.mid (Value × Value) (fun (v5, v6) => [(0, .int .i64 p), (5, v5), (6, v6)]) (fun (v5, v6) w' => Hp w w' [Rz v6 (xg.take 34), Rz v5 (xf.take 34)]) ?_ ?_
  · refine WC.regH (fun w' => Hp w w' [.blk b1 (.cells #[.slice fa xf.length fc, .slice ga xg.length gc] 24 (0, 0))]) mixed (by kernel_rfl) (fun w2 hw2 hh2 => ?_)
    have hp2 := hp1.keep hw2
    refine WH.pure 0 (by kernel_rfl) rfl (by kernel_rfl) rfl rfl rfl hp2 ?_
    refine WH.load 1 (by kernel_rfl) rfl (by kernel_rfl) rfl rfl rfl rfl rfl (fun w' h => cell_of_obj (h.obj 0 rfl) rfl) hp2 ?_
    refine WH.pure 3 (by kernel_rfl) rfl (by kernel_rfl) rfl rfl rfl hp2 ?_
    refine WH.load 4 (by kernel_rfl) rfl (by kernel_rfl) rfl rfl rfl rfl rfl (fun w' h => cell_of_obj (h.obj 0 rfl) rfl) hp2 ?_
    refine WH.one 2 rfl (by kernel_rfl) ?_
    refine WL.call rfl rfl rfl rfl rfl ent15 (own_pz _ xf w2 (zf.hp hp2)) ?_
    rintro v5 w3 hp3
    have hq3 := hp2.call hp3.below
    refine WL.nil ⟨hq3, ?_⟩
    refine WH.one 5 rfl (by kernel_rfl) ?_
    refine WL.call rfl rfl rfl rfl rfl ent15 (own_pz _ xg w3 (zg.hp hq3)) ?_
    rintro v6 w4 hp4
    have hq4 := hq3.call hp4.below
    refine WL.nil ⟨hq4, ?_⟩
    refine WH.pure 6 (by kernel_rfl) rfl (by kernel_rfl) rfl rfl rfl hq4 ?_
    refine WH.pure 7 (by kernel_rfl) rfl (by kernel_rfl) rfl rfl rfl hq4 ?_
    refine WH.done (by kernel_rfl) ?_
    exact ⟨(v5, v6), ⟨rfl, rfl, rfl, rfl⟩, hp2.nil'.over (hp3.comb hp4)⟩
  rintro ⟨v5, v6⟩ e2 w2 hsub (hp2 : Hp w w2 [Rz v6 (xg.take 34), Rz v5 (xf.take 34)])
  refine WC.sub hsub ?_
  clear hsub hp1 hb1 w1 b1
  have z5 : Pz w2 v5 (xf.take 34) := Pz.rz hp2 1 rfl
  have z6 : Pz w2 v6 (xg.take 34) := Pz.rz hp2 0 rfl
  have hw2 := hp2.nil'
  clear hp2
  have htf := take_take34 xf
  have htg := take_take34 xg
  generalize xf.take 34 = f at *
  generalize xg.take 34 = g at *
  clear zf zg sf sg_
  repeat (first | refine WC.seq ?_ | refine WC.reg ?_ | refine WL.pure rfl rfl rfl ?_ | refine WL.nil ?_ | refine WC.skip ?_ | refine WC.block ?_ | refine WC.condT rfl ?_ | refine WC.condF rfl ?_ | refine WL.off rfl rfl rfl ?_ | refine WL.off0 rfl rfl ?_ | refine WC.exit ?_ | refine blk_hit ?_ | refine blk_miss rfl ?_ | refine WC.ret ?_)
  refine WL.call rfl rfl rfl rfl rfl ent15 (own_pz _ f w2 z5) ?_
  rintro v7 w3 hp3
  rw [htf] at hp3
  repeat (first | refine WC.seq ?_ | refine WC.reg ?_ | refine WL.pure rfl rfl rfl ?_ | refine WL.nil ?_ | refine WC.skip ?_ | refine WC.block ?_ | refine WC.condT rfl ?_ | refine WC.condF rfl ?_ | refine WL.off rfl rfl rfl ?_ | refine WL.off0 rfl rfl ?_ | refine WC.exit ?_ | refine blk_hit ?_ | refine blk_miss rfl ?_ | refine WC.ret ?_)
  refine WL.call rfl rfl rfl rfl rfl ent15 (own_pz _ g w3 (z6.hp hp3)) ?_
  rintro v8 w4 hp4
  rw [htg] at hp4
  have h24 := hp3.comb hp4
  have z7 : Pz w4 v7 f := Pz.rz h24 1 rfl
  have z8 : Pz w4 v8 g := Pz.rz h24 0 rfl
  have z5 := z5.hp h24
  have z6 := z6.hp h24
  have hp4 := hw2.over h24.nil'
  clear hw2 hp3 h24
  repeat (first | refine WC.seq ?_ | refine WC.reg ?_ | refine WL.pure rfl rfl rfl ?_ | refine WL.nil ?_ | refine WC.skip ?_ | refine WC.block ?_ | refine WC.condT rfl ?_ | refine WC.condF rfl ?_ | refine WL.off rfl rfl rfl ?_ | refine WL.off0 rfl rfl ?_ | refine WC.exit ?_ | refine blk_hit ?_ | refine blk_miss rfl ?_ | refine WC.ret ?_)
  refine WL.call rfl rfl rfl rfl rfl ent16 (Add_pz v7 v8 p f g (by omega) (by omega) w4 z7 z8) ?_
  rintro ua w5 ⟨ha1, ha2⟩
  have hb5 : Hp w4 w5 [] := by
    cases hB : okB p f g with
    | false => exact (ha1 hB).2
    | true =>
      obtain ⟨q, F, G, e1, e2, e3, -⟩ := okB_nat hB
      obtain ⟨v, _, h⟩ := ha2 q F G hB e1 e2 e3
      exact h.nil'
  have hres1 : ∃ s e, ua = .tuple #[s, .int .i64 e] := by
    cases hB : okB p f g with
    | false => exact ⟨_, _, (ha1 hB).1⟩
    | true =>
      obtain ⟨q, F, G, e1, e2, e3, -⟩ := okB_nat hB
      obtain ⟨v, h, _⟩ := ha2 q F G hB e1 e2 e3
      exact ⟨_, _, h⟩
  obtain ⟨vs, es, rfl⟩ := hres1
  repeat (first | refine WC.seq ?_ | refine WC.reg ?_ | refine WL.pure rfl rfl rfl ?_ | refine WL.nil ?_ | refine WC.skip ?_ | refine WC.block ?_ | refine WC.condT rfl ?_ | refine WC.condF rfl ?_ | refine WL.off rfl rfl rfl ?_ | refine WL.off0 rfl rfl ?_ | refine WC.exit ?_ | refine blk_hit ?_ | refine blk_miss rfl ?_ | refine WC.ret ?_)
  refine WL.call rfl rfl rfl rfl rfl ent17 (Mul_pz v7 v8 p f g (by omega) (by omega) w5 (z7.hp hb5) (z8.hp hb5)) ?_
  rintro um w6 ⟨hm1, hm2⟩
  have hb6 : Hp w5 w6 [] := by
    cases hB : okB p f g with
    | false => exact (hm1 hB).2
    | true =>
      obtain ⟨q, F, G, e1, e2, e3, -⟩ := okB_nat hB
      by_cases hl : (mulL q F G).length ≤ 33
      · obtain ⟨v, _, h⟩ := (hm2 q F G hB e1 e2 e3).2 hl
        exact h.nil'
      · exact ((hm2 q F G hB e1 e2 e3).1 (by omega)).2
  have hres2 : ∃ s e, um = .tuple #[s, .int .i64 e] := by
    cases hB : okB p f g with
    | false => exact ⟨_, _, (hm1 hB).1⟩
    | true =>
      obtain ⟨q, F, G, e1, e2, e3, -⟩ := okB_nat hB
      by_cases hl : (mulL q F G).length ≤ 33
      · obtain ⟨v, h, _⟩ := (hm2 q F G hB e1 e2 e3).2 hl
        exact ⟨_, _, h⟩
      · exact ⟨_, _, ((hm2 q F G hB e1 e2 e3).1 (by omega)).1⟩
  obtain ⟨vm, em, rfl⟩ := hres2
  have hp6 := (hp4.over hb5).over hb6
  have h46 := hb5.over hb6
  have z5 := z5.hp h46
  have z6 := z6.hp h46
  have z7 := z7.hp h46
  have z8 := z8.hp h46
  repeat (first | refine WC.seq ?_ | refine WC.reg ?_ | refine WL.pure rfl rfl rfl ?_ | refine WL.nil ?_ | refine WC.skip ?_ | refine WC.block ?_ | refine WC.condT rfl ?_ | refine WC.condF rfl ?_ | refine WL.off rfl rfl rfl ?_ | refine WL.off0 rfl rfl ?_ | refine WC.exit ?_ | refine blk_hit ?_ | refine blk_miss rfl ?_ | refine WC.ret ?_)
  refine WL.call rfl rfl rfl rfl rfl ent18 (Same_pz v7 v5 f f (by omega) w6 z7 z5) ?_
  rintro _ w7 ⟨rfl, hp7⟩
  rw [decide_eq_true rfl]
  repeat (first | refine WC.seq ?_ | refine WC.reg ?_ | refine WL.pure rfl rfl rfl ?_ | refine WL.nil ?_ | refine WC.skip ?_ | refine WC.block ?_ | refine WC.condT rfl ?_ | refine WC.condF rfl ?_ | refine WL.off rfl rfl rfl ?_ | refine WL.off0 rfl rfl ?_ | refine WC.exit ?_ | refine blk_hit ?_ | refine blk_miss rfl ?_ | refine WC.ret ?_)
  refine WL.call rfl rfl rfl rfl rfl ent18 (Same_pz v8 v6 g g (by omega) w7 (z8.hp hp7) (z6.hp hp7)) ?_
  rintro _ w8 ⟨rfl, hp8⟩
  rw [decide_eq_true rfl]
  have h68 := hp7.over hp8
  have z5 := z5.hp h68
  have z6 := z6.hp h68
  have hp8 := hp6.over h68
  repeat (first | refine WC.seq ?_ | refine WC.reg ?_ | refine WL.pure rfl rfl rfl ?_ | refine WL.nil ?_ | refine WC.skip ?_ | refine WC.block ?_ | refine WC.condT rfl ?_ | refine WC.condF rfl ?_ | refine WL.off rfl rfl rfl ?_ | refine WL.off0 rfl rfl ?_ | refine WC.exit ?_ | refine blk_hit ?_ | refine blk_miss rfl ?_ | refine WC.ret ?_)
  refine WL.callP rfl rfl rfl rfl rfl ent19 (Field_any p w8) ?_
  have badcase : okB p f g = false → vs = .slice none 0 0 ∧ es = 2 ∧ vm = .slice none 0 0 ∧ em = 2 := by
    intro hB
    have h1 := (ha1 hB).1
    have h2 := (hm1 hB).1
    simp only [Value.tuple.injEq, Array.mk.injEq, List.cons.injEq, Value.int.injEq, true_and, and_true] at h1 h2
    exact ⟨h1.1, h1.2, h2.1, h2.2⟩
  cases hfB : fieldB p with
  | false =>
    obtain ⟨rfl, rfl, rfl, rfl⟩ := badcase (by simp [okB, hfB])
    repeat (first | refine WC.seq ?_ | refine WC.reg ?_ | refine WL.pure rfl rfl rfl ?_ | refine WL.nil ?_ | refine WC.skip ?_ | refine WC.block ?_ | refine WC.condT rfl ?_ | refine WC.condF rfl ?_ | refine WL.off rfl rfl rfl ?_ | refine WL.off0 rfl rfl ?_ | refine WC.exit ?_ | refine blk_hit ?_ | refine blk_miss rfl ?_ | refine WC.ret ?_)
    refine WL.call rfl rfl rfl rfl rfl ent21 (awake_any w8) ?_
    rintro _ w9 ⟨rfl, hp9⟩
    repeat (first | refine WC.seq ?_ | refine WC.reg ?_ | refine WL.pure rfl rfl rfl ?_ | refine WL.nil ?_ | refine WC.skip ?_ | refine WC.block ?_ | refine WC.condT rfl ?_ | refine WC.condF rfl ?_ | refine WL.off rfl rfl rfl ?_ | refine WL.off0 rfl rfl ?_ | refine WC.exit ?_ | refine blk_hit ?_ | refine blk_miss rfl ?_ | refine WC.ret ?_)
    exact Res.one rfl rfl rfl ⟨rfl, hp8.over hp9⟩
  | true =>
  obtain ⟨q, rfl, hq, hq2⟩ := fieldB_pri hfB
  repeat (first | refine WC.seq ?_ | refine WC.reg ?_ | refine WL.pure rfl rfl rfl ?_ | refine WL.nil ?_ | refine WC.skip ?_ | refine WC.block ?_ | refine WC.condT rfl ?_ | refine WC.condF rfl ?_ | refine WL.off rfl rfl rfl ?_ | refine WL.off0 rfl rfl ?_ | refine WC.exit ?_ | refine blk_hit ?_ | refine blk_miss rfl ?_ | refine WC.ret ?_)
  refine WL.callP rfl rfl rfl rfl rfl ent20 (RPoly_pz q v5 f w8 z5) ?_
  cases hpf : polyB q f with
  | false =>
    obtain ⟨rfl, rfl, rfl, rfl⟩ := badcase (by simp [okB, hpf])
    repeat (first | refine WC.seq ?_ | refine WC.reg ?_ | refine WL.pure rfl rfl rfl ?_ | refine WL.nil ?_ | refine WC.skip ?_ | refine WC.block ?_ | refine WC.condT rfl ?_ | refine WC.condF rfl ?_ | refine WL.off rfl rfl rfl ?_ | refine WL.off0 rfl rfl ?_ | refine WC.exit ?_ | refine blk_hit ?_ | refine blk_miss rfl ?_ | refine WC.ret ?_)
    refine WL.call rfl rfl rfl rfl rfl ent21 (awake_any w8) ?_
    rintro _ w9 ⟨rfl, hp9⟩
    repeat (first | refine WC.seq ?_ | refine WC.reg ?_ | refine WL.pure rfl rfl rfl ?_ | refine WL.nil ?_ | refine WC.skip ?_ | refine WC.block ?_ | refine WC.condT rfl ?_ | refine WC.condF rfl ?_ | refine WL.off rfl rfl rfl ?_ | refine WL.off0 rfl rfl ?_ | refine WC.exit ?_ | refine blk_hit ?_ | refine blk_miss rfl ?_ | refine WC.ret ?_)
    exact Res.one rfl rfl rfl ⟨rfl, hp8.over hp9⟩
  | true =>
  repeat (first | refine WC.seq ?_ | refine WC.reg ?_ | refine WL.pure rfl rfl rfl ?_ | refine WL.nil ?_ | refine WC.skip ?_ | refine WC.block ?_ | refine WC.condT rfl ?_ | refine WC.condF rfl ?_ | refine WL.off rfl rfl rfl ?_ | refine WL.off0 rfl rfl ?_ | refine WC.exit ?_ | refine blk_hit ?_ | refine blk_miss rfl ?_ | refine WC.ret ?_)
  refine WL.callP rfl rfl rfl rfl rfl ent20 (RPoly_pz q v6 g w8 z6) ?_
  cases hpg : polyB q g with
  | false =>
    obtain ⟨rfl, rfl, rfl, rfl⟩ := badcase (by simp [okB, hpg])
    repeat (first | refine WC.seq ?_ | refine WC.reg ?_ | refine WL.pure rfl rfl rfl ?_ | refine WL.nil ?_ | refine WC.skip ?_ | refine WC.block ?_ | refine WC.condT rfl ?_ | refine WC.condF rfl ?_ | refine WL.off rfl rfl rfl ?_ | refine WL.off0 rfl rfl ?_ | refine WC.exit ?_ | refine blk_hit ?_ | refine blk_miss rfl ?_ | refine WC.ret ?_)
    refine WL.call rfl rfl rfl rfl rfl ent21 (awake_any w8) ?_
    rintro _ w9 ⟨rfl, hp9⟩
    repeat (first | refine WC.seq ?_ | refine WC.reg ?_ | refine WL.pure rfl rfl rfl ?_ | refine WL.nil ?_ | refine WC.skip ?_ | refine WC.block ?_ | refine WC.condT rfl ?_ | refine WC.condF rfl ?_ | refine WL.off rfl rfl rfl ?_ | refine WL.off0 rfl rfl ?_ | refine WC.exit ?_ | refine blk_hit ?_ | refine blk_miss rfl ?_ | refine WC.ret ?_)
    exact Res.one rfl rfl rfl ⟨rfl, hp8.over hp9⟩
  | true =>
  have hB : okB (q : Int) f g = true := by simp [okB, hfB, hpf, hpg]
  obtain ⟨F, rfl, hF, lF⟩ := poly_nat hpf
  obtain ⟨G, rfl, hG, lG⟩ := poly_nat hpg
  obtain ⟨s, hs1, hs2⟩ := ha2 q F G hB rfl rfl rfl
  simp only [Value.tuple.injEq, Array.mk.injEq, List.cons.injEq, Value.int.injEq, true_and, and_true] at hs1
  obtain ⟨rfl, rfl⟩ := hs1
  have ds := ((Pd.row hs2 0 rfl).hp hb6).hp h68
  have hm2 := hm2 q F G hB rfl rfl rfl
  have la := add_len_le q F G
  have lm := mul_len_le q F G
  have dm : (mulL q F G).length ≤ 33 → em = 0 ∧ Pd w8 vm (mulL q F G) := by
    intro hl
    obtain ⟨v, h1, h2⟩ := hm2.2 hl
    simp only [Value.tuple.injEq, Array.mk.injEq, List.cons.injEq, Value.int.injEq, true_and, and_true] at h1
    obtain ⟨rfl, rfl⟩ := h1
    exact ⟨rfl, (Pd.row h2 0 rfl).hp h68⟩
  have dm2 : 33 < (mulL q F G).length → em = 5 ∧ vm = .slice none 0 0 := by
    intro hl
    have h1 := (hm2.1 hl).1
    simp only [Value.tuple.injEq, Array.mk.injEq, List.cons.injEq, Value.int.injEq, true_and, and_true] at h1
    exact ⟨h1.2, h1.1⟩
  repeat (first | refine WC.seq ?_ | refine WC.reg ?_ | refine WL.pure rfl rfl rfl ?_ | refine WL.nil ?_ | refine WC.skip ?_ | refine WC.block ?_ | refine WC.condT rfl ?_ | refine WC.condF rfl ?_ | refine WL.off rfl rfl rfl ?_ | refine WL.off0 rfl rfl ?_ | refine WC.exit ?_ | refine blk_hit ?_ | refine blk_miss rfl ?_ | refine WC.ret ?_)
  refine WL.call rfl rfl rfl rfl rfl ent22 (RAdd_pd q v5 v6 F G hq hq2 hF hG (by omega) (by omega) w8 z5.nat z6.nat) ?_
  rintro va w9 hp9
  refine WL.call rfl rfl rfl rfl rfl ent18 (Same_pd vs va _ _ (by omega) w9 (ds.hp hp9) (Pd.row hp9 0 rfl)) ?_
  rintro _ wa ⟨rfl, hpa⟩
  rw [decide_eq_true rfl]
  have h8a := hp9.nil'.over hpa
  have hpa := hp8.over h8a
  repeat (first | refine WC.seq ?_ | refine WC.reg ?_ | refine WL.pure rfl rfl rfl ?_ | refine WL.nil ?_ | refine WC.skip ?_ | refine WC.block ?_ | refine WC.condT rfl ?_ | refine WC.condF rfl ?_ | refine WL.off rfl rfl rfl ?_ | refine WL.off0 rfl rfl ?_ | refine WC.exit ?_ | refine blk_hit ?_ | refine blk_miss rfl ?_ | refine WC.ret ?_)
  refine WL.call rfl rfl rfl rfl rfl ent23 (RMul_pd q v5 v6 F G hq hq2 hF hG (by omega) (by omega) wa (z5.nat.hp h8a) (z6.nat.hp h8a)) ?_
  rintro vw wb hpb
  have dw := Pd.row hpb 0 rfl
  have dw' := dw
  obtain ⟨wwa, wwc, rfl, -⟩ := dw
  have hpb := hpb.nil'
  repeat (first | refine WC.seq ?_ | refine WC.reg ?_ | refine WL.pure rfl rfl rfl ?_ | refine WL.nil ?_ | refine WC.skip ?_ | refine WC.block ?_ | refine WC.condT rfl ?_ | refine WC.condF rfl ?_ | refine WL.off rfl rfl rfl ?_ | refine WL.off0 rfl rfl ?_ | refine WC.exit ?_ | refine blk_hit ?_ | refine blk_miss rfl ?_ | refine WC.ret ?_)
  refine WC.cond rfl (fun hc => ?_) (fun hc => ?_)
  · have hc : 33 < (mulL q F G).length := by have := of_decide_eq_true hc; omega
    obtain ⟨rfl, rfl⟩ := dm2 hc
    repeat (first | refine WC.seq ?_ | refine WC.reg ?_ | refine WL.pure rfl rfl rfl ?_ | refine WL.nil ?_ | refine WC.skip ?_ | refine WC.block ?_ | refine WC.condT rfl ?_ | refine WC.condF rfl ?_ | refine WL.off rfl rfl rfl ?_ | refine WL.off0 rfl rfl ?_ | refine WC.exit ?_ | refine blk_hit ?_ | refine blk_miss rfl ?_ | refine WC.ret ?_)
    refine WL.call rfl rfl rfl rfl rfl ent21 (awake_any wb) ?_
    rintro _ wc ⟨rfl, hpc⟩
    repeat (first | refine WC.seq ?_ | refine WC.reg ?_ | refine WL.pure rfl rfl rfl ?_ | refine WL.nil ?_ | refine WC.skip ?_ | refine WC.block ?_ | refine WC.condT rfl ?_ | refine WC.condF rfl ?_ | refine WL.off rfl rfl rfl ?_ | refine WL.off0 rfl rfl ?_ | refine WC.exit ?_ | refine blk_hit ?_ | refine blk_miss rfl ?_ | refine WC.ret ?_)
    exact Res.one rfl rfl rfl ⟨rfl, (hpa.over hpb).over hpc⟩
  · have hc : (mulL q F G).length ≤ 33 := by have := of_decide_eq_false hc; omega
    obtain ⟨rfl, dmm⟩ := dm hc
    repeat (first | refine WC.seq ?_ | refine WC.reg ?_ | refine WL.pure rfl rfl rfl ?_ | refine WL.nil ?_ | refine WC.skip ?_ | refine WC.block ?_ | refine WC.condT rfl ?_ | refine WC.condF rfl ?_ | refine WL.off rfl rfl rfl ?_ | refine WL.off0 rfl rfl ?_ | refine WC.exit ?_ | refine blk_hit ?_ | refine blk_miss rfl ?_ | refine WC.ret ?_)
    refine WL.call rfl rfl rfl rfl rfl ent18 (Same_pd _ _ _ _ (by omega) wb ((dmm.hp h8a).hp hpb) dw') ?_
    rintro _ wc ⟨rfl, hpc⟩
    rw [decide_eq_true rfl]
    repeat (first | refine WC.seq ?_ | refine WC.reg ?_ | refine WL.pure rfl rfl rfl ?_ | refine WL.nil ?_ | refine WC.skip ?_ | refine WC.block ?_ | refine WC.condT rfl ?_ | refine WC.condF rfl ?_ | refine WL.off rfl rfl rfl ?_ | refine WL.off0 rfl rfl ?_ | refine WC.exit ?_ | refine blk_hit ?_ | refine blk_miss rfl ?_ | refine WC.ret ?_)
    refine WL.call rfl rfl rfl rfl rfl ent21 (awake_any wc) ?_
    rintro _ wd ⟨rfl, hpd⟩
    repeat (first | refine WC.seq ?_ | refine WC.reg ?_ | refine WL.pure rfl rfl rfl ?_ | refine WL.nil ?_ | refine WC.skip ?_ | refine WC.block ?_ | refine WC.condT rfl ?_ | refine WC.condF rfl ?_ | refine WL.off rfl rfl rfl ?_ | refine WL.off0 rfl rfl ?_ | refine WC.exit ?_ | refine blk_hit ?_ | refine blk_miss rfl ?_ | refine WC.ret ?_)
    exact Res.one rfl rfl rfl ⟨rfl, ((hpa.over hpb).over hpc).over hpd⟩
end Go.Proofs.Ytagfpnnplgkkoaa
