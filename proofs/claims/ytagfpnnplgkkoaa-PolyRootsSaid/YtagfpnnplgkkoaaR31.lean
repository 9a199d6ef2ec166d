/- What the exported functions give for good arguments; the walk of 'awake'. -/
import Derived.Test.YtagfpnnplgkkoaaR30
namespace Go.Poly
open Go.W Go.Tree
theorem up_dec (F G : List Nat) : decide (up F = up G) = decide (F = G) := decide_eq_decide.2 ⟨up_inj, fun h => by rw [h]⟩
theorem awake1 : mulL 5 [2, 1] [3, 1] = [1, 0, 1] := by decide +kernel
theorem awake2 : ∃ ys, sqL 5 (monicL 5 [1, 0, 1]) = some ys ∧ isrt ltQ ((spl 5 ys).length - 1) (spl 5 ys) = [([2, 1], 1), ([3, 1], 1)] ∧ (spl 5 ys).length = 2 :=
  ⟨[([1, 0, 1], 1)], by decide +kernel, by decide +kernel, by decide +kernel⟩
theorem awake3 : cntO 2 4 3 = some (2, 0) := by decide +kernel
theorem awake4 : firstO 2 3 8 (x0 3) = some [1, 1, 0, 1] := by decide +kernel
theorem pri2 : Pri 2 := priB_spec (by decide)
theorem pri5 : Pri 5 := priB_spec (by decide)
end Go.Poly
namespace Go.Proofs.Ytagfpnnplgkkoaa
open Go.W Go.Poly Go.Tree Go.RowKit
set_option maxRecDepth 100000
attribute [local irreducible] WC WL WQ WS WH

section
variable (q : Nat) (hq : Pri q) (hq2 : q ≤ 1021)
include hq hq2
theorem Add_ok (vf vg : Value) (F G : List Nat) (hF : IsP q F) (hG : IsP q G) (lF : F.length ≤ 33) (lG : G.length ≤ 33) (w : World) (sf : Pd w vf F) (sg_ : Pd w vg G) :
    Ret Try.prog 16 [.int .i64 (q : Nat), vf, vg] w fun u w' => ∃ v, u = .tuple #[v, .int .i64 0] ∧ Hp w w' [Rw v (addL q F G)] := by
  obtain ⟨fa, fc, rfl, sf, -⟩ := sf
  obtain ⟨ga, gc, rfl, sg_, -⟩ := sg_
  have h := Add_any fa ga fc gc q (up F) (up G) (by rw [up_len]; omega) (by rw [up_len]; omega) w (by rw [zs_up]; exact sf) (by rw [zs_up]; exact sg_)
  rw [up_len, up_len] at h
  refine h.mono ?_
  rintro u w' ⟨-, h⟩
  obtain ⟨a, c, rfl, h2⟩ := h q F G (okB_ok hq hq2 hF lF hG lG) rfl rfl rfl
  exact ⟨_, rfl, h2⟩
theorem Mul_ok (vf vg : Value) (F G : List Nat) (hF : IsP q F) (hG : IsP q G) (lF : F.length ≤ 33) (lG : G.length ≤ 33) (hl : (mulL q F G).length ≤ 33) (w : World) (sf : Pd w vf F) (sg_ : Pd w vg G) :
    Ret Try.prog 17 [.int .i64 (q : Nat), vf, vg] w fun u w' => ∃ v, u = .tuple #[v, .int .i64 0] ∧ Hp w w' [Rw v (mulL q F G)] := by
  obtain ⟨fa, fc, rfl, sf, -⟩ := sf
  obtain ⟨ga, gc, rfl, sg_, -⟩ := sg_
  have h := Mul_any fa ga fc gc q (up F) (up G) (by rw [up_len]; omega) (by rw [up_len]; omega) w (by rw [zs_up]; exact sf) (by rw [zs_up]; exact sg_)
  rw [up_len, up_len] at h
  refine h.mono ?_
  rintro u w' ⟨-, h⟩
  obtain ⟨a, c, rfl, h2⟩ := (h q F G (okB_ok hq hq2 hF lF hG lG) rfl rfl rfl).2 hl
  exact ⟨_, rfl, h2⟩
theorem Div_ok (vf vg : Value) (F G : List Nat) (hF : IsP q F) (hG : IsP q G) (hG0 : G ≠ []) (lF : F.length ≤ 33) (lG : G.length ≤ 33) (w : World) (sf : Pd w vf F) (sg_ : Pd w vg G) :
    Ret Try.prog 24 [.int .i64 (q : Nat), vf, vg] w fun u w' => ∃ a b, u = .tuple #[a, b, .int .i64 0] ∧ Hp w w' [Rw a (quoL q F G), Rw b (remL q F G)] := by
  refine (Div_pz vf vg q (up F) (up G) (by rw [up_len]; omega) (by rw [up_len]; omega) w sf.int sg_.int).mono ?_
  rintro u w' ⟨-, -, h⟩
  exact h q F G (okB_ok hq hq2 hF lF hG lG) rfl rfl rfl hG0
theorem Value_ok (vf : Value) (F : List Nat) (X : Nat) (hF : IsP q F) (hX : X < q) (lF : F.length ≤ 33) (w : World) (sf : Pd w vf F) :
    Ret Try.prog 28 [.int .i64 (q : Nat), vf, .int .i64 (X : Nat)] w fun u w' => u = .tuple #[.int .i64 (valL q F X : Nat), .int .i64 0] ∧ Hp w w' [] := by
  refine (Value_pz vf q X (up F) (by rw [up_len]; omega) w sf.int).mono ?_
  rintro u w' ⟨h1, -, h⟩
  exact ⟨h q F X (okF_ok hq hq2 hF lF) rfl rfl rfl hX, h1⟩
theorem Gcd_ok (vf vg : Value) (F G : List Nat) (hF : IsP q F) (hG : IsP q G) (lF : F.length ≤ 33) (lG : G.length ≤ 33) (w : World) (sf : Pd w vf F) (sg_ : Pd w vg G) :
    Ret Try.prog 30 [.int .i64 (q : Nat), vf, vg] w fun u w' => ∃ d a b, u = .tuple #[d, a, b, .int .i64 0] ∧ Hp w w' [Rw b (bezL q F G).2.2, Rw a (bezL q F G).2.1, Rw d (bezL q F G).1] := by
  refine (Gcd_pz vf vg q (up F) (up G) (by rw [up_len]; omega) (by rw [up_len]; omega) w sf.int sg_.int).mono ?_
  rintro u w' ⟨-, h⟩
  exact h q F G (okB_ok hq hq2 hF lF hG lG) rfl rfl rfl
theorem Factor_ok (vf : Value) (F : List Nat) (ys : Yds) (hF : IsP q F) (hF0 : F ≠ []) (lF : F.length ≤ 33) (hys : sqL q (monicL q F) = some ys) (h12 : (spl q ys).length ≤ 12) (w : World) (sf : Pd w vf F) :
    Ret Try.prog 35 [.int .i64 (q : Nat), vf] w fun u w' => ∃ (v : Value) (fs : List FE) (bag : List (Value × List Nat)), u = .tuple #[.int .i64 (co F (F.length - 1) : Nat), v, .int .i64 0] ∧
        fs.map prE = isrt ltQ ((spl q ys).length - 1) (spl q ys) ∧ (∀ e ∈ fs, e.1 ∈ bag ∧ GP q e.1.2) ∧ Hp w w' (Fr v fs :: bagE bag) := by
  refine (Factor_pz vf q (up F) (by rw [up_len]; omega) w sf.int (fun q' F' _ e1 e2 _ => ?_)).mono ?_
  · have e1 : q = q' := by omega
    have e2 := up_inj e2
    subst e1 e2
    exact ⟨ys, hys, h12⟩
  · rintro u w' ⟨-, -, h⟩
    exact h q F ys (okF_ok hq hq2 hF lF) rfl rfl hF0 hys
end
theorem Same_pd (vf vg : Value) (F G : List Nat) (lF : F.length ≤ 1000000) (w : World) (sf : Pd w vf F) (sg_ : Pd w vg G) :
    Ret Try.prog 18 [vf, vg] w fun u w' => u = .bool (decide (F = G)) ∧ Hp w w' [] := by
  obtain ⟨fa, fc, rfl, sf, -⟩ := sf
  obtain ⟨ga, gc, rfl, sg_, -⟩ := sg_
  have h := Same_any fa ga fc gc (up F) (up G) w (by rw [zs_up]; exact sf) (by rw [zs_up]; exact sg_) (by rw [up_len]; omega)
  rw [up_len, up_len, up_dec] at h
  exact h.mono fun u w' h => ⟨h.2, h.1⟩

theorem awake_any (w : World) : Ret Try.prog 21 [] w fun u w' => u = .bool true ∧ Hp w w' [] := by
  refine enter Try.func21 rfl rfl ⟨rfl, rfl⟩ rfl ?_
  repeat (first | refine WC.seq ?_ | refine WC.reg ?_ | refine WL.pure rfl rfl rfl ?_ | refine WL.nil ?_ | refine WC.skip ?_ | refine WC.block ?_ | refine WC.condT rfl ?_ | refine WC.condF rfl ?_ | refine WL.off rfl rfl rfl ?_ | refine WL.off0 rfl rfl ?_ | refine WC.exit ?_ | refine blk_hit ?_ | refine blk_miss rfl ?_ | refine WC.ret ?_)
  refine WL.buildS (cs := ints [2, 1]) rfl rfl rfl rfl rfl rfl rfl rfl rfl ?_
  intro b1 w1 hb1
  have hr1 : Hp w w1 [Rw (.slice (some ⟨b1, 0, none⟩) 2 2) [2, 1]] := ((Hp.start w).new hb1).toRow (m := 2) (s := 1) rfl (by decide)
  refine WL.buildS (cs := ints [3, 1]) rfl rfl rfl rfl rfl rfl rfl rfl rfl ?_
  intro b2 w2 hb2
  have hr2 : Hp w w2 [Rw (.slice (some ⟨b2, 0, none⟩) 2 2) [3, 1], Rw (.slice (some ⟨b1, 0, none⟩) 2 2) [2, 1]] := (hr1.new hb2).toRow (m := 2) (s := 1) rfl (by decide)
  have i1 : IsP 5 [2, 1] := ⟨by decide, .inr (by decide)⟩
  have i2 : IsP 5 [3, 1] := ⟨by decide, .inr (by decide)⟩
  refine WL.call rfl rfl rfl rfl rfl ent17 (Mul_ok 5 pri5 (by omega) _ _ [2, 1] [3, 1] i1 i2 (by decide) (by decide) (by rw [awake1]; decide) w2 (Pd.row hr2 1 rfl) (Pd.row hr2 0 rfl)) ?_
  rintro _ w3 ⟨vm, rfl, hp3⟩
  rw [awake1] at hp3
  have hp3 := hr2.nil'.over hp3
  obtain ⟨ma, mc, rfl, -⟩ := Pd.row hp3 0 rfl
  repeat (first | refine WC.seq ?_ | refine WC.reg ?_ | refine WL.pure rfl rfl rfl ?_ | refine WL.nil ?_ | refine WC.skip ?_ | refine WC.block ?_ | refine WC.condT rfl ?_ | refine WC.condF rfl ?_ | refine WL.off rfl rfl rfl ?_ | refine WL.off0 rfl rfl ?_ | refine WC.exit ?_ | refine blk_hit ?_ | refine blk_miss rfl ?_ | refine WC.ret ?_)
  refine WL.buildS (cs := ints [1, 0, 1]) rfl rfl rfl rfl rfl rfl rfl rfl rfl ?_
  intro b4 w4 hb4
  have hr4 : Hp w w4 [Rw (.slice (some ⟨b4, 0, none⟩) 3 3) [1, 0, 1], Rw (.slice ma 3 mc) [1, 0, 1]] := (hp3.new hb4).toRow (m := 3) (s := 1) rfl (by decide)
  have i3 : IsP 5 [1, 0, 1] := ⟨by decide, .inr (by decide)⟩
  obtain ⟨ys, hys, hsr, hsl⟩ := awake2
  refine WL.call rfl rfl rfl rfl rfl ent35 (Factor_ok 5 pri5 (by omega) _ [1, 0, 1] ys i3 (by decide) (by decide) hys (by omega) w4 (Pd.row hr4 0 rfl)) ?_
  rintro _ w5 ⟨vl, fs, bag, rfl, hfs, hfb, hp5⟩
  rw [hsr] at hfs
  obtain ⟨e1, e2, rfl⟩ : ∃ e1 e2, fs = [e1, e2] := by
    have hl : fs.length = 2 := by have := congrArg List.length hfs; simpa using this
    clear hfs hfb hp5
    match fs, hl with
    | [e1, e2], _ => exact ⟨e1, e2, rfl⟩
  have he1 : e1.1.2 = [2, 1] := by
    simp only [List.map_cons, List.cons.injEq, prE, Prod.mk.injEq] at hfs
    exact hfs.1.1
  have hp5 := (hr4.tail).comb hp5
  have hd1 : Pd w5 e1.1.1 e1.1.2 := bag_pd (A := [_]) (hp5.subl (List.sublist_append_left _ _)) (hfb e1 (by simp)).1
  rw [he1] at hd1
  obtain ⟨la, lc, rfl⟩ : ∃ a c, vl = .slice a 2 c := owns_shape (hp5.at 0 rfl)
  have hls : Sl w5 la (fcs [e1, e2]) := Sl.of_row (show w5.ownsRow _ _ 2 _ _ _ from hp5.at 0 rfl)
  have hlat : (fcs [e1, e2])[0]? = some e1.1.1 := rfl
  obtain ⟨lb, lo, rfl⟩ := Sl.some hls hlat
  have hmp : Pd w5 (.slice ma 3 mc) [1, 0, 1] := Pd.row (hp5.permP (List.perm_append_comm)) 0 rfl
  have hp5 := hp5.nil'
  repeat (first | refine WC.seq ?_ | refine WC.reg ?_ | refine WL.pure rfl rfl rfl ?_ | refine WL.nil ?_ | refine WC.skip ?_ | refine WC.block ?_ | refine WC.condT rfl ?_ | refine WC.condF rfl ?_ | refine WL.off rfl rfl rfl ?_ | refine WL.off0 rfl rfl ?_ | refine WC.exit ?_ | refine blk_hit ?_ | refine blk_miss rfl ?_ | refine WC.ret ?_)
  refine WL.call rfl rfl rfl rfl rfl ent44 (Count_any 2 (by decide) pri2 (by omega) 4 3 2 0 (by omega) (by omega) awake3 w5) ?_
  rintro _ w6 ⟨rfl, hp6⟩
  repeat (first | refine WC.seq ?_ | refine WC.reg ?_ | refine WL.pure rfl rfl rfl ?_ | refine WL.nil ?_ | refine WC.skip ?_ | refine WC.block ?_ | refine WC.condT rfl ?_ | refine WC.condF rfl ?_ | refine WL.off rfl rfl rfl ?_ | refine WL.off0 rfl rfl ?_ | refine WC.exit ?_ | refine blk_hit ?_ | refine blk_miss rfl ?_ | refine WC.ret ?_)
  refine WL.call rfl rfl rfl rfl rfl ent45 (First_any 2 3 8 _ (by decide) pri2 (by omega) (by omega) (by omega) awake4 w6) ?_
  rintro _ w7 ⟨vx, rfl, hp7⟩
  have hx := Pd.row hp7 0 rfl
  have hp57 := hp6.over hp7.nil'
  have hw7 := hp5.over hp57
  repeat (first | refine WC.seq ?_ | refine WC.reg ?_ | refine WL.pure rfl rfl rfl ?_ | refine WL.nil ?_ | refine WC.skip ?_ | refine WC.block ?_ | refine WC.condT rfl ?_ | refine WC.condF rfl ?_ | refine WL.off rfl rfl rfl ?_ | refine WL.off0 rfl rfl ?_ | refine WC.exit ?_ | refine blk_hit ?_ | refine blk_miss rfl ?_ | refine WC.ret ?_)
  refine WL.buildS (cs := ints [1, 0, 1]) rfl rfl rfl rfl rfl rfl rfl rfl rfl ?_
  intro b8 w8 hb8
  have hr8 : Hp w7 w8 [Rw (.slice (some ⟨b8, 0, none⟩) 3 3) [1, 0, 1]] := ((Hp.start w7).new hb8).toRow (m := 3) (s := 1) rfl (by decide)
  refine WL.call rfl rfl rfl rfl rfl ent18 (Same_pd _ _ [1, 0, 1] [1, 0, 1] (by decide) w8 ((hmp.hp hp57).hp hr8) (Pd.row hr8 0 rfl)) ?_
  rintro _ w9 ⟨rfl, hp9⟩
  have h79 := hr8.nil'.over hp9
  repeat (first | refine WC.seq ?_ | refine WC.reg ?_ | refine WL.pure rfl rfl rfl ?_ | refine WL.nil ?_ | refine WC.skip ?_ | refine WC.block ?_ | refine WC.condT rfl ?_ | refine WC.condF rfl ?_ | refine WL.off rfl rfl rfl ?_ | refine WL.off0 rfl rfl ?_ | refine WC.exit ?_ | refine blk_hit ?_ | refine blk_miss rfl ?_ | refine WC.ret ?_)
  refine WL.ix rfl rfl rfl rfl rfl (show 0 < 2 by decide) rfl ?_
  repeat (first | refine WC.seq ?_ | refine WC.reg ?_ | refine WL.pure rfl rfl rfl ?_ | refine WL.nil ?_ | refine WC.skip ?_ | refine WC.block ?_ | refine WC.condT rfl ?_ | refine WC.condF rfl ?_ | refine WL.off rfl rfl rfl ?_ | refine WL.off0 rfl rfl ?_ | refine WC.exit ?_ | refine blk_hit ?_ | refine blk_miss rfl ?_ | refine WC.ret ?_)
  refine WL.load rfl rfl rfl rfl rfl (Sl.cell (i := 0) ((hls.hp hp57).hp h79) hlat) ?_
  repeat (first | refine WC.seq ?_ | refine WC.reg ?_ | refine WL.pure rfl rfl rfl ?_ | refine WL.nil ?_ | refine WC.skip ?_ | refine WC.block ?_ | refine WC.condT rfl ?_ | refine WC.condF rfl ?_ | refine WL.off rfl rfl rfl ?_ | refine WL.off0 rfl rfl ?_ | refine WC.exit ?_ | refine blk_hit ?_ | refine blk_miss rfl ?_ | refine WC.ret ?_)
  refine WL.buildS (cs := ints [2, 1]) rfl rfl rfl rfl rfl rfl rfl rfl rfl ?_
  intro ba wa hba
  have hra : Hp w9 wa [Rw (.slice (some ⟨ba, 0, none⟩) 2 2) [2, 1]] := ((Hp.start w9).new hba).toRow (m := 2) (s := 1) rfl (by decide)
  refine WL.call rfl rfl rfl rfl rfl ent18 (Same_pd _ _ [2, 1] [2, 1] (by decide) wa (((hd1.hp hp57).hp h79).hp hra) (Pd.row hra 0 rfl)) ?_
  rintro _ wb ⟨rfl, hpb⟩
  have h7b := h79.over (hra.nil'.over hpb)
  repeat (first | refine WC.seq ?_ | refine WC.reg ?_ | refine WL.pure rfl rfl rfl ?_ | refine WL.nil ?_ | refine WC.skip ?_ | refine WC.block ?_ | refine WC.condT rfl ?_ | refine WC.condF rfl ?_ | refine WL.off rfl rfl rfl ?_ | refine WL.off0 rfl rfl ?_ | refine WC.exit ?_ | refine blk_hit ?_ | refine blk_miss rfl ?_ | refine WC.ret ?_)
  refine WL.buildS (cs := ints [1, 1, 0, 1]) rfl rfl rfl rfl rfl rfl rfl rfl rfl ?_
  intro bc wc hbc
  have hrc : Hp wb wc [Rw (.slice (some ⟨bc, 0, none⟩) 4 4) [1, 1, 0, 1]] := ((Hp.start wb).new hbc).toRow (m := 4) (s := 1) rfl (by decide)
  refine WL.call rfl rfl rfl rfl rfl ent18 (Same_pd _ _ [1, 1, 0, 1] [1, 1, 0, 1] (by decide) wc ((hx.hp h7b).hp hrc) (Pd.row hrc 0 rfl)) ?_
  rintro _ wd ⟨rfl, hpd⟩
  have h7d := h7b.over (hrc.nil'.over hpd)
  repeat (first | refine WC.seq ?_ | refine WC.reg ?_ | refine WL.pure rfl rfl rfl ?_ | refine WL.nil ?_ | refine WC.skip ?_ | refine WC.block ?_ | refine WC.condT rfl ?_ | refine WC.condF rfl ?_ | refine WL.off rfl rfl rfl ?_ | refine WL.off0 rfl rfl ?_ | refine WC.exit ?_ | refine blk_hit ?_ | refine blk_miss rfl ?_ | refine WC.ret ?_)
  exact Res.one rfl rfl rfl ⟨rfl, hw7.over h7d⟩
end Go.Proofs.Ytagfpnnplgkkoaa
