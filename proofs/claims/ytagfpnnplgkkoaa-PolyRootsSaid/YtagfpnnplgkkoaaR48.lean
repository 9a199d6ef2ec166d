/- The walk of the law that results are new memory. -/
import Derived.Test.YtagfpnnplgkkoaaR36
import Derived.Test.YtagfpnnplgkkoaaQn
namespace Go.Proofs.Ytagfpnnplgkkoaa
open Go.W Go.Poly Go.Tree Go.RowKit
set_option maxRecDepth 100000
attribute [local irreducible] WC WL WQ WS WH

theorem bagE_app (a b : List (Value × List Nat)) : bagE a ++ bagE b = bagE (a ++ b) := by simp [bagE]
theorem nilPd (w : World) : Pd w (.slice none 0 0) [] := ⟨none, 0, rfl, Sl.nil, fun _ => rfl, Nat.le_refl _⟩
def Owned (bag : List (Value × List Nat)) (v : Value) : Prop := v = .slice none 0 0 ∨ ∃ e ∈ bag, e.1 = v
theorem Owned.left {a b : List (Value × List Nat)} {v : Value} (h : Owned a v) : Owned (a ++ b) v := by
  rcases h with h | ⟨e, he, h⟩
  · exact .inl h
  · exact .inr ⟨e, List.mem_append_left _ he, h⟩
theorem Owned.right {a b : List (Value × List Nat)} {v : Value} (h : Owned b v) : Owned (a ++ b) v := by
  rcases h with h | ⟨e, he, h⟩
  · exact .inl h
  · exact .inr ⟨e, List.mem_append_right _ he, h⟩
theorem Owned.head {v : Value} {f : List Nat} (bag : List (Value × List Nat)) : Owned ((v, f) :: bag) v := .inr ⟨(v, f), by simp, rfl⟩
theorem Div_own (q : Nat) (hq : Pri q) (hq2 : q ≤ 1021) (vf vg : Value) (F G : List Nat) (hF : IsP q F) (hG : IsP q G) (lF : F.length ≤ 33) (lG : G.length ≤ 33) (w : World) (sf : Pd w vf F) (sg_ : Pd w vg G) :
    Ret Try.prog 24 [.int .i64 (q : Nat), vf, vg] w fun u w' => ∃ a b e bag, u = .tuple #[a, b, .int .i64 e] ∧ Owned bag a ∧ Owned bag b ∧ Hp w w' (bagE bag) := by
  by_cases hG0 : G = []
  · subst hG0
    refine (Div_pz vf vg q (up F) (up []) (by rw [up_len]; omega) (by rw [up_len]; omega) w sf.int sg_.int).mono ?_
    rintro u w' ⟨-, h, -⟩
    obtain ⟨rfl, hp⟩ := h (okB_ok hq hq2 hF lF hG lG) rfl
    exact ⟨_, _, _, [], rfl, .inl rfl, .inl rfl, hp⟩
  · refine (Div_ok q hq hq2 vf vg F G hF hG hG0 lF lG w sf sg_).mono ?_
    rintro u w' ⟨a, b, rfl, hp⟩
    exact ⟨a, b, _, [(a, quoL q F G), (b, remL q F G)], rfl, Owned.head _, .inr ⟨(b, remL q F G), by simp, rfl⟩, hp⟩
theorem Factor_own (q : Nat) (hq : Pri q) (hq2 : q ≤ 1021) (vf : Value) (F : List Nat) (hF : IsP q F) (lF : F.length ≤ 12) (w : World) (sf : Pd w vf F) :
    Ret Try.prog 35 [.int .i64 (q : Nat), vf] w fun u w' => ∃ c v e fs bag, u = .tuple #[.int .i64 c, v, .int .i64 e] ∧ (∀ x ∈ fs, x.1 ∈ bag) ∧ fs.length ≤ 12 ∧ Hp w w' (Fr v fs :: bagE bag) := by
  by_cases hF0 : F = []
  · subst hF0
    refine (Factor_pz vf q (up []) (by rw [up_len]; omega) w sf.int (fun _ F' _ _ e h => absurd (up_inj e).symm h)).mono ?_
    rintro u w' ⟨-, h, -⟩
    obtain ⟨rfl, hp⟩ := h (okF_ok hq hq2 hF (by omega)) rfl
    exact ⟨_, _, _, [], [], rfl, (fun x hx => by cases hx), Nat.zero_le _, hp.nilrow _ _⟩
  · obtain ⟨ys, h1, h2, h3⟩ := facs_ok hq hF (by omega)
    refine (Factor_ok q hq hq2 vf F ys hF hF0 (by omega) h1 (by omega) w sf).mono ?_
    rintro u w' ⟨v, fs, bag, rfl, hfs, hb, hp⟩
    refine ⟨_, v, _, fs, bag, rfl, fun x hx => (hb x hx).1, ?_, hp⟩
    have := congrArg List.length hfs
    rw [List.length_map, (isrt_perm _ _ _).length_eq] at this
    omega

/-- One number of an own row written over. -/
theorem own_set {w0 w w' : World} {H : Ent} {l1 l2 : List (Value × List Int)} {b cap k : Nat} {xs : List Int} {t : List Value} (x : Int)
    (h : Hp w0 w (.blk b (.cells (zs xs ++ t).toArray 3 (0, 0)) :: H :: (l1 ++ l2).map fun e => Rz e.1 e.2)) (hk : k < xs.length) (hl : t.length + xs.length = cap) (hc : cap ≤ maxLen)
    (hs : SetB w b (.cells ((zs xs ++ t).toArray.setIfInBounds k (.int .i64 x)) 3 (0, 0)) w') :
    Hp w0 w' (H :: (l1 ++ (Value.slice (some ⟨b, 0, none⟩) xs.length cap, xs.set k x) :: l2).map fun e => Rz e.1 e.2) := by
  have e1 : (zs xs ++ t).toArray.setIfInBounds k (.int .i64 x) = (zs (xs.set k x) ++ t).toArray := by
    rw [List.setIfInBounds_toArray, List.set_append_left _ _ (by rw [zs_len]; exact hk)]
    simp [zs, List.map_set]
  rw [e1] at hs
  have h2 := (h.set 0 rfl rfl hs).ofBlk (m := xs.length) (by rw [zs_len, List.length_set]; omega) hc (by rw [zs_len, List.length_set])
  refine h2.permP ?_
  rw [List.map_append, List.map_append, List.map_cons]
  simp only [Rz, List.length_set]
  refine (List.Perm.swap _ _ _).trans (List.Perm.cons _ ?_)
  exact List.perm_middle.symm

theorem own_shape {w0 w : World} {A : List Ent} {bag : List (Value × List Nat)} {v : Value} (hp : Hp w0 w (A ++ bagE bag)) (h : Owned bag v) :
    ∃ a n c, v = .slice a n c ∧ (n = 0 ∨ ∃ e ∈ bag, e.1 = v ∧ e.2.length = n) := by
  rcases h with rfl | ⟨e, he, rfl⟩
  · exact ⟨none, 0, 0, rfl, .inl rfl⟩
  · obtain ⟨a, c, h1, -⟩ := bag_pd hp he
    exact ⟨a, _, c, h1, .inr ⟨e, he, rfl, rfl⟩⟩

set_option maxHeartbeats 1000000 in
theorem PolyOwn_any (p : Int) (fa ga : Option Addr) (fc gc : Nat) (xf xg : List Int) (w : World) (sf : Sl w fa (zs xf)) (sg_ : Sl w ga (zs xg)) (hfc : xf.length ≤ fc) (hgc : xg.length ≤ gc) (hfn : fa = none → fc = 0) (hgn : ga = none → gc = 0) :
    Ret Try.prog 13 [.int .i64 p, .agg #[.slice fa xf.length fc, .slice ga xg.length gc]] w fun u w' => u = .bool true ∧ Hp w w' [] := by
  have zf : Pz w (.slice fa xf.length fc) xf := ⟨_, _, rfl, sf, hfn, hfc⟩
  have zg : Pz w (.slice ga xg.length gc) xg := ⟨_, _, rfl, sg_, hgn, hgc⟩
  refine enter Try.func13 rfl rfl ⟨rfl, rfl⟩ rfl ?_
  repeat (first | refine WC.seq ?_ | refine WC.reg ?_ | refine WL.pure rfl rfl rfl ?_ | refine WL.nil ?_ | refine WC.skip ?_ | refine WC.block ?_ | refine WC.condT rfl ?_ | refine WC.condF rfl ?_ | refine WL.off rfl rfl rfl ?_ | refine WL.off0 rfl rfl ?_ | refine WC.exit ?_ | refine blk_hit ?_ | refine blk_miss rfl ?_ | refine WC.ret ?_)
  refine WL.box rfl rfl rfl ?_
  intro b1 w1 hb1
  have hp1 := (Hp.start w).new hb1
  repeat (first | refine WC.seq ?_ | refine WC.reg ?_ | refine WL.pure rfl rfl rfl ?_ | refine WL.nil ?_ | refine WC.skip ?_ | refine WC.block ?_ | refine WC.condT rfl ?_ | refine WC.condF rfl ?_ | refine WL.off rfl rfl rfl ?_ | refine WL.off0 rfl rfl ?_ | refine WC.exit ?_ | refine blk_hit ?_ | refine blk_miss rfl ?_ | refine WC.ret ?_)
  refine WL.call rfl rfl rfl rfl rfl ent26 (fieldO_any p w1) ?_
  rintro _ w2 ⟨rfl, q, rfl, hq, hq2⟩
  have hF := tm_isP hq.pos xf 12
  have hG := tm_isP hq.pos xg 12
  have lF := tm_len q xf 12
  have lG := tm_len q xg 12
  repeat (first | refine WC.seq ?_ | refine WC.reg ?_ | refine WL.pure rfl rfl rfl ?_ | refine WL.nil ?_ | refine WC.skip ?_ | refine WC.block ?_ | refine WC.condT rfl ?_ | refine WC.condF rfl ?_ | refine WL.off rfl rfl rfl ?_ | refine WL.off0 rfl rfl ?_ | refine WC.exit ?_ | refine blk_hit ?_ | refine blk_miss rfl ?_ | refine WC.ret ?_)
  refine WC.mid (Value × Value) (fun (v5, v6) => [(0, .int .i64 (q : Nat)), (3, .pointer (some ⟨b1, 0, none⟩)), (5, v5), (6, v6)]) (fun (v5, v6) w' => Hp w w' [Rw v6 (tmL q xg 12), Rw v5 (tmL q xf 12), .blk b1 (.cells #[.slice fa xf.length fc, .slice ga xg.length gc] 24 (0, 0))]) ?_ ?_
  · refine WC.regH (fun w' => Hp w w' [.blk b1 (.cells #[.slice fa xf.length fc, .slice ga xg.length gc] 24 (0, 0))]) mixed (by kernel_rfl) (fun w2 hw2 hh2 => ?_)
    have hp2 := hp1.keep hw2
    refine WH.pure 0 (by kernel_rfl) rfl (by kernel_rfl) rfl rfl rfl hp2 ?_
    refine WH.pure 1 (by kernel_rfl) rfl (by kernel_rfl) rfl rfl rfl hp2 ?_
    refine WH.load 2 (by kernel_rfl) rfl (by kernel_rfl) rfl rfl rfl rfl rfl (fun w' h => cell_of_obj (h.obj 0 rfl) rfl) hp2 ?_
    refine WH.pure 4 (by kernel_rfl) rfl (by kernel_rfl) rfl rfl rfl hp2 ?_
    refine WH.pure 5 (by kernel_rfl) rfl (by kernel_rfl) rfl rfl rfl hp2 ?_
    refine WH.load 6 (by kernel_rfl) rfl (by kernel_rfl) rfl rfl rfl rfl rfl (fun w' h => cell_of_obj (h.obj 0 rfl) rfl) hp2 ?_
    refine WH.one 3 rfl (by kernel_rfl) ?_
    refine WL.call rfl rfl rfl rfl rfl ent27 (tame_pz q 12 _ xf hq.pos hq2 (by omega) w2 (zf.hp hp2)) ?_
    rintro v5 w3 hp3
    have hq3 := hp2.call hp3.below
    refine WL.nil ⟨hq3, ?_⟩
    refine WH.one 7 rfl (by kernel_rfl) ?_
    refine WL.call rfl rfl rfl rfl rfl ent27 (tame_pz q 12 _ xg hq.pos hq2 (by omega) w3 (zg.hp hq3)) ?_
    rintro v6 w4 hp4
    have hq4 := hq3.call hp4.below
    refine WL.nil ⟨hq4, ?_⟩
    refine WH.pure 8 (by kernel_rfl) rfl (by kernel_rfl) rfl rfl rfl hq4 ?_
    refine WH.pure 9 (by kernel_rfl) rfl (by kernel_rfl) rfl rfl rfl hq4 ?_
    refine WH.done (by kernel_rfl) ?_
    exact ⟨(v5, v6), ⟨rfl, rfl, rfl, rfl, rfl⟩, hp2.comb (hp3.comb hp4)⟩
  rintro ⟨v5, v6⟩ e2 w2 hsub (hp2 : Hp w w2 [Rw v6 (tmL q xg 12), Rw v5 (tmL q xf 12), .blk b1 (.cells #[.slice fa xf.length fc, .slice ga xg.length gc] 24 (0, 0))])
  refine WC.sub hsub ?_
  clear hsub e2 hp1 hb1
  have d5 : Pd w2 v5 (tmL q xf 12) := Pd.row hp2 1 rfl
  have d6 : Pd w2 v6 (tmL q xg 12) := Pd.row hp2 0 rfl
  repeat (first | refine WC.seq ?_ | refine WC.reg ?_ | refine WL.pure rfl rfl rfl ?_ | refine WL.nil ?_ | refine WC.skip ?_ | refine WC.block ?_ | refine WC.condT rfl ?_ | refine WC.condF rfl ?_ | refine WL.off rfl rfl rfl ?_ | refine WL.off0 rfl rfl ?_ | refine WC.exit ?_ | refine blk_hit ?_ | refine blk_miss rfl ?_ | refine WC.ret ?_)
  refine WC.mid (Value × Value) (fun (v7, v8) => [(0, .int .i64 (q : Nat)), (5, v5), (6, v6), (7, v7), (8, v8)]) (fun (v7, v8) w' => Hp w2 w' [Rw v8 (tmL q xg 12), Rw v7 (tmL q xf 12)]) ?_ ?_
  · refine WC.regH (fun w' => Hp w2 w' []) mixed (by kernel_rfl) (fun w3 hw3 hh3 => ?_)
    have hp3 := (Hp.start w2).keep hw3
    have cf := cell_of_obj (hp2.obj 2 rfl) (j := 0) rfl
    have cg := cell_of_obj (hp2.obj 2 rfl) (j := 1) rfl
    refine WH.pure 0 (by kernel_rfl) rfl (by kernel_rfl) rfl rfl rfl hp3 ?_
    refine WH.pure 1 (by kernel_rfl) rfl (by kernel_rfl) rfl rfl rfl hp3 ?_
    refine WH.load 2 (by kernel_rfl) rfl (by kernel_rfl) rfl rfl rfl rfl rfl (fun w' h => cell_below h.below cf) hp3 ?_
    refine WH.pure 4 (by kernel_rfl) rfl (by kernel_rfl) rfl rfl rfl hp3 ?_
    refine WH.pure 5 (by kernel_rfl) rfl (by kernel_rfl) rfl rfl rfl hp3 ?_
    refine WH.load 6 (by kernel_rfl) rfl (by kernel_rfl) rfl rfl rfl rfl rfl (fun w' h => cell_below h.below cg) hp3 ?_
    refine WH.one 3 rfl (by kernel_rfl) ?_
    refine WL.call rfl rfl rfl rfl rfl ent27 (tame_pz q 12 _ xf hq.pos hq2 (by omega) w3 ((zf.hp hp2).hp hp3)) ?_
    rintro v7 w4 hp4
    have hq4 := hp3.over hp4.nil'
    refine WL.nil ⟨hq4, ?_⟩
    refine WH.one 7 rfl (by kernel_rfl) ?_
    refine WL.call rfl rfl rfl rfl rfl ent27 (tame_pz q 12 _ xg hq.pos hq2 (by omega) w4 ((zg.hp hp2).hp hq4)) ?_
    rintro v8 w5 hp5
    have hq5 := hq4.over hp5.nil'
    refine WL.nil ⟨hq5, ?_⟩
    refine WH.pure 8 (by kernel_rfl) rfl (by kernel_rfl) rfl rfl rfl hq5 ?_
    refine WH.pure 9 (by kernel_rfl) rfl (by kernel_rfl) rfl rfl rfl hq5 ?_
    refine WH.done (by kernel_rfl) ?_
    exact ⟨(v7, v8), ⟨rfl, rfl, rfl, rfl, rfl, rfl⟩, hp3.over (hp4.comb hp5)⟩
  rintro ⟨v7, v8⟩ e2 w3 hsub (hp3 : Hp w2 w3 [Rw v8 (tmL q xg 12), Rw v7 (tmL q xf 12)])
  refine WC.sub hsub ?_
  clear hsub e2
  have d5 := d5.hp hp3
  have d6 := d6.hp hp3
  have d7 : Pd w3 v7 (tmL q xf 12) := Pd.row hp3 1 rfl
  have d8 : Pd w3 v8 (tmL q xg 12) := Pd.row hp3 0 rfl
  have hw3 := hp2.nil'.over hp3.nil'
  clear hp2 hp3 zf zg sf sg_
  generalize tmL q xf 12 = F at *
  generalize tmL q xg 12 = G at *
  repeat (first | refine WC.seq ?_ | refine WC.reg ?_ | refine WL.pure rfl rfl rfl ?_ | refine WL.nil ?_ | refine WC.skip ?_ | refine WC.block ?_ | refine WC.condT rfl ?_ | refine WC.condF rfl ?_ | refine WL.off rfl rfl rfl ?_ | refine WL.off0 rfl rfl ?_ | refine WC.exit ?_ | refine blk_hit ?_ | refine blk_miss rfl ?_ | refine WC.ret ?_)
  refine WL.call rfl rfl rfl rfl rfl ent16 (Add_ok q hq hq2 v5 _ F [] hF (isP_nil q) (by omega) (by simp) w3 d5 (nilPd w3)) ?_
  rintro _ w4 ⟨v9, rfl, hp4⟩
  repeat (first | refine WC.seq ?_ | refine WC.reg ?_ | refine WL.pure rfl rfl rfl ?_ | refine WL.nil ?_ | refine WC.skip ?_ | refine WC.block ?_ | refine WC.condT rfl ?_ | refine WC.condF rfl ?_ | refine WL.off rfl rfl rfl ?_ | refine WL.off0 rfl rfl ?_ | refine WC.exit ?_ | refine blk_hit ?_ | refine blk_miss rfl ?_ | refine WC.ret ?_)
  refine WL.call rfl rfl rfl rfl rfl ent24 (Div_own q hq hq2 v5 v6 F G hF hG (by omega) (by omega) w4 (d5.hp hp4) (d6.hp hp4)) ?_
  rintro _ w5 ⟨v11, v12, ev, B1, rfl, o11, o12, hp5⟩
  have hp5 := hp4.comb hp5
  repeat (first | refine WC.seq ?_ | refine WC.reg ?_ | refine WL.pure rfl rfl rfl ?_ | refine WL.nil ?_ | refine WC.skip ?_ | refine WC.block ?_ | refine WC.condT rfl ?_ | refine WC.condF rfl ?_ | refine WL.off rfl rfl rfl ?_ | refine WL.off0 rfl rfl ?_ | refine WC.exit ?_ | refine blk_hit ?_ | refine blk_miss rfl ?_ | refine WC.ret ?_)
  refine WL.call rfl rfl rfl rfl rfl ent30 (Gcd_ok q hq hq2 v5 v6 F G hF hG (by omega) (by omega) w5 (d5.hp hp5) (d6.hp hp5)) ?_
  rintro _ w6 ⟨v14, v15, v16, rfl, hp6⟩
  have hp6 := hp5.comb hp6
  repeat (first | refine WC.seq ?_ | refine WC.reg ?_ | refine WL.pure rfl rfl rfl ?_ | refine WL.nil ?_ | refine WC.skip ?_ | refine WC.block ?_ | refine WC.condT rfl ?_ | refine WC.condF rfl ?_ | refine WL.off rfl rfl rfl ?_ | refine WL.off0 rfl rfl ?_ | refine WC.exit ?_ | refine blk_hit ?_ | refine blk_miss rfl ?_ | refine WC.ret ?_)
  refine WL.call rfl rfl rfl rfl rfl ent35 (Factor_own q hq hq2 v5 F hF lF w6 (d5.hp hp6)) ?_
  rintro _ w7 ⟨cF, v19, eF, fs, BF, rfl, hfs, hfl, hp7⟩
  have hp7 := hp6.comb hp7
  obtain ⟨BB, hBB, ho⟩ : ∃ BB, (Fr v19 fs :: bagE BF) ++ ([Rw v16 (bezL q F G).2.2, Rw v15 (bezL q F G).2.1, Rw v14 (bezL q F G).1] ++ (bagE B1 ++ [Rw v9 (addL q F [])])) = Fr v19 fs :: bagE BB ∧
      ((∀ v ∈ [v9, v11, v12, v14, v15, v16], Owned BB v) ∧ ∀ x ∈ fs, Owned BB x.1.1) := by
    refine ⟨BF ++ ([(v16, (bezL q F G).2.2), (v15, (bezL q F G).2.1), (v14, (bezL q F G).1)] ++ (B1 ++ [(v9, addL q F [])])), by simp [bagE], ?_, ?_⟩
    · intro v hv
      simp only [List.mem_cons, List.not_mem_nil, or_false] at hv
      rcases hv with rfl | rfl | rfl | rfl | rfl | rfl
      · exact Owned.right (Owned.right (Owned.right (Owned.head _)))
      · exact Owned.right (Owned.right (Owned.left o11))
      · exact Owned.right (Owned.right (Owned.left o12))
      · exact Owned.right (Owned.left (.inr ⟨(v, (bezL q F G).1), by simp, rfl⟩))
      · exact Owned.right (Owned.left (.inr ⟨(v, (bezL q F G).2.1), by simp, rfl⟩))
      · exact Owned.right (Owned.left (Owned.head _))
    · exact fun x hx => Owned.left (.inr ⟨x.1, hfs x hx, rfl⟩)
  rw [hBB] at hp7
  clear hBB hp4 hp5 hp6 hfs o11 o12
  repeat (first | refine WC.seq ?_ | refine WC.reg ?_ | refine WL.pure rfl rfl rfl ?_ | refine WL.nil ?_ | refine WC.skip ?_ | refine WC.block ?_ | refine WC.condT rfl ?_ | refine WC.condF rfl ?_ | refine WL.off rfl rfl rfl ?_ | refine WL.off0 rfl rfl ?_ | refine WC.exit ?_ | refine blk_hit ?_ | refine blk_miss rfl ?_ | refine WC.ret ?_)
  have sh : ∀ v, Owned BB v → ∃ a n c, v = .slice a n c ∧ (n = 0 ∨ ∃ e ∈ BB, e.1 = v ∧ e.2.length = n) := fun v hv => own_shape (A := [_]) hp7 hv
  obtain ⟨ho6, hofs⟩ := ho
  have A0s : ∀ v ∈ [v9, v11, v12, v14, v15, v16], ∃ a n c, v = .slice a n c ∧ (n = 0 ∨ ∃ e ∈ BB, e.1 = v ∧ e.2.length = n) := fun v hv => sh v (ho6 v hv)
  have Afs : ∀ x ∈ fs, ∃ a n c, x.1.1 = .slice a n c ∧ (n = 0 ∨ ∃ e ∈ BB, e.1 = x.1.1 ∧ e.2.length = n) := fun x hx => sh _ (hofs x hx)
  obtain ⟨a9, n9, c9, rfl, -⟩ := A0s v9 (by simp)
  obtain ⟨a11, n11, c11, rfl, -⟩ := A0s v11 (by simp)
  obtain ⟨a12, n12, c12, rfl, -⟩ := A0s v12 (by simp)
  obtain ⟨a14, n14, c14, rfl, -⟩ := A0s v14 (by simp)
  obtain ⟨a15, n15, c15, rfl, -⟩ := A0s v15 (by simp)
  obtain ⟨a16, n16, c16, rfl, -⟩ := A0s v16 (by simp)
  clear sh ho6 hofs
  refine WL.buildS (cs := [.slice a9 n9 c9, .slice a11 n11 c11, .slice a12 n12 c12, .slice a14 n14 c14, .slice a15 n15 c15, .slice a16 n16 c16]) rfl rfl rfl rfl rfl rfl rfl rfl rfl ?_
  intro ba w8 hba
  obtain ⟨A0, hA0⟩ : ∃ A0, [Value.slice a9 n9 c9, .slice a11 n11 c11, .slice a12 n12 c12, .slice a14 n14 c14, .slice a15 n15 c15, .slice a16 n16 c16] = A0 := ⟨_, rfl⟩
  have hA6 : A0.length = 6 := by rw [← hA0]; rfl
  rw [hA0] at hba A0s
  have hp8 : Hp w3 w8 (.row 22 1 (.slice (some ⟨ba, 0, none⟩) 6 6) 6 A0 :: Fr v19 fs :: bagE BB) := (hp7.new hba).toRow (m := 6) (s := 1) (by simp [hA6]) (by decide)
  clear hp7 hba hA0
  obtain ⟨fsa, fsc, rfl⟩ := owns_shape (hp8.at 1 rfl)
  repeat (first | refine WC.seq ?_ | refine WC.reg ?_ | refine WL.pure rfl rfl rfl ?_ | refine WL.nil ?_ | refine WC.skip ?_ | refine WC.block ?_ | refine WC.condT rfl ?_ | refine WC.condF rfl ?_ | refine WL.off rfl rfl rfl ?_ | refine WL.off0 rfl rfl ?_ | refine WC.exit ?_ | refine blk_hit ?_ | refine blk_miss rfl ?_ | refine WC.ret ?_)
  refine WC.loop (Nat × Option Addr × Nat) (fun (i, a, c) => [(0, .int .i64 (q : Nat)), (5, v5), (6, v6), (7, v7), (8, v8), (19, .slice fsa fs.length fsc), (21, .slice a (6 + i) c), (22, .int .i64 (i : Nat))])
    (fun (i, a, c) w' => i ≤ fs.length ∧ Hp w3 w' (.row 22 1 (.slice a (6 + i) c) (6 + i) (A0 ++ (fs.take i).map (·.1.1)) :: Fr (.slice fsa fs.length fsc) fs :: bagE BB)) (fun (i, _, _) => fs.length - i) (0, _, _) ⟨rfl, rfl, rfl, rfl, rfl, rfl, rfl, rfl, rfl⟩ ⟨Nat.zero_le _, by simpa using hp8⟩ ?_
  clear hp8 w8
  rintro ⟨i, aa, ca⟩ w8 ⟨hi, hp8⟩
  repeat (first | refine WC.seq ?_ | refine WC.reg ?_ | refine WL.pure rfl rfl rfl ?_ | refine WL.nil ?_ | refine WC.skip ?_ | refine WC.block ?_ | refine WC.condT rfl ?_ | refine WC.condF rfl ?_ | refine WL.off rfl rfl rfl ?_ | refine WL.off0 rfl rfl ?_ | refine WC.exit ?_ | refine blk_hit ?_ | refine blk_miss rfl ?_ | refine WC.ret ?_)
  refine WC.cond rfl (fun h => ?_) (fun h => ?_)
  · have hi : i < fs.length := by have := of_decide_eq_true h; omega
    have step : IntKind.i64.wrap ((i : Int) + 1) = ((i + 1 : Nat) : Int) := by rw [wrap_i64_in (by omega) (by omega)]; omega
    obtain ⟨ai, ni, ci, ev, -⟩ := Afs fs[i] (List.getElem_mem hi)
    have sfs : Sl w8 fsa (fcs fs) := Sl.of_row (hp8.at 1 rfl)
    have h0 := fcs_at fs i hi 0 (fs[i]).1.1 rfl
    obtain ⟨b', o', rfl, hc⟩ := sfs _ _ h0
    rw [ev] at hc
    have htk : A0 ++ (fs.take (i + 1)).map (·.1.1) = (A0 ++ (fs.take i).map (·.1.1)) ++ [.slice ai ni ci] := by
      rw [List.take_succ_eq_append_getElem hi, List.map_append, List.append_assoc, List.map_cons, List.map_nil, ev]
    repeat (first | refine WC.seq ?_ | refine WC.reg ?_ | refine WL.pure rfl rfl rfl ?_ | refine WL.nil ?_ | refine WC.skip ?_ | refine WC.block ?_ | refine WC.condT rfl ?_ | refine WC.condF rfl ?_ | refine WL.off rfl rfl rfl ?_ | refine WL.off0 rfl rfl ?_ | refine WC.exit ?_ | refine blk_hit ?_ | refine blk_miss rfl ?_ | refine WC.ret ?_)
    refine WL.ix rfl rfl rfl rfl rfl hi rfl ?_
    repeat (first | refine WC.seq ?_ | refine WC.reg ?_ | refine WL.pure rfl rfl rfl ?_ | refine WL.nil ?_ | refine WC.skip ?_ | refine WC.block ?_ | refine WC.condT rfl ?_ | refine WC.condF rfl ?_ | refine WL.off rfl rfl rfl ?_ | refine WL.off0 rfl rfl ?_ | refine WC.exit ?_ | refine blk_hit ?_ | refine blk_miss rfl ?_ | refine WC.ret ?_)
    refine WL.load rfl rfl rfl rfl rfl hc ?_
    repeat (first | refine WC.seq ?_ | refine WC.reg ?_ | refine WL.pure rfl rfl rfl ?_ | refine WL.nil ?_ | refine WC.skip ?_ | refine WC.block ?_ | refine WC.condT rfl ?_ | refine WC.condF rfl ?_ | refine WL.off rfl rfl rfl ?_ | refine WL.off0 rfl rfl ?_ | refine WC.exit ?_ | refine blk_hit ?_ | refine blk_miss rfl ?_ | refine WC.ret ?_)
    refine WL.buildS (cs := [.slice ai ni ci]) rfl rfl rfl rfl rfl rfl rfl rfl rfl ?_
    intro bs w9 hbs
    have hp9 := hp8.new hbs
    refine WL.append 1 hp9 rfl rfl rfl rfl rfl (by decide) rfl rfl rfl (news := [.slice ai ni ci]) (Sl.of_obj (hp9.obj 0 rfl) (fun q u hq => by simpa using hq)) rfl (Cells.cons rfl Cells.nil) (by unfold maxLen; omega) (by show (6 + i + 1) * 24 ≤ _; omega) ?_
    intro a' c' w10 hp10 hg10
    rw [← htk] at hp10
    repeat (first | refine WC.seq ?_ | refine WC.reg ?_ | refine WL.pure rfl rfl rfl ?_ | refine WL.nil ?_ | refine WC.skip ?_ | refine WC.block ?_ | refine WC.condT rfl ?_ | refine WC.condF rfl ?_ | refine WL.off rfl rfl rfl ?_ | refine WL.off0 rfl rfl ?_ | refine WC.exit ?_ | refine blk_hit ?_ | refine blk_miss rfl ?_ | refine WC.ret ?_)
    exact ⟨(i + 1, a', c'), by show fs.length - (i + 1) < fs.length - i; omega, ⟨rfl, rfl, rfl, rfl, rfl, rfl, rfl, congrArg (fun z => some (Value.int .i64 z)) step, rfl⟩, hi, hp10.tail⟩
  have hi : i = fs.length := by have := of_decide_eq_false h; omega
  subst hi
  rw [List.take_length] at hp8
  obtain ⟨A, hA⟩ : ∃ A, A0 ++ fs.map (·.1.1) = A := ⟨_, rfl⟩
  have hAl : 6 + fs.length = A.length := by rw [← hA, List.length_append, hA6, List.length_map]
  have As : ∀ v ∈ A, ∃ a n c, v = .slice a n c ∧ (n = 0 ∨ ∃ e ∈ BB, e.1 = v ∧ e.2.length = n) := by
    intro v hv
    rw [← hA, List.mem_append] at hv
    rcases hv with hv | hv
    · exact A0s v hv
    · obtain ⟨x, hx, rfl⟩ := List.mem_map.1 hv
      exact Afs x hx
  rw [hA] at hp8
  have hAmax : A.length ≤ 18 := by omega
  clear A0s Afs hA hA6
  have hp8 : Hp w3 w8 (.row 22 1 (.slice aa (6 + fs.length) ca) (6 + fs.length) A :: (BB.map fun e => (e.1, up e.2)).map fun e => Rz e.1 e.2) := by
    have h1 := hp8.subl (L' := .row 22 1 (.slice aa (6 + fs.length) ca) (6 + fs.length) A :: bagE BB) ((List.sublist_cons_self _ _).cons_cons _)
    have e1 : ((BB.map fun e => (e.1, up e.2)).map fun e => Rz e.1 e.2) = bagE BB := by
      unfold bagE
      rw [List.map_map]
      refine List.map_congr_left fun e _ => ?_
      simp only [Function.comp, Rz, Rw, zs_up, up_len]
    rw [e1]; exact h1
  obtain ⟨S0, hS0⟩ : ∃ S0, BB.map (fun e => (e.1, e.2.length)) = S0 := ⟨_, rfl⟩
  have hsh0 : (BB.map fun e => (e.1, up e.2)).map (fun e => (e.1, e.2.length)) = S0 := by
    rw [← hS0, List.map_map]
    refine List.map_congr_left fun e _ => ?_
    simp only [Function.comp, up_len]
  have As : ∀ v ∈ A, ∃ a n c, v = .slice a n c ∧ (n = 0 ∨ (v, n) ∈ S0) := by
    intro v hv
    obtain ⟨a, n, c, e1, e2⟩ := As v hv
    refine ⟨a, n, c, e1, e2.imp_right ?_⟩
    rintro ⟨e, he, rfl, rfl⟩
    rw [← hS0]
    exact List.mem_map_of_mem he
  generalize (BB.map fun e => (e.1, up e.2)) = bz0 at *
  clear hS0
  repeat (first | refine WC.seq ?_ | refine WC.reg ?_ | refine WL.pure rfl rfl rfl ?_ | refine WL.nil ?_ | refine WC.skip ?_ | refine WC.block ?_ | refine WC.condT rfl ?_ | refine WC.condF rfl ?_ | refine WL.off rfl rfl rfl ?_ | refine WL.off0 rfl rfl ?_ | refine WC.exit ?_ | refine blk_hit ?_ | refine blk_miss rfl ?_ | refine WC.ret ?_)
  refine WC.loop Nat (fun i => [(0, .int .i64 (q : Nat)), (5, v5), (6, v6), (7, v7), (8, v8), (21, .slice aa (6 + fs.length) ca), (23, .int .i64 (i : Nat))])
    (fun i w' => i ≤ A.length ∧ ∃ bz : List (Value × List Int), bz.map (fun e => (e.1, e.2.length)) = S0 ∧ Hp w3 w' (.row 22 1 (.slice aa (6 + fs.length) ca) (6 + fs.length) A :: bz.map fun e => Rz e.1 e.2)) (fun i => A.length - i) 0 ⟨rfl, rfl, rfl, rfl, rfl, rfl, rfl, rfl⟩ ⟨Nat.zero_le _, bz0, hsh0, hp8⟩ ?_
  clear hp8 hsh0 bz0
  rintro i w8 ⟨hi, bz, hbz, hp8⟩
  repeat (first | refine WC.seq ?_ | refine WC.reg ?_ | refine WL.pure rfl rfl rfl ?_ | refine WL.nil ?_ | refine WC.skip ?_ | refine WC.block ?_ | refine WC.condT rfl ?_ | refine WC.condF rfl ?_ | refine WL.off rfl rfl rfl ?_ | refine WL.off0 rfl rfl ?_ | refine WC.exit ?_ | refine blk_hit ?_ | refine blk_miss rfl ?_ | refine WC.ret ?_)
  refine WC.cond rfl (fun h => ?_) (fun h => ?_)
  · have hi : i < A.length := by have := of_decide_eq_true h; omega
    have hi2 : i < 6 + fs.length := by omega
    have step : IntKind.i64.wrap ((i : Int) + 1) = ((i + 1 : Nat) : Int) := by rw [wrap_i64_in (by omega) (by omega)]; omega
    obtain ⟨av, nv, cv', hv, hin⟩ := As A[i] (List.getElem_mem hi)
    have hat : A[i]? = some (.slice av nv cv') := by rw [List.getElem?_eq_getElem hi, hv]
    repeat (first | refine WC.seq ?_ | refine WC.reg ?_ | refine WL.pure rfl rfl rfl ?_ | refine WL.nil ?_ | refine WC.skip ?_ | refine WC.block ?_ | refine WC.condT rfl ?_ | refine WC.condF rfl ?_ | refine WL.off rfl rfl rfl ?_ | refine WL.off0 rfl rfl ?_ | refine WC.exit ?_ | refine blk_hit ?_ | refine blk_miss rfl ?_ | refine WC.ret ?_)
    refine WC.loop Nat (fun k => [(0, .int .i64 (q : Nat)), (5, v5), (6, v6), (7, v7), (8, v8), (21, .slice aa (6 + fs.length) ca), (23, .int .i64 (i : Nat)), (24, .int .i64 (k : Nat))])
      (fun k w' => k ≤ nv ∧ ∃ bz : List (Value × List Int), bz.map (fun e => (e.1, e.2.length)) = S0 ∧ Hp w3 w' (.row 22 1 (.slice aa (6 + fs.length) ca) (6 + fs.length) A :: bz.map fun e => Rz e.1 e.2)) (fun k => nv - k) 0 ⟨rfl, rfl, rfl, rfl, rfl, rfl, rfl, rfl, rfl⟩ ⟨Nat.zero_le _, bz, hbz, hp8⟩ ?_
    clear hp8 hbz bz
    rintro k w8 ⟨hk, bz, hbz, hp8⟩
    have sA : Sl w8 aa A := Sl.of_row (hp8.at 0 rfl)
    repeat (first | refine WC.seq ?_ | refine WC.reg ?_ | refine WL.pure rfl rfl rfl ?_ | refine WL.nil ?_ | refine WC.skip ?_ | refine WC.block ?_ | refine WC.condT rfl ?_ | refine WC.condF rfl ?_ | refine WL.off rfl rfl rfl ?_ | refine WL.off0 rfl rfl ?_ | refine WC.exit ?_ | refine blk_hit ?_ | refine blk_miss rfl ?_ | refine WC.ret ?_)
    refine WL.ixload rfl (fun _ => rfl) rfl rfl rfl rfl rfl rfl rfl hi2 rfl rfl sA hat ?_
    intro pa
    repeat (first | refine WC.seq ?_ | refine WC.reg ?_ | refine WL.pure rfl rfl rfl ?_ | refine WL.nil ?_ | refine WC.skip ?_ | refine WC.block ?_ | refine WC.condT rfl ?_ | refine WC.condF rfl ?_ | refine WL.off rfl rfl rfl ?_ | refine WL.off0 rfl rfl ?_ | refine WC.exit ?_ | refine blk_hit ?_ | refine blk_miss rfl ?_ | refine WC.ret ?_)
    refine WC.cond rfl (fun h => ?_) (fun h => ?_)
    · have hk : k < nv := by have := of_decide_eq_true h; omega
      have hmem : (A[i], nv) ∈ S0 := hin.resolve_left (by omega)
      rw [← hbz] at hmem
      obtain ⟨e, he, hee⟩ := List.mem_map.1 hmem
      obtain ⟨l1, l2, rfl⟩ := List.append_of_mem he
      obtain ⟨ev, ex⟩ := e
      simp only [Prod.mk.injEq] at hee
      obtain ⟨e1, e2⟩ := hee
      have hpf : Hp w3 w8 (Rz ev ex :: .row 22 1 (.slice aa (6 + fs.length) ca) (6 + fs.length) A :: (l1 ++ l2).map fun e => Rz e.1 e.2) := by
        refine hp8.permP ?_
        rw [List.map_append, List.map_append, List.map_cons]
        exact (List.Perm.cons _ List.perm_middle).trans (List.Perm.swap _ _ _)
      obtain ⟨b, cap, t, hvb, hnc, hcm, htl, hpb⟩ := hpf.toBlk (by omega)
      rw [e1, hv] at hvb
      simp only [Value.slice.injEq] at hvb
      obtain ⟨rfl, hnx, rfl⟩ := hvb
      have hlx : ex.length = nv := e2
      have stepk : IntKind.i64.wrap ((k : Int) + 1) = ((k + 1 : Nat) : Int) := by unfold maxLen at hcm; rw [wrap_i64_in (by omega) (by omega)]; omega
      repeat (first | refine WC.seq ?_ | refine WC.reg ?_ | refine WL.pure rfl rfl rfl ?_ | refine WL.nil ?_ | refine WC.skip ?_ | refine WC.block ?_ | refine WC.condT rfl ?_ | refine WC.condF rfl ?_ | refine WL.off rfl rfl rfl ?_ | refine WL.off0 rfl rfl ?_ | refine WC.exit ?_ | refine blk_hit ?_ | refine blk_miss rfl ?_ | refine WC.ret ?_)
      refine WL.ixload rfl (fun _ => rfl) rfl rfl rfl rfl rfl rfl rfl hi2 rfl rfl sA hat ?_
      intro pb
      repeat (first | refine WC.seq ?_ | refine WC.reg ?_ | refine WL.pure rfl rfl rfl ?_ | refine WL.nil ?_ | refine WC.skip ?_ | refine WC.block ?_ | refine WC.condT rfl ?_ | refine WC.condF rfl ?_ | refine WL.off rfl rfl rfl ?_ | refine WL.off0 rfl rfl ?_ | refine WC.exit ?_ | refine blk_hit ?_ | refine blk_miss rfl ?_ | refine WC.ret ?_)
      refine WL.ix1 rfl rfl rfl rfl rfl rfl rfl (j := k) hk ?_
      refine WL.store rfl rfl rfl rfl rfl rfl (hpb.obj 0 rfl) (by simp [zs]; omega) (fun w9 hw9 => ?_)
      rw [Nat.zero_add] at hw9
      have hp9 := own_set (-1) hpb (by omega) htl hcm hw9
      repeat (first | refine WC.seq ?_ | refine WC.reg ?_ | refine WL.pure rfl rfl rfl ?_ | refine WL.nil ?_ | refine WC.skip ?_ | refine WC.block ?_ | refine WC.condT rfl ?_ | refine WC.condF rfl ?_ | refine WL.off rfl rfl rfl ?_ | refine WL.off0 rfl rfl ?_ | refine WC.exit ?_ | refine blk_hit ?_ | refine blk_miss rfl ?_ | refine WC.ret ?_)
      refine ⟨k + 1, by show nv - (k + 1) < nv - k; omega, ⟨rfl, rfl, rfl, rfl, rfl, rfl, rfl, congrArg (fun z => some (Value.int .i64 z)) stepk, rfl⟩, hk, _, ?_, hp9⟩
      rw [← hbz]
      simp only [List.map_append, List.map_cons, List.length_set]
      rw [e1, hv, hlx]
    · repeat (first | refine WC.seq ?_ | refine WC.reg ?_ | refine WL.pure rfl rfl rfl ?_ | refine WL.nil ?_ | refine WC.skip ?_ | refine WC.block ?_ | refine WC.condT rfl ?_ | refine WC.condF rfl ?_ | refine WL.off rfl rfl rfl ?_ | refine WL.off0 rfl rfl ?_ | refine WC.exit ?_ | refine blk_hit ?_ | refine blk_miss rfl ?_ | refine WC.ret ?_)
      exact ⟨i + 1, by show A.length - (i + 1) < A.length - i; omega, ⟨rfl, rfl, rfl, rfl, rfl, rfl, congrArg (fun z => some (Value.int .i64 z)) step, rfl⟩, hi, bz, hbz, hp8⟩
  · have hp8 := hp8.nil'
    have d5 := d5.hp hp8
    have d6 := d6.hp hp8
    have d7 := d7.hp hp8
    have d8 := d8.hp hp8
    have hw8 := hw3.over hp8
    clear hbz As
    repeat (first | refine WC.seq ?_ | refine WC.reg ?_ | refine WL.pure rfl rfl rfl ?_ | refine WL.nil ?_ | refine WC.skip ?_ | refine WC.block ?_ | refine WC.condT rfl ?_ | refine WC.condF rfl ?_ | refine WL.off rfl rfl rfl ?_ | refine WL.off0 rfl rfl ?_ | refine WC.exit ?_ | refine blk_hit ?_ | refine blk_miss rfl ?_ | refine WC.ret ?_)
    refine WL.call rfl rfl rfl rfl rfl ent16 (Add_ok q hq hq2 v5 v6 F G hF hG (by omega) (by omega) w8 d5 d6) ?_
    rintro _ wA ⟨vm, rfl, hpA⟩
    have dm := Pd.row hpA 0 rfl
    have hpA := hpA.nil'
    repeat (first | refine WC.seq ?_ | refine WC.reg ?_ | refine WL.pure rfl rfl rfl ?_ | refine WL.nil ?_ | refine WC.skip ?_ | refine WC.block ?_ | refine WC.condT rfl ?_ | refine WC.condF rfl ?_ | refine WL.off rfl rfl rfl ?_ | refine WL.off0 rfl rfl ?_ | refine WC.exit ?_ | refine blk_hit ?_ | refine blk_miss rfl ?_ | refine WC.ret ?_)
    refine WL.call rfl rfl rfl rfl rfl ent18 (Same_pd v5 v7 F F (by omega) wA (d5.hp hpA) (d7.hp hpA)) ?_
    rintro _ wB ⟨rfl, hpB⟩
    rw [decide_eq_true rfl]
    have hAB := hpA.over hpB
    repeat (first | refine WC.seq ?_ | refine WC.reg ?_ | refine WL.pure rfl rfl rfl ?_ | refine WL.nil ?_ | refine WC.skip ?_ | refine WC.block ?_ | refine WC.condT rfl ?_ | refine WC.condF rfl ?_ | refine WL.off rfl rfl rfl ?_ | refine WL.off0 rfl rfl ?_ | refine WC.exit ?_ | refine blk_hit ?_ | refine blk_miss rfl ?_ | refine WC.ret ?_)
    refine WL.call rfl rfl rfl rfl rfl ent18 (Same_pd v6 v8 G G (by omega) wB (d6.hp hAB) (d8.hp hAB)) ?_
    rintro _ wC ⟨rfl, hpC⟩
    rw [decide_eq_true rfl]
    have hAC := hAB.over hpC
    repeat (first | refine WC.seq ?_ | refine WC.reg ?_ | refine WL.pure rfl rfl rfl ?_ | refine WL.nil ?_ | refine WC.skip ?_ | refine WC.block ?_ | refine WC.condT rfl ?_ | refine WC.condF rfl ?_ | refine WL.off rfl rfl rfl ?_ | refine WL.off0 rfl rfl ?_ | refine WC.exit ?_ | refine blk_hit ?_ | refine blk_miss rfl ?_ | refine WC.ret ?_)
    refine WL.call rfl rfl rfl rfl rfl ent22 (RAdd_pd q v7 v8 F G hq hq2 hF hG (by omega) (by omega) wC (d7.hp hAC) (d8.hp hAC)) ?_
    rintro vr wD hpD
    have dr := Pd.row hpD 0 rfl
    have hpD := hpD.nil'
    refine WL.call rfl rfl rfl rfl rfl ent18 (Same_pd vm vr (addL q F G) (addL q F G) (by have := add_len_le q F G; omega) wD (dm.hp ((hpB.over hpC).over hpD)) dr) ?_
    rintro _ wE ⟨rfl, hpE⟩
    rw [decide_eq_true rfl]
    repeat (first | refine WC.seq ?_ | refine WC.reg ?_ | refine WL.pure rfl rfl rfl ?_ | refine WL.nil ?_ | refine WC.skip ?_ | refine WC.block ?_ | refine WC.condT rfl ?_ | refine WC.condF rfl ?_ | refine WL.off rfl rfl rfl ?_ | refine WL.off0 rfl rfl ?_ | refine WC.exit ?_ | refine blk_hit ?_ | refine blk_miss rfl ?_ | refine WC.ret ?_)
    refine WL.call rfl rfl rfl rfl rfl ent21 (awake_any wE) ?_
    rintro _ wF ⟨rfl, hpF⟩
    repeat (first | refine WC.seq ?_ | refine WC.reg ?_ | refine WL.pure rfl rfl rfl ?_ | refine WL.nil ?_ | refine WC.skip ?_ | refine WC.block ?_ | refine WC.condT rfl ?_ | refine WC.condF rfl ?_ | refine WL.off rfl rfl rfl ?_ | refine WL.off0 rfl rfl ?_ | refine WC.exit ?_ | refine blk_hit ?_ | refine blk_miss rfl ?_ | refine WC.ret ?_)
    exact Res.one rfl rfl rfl ⟨rfl, (((hw8.over hAC).over hpD).over hpE).over hpF⟩
end Go.Proofs.Ytagfpnnplgkkoaa
