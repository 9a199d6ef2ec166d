/- The walks of the exported quotient, value and common divisor. -/
import Derived.Test.YtagfpnnplgkkoaaR20
namespace Go.Poly
open Go.W Go.Tree
theorem trim_le (f : List Nat) : (trimL f).length ≤ f.length := by rw [trim_len]; exact tn_le _ _
theorem sub_len_le (p : Nat) (f g : List Nat) : (subL p f g).length ≤ max f.length g.length := by
  unfold subL; refine Nat.le_trans (trim_le _) ?_; rw [fl_len]; exact Nat.le_refl _
theorem add_len_le (p : Nat) (f g : List Nat) : (addL p f g).length ≤ max f.length g.length := by
  unfold addL; refine Nat.le_trans (trim_le _) ?_; rw [fl_len]; exact Nat.le_refl _
theorem rem_le (p : Nat) (f g : List Nat) : (remL p f g).length ≤ f.length := by
  unfold remL divL
  split
  · exact Nat.le_refl _
  · refine Nat.le_trans (trim_le _) ?_; rw [fl_len]; exact Nat.le_refl _
/-- The lengths on Euclid's way stay bounded. -/
theorem bez_len {p M : Nat} {a b a1 b1 : List Nat} (h1 : b1.length + a.length ≤ M) (h2 : a1.length + b.length ≤ M) (hb : 0 < b.length) :
    (mulL p (quoL p a b) b1).length ≤ M ∧ (subL p a1 (mulL p (quoL p a b) b1)).length + b.length ≤ M ∧ b1.length + (remL p a b).length ≤ M := by
  have hr := rem_le p a b
  have hs := sub_len_le p a1 (mulL p (quoL p a b) b1)
  have hm : (mulL p (quoL p a b) b1).length + b.length ≤ max b.length (b1.length + a.length) := by
    by_cases hq : 0 < (quoL p a b).length
    · by_cases h3 : 0 < b1.length
      · rw [mul_len hq h3]
        by_cases hle : b.length ≤ a.length
        · rw [quo_len hle]; omega
        · exfalso
          unfold quoL divL at hq
          rw [if_pos (by omega)] at hq
          simp at hq
      · have : b1 = [] := List.length_eq_zero_iff.1 (by omega)
        rw [mulL, if_pos (.inr this)]
        simp only [List.length_nil]; omega
    · have : quoL p a b = [] := List.length_eq_zero_iff.1 (by omega)
      rw [mulL, if_pos (.inl this)]
      simp only [List.length_nil]; omega
  omega
def okF (p : Int) (f : List Int) : Bool := fieldB p && polyB p.toNat f
theorem okF_nat {p : Int} {f : List Int} (h : okF p f = true) : ∃ (q : Nat) (F : List Nat), p = q ∧ f = up F ∧ Pri q ∧ q ≤ 1021 ∧ IsP q F ∧ F.length ≤ 33 := by
  simp only [okF, Bool.and_eq_true] at h
  obtain ⟨q, rfl, hq, hq2⟩ := fieldB_pri h.1
  rw [Int.toNat_natCast] at h
  obtain ⟨F, rfl, hF, lF⟩ := poly_nat h.2
  exact ⟨q, F, rfl, rfl, hq, hq2, hF, lF⟩
theorem pri_B {p : Nat} (h : Pri p) : priB p = true := by
  unfold priB
  simp only [Bool.and_eq_true, List.all_eq_true, List.mem_range, Bool.or_eq_true, decide_eq_true_eq, bne_iff_ne, ne_eq]
  refine ⟨h.1, fun d hd => ?_⟩
  by_cases h2 : d < 2
  · exact .inl h2
  · right
    intro h3
    rcases h.2 d (Nat.dvd_of_mod_eq_zero h3) with h4 | h4 <;> omega
theorem field_ok {p : Nat} (h : Pri p) (hp : p ≤ 1021) : fieldB (p : Int) = true := by
  have := h.1
  simp only [fieldB, Int.toNat_natCast, pri_B h, Bool.and_true, Bool.and_eq_true, decide_eq_true_eq]
  omega
theorem poly_ok {p : Nat} {f : List Nat} (h : IsP p f) (hl : f.length ≤ 33) : polyB p (up f) = true := by
  unfold polyB
  rw [up_len]
  simp only [Bool.and_eq_true, decide_eq_true_eq, Bool.not_eq_true', Bool.or_eq_true, beq_iff_eq, bne_iff_ne, ne_eq]
  refine ⟨hl, ?_, ?_⟩
  · rw [List.any_eq_false]
    intro c hc
    obtain ⟨x, hx, rfl⟩ := List.mem_map.1 hc
    have := h.1 x hx
    simp only [Bool.or_eq_true, decide_eq_true_eq, not_or]
    omega
  · rcases h.2 with h2 | h2
    · left; rw [h2]; rfl
    · by_cases h0 : f.length = 0
      · exact .inl h0
      · right
        have hlt : f.length - 1 < f.length := by omega
        rw [List.getD_eq_getElem?_getD, up, List.getElem?_map, List.getElem?_eq_getElem hlt]
        rw [co_get hlt] at h2
        simp only [Option.map_some, Option.getD_some]
        omega
theorem okF_ok {p : Nat} {f : List Nat} (h : Pri p) (hp : p ≤ 1021) (hf : IsP p f) (hl : f.length ≤ 33) : okF (p : Int) (up f) = true := by
  rw [okF, field_ok h hp, Int.toNat_natCast, poly_ok hf hl]; rfl
theorem okB_ok {p : Nat} {f g : List Nat} (h : Pri p) (hp : p ≤ 1021) (hf : IsP p f) (hl : f.length ≤ 33) (hg : IsP p g) (hlg : g.length ≤ 33) : okB (p : Int) (up f) (up g) = true := by
  rw [okB, field_ok h hp, Int.toNat_natCast, poly_ok hf hl, poly_ok hg hlg]; rfl
end Go.Poly
namespace Go.W
section
variable {P : Program} {fn : Func} {R : Value → World → Prop} {e : Env} {w : World}
theorem results_tmp4 {fn : Func} {t u v x : Tmp} (h : fn.results = #[.tmp t, .tmp u, .tmp v, .tmp x]) (tmps : Array Value) (P : Program) (w : World) :
    (results fn tmps).run P w = .ok (.tuple #[tmps.getD t undef, tmps.getD u undef, tmps.getD v undef, tmps.getD x undef]) w := by
  simp [results, h]
theorem Res.four {t1 t2 t3 t4 : Nat} {v1 v2 v3 v4 : Value} (hm : marks e = []) (hr : fn.results = #[.tmp t1, .tmp t2, .tmp t3, .tmp t4]) (h1 : look e t1 = some v1) (h2 : look e t2 = some v2) (h3 : look e t3 = some v3) (h4 : look e t4 = some v4) (h : R (.tuple #[v1, v2, v3, v4]) w) : Res P fn R e w :=
  ⟨hm, _, fun tm ht => by rw [results_tmp4 hr, ht t1 v1 h1, ht t2 v2 h2, ht t3 v3 h3, ht t4 v4 h4], h⟩
end
end Go.W
namespace Go.Proofs.Ytagfpnnplgkkoaa
open Go.W Go.Poly Go.Tree Go.RowKit
set_option maxRecDepth 100000
attribute [local irreducible] WC WL WQ WS WH

/-- A value that reads as a list of ints. -/
def Pz (w : World) (v : Value) (f : List Int) : Prop := ∃ a c, v = .slice a f.length c ∧ Sl w a (zs f) ∧ (a = none → c = 0) ∧ f.length ≤ c
theorem Pz.below {w w' : World} {v : Value} {f : List Int} (h : Pz w v f) (hb : Below w.heap.size w w') : Pz w' v f := by
  obtain ⟨a, c, h1, h2, h3⟩ := h
  exact ⟨a, c, h1, h2.below hb, h3⟩
theorem Pz.hp {w0 w : World} {L : List Ent} {v : Value} {f : List Int} (h : Pz w0 v f) (hp : Hp w0 w L) : Pz w v f := h.below hp.below
theorem Pz.nat {w : World} {v : Value} {F : List Nat} (h : Pz w v (up F)) : Pd w v F := by
  obtain ⟨a, c, h1, h2, h3⟩ := h
  rw [zs_up] at h2
  rw [up_len] at h1 h3
  exact ⟨a, c, h1, h2, h3⟩
theorem Pd.int {w : World} {v : Value} {F : List Nat} (h : Pd w v F) : Pz w v (up F) := by
  obtain ⟨a, c, h1, h2, h3⟩ := h
  refine ⟨a, c, by rw [up_len]; exact h1, by rw [zs_up]; exact h2, by rw [up_len]; exact h3⟩
theorem Pz.row {w0 w : World} {L : List Ent} {v : Value} {f : List Int} {n : Nat} (hp : Hp w0 w L) (i : Nat) (hi : nth L i = some (.row 3 1 v n (zs f))) (hn : n = f.length) : Pz w v f := by
  subst hn
  have h2 : w.ownsRow w0.heap.size 3 1 v f.length (zs f) := hp.at i hi
  obtain ⟨_, ⟨hv, hn⟩ | ⟨b, cap, cur, hv, _, _, hnc, _⟩⟩ := id h2
  · refine ⟨none, 0, by rw [hv, hn], ?_, fun _ => rfl, by omega⟩
    rw [List.length_eq_zero_iff.1 hn]; exact Sl.nil
  · subst hv
    exact ⟨_, cap, rfl, Sl.of_row h2, (fun e => by cases e), hnc⟩
/-- The check of one polynomial, and of two. -/
theorem check1 (p : Int) (vf : Value) (f : List Int) (b : Nat) (w : World) {w0 : World} {L : List Ent} (sf : Pz w vf f) (hl : f.length ≤ 1000) (hp1 : Hp w0 w (.blk b (.cells #[vf] 22 (0, 0)) :: L)) :
    Ret Try.prog 40 [.int .i64 p, .slice (some ⟨b, 0, none⟩) 1 1] w fun u w' => u = .int .i64 (if okF p f then 0 else 2) ∧ Hp w w' [] := by
  obtain ⟨fa, fc, rfl, sf, _⟩ := sf
  have hck := check_any p (some ⟨b, 0, none⟩) 1 [(fa, fc, f)] w (Sl.of_obj (hp1.obj 0 rfl) (fun q u hq => by simpa [lv] using hq)) (by simp) (by
    intro e he
    simp only [List.mem_cons, List.not_mem_nil, or_false] at he
    subst he
    exact ⟨sf, by simp only; omega⟩)
  have hok : (fieldB p && !([(fa, fc, f)] : List Lst).any fun e => !polyB p.toNat e.2.2) = okF p f := by simp [okF]
  rw [hok] at hck
  exact hck
theorem check2 (p : Int) (vf vg : Value) (f g : List Int) (b : Nat) (w : World) {w0 : World} {L : List Ent} (sf : Pz w vf f) (sg_ : Pz w vg g) (hl : f.length ≤ 1000) (hlg : g.length ≤ 1000) (hp1 : Hp w0 w (.blk b (.cells #[vf, vg] 22 (0, 0)) :: L)) :
    Ret Try.prog 40 [.int .i64 p, .slice (some ⟨b, 0, none⟩) 2 2] w fun u w' => u = .int .i64 (if okB p f g then 0 else 2) ∧ Hp w w' [] := by
  obtain ⟨fa, fc, rfl, sf, _⟩ := sf
  obtain ⟨ga, gc, rfl, sg_, _⟩ := sg_
  have hck := check_any p (some ⟨b, 0, none⟩) 2 [(fa, fc, f), (ga, gc, g)] w (Sl.of_obj (hp1.obj 0 rfl) (fun q u hq => by simpa [lv] using hq)) (by simp) (by
    intro e he
    simp only [List.mem_cons, List.not_mem_nil, or_false] at he
    rcases he with rfl | rfl
    · exact ⟨sf, by simp only; omega⟩
    · exact ⟨sg_, by simp only; omega⟩)
  have hok : (fieldB p && !([(fa, fc, f), (ga, gc, g)] : List Lst).any fun e => !polyB p.toNat e.2.2) = okB p f g := by simp [okB]
  rw [hok] at hck
  exact hck

theorem Div_pz (vf vg : Value) (p : Int) (f g : List Int) (hlf : f.length ≤ 1000) (hlg : g.length ≤ 1000) (w : World) (sf : Pz w vf f) (sg_ : Pz w vg g) :
    Ret Try.prog 24 [.int .i64 p, vf, vg] w fun u w' =>
      (okB p f g = false → u = .tuple #[.slice none 0 0, .slice none 0 0, .int .i64 2] ∧ Hp w w' []) ∧
      (okB p f g = true → g = [] → u = .tuple #[.slice none 0 0, .slice none 0 0, .int .i64 20] ∧ Hp w w' []) ∧
      (∀ (q : Nat) (F G : List Nat), okB p f g = true → p = q → f = up F → g = up G → G ≠ [] → ∃ a b, u = .tuple #[a, b, .int .i64 0] ∧ Hp w w' [Rw a (quoL q F G), Rw b (remL q F G)]) := by
  have sg' := sg_
  obtain ⟨ga, gc, rfl, _, _⟩ := sg_
  refine enter Try.func24 rfl rfl ⟨rfl, rfl⟩ rfl ?_
  repeat (first | refine WC.seq ?_ | refine WC.reg ?_ | refine WL.pure rfl rfl rfl ?_ | refine WL.nil ?_ | refine WC.skip ?_ | refine WC.block ?_ | refine WC.condT rfl ?_ | refine WC.condF rfl ?_ | refine WL.off rfl rfl rfl ?_ | refine WL.off0 rfl rfl ?_ | refine WC.exit ?_ | refine blk_hit ?_ | refine blk_miss rfl ?_ | refine WC.ret ?_)
  refine WL.buildS (cs := [vf, .slice ga g.length gc]) rfl rfl rfl rfl rfl rfl rfl rfl (by obtain ⟨_, _, rfl, _⟩ := sf; rfl) ?_
  intro b w1 hb
  have hp1 := (Hp.start w).new hb
  refine WL.call rfl rfl rfl rfl rfl ent40 (check2 p _ _ f g b w1 (sf.hp hp1) (sg'.hp hp1) hlf hlg hp1) ?_
  rintro _ w2 ⟨rfl, hp2⟩
  have hp2 := hp1.nil'.over hp2
  cases hb2 : okB p f g with
  | false =>
    repeat (first | refine WC.seq ?_ | refine WC.reg ?_ | refine WL.pure rfl rfl rfl ?_ | refine WL.nil ?_ | refine WC.skip ?_ | refine WC.block ?_ | refine WC.condT rfl ?_ | refine WC.condF rfl ?_ | refine WL.off rfl rfl rfl ?_ | refine WL.off0 rfl rfl ?_ | refine WC.exit ?_ | refine blk_hit ?_ | refine blk_miss rfl ?_ | refine WC.ret ?_)
    exact Res.three rfl rfl rfl rfl rfl ⟨fun _ => ⟨rfl, hp2⟩, (fun h => by cases h), fun q F G h => by cases h⟩
  | true =>
    obtain ⟨q, F, G, rfl, rfl, rfl, hq, hq2, hF, hG, lF, lG⟩ := okB_nat hb2
    rw [up_len] at sg'
    have sG := sg'.nat
    rw [up_len]
    repeat (first | refine WC.seq ?_ | refine WC.reg ?_ | refine WL.pure rfl rfl rfl ?_ | refine WL.nil ?_ | refine WC.skip ?_ | refine WC.block ?_ | refine WC.condT rfl ?_ | refine WC.condF rfl ?_ | refine WL.off rfl rfl rfl ?_ | refine WL.off0 rfl rfl ?_ | refine WC.exit ?_ | refine blk_hit ?_ | refine blk_miss rfl ?_ | refine WC.ret ?_)
    refine WC.cond rfl (fun h => ?_) (fun h => ?_)
    · have h : G = [] := by
        have : (G.length : Int) = 0 := by simpa using h
        exact List.length_eq_zero_iff.1 (by omega)
      subst h
      repeat (first | refine WC.seq ?_ | refine WC.reg ?_ | refine WL.pure rfl rfl rfl ?_ | refine WL.nil ?_ | refine WC.skip ?_ | refine WC.block ?_ | refine WC.condT rfl ?_ | refine WC.condF rfl ?_ | refine WL.off rfl rfl rfl ?_ | refine WL.off0 rfl rfl ?_ | refine WC.exit ?_ | refine blk_hit ?_ | refine blk_miss rfl ?_ | refine WC.ret ?_)
      exact Res.three rfl rfl rfl rfl rfl ⟨(fun h => by cases h), fun _ _ => ⟨rfl, hp2⟩, fun q' F' G' _ _ _ e1 h => by have := up_inj e1; exact absurd this.symm h⟩
    · have h0 : 0 < G.length := by
        have : (G.length : Int) ≠ 0 := by simpa using h
        omega
      repeat (first | refine WC.seq ?_ | refine WC.reg ?_ | refine WL.pure rfl rfl rfl ?_ | refine WL.nil ?_ | refine WC.skip ?_ | refine WC.block ?_ | refine WC.condT rfl ?_ | refine WC.condF rfl ?_ | refine WL.off rfl rfl rfl ?_ | refine WL.off0 rfl rfl ?_ | refine WC.exit ?_ | refine blk_hit ?_ | refine blk_miss rfl ?_ | refine WC.ret ?_)
      refine WL.call rfl rfl rfl rfl rfl ent48 (div_pd q vf _ F G hq hq2 hF hG h0 (by omega) (by omega) w2 (sf.nat.hp hp2) (sG.hp hp2)) ?_
      rintro _ w3 ⟨a, r, rfl, hp3⟩
      repeat (first | refine WC.seq ?_ | refine WC.reg ?_ | refine WL.pure rfl rfl rfl ?_ | refine WL.nil ?_ | refine WC.skip ?_ | refine WC.block ?_ | refine WC.condT rfl ?_ | refine WC.condF rfl ?_ | refine WL.off rfl rfl rfl ?_ | refine WL.off0 rfl rfl ?_ | refine WC.exit ?_ | refine blk_hit ?_ | refine blk_miss rfl ?_ | refine WC.ret ?_)
      refine Res.three rfl rfl rfl rfl rfl ⟨(fun h => by cases h), fun _ h => ?_, fun q' F' G' _ e1 e2 e3 _ => ?_⟩
      · have h4 : (up G).length = 0 := by rw [h]; rfl
        rw [up_len] at h4
        omega
      · have e1 : q = q' := by omega
        have e2 := up_inj e2
        have e3 := up_inj e3
        subst e1 e2 e3
        exact ⟨a, r, rfl, hp2.over hp3⟩

theorem Value_pz (vf : Value) (p x : Int) (f : List Int) (hlf : f.length ≤ 1000) (w : World) (sf : Pz w vf f) :
    Ret Try.prog 28 [.int .i64 p, vf, .int .i64 x] w fun u w' => Hp w w' [] ∧
      ((okF p f = false ∨ x < 0 ∨ p ≤ x) → u = .tuple #[.int .i64 0, .int .i64 2]) ∧
      (∀ (q : Nat) (F : List Nat) (X : Nat), okF p f = true → p = q → f = up F → x = X → X < q → u = .tuple #[.int .i64 (valL q F X : Nat), .int .i64 0]) := by
  refine enter Try.func28 rfl rfl ⟨rfl, rfl⟩ rfl ?_
  repeat (first | refine WC.seq ?_ | refine WC.reg ?_ | refine WL.pure rfl rfl rfl ?_ | refine WL.nil ?_ | refine WC.skip ?_ | refine WC.block ?_ | refine WC.condT rfl ?_ | refine WC.condF rfl ?_ | refine WL.off rfl rfl rfl ?_ | refine WL.off0 rfl rfl ?_ | refine WC.exit ?_ | refine blk_hit ?_ | refine blk_miss rfl ?_ | refine WC.ret ?_)
  refine WL.buildS (cs := [vf]) rfl rfl rfl rfl rfl rfl rfl rfl (by obtain ⟨_, _, rfl, _⟩ := sf; rfl) ?_
  intro b w1 hb
  have hp1 := (Hp.start w).new hb
  refine WL.call rfl rfl rfl rfl rfl ent40 (check1 p _ f b w1 (sf.hp hp1) hlf hp1) ?_
  rintro _ w2 ⟨rfl, hp2⟩
  have hp2 := hp1.nil'.over hp2
  cases hb2 : okF p f with
  | false =>
    repeat (first | refine WC.seq ?_ | refine WC.reg ?_ | refine WL.pure rfl rfl rfl ?_ | refine WL.nil ?_ | refine WC.skip ?_ | refine WC.block ?_ | refine WC.condT rfl ?_ | refine WC.condF rfl ?_ | refine WL.off rfl rfl rfl ?_ | refine WL.off0 rfl rfl ?_ | refine WC.exit ?_ | refine blk_hit ?_ | refine blk_miss rfl ?_ | refine WC.ret ?_)
    exact Res.two rfl rfl rfl rfl ⟨hp2, fun _ => rfl, fun q F X h => by cases h⟩
  | true =>
    repeat (first | refine WC.seq ?_ | refine WC.reg ?_ | refine WL.pure rfl rfl rfl ?_ | refine WL.nil ?_ | refine WC.skip ?_ | refine WC.block ?_ | refine WC.condT rfl ?_ | refine WC.condF rfl ?_ | refine WL.off rfl rfl rfl ?_ | refine WL.off0 rfl rfl ?_ | refine WC.exit ?_ | refine blk_hit ?_ | refine blk_miss rfl ?_ | refine WC.ret ?_)
    refine WL.split 19 rfl (fun h1 => ?_) (fun h1 => ?_)
    · have h1 : x < 0 := of_decide_eq_true h1
      repeat (first | refine WC.seq ?_ | refine WC.reg ?_ | refine WL.pure rfl rfl rfl ?_ | refine WL.nil ?_ | refine WC.skip ?_ | refine WC.block ?_ | refine WC.condT rfl ?_ | refine WC.condF rfl ?_ | refine WL.off rfl rfl rfl ?_ | refine WL.off0 rfl rfl ?_ | refine WC.exit ?_ | refine blk_hit ?_ | refine blk_miss rfl ?_ | refine WC.ret ?_)
      exact Res.two rfl rfl rfl rfl ⟨hp2, fun _ => rfl, fun q F X _ _ _ h => by omega⟩
    have h1 : ¬ x < 0 := of_decide_eq_false h1
    repeat (first | refine WC.seq ?_ | refine WC.reg ?_ | refine WL.pure rfl rfl rfl ?_ | refine WL.nil ?_ | refine WC.skip ?_ | refine WC.block ?_ | refine WC.condT rfl ?_ | refine WC.condF rfl ?_ | refine WL.off rfl rfl rfl ?_ | refine WL.off0 rfl rfl ?_ | refine WC.exit ?_ | refine blk_hit ?_ | refine blk_miss rfl ?_ | refine WC.ret ?_)
    refine WC.cond rfl (fun h2 => ?_) (fun h2 => ?_)
    · have h2 : p ≤ x := of_decide_eq_true h2
      repeat (first | refine WC.seq ?_ | refine WC.reg ?_ | refine WL.pure rfl rfl rfl ?_ | refine WL.nil ?_ | refine WC.skip ?_ | refine WC.block ?_ | refine WC.condT rfl ?_ | refine WC.condF rfl ?_ | refine WL.off rfl rfl rfl ?_ | refine WL.off0 rfl rfl ?_ | refine WC.exit ?_ | refine blk_hit ?_ | refine blk_miss rfl ?_ | refine WC.ret ?_)
      exact Res.two rfl rfl rfl rfl ⟨hp2, fun _ => rfl, fun q F X _ _ _ h => by omega⟩
    have h2 : ¬ p ≤ x := of_decide_eq_false h2
    obtain ⟨q, F, rfl, rfl, hq, hq2, hF, lF⟩ := okF_nat hb2
    obtain ⟨X, rfl⟩ : ∃ X : Nat, x = X := ⟨x.toNat, by omega⟩
    repeat (first | refine WC.seq ?_ | refine WC.reg ?_ | refine WL.pure rfl rfl rfl ?_ | refine WL.nil ?_ | refine WC.skip ?_ | refine WC.block ?_ | refine WC.condT rfl ?_ | refine WC.condF rfl ?_ | refine WL.off rfl rfl rfl ?_ | refine WL.off0 rfl rfl ?_ | refine WC.exit ?_ | refine blk_hit ?_ | refine blk_miss rfl ?_ | refine WC.ret ?_)
    refine WL.call rfl rfl rfl rfl rfl ent50 (value_pd q X vf F hq.pos hq2 hF (by omega) (by omega) w2 (sf.nat.hp hp2)) ?_
    rintro _ w3 ⟨rfl, hp3⟩
    repeat (first | refine WC.seq ?_ | refine WC.reg ?_ | refine WL.pure rfl rfl rfl ?_ | refine WL.nil ?_ | refine WC.skip ?_ | refine WC.block ?_ | refine WC.condT rfl ?_ | refine WC.condF rfl ?_ | refine WL.off rfl rfl rfl ?_ | refine WL.off0 rfl rfl ?_ | refine WC.exit ?_ | refine blk_hit ?_ | refine blk_miss rfl ?_ | refine WC.ret ?_)
    refine Res.two rfl rfl rfl rfl ⟨hp2.over hp3, fun h => ?_, fun q' F' X' _ e1 e2 e3 _ => ?_⟩
    · rcases h with h | h | h
      · cases h
      · omega
      · omega
    · have e1 : q = q' := by omega
      have e2 := up_inj e2
      have e3 : X = X' := by omega
      subst e1 e2 e3
      rfl

theorem bezout_pd (p : Nat) (vf vg : Value) (f g : List Nat) (hpp : Pri p) (hp : p ≤ 1021) (hf : IsP p f) (hg : IsP p g) (hlf : f.length ≤ 400) (hlg : g.length ≤ 400) (w : World) (sf : Pd w vf f) (sg_ : Pd w vg g) :
    Ret Try.prog 51 [.int .i64 (p : Nat), vf, vg] w fun u w' => ∃ d a b, u = .tuple #[d, a, b] ∧ Hp w w' [Rw b (bezL p f g).2.2, Rw a (bezL p f g).2.1, Rw d (bezL p f g).1] := by
  obtain ⟨R, hR0⟩ : ∃ R, bezN p g.length f g [1] [] [] [1] = R := ⟨_, rfl⟩
  have hbz : bezL p f g = bezE p R := by rw [← hR0]; rfl
  rw [hbz]
  refine enter Try.func51 rfl rfl ⟨rfl, rfl⟩ rfl ?_
  repeat (first | refine WC.seq ?_ | refine WC.reg ?_ | refine WL.pure rfl rfl rfl ?_ | refine WL.nil ?_ | refine WC.skip ?_ | refine WC.block ?_ | refine WC.condT rfl ?_ | refine WC.condF rfl ?_ | refine WL.off rfl rfl rfl ?_ | refine WL.off0 rfl rfl ?_ | refine WC.exit ?_ | refine blk_hit ?_ | refine blk_miss rfl ?_ | refine WC.ret ?_)
  refine WL.buildS (cs := ints [1]) rfl rfl rfl rfl rfl rfl rfl rfl rfl ?_
  intro b1 w1 hb1
  have hp1 := (Hp.start w).new hb1
  have hr1 : Hp w w1 [Rw (.slice (some ⟨b1, 0, none⟩) 1 1) [1]] := hp1.toRow (m := 1) (s := 1) rfl (by decide)
  repeat (first | refine WC.seq ?_ | refine WC.reg ?_ | refine WL.pure rfl rfl rfl ?_ | refine WL.nil ?_ | refine WC.skip ?_ | refine WC.block ?_ | refine WC.condT rfl ?_ | refine WC.condF rfl ?_ | refine WL.off rfl rfl rfl ?_ | refine WL.off0 rfl rfl ?_ | refine WC.exit ?_ | refine blk_hit ?_ | refine blk_miss rfl ?_ | refine WC.ret ?_)
  refine WL.buildS (cs := ints [1]) rfl rfl rfl rfl rfl rfl rfl rfl rfl ?_
  intro b2 w2 hb2
  have hr2 : Hp w w2 [Rw (.slice (some ⟨b2, 0, none⟩) 1 1) [1], Rw (.slice (some ⟨b1, 0, none⟩) 1 1) [1]] := (hr1.new hb2).toRow (m := 1) (s := 1) rfl (by decide)
  have o1 := isP_one hpp
  have on := isP_nil p
  repeat (first | refine WC.seq ?_ | refine WC.reg ?_ | refine WL.pure rfl rfl rfl ?_ | refine WL.nil ?_ | refine WC.skip ?_ | refine WC.block ?_ | refine WC.condT rfl ?_ | refine WC.condF rfl ?_ | refine WL.off rfl rfl rfl ?_ | refine WL.off0 rfl rfl ?_ | refine WC.exit ?_ | refine blk_hit ?_ | refine blk_miss rfl ?_ | refine WC.ret ?_)
  refine WC.loop ((Nat × Value × Value × Value × Value × Value × Value) × (List Nat × List Nat × List Nat × List Nat × List Nat × List Nat)) (fun ((k, va, vb, va1, vb1, va2, vb2), _) => [(0, .int .i64 (p : Nat)), (9, va), (10, vb), (11, va1), (12, vb1), (13, va2), (14, vb2)])
    (fun ((k, va, vb, va1, vb1, va2, vb2), (a, b, a1, b1, a2, b2)) w' => Hp w w' [] ∧ (IsP p a ∧ IsP p b ∧ IsP p a1 ∧ IsP p b1 ∧ IsP p a2 ∧ IsP p b2) ∧ (Pd w' va a ∧ Pd w' vb b ∧ Pd w' va1 a1 ∧ Pd w' vb1 b1 ∧ Pd w' va2 a2 ∧ Pd w' vb2 b2) ∧
      (b1.length + a.length ≤ 900 ∧ a1.length + b.length ≤ 900 ∧ b2.length + a.length ≤ 900 ∧ a2.length + b.length ≤ 900) ∧ b.length ≤ k ∧ bezN p k a b a1 b1 a2 b2 = R) (fun ((k, _), _) => k)
    ((g.length, vf, vg, .slice (some ⟨b1, 0, none⟩) 1 1, .slice none 0 0, .slice none 0 0, .slice (some ⟨b2, 0, none⟩) 1 1), (f, g, [1], [], [], [1])) ⟨rfl, rfl, rfl, rfl, rfl, rfl, rfl, rfl⟩
    ⟨hr2.nil', ⟨hf, hg, o1, on, on, o1⟩, ⟨sf.hp hr2, sg_.hp hr2, Pd.row hr2 1 rfl, Pd.nil _, Pd.nil _, Pd.row hr2 0 rfl⟩, ⟨by simp only [List.length_nil, List.length_cons]; omega, by simp only [List.length_nil, List.length_cons]; omega, by simp only [List.length_nil, List.length_cons]; omega, by simp only [List.length_nil, List.length_cons]; omega⟩, Nat.le_refl _, hR0⟩ ?_
  rintro ⟨⟨k, va, vb, va1, vb1, va2, vb2⟩, ⟨a, b, a1, b1, a2, b2⟩⟩ w3 ⟨hp3, ⟨ia, ib, ia1, ib1, ia2, ib2⟩, ⟨da, db, da1, db1, da2, db2⟩, ⟨l1, l2, l3, l4⟩, hk, hR⟩
  have db' := db
  obtain ⟨ba, bc, rfl, -⟩ := db
  repeat (first | refine WC.seq ?_ | refine WC.reg ?_ | refine WL.pure rfl rfl rfl ?_ | refine WL.nil ?_ | refine WC.skip ?_ | refine WC.block ?_ | refine WC.condT rfl ?_ | refine WC.condF rfl ?_ | refine WL.off rfl rfl rfl ?_ | refine WL.off0 rfl rfl ?_ | refine WC.exit ?_ | refine blk_hit ?_ | refine blk_miss rfl ?_ | refine WC.ret ?_)
  refine WC.cond rfl (fun h => ?_) (fun h => ?_)
  · have h : 0 < b.length := by have := of_decide_eq_true h; omega
    obtain ⟨k, rfl⟩ : ∃ j, k = j + 1 := ⟨k - 1, by omega⟩
    have hr := rem_lt hpp ia ib h
    have hq := quo_isP hpp ia ib h
    have hri := rem_isP hpp ia ib h
    have hql := quo_le p a h
    have m1 := bez_len (p := p) l1 l2 h
    have m2 := bez_len (p := p) l3 l4 h
    rw [bezN, if_neg (by intro e; subst e; simp at h)] at hR
    repeat (first | refine WC.seq ?_ | refine WC.reg ?_ | refine WL.pure rfl rfl rfl ?_ | refine WL.nil ?_ | refine WC.skip ?_ | refine WC.block ?_ | refine WC.condT rfl ?_ | refine WC.condF rfl ?_ | refine WL.off rfl rfl rfl ?_ | refine WL.off0 rfl rfl ?_ | refine WC.exit ?_ | refine blk_hit ?_ | refine blk_miss rfl ?_ | refine WC.ret ?_)
    refine WL.call rfl rfl rfl rfl rfl ent48 (div_pd p va _ a b hpp hp ia ib h (by omega) (by omega) w3 da db') ?_
    rintro _ w4 ⟨q, r, rfl, hp4⟩
    have dq := Pd.row hp4 0 rfl
    have dr := Pd.row hp4 1 rfl
    have hp3 := hp3.over hp4.nil'
    have db' := db'.hp hp4
    have da1 := da1.hp hp4
    have db1 := db1.hp hp4
    have da2 := da2.hp hp4
    have db2 := db2.hp hp4
    repeat (first | refine WC.seq ?_ | refine WC.reg ?_ | refine WL.pure rfl rfl rfl ?_ | refine WL.nil ?_ | refine WC.skip ?_ | refine WC.block ?_ | refine WC.condT rfl ?_ | refine WC.condF rfl ?_ | refine WL.off rfl rfl rfl ?_ | refine WL.off0 rfl rfl ?_ | refine WC.exit ?_ | refine blk_hit ?_ | refine blk_miss rfl ?_ | refine WC.ret ?_)
    refine WL.call rfl rfl rfl rfl rfl ent42 (mul_pd p q vb1 _ _ hpp hp hq ib1 (by omega) (by omega) w4 dq db1) ?_
    rintro u5 w5 hp5
    have d5 := Pd.row hp5 0 rfl
    refine WL.call rfl rfl rfl rfl rfl ent78 (sub_pd p va1 u5 _ _ hpp hp ia1 (mul_isP hpp hq ib1) (by omega) (by omega) w5 (da1.hp hp5) d5) ?_
    rintro u6 w6 hp6
    have d6 := Pd.row hp6 0 rfl
    have hp6 := hp5.nil'.over hp6.nil'
    have hp3 := hp3.over hp6
    repeat (first | refine WC.seq ?_ | refine WC.reg ?_ | refine WL.pure rfl rfl rfl ?_ | refine WL.nil ?_ | refine WC.skip ?_ | refine WC.block ?_ | refine WC.condT rfl ?_ | refine WC.condF rfl ?_ | refine WL.off rfl rfl rfl ?_ | refine WL.off0 rfl rfl ?_ | refine WC.exit ?_ | refine blk_hit ?_ | refine blk_miss rfl ?_ | refine WC.ret ?_)
    refine WL.call rfl rfl rfl rfl rfl ent42 (mul_pd p q vb2 _ _ hpp hp hq ib2 (by omega) (by omega) w6 (dq.hp hp6) (db2.hp hp6)) ?_
    rintro u7 w7 hp7
    have d7 := Pd.row hp7 0 rfl
    refine WL.call rfl rfl rfl rfl rfl ent78 (sub_pd p va2 u7 _ _ hpp hp ia2 (mul_isP hpp hq ib2) (by omega) (by omega) w7 ((da2.hp hp6).hp hp7) d7) ?_
    rintro u8 w8 hp8
    have d8 := Pd.row hp8 0 rfl
    have hp8 := hp7.nil'.over hp8.nil'
    have hp3 := hp3.over hp8
    have hp48 := hp6.over hp8
    repeat (first | refine WC.seq ?_ | refine WC.reg ?_ | refine WL.pure rfl rfl rfl ?_ | refine WL.nil ?_ | refine WC.skip ?_ | refine WC.block ?_ | refine WC.condT rfl ?_ | refine WC.condF rfl ?_ | refine WL.off rfl rfl rfl ?_ | refine WL.off0 rfl rfl ?_ | refine WC.exit ?_ | refine blk_hit ?_ | refine blk_miss rfl ?_ | refine WC.ret ?_)
    exact ⟨((k, _, r, vb1, u6, vb2, u8), (b, remL p a b, b1, subL p a1 (mulL p (quoL p a b) b1), b2, subL p a2 (mulL p (quoL p a b) b2))), by show k < k + 1; omega, ⟨rfl, rfl, rfl, rfl, rfl, rfl, rfl, rfl⟩,
      hp3, ⟨ib, hri, ib1, sub_isP hpp.pos _ _, ib2, sub_isP hpp.pos _ _⟩, ⟨db'.hp hp48, dr.hp hp48, db1.hp hp48, d6.hp hp8, db2.hp hp48, d8⟩, by omega, by omega, hR⟩
  · have h : b = [] := List.length_eq_zero_iff.1 (by have := of_decide_eq_false h; omega)
    subst h
    have hR : (a, a1, a2) = R := by rw [← hR]; cases k <;> simp [bezN]
    subst hR
    have da' := da
    obtain ⟨aa, ac, rfl, sa, -⟩ := da
    unfold bezE
    simp only
    repeat (first | refine WC.seq ?_ | refine WC.reg ?_ | refine WL.pure rfl rfl rfl ?_ | refine WL.nil ?_ | refine WC.skip ?_ | refine WC.block ?_ | refine WC.condT rfl ?_ | refine WC.condF rfl ?_ | refine WL.off rfl rfl rfl ?_ | refine WL.off0 rfl rfl ?_ | refine WC.exit ?_ | refine blk_hit ?_ | refine blk_miss rfl ?_ | refine WC.ret ?_)
    refine WC.cond rfl (fun h => ?_) (fun h => ?_)
    · have h : a = [] := by
        have : (a.length : Int) = 0 := by simpa using h
        exact List.length_eq_zero_iff.1 (by omega)
      subst h
      repeat (first | refine WC.seq ?_ | refine WC.reg ?_ | refine WL.pure rfl rfl rfl ?_ | refine WL.nil ?_ | refine WC.skip ?_ | refine WC.block ?_ | refine WC.condT rfl ?_ | refine WC.condF rfl ?_ | refine WL.off rfl rfl rfl ?_ | refine WL.off0 rfl rfl ?_ | refine WC.exit ?_ | refine blk_hit ?_ | refine blk_miss rfl ?_ | refine WC.ret ?_)
      exact Res.three rfl rfl rfl rfl rfl ⟨_, _, _, rfl, hp3.nilRw.nilRw.nilRw⟩
    · have h : a ≠ [] := by rintro rfl; simp at h
      have h0 := List.length_pos_iff.2 h
      rw [if_neg h]
      have e1 : IntKind.i64.wrap ((a.length : Int) - 1) = ((a.length - 1 : Nat) : Int) := by rw [wrap_mid (by omega) (by omega)]; omega
      repeat (first | refine WC.seq ?_ | refine WC.reg ?_ | refine WL.pure rfl rfl rfl ?_ | refine WL.nil ?_ | refine WC.skip ?_ | refine WC.block ?_ | refine WC.condT rfl ?_ | refine WC.condF rfl ?_ | refine WL.off rfl rfl rfl ?_ | refine WL.off0 rfl rfl ?_ | refine WC.exit ?_ | refine blk_hit ?_ | refine blk_miss rfl ?_ | refine WC.ret ?_)
      refine WL.known (d := 57) (congrArg (fun z => some (Value.int .i64 z)) e1) ?_
      refine WL.ixload rfl (fun _ => rfl) rfl rfl rfl rfl rfl rfl rfl (show a.length - 1 < a.length by omega) rfl rfl sa (ints_at (show a.length - 1 < a.length by omega)) ?_
      intro pa
      refine WL.callP rfl rfl rfl rfl rfl ent55 (inverse_any p _ hpp (top_pos ia h0) (ia.co hpp.pos _) (by omega) _) ?_
      repeat (first | refine WC.seq ?_ | refine WC.reg ?_ | refine WL.pure rfl rfl rfl ?_ | refine WL.nil ?_ | refine WC.skip ?_ | refine WC.block ?_ | refine WC.condT rfl ?_ | refine WC.condF rfl ?_ | refine WL.off rfl rfl rfl ?_ | refine WL.off0 rfl rfl ?_ | refine WC.exit ?_ | refine blk_hit ?_ | refine blk_miss rfl ?_ | refine WC.ret ?_)
      refine WL.call rfl rfl rfl rfl rfl ent56 (scale_pd p _ _ a hpp hp ia (by omega) w3 da') ?_
      rintro u4 w4 hp4
      repeat (first | refine WC.seq ?_ | refine WC.reg ?_ | refine WL.pure rfl rfl rfl ?_ | refine WL.nil ?_ | refine WC.skip ?_ | refine WC.block ?_ | refine WC.condT rfl ?_ | refine WC.condF rfl ?_ | refine WL.off rfl rfl rfl ?_ | refine WL.off0 rfl rfl ?_ | refine WC.exit ?_ | refine blk_hit ?_ | refine blk_miss rfl ?_ | refine WC.ret ?_)
      refine WL.call rfl rfl rfl rfl rfl ent56 (scale_pd p _ _ a1 hpp hp ia1 (by omega) w4 (da1.hp hp4)) ?_
      rintro u5 w5 hp5
      have hp5 := hp4.comb hp5
      repeat (first | refine WC.seq ?_ | refine WC.reg ?_ | refine WL.pure rfl rfl rfl ?_ | refine WL.nil ?_ | refine WC.skip ?_ | refine WC.block ?_ | refine WC.condT rfl ?_ | refine WC.condF rfl ?_ | refine WL.off rfl rfl rfl ?_ | refine WL.off0 rfl rfl ?_ | refine WC.exit ?_ | refine blk_hit ?_ | refine blk_miss rfl ?_ | refine WC.ret ?_)
      refine WL.call rfl rfl rfl rfl rfl ent56 (scale_pd p _ _ a2 hpp hp ia2 (by omega) w5 (da2.hp hp5)) ?_
      rintro u6 w6 hp6
      have hp6 := hp5.comb hp6
      repeat (first | refine WC.seq ?_ | refine WC.reg ?_ | refine WL.pure rfl rfl rfl ?_ | refine WL.nil ?_ | refine WC.skip ?_ | refine WC.block ?_ | refine WC.condT rfl ?_ | refine WC.condF rfl ?_ | refine WL.off rfl rfl rfl ?_ | refine WL.off0 rfl rfl ?_ | refine WC.exit ?_ | refine blk_hit ?_ | refine blk_miss rfl ?_ | refine WC.ret ?_)
      exact Res.three rfl rfl rfl rfl rfl ⟨_, _, _, rfl, hp3.over hp6⟩

theorem Gcd_pz (vf vg : Value) (p : Int) (f g : List Int) (hlf : f.length ≤ 1000) (hlg : g.length ≤ 1000) (w : World) (sf : Pz w vf f) (sg_ : Pz w vg g) :
    Ret Try.prog 30 [.int .i64 p, vf, vg] w fun u w' =>
      (okB p f g = false → u = .tuple #[.slice none 0 0, .slice none 0 0, .slice none 0 0, .int .i64 2] ∧ Hp w w' []) ∧
      (∀ (q : Nat) (F G : List Nat), okB p f g = true → p = q → f = up F → g = up G → ∃ d a b, u = .tuple #[d, a, b, .int .i64 0] ∧ Hp w w' [Rw b (bezL q F G).2.2, Rw a (bezL q F G).2.1, Rw d (bezL q F G).1]) := by
  refine enter Try.func30 rfl rfl ⟨rfl, rfl⟩ rfl ?_
  repeat (first | refine WC.seq ?_ | refine WC.reg ?_ | refine WL.pure rfl rfl rfl ?_ | refine WL.nil ?_ | refine WC.skip ?_ | refine WC.block ?_ | refine WC.condT rfl ?_ | refine WC.condF rfl ?_ | refine WL.off rfl rfl rfl ?_ | refine WL.off0 rfl rfl ?_ | refine WC.exit ?_ | refine blk_hit ?_ | refine blk_miss rfl ?_ | refine WC.ret ?_)
  refine WL.buildS (cs := [vf, vg]) rfl rfl rfl rfl rfl rfl rfl rfl (by obtain ⟨_, _, rfl, _⟩ := sf; obtain ⟨_, _, rfl, _⟩ := sg_; rfl) ?_
  intro b w1 hb
  have hp1 := (Hp.start w).new hb
  refine WL.call rfl rfl rfl rfl rfl ent40 (check2 p _ _ f g b w1 (sf.hp hp1) (sg_.hp hp1) hlf hlg hp1) ?_
  rintro _ w2 ⟨rfl, hp2⟩
  have hp2 := hp1.nil'.over hp2
  cases hb2 : okB p f g with
  | false =>
    repeat (first | refine WC.seq ?_ | refine WC.reg ?_ | refine WL.pure rfl rfl rfl ?_ | refine WL.nil ?_ | refine WC.skip ?_ | refine WC.block ?_ | refine WC.condT rfl ?_ | refine WC.condF rfl ?_ | refine WL.off rfl rfl rfl ?_ | refine WL.off0 rfl rfl ?_ | refine WC.exit ?_ | refine blk_hit ?_ | refine blk_miss rfl ?_ | refine WC.ret ?_)
    exact Res.four rfl rfl rfl rfl rfl rfl ⟨fun _ => ⟨rfl, hp2⟩, fun q F G h => by cases h⟩
  | true =>
    obtain ⟨q, F, G, rfl, rfl, rfl, hq, hq2, hF, hG, lF, lG⟩ := okB_nat hb2
    repeat (first | refine WC.seq ?_ | refine WC.reg ?_ | refine WL.pure rfl rfl rfl ?_ | refine WL.nil ?_ | refine WC.skip ?_ | refine WC.block ?_ | refine WC.condT rfl ?_ | refine WC.condF rfl ?_ | refine WL.off rfl rfl rfl ?_ | refine WL.off0 rfl rfl ?_ | refine WC.exit ?_ | refine blk_hit ?_ | refine blk_miss rfl ?_ | refine WC.ret ?_)
    refine WL.call rfl rfl rfl rfl rfl ent51 (bezout_pd q vf vg F G hq hq2 hF hG (by omega) (by omega) w2 (sf.nat.hp hp2) (sg_.nat.hp hp2)) ?_
    rintro _ w3 ⟨d, a, b, rfl, hp3⟩
    repeat (first | refine WC.seq ?_ | refine WC.reg ?_ | refine WL.pure rfl rfl rfl ?_ | refine WL.nil ?_ | refine WC.skip ?_ | refine WC.block ?_ | refine WC.condT rfl ?_ | refine WC.condF rfl ?_ | refine WL.off rfl rfl rfl ?_ | refine WL.off0 rfl rfl ?_ | refine WC.exit ?_ | refine blk_hit ?_ | refine blk_miss rfl ?_ | refine WC.ret ?_)
    refine Res.four rfl rfl rfl rfl rfl rfl ⟨(fun h => by cases h), fun q' F' G' _ e1 e2 e3 => ?_⟩
    have e1 : q = q' := by omega
    have e2 := up_inj e2
    have e3 := up_inj e3
    subst e1 e2 e3
    exact ⟨d, a, b, rfl, hp2.over hp3⟩
end Go.Proofs.Ytagfpnnplgkkoaa
