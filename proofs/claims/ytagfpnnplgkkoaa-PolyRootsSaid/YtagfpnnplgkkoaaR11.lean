/- The walks of the sum and the product, as the program gives them out. -/
import Derived.Test.YtagfpnnplgkkoaaR10
namespace Go.Poly
theorem poly_nat {p : Nat} {f : List Int} (h : polyB p f = true) : ∃ F : List Nat, f = up F ∧ IsP p F ∧ F.length ≤ 33 := by
  simp only [polyB, Bool.and_eq_true, decide_eq_true_eq, Bool.not_eq_true', Bool.or_eq_true, beq_iff_eq, bne_iff_ne, ne_eq] at h
  obtain ⟨h1, h2, h3⟩ := h
  have hr : ∀ c ∈ f, 0 ≤ c ∧ c < p := by
    intro c hc
    rw [List.any_eq_false] at h2
    have := h2 c hc
    simp at this
    omega
  have hup : f = up (f.map Int.toNat) := by
    unfold up
    rw [List.map_map]
    have : ∀ (l : List Int), (∀ c ∈ l, 0 ≤ c ∧ c < p) → l = l.map ((fun (x : Nat) => (x : Int)) ∘ Int.toNat) := by
      intro l
      induction l with
      | nil => intro _; rfl
      | cons c l ih =>
        intro hl
        rw [List.map_cons, ← ih fun d hd => hl d (by simp [hd])]
        have := hl c (by simp)
        congr 1
        show c = ((c.toNat : Nat) : Int)
        omega
    exact this f hr
  refine ⟨f.map Int.toNat, hup, ⟨?_, ?_⟩, by rw [List.length_map]; exact h1⟩
  · intro c hc
    obtain ⟨d, hd, rfl⟩ := List.mem_map.1 hc
    have := hr d hd
    omega
  · rcases h3 with h3 | h3
    · left; rw [← List.length_eq_zero_iff, List.length_map, h3]
    · by_cases h0 : f = []
      · left; rw [h0]; rfl
      · right
        have hlt : f.length - 1 < f.length := by have := List.length_pos_iff.2 h0; omega
        rw [List.getD_eq_getElem?_getD, List.getElem?_eq_getElem hlt] at h3
        have h4 := hr _ (List.getElem_mem hlt)
        rw [List.length_map, co_get (by rw [List.length_map]; exact hlt), List.getElem_map]
        simp only [Option.getD_some] at h3
        omega
/-- What a sum or a product may be asked for. -/
def okB (p : Int) (f g : List Int) : Bool := fieldB p && (polyB p.toNat f && polyB p.toNat g)
theorem okB_nat {p : Int} {f g : List Int} (h : okB p f g = true) : ∃ (q : Nat) (F G : List Nat), p = q ∧ f = up F ∧ g = up G ∧ Pri q ∧ q ≤ 1021 ∧ IsP q F ∧ IsP q G ∧ F.length ≤ 33 ∧ G.length ≤ 33 := by
  simp only [okB, Bool.and_eq_true] at h
  obtain ⟨q, rfl, hq, hq2⟩ := fieldB_pri h.1
  rw [Int.toNat_natCast] at h
  obtain ⟨F, rfl, hF, lF⟩ := poly_nat h.2.1
  obtain ⟨G, rfl, hG, lG⟩ := poly_nat h.2.2
  exact ⟨q, F, G, rfl, rfl, rfl, hq, hq2, hF, hG, lF, lG⟩
end Go.Poly
namespace Go.Proofs.Ytagfpnnplgkkoaa
open Go.W Go.Poly Go.Tree
set_option maxRecDepth 100000
attribute [local irreducible] WC WL WQ WS WH

theorem Add_any (fa ga : Option Addr) (fc gc : Nat) (p : Int) (f g : List Int) (hlf : f.length ≤ 1000) (hlg : g.length ≤ 1000) (w : World) (sf : Sl w fa (zs f)) (sg_ : Sl w ga (zs g)) :
    Ret Try.prog 16 [.int .i64 p, .slice fa f.length fc, .slice ga g.length gc] w fun u w' =>
      (okB p f g = false → u = .tuple #[.slice none 0 0, .int .i64 2] ∧ Hp w w' []) ∧
      (∀ (q : Nat) (F G : List Nat), okB p f g = true → p = q → f = up F → g = up G → ∃ a c, u = .tuple #[.slice a (addL q F G).length c, .int .i64 0] ∧ Hp w w' [.row 3 1 (.slice a (addL q F G).length c) (addL q F G).length (ints (addL q F G))]) := by
  refine enter Try.func16 rfl rfl ⟨rfl, rfl⟩ rfl ?_
  repeat (first | refine WC.seq ?_ | refine WC.reg ?_ | refine WL.pure rfl rfl rfl ?_ | refine WL.nil ?_ | refine WC.skip ?_ | refine WC.block ?_ | refine WC.condT rfl ?_ | refine WC.condF rfl ?_ | refine WL.off rfl rfl rfl ?_ | refine WL.off0 rfl rfl ?_ | refine WC.exit ?_ | refine blk_hit ?_ | refine blk_miss rfl ?_ | refine WC.ret ?_)
  refine WL.buildS (cs := [.slice fa f.length fc, .slice ga g.length gc]) rfl rfl rfl rfl rfl rfl rfl rfl rfl ?_
  intro b w1 hb
  have hp1 := (Hp.start w).new hb
  have hck := check_any p (some ⟨b, 0, none⟩) 2 [(fa, fc, f), (ga, gc, g)] w1 (Sl.of_obj (hp1.obj 0 rfl) (fun q u hq => by simpa [lv] using hq)) (by simp) (by
    intro e he
    simp only [List.mem_cons, List.not_mem_nil, or_false] at he
    rcases he with rfl | rfl
    · exact ⟨sf.hp hp1, by simp only; omega⟩
    · exact ⟨sg_.hp hp1, by simp only; omega⟩)
  have hok : (fieldB p && !([(fa, fc, f), (ga, gc, g)] : List Lst).any fun e => !polyB p.toNat e.2.2) = okB p f g := by
    simp [okB]
  rw [hok] at hck
  refine WL.call rfl rfl rfl rfl rfl ent40 hck ?_
  rintro _ w2 ⟨rfl, hp2⟩
  have hp2 := hp1.call hp2.below
  cases hb2 : okB p f g with
  | false =>
    repeat (first | refine WC.seq ?_ | refine WC.reg ?_ | refine WL.pure rfl rfl rfl ?_ | refine WL.nil ?_ | refine WC.skip ?_ | refine WC.block ?_ | refine WC.condT rfl ?_ | refine WC.condF rfl ?_ | refine WL.off rfl rfl rfl ?_ | refine WL.off0 rfl rfl ?_ | refine WC.exit ?_ | refine blk_hit ?_ | refine blk_miss rfl ?_ | refine WC.ret ?_)
    exact Res.two rfl rfl rfl rfl ⟨fun _ => ⟨rfl, hp2.nil'⟩, fun q F G h => by cases h⟩
  | true =>
    obtain ⟨q, F, G, rfl, rfl, rfl, hq, hq2, hF, hG, lF, lG⟩ := okB_nat hb2
    rw [zs_up] at sf sg_
    rw [up_len] at hlf hlg
    rw [up_len, up_len]
    repeat (first | refine WC.seq ?_ | refine WC.reg ?_ | refine WL.pure rfl rfl rfl ?_ | refine WL.nil ?_ | refine WC.skip ?_ | refine WC.block ?_ | refine WC.condT rfl ?_ | refine WC.condF rfl ?_ | refine WL.off rfl rfl rfl ?_ | refine WL.off0 rfl rfl ?_ | refine WC.exit ?_ | refine blk_hit ?_ | refine blk_miss rfl ?_ | refine WC.ret ?_)
    refine WL.call rfl rfl rfl rfl rfl ent41 (add_any fa ga fc gc q F G hq.pos hq2 (hF.co hq.pos) (hG.co hq.pos) hlf hlg w2 (sf.hp hp2) (sg_.hp hp2)) ?_
    rintro _ w3 ⟨a, c, rfl, hp3⟩
    have hp3 := (hp2.comb hp3).drop1
    repeat (first | refine WC.seq ?_ | refine WC.reg ?_ | refine WL.pure rfl rfl rfl ?_ | refine WL.nil ?_ | refine WC.skip ?_ | refine WC.block ?_ | refine WC.condT rfl ?_ | refine WC.condF rfl ?_ | refine WL.off rfl rfl rfl ?_ | refine WL.off0 rfl rfl ?_ | refine WC.exit ?_ | refine blk_hit ?_ | refine blk_miss rfl ?_ | refine WC.ret ?_)
    refine Res.two rfl rfl rfl rfl ⟨(fun h => by cases h), fun q' F' G' _ e1 e2 e3 => ?_⟩
    have e1 : q = q' := by omega
    have e2 := up_inj e2
    have e3 := up_inj e3
    subst e1 e2 e3
    exact ⟨a, c, rfl, hp3⟩

theorem Mul_any (fa ga : Option Addr) (fc gc : Nat) (p : Int) (f g : List Int) (hlf : f.length ≤ 1000) (hlg : g.length ≤ 1000) (w : World) (sf : Sl w fa (zs f)) (sg_ : Sl w ga (zs g)) :
    Ret Try.prog 17 [.int .i64 p, .slice fa f.length fc, .slice ga g.length gc] w fun u w' =>
      (okB p f g = false → u = .tuple #[.slice none 0 0, .int .i64 2] ∧ Hp w w' []) ∧
      (∀ (q : Nat) (F G : List Nat), okB p f g = true → p = q → f = up F → g = up G → (33 < (mulL q F G).length → u = .tuple #[.slice none 0 0, .int .i64 5] ∧ Hp w w' []) ∧
        ((mulL q F G).length ≤ 33 → ∃ a c, u = .tuple #[.slice a (mulL q F G).length c, .int .i64 0] ∧ Hp w w' [.row 3 1 (.slice a (mulL q F G).length c) (mulL q F G).length (ints (mulL q F G))])) := by
  refine enter Try.func17 rfl rfl ⟨rfl, rfl⟩ rfl ?_
  repeat (first | refine WC.seq ?_ | refine WC.reg ?_ | refine WL.pure rfl rfl rfl ?_ | refine WL.nil ?_ | refine WC.skip ?_ | refine WC.block ?_ | refine WC.condT rfl ?_ | refine WC.condF rfl ?_ | refine WL.off rfl rfl rfl ?_ | refine WL.off0 rfl rfl ?_ | refine WC.exit ?_ | refine blk_hit ?_ | refine blk_miss rfl ?_ | refine WC.ret ?_)
  refine WL.buildS (cs := [.slice fa f.length fc, .slice ga g.length gc]) rfl rfl rfl rfl rfl rfl rfl rfl rfl ?_
  intro b w1 hb
  have hp1 := (Hp.start w).new hb
  have hck := check_any p (some ⟨b, 0, none⟩) 2 [(fa, fc, f), (ga, gc, g)] w1 (Sl.of_obj (hp1.obj 0 rfl) (fun q u hq => by simpa [lv] using hq)) (by simp) (by
    intro e he
    simp only [List.mem_cons, List.not_mem_nil, or_false] at he
    rcases he with rfl | rfl
    · exact ⟨sf.hp hp1, by simp only; omega⟩
    · exact ⟨sg_.hp hp1, by simp only; omega⟩)
  have hok : (fieldB p && !([(fa, fc, f), (ga, gc, g)] : List Lst).any fun e => !polyB p.toNat e.2.2) = okB p f g := by
    simp [okB]
  rw [hok] at hck
  refine WL.call rfl rfl rfl rfl rfl ent40 hck ?_
  rintro _ w2 ⟨rfl, hp2⟩
  have hp2 := hp1.call hp2.below
  cases hb2 : okB p f g with
  | false =>
    repeat (first | refine WC.seq ?_ | refine WC.reg ?_ | refine WL.pure rfl rfl rfl ?_ | refine WL.nil ?_ | refine WC.skip ?_ | refine WC.block ?_ | refine WC.condT rfl ?_ | refine WC.condF rfl ?_ | refine WL.off rfl rfl rfl ?_ | refine WL.off0 rfl rfl ?_ | refine WC.exit ?_ | refine blk_hit ?_ | refine blk_miss rfl ?_ | refine WC.ret ?_)
    exact Res.two rfl rfl rfl rfl ⟨fun _ => ⟨rfl, hp2.nil'⟩, fun q F G h => by cases h⟩
  | true =>
    obtain ⟨q, F, G, rfl, rfl, rfl, hq, hq2, hF, hG, lF, lG⟩ := okB_nat hb2
    rw [zs_up] at sf sg_
    rw [up_len] at hlf hlg
    rw [up_len, up_len]
    repeat (first | refine WC.seq ?_ | refine WC.reg ?_ | refine WL.pure rfl rfl rfl ?_ | refine WL.nil ?_ | refine WC.skip ?_ | refine WC.block ?_ | refine WC.condT rfl ?_ | refine WC.condF rfl ?_ | refine WL.off rfl rfl rfl ?_ | refine WL.off0 rfl rfl ?_ | refine WC.exit ?_ | refine blk_hit ?_ | refine blk_miss rfl ?_ | refine WC.ret ?_)
    refine WL.call rfl rfl rfl rfl rfl ent42 (mul_any fa ga fc gc q F G hq.pos hq2 (hF.co hq.pos) (hG.co hq.pos) hlf hlg w2 (sf.hp hp2) (sg_.hp hp2)) ?_
    rintro _ w3 ⟨a, c, rfl, hp3⟩
    have hp3 := (hp2.comb hp3).drop1
    have same : ∀ {q' : Nat} {F' G' : List Nat}, (q : Int) = q' → up F = up F' → up G = up G' → q = q' ∧ F = F' ∧ G = G' := fun e1 e2 e3 => ⟨by omega, up_inj e2, up_inj e3⟩
    repeat (first | refine WC.seq ?_ | refine WC.reg ?_ | refine WL.pure rfl rfl rfl ?_ | refine WL.nil ?_ | refine WC.skip ?_ | refine WC.block ?_ | refine WC.condT rfl ?_ | refine WC.condF rfl ?_ | refine WL.off rfl rfl rfl ?_ | refine WL.off0 rfl rfl ?_ | refine WC.exit ?_ | refine blk_hit ?_ | refine blk_miss rfl ?_ | refine WC.ret ?_)
    refine WC.cond rfl (fun h => ?_) (fun h => ?_)
    · have h : 33 < (mulL q F G).length := by have := of_decide_eq_true h; omega
      repeat (first | refine WC.seq ?_ | refine WC.reg ?_ | refine WL.pure rfl rfl rfl ?_ | refine WL.nil ?_ | refine WC.skip ?_ | refine WC.block ?_ | refine WC.condT rfl ?_ | refine WC.condF rfl ?_ | refine WL.off rfl rfl rfl ?_ | refine WL.off0 rfl rfl ?_ | refine WC.exit ?_ | refine blk_hit ?_ | refine blk_miss rfl ?_ | refine WC.ret ?_)
      refine Res.two rfl rfl rfl rfl ⟨(fun h => by cases h), fun q' F' G' _ e1 e2 e3 => ?_⟩
      obtain ⟨rfl, rfl, rfl⟩ := same e1 e2 e3
      exact ⟨fun _ => ⟨rfl, hp3.nil'⟩, fun k => by omega⟩
    · have h : ¬ 33 < (mulL q F G).length := by have := of_decide_eq_false h; omega
      repeat (first | refine WC.seq ?_ | refine WC.reg ?_ | refine WL.pure rfl rfl rfl ?_ | refine WL.nil ?_ | refine WC.skip ?_ | refine WC.block ?_ | refine WC.condT rfl ?_ | refine WC.condF rfl ?_ | refine WL.off rfl rfl rfl ?_ | refine WL.off0 rfl rfl ?_ | refine WC.exit ?_ | refine blk_hit ?_ | refine blk_miss rfl ?_ | refine WC.ret ?_)
      refine Res.two rfl rfl rfl rfl ⟨(fun h => by cases h), fun q' F' G' _ e1 e2 e3 => ?_⟩
      obtain ⟨rfl, rfl, rfl⟩ := same e1 e2 e3
      exact ⟨fun k => absurd k h, fun _ => ⟨a, c, rfl, hp3⟩⟩
end Go.Proofs.Ytagfpnnplgkkoaa
