/- The walk of the law of interpolation. -/
import Derived.Test.YtagfpnnplgkkoaaR43
namespace Go.Poly
open Go.W Go.Tree Go.RowKit
theorem prs_cells' (es : List Ed) : Cells (prs es) := by
  intro u hu
  simp only [prs, List.mem_flatMap, pr, List.mem_cons, List.not_mem_nil, or_false] at hu
  obtain ⟨e, _, rfl | rfl⟩ := hu <;> rfl
theorem prs_take' : ∀ (es : List Ed) (m : Nat), (prs es).take (m * 2) = prs (es.take m)
  | [], m => by simp [prs]
  | e :: es, 0 => by simp [prs]
  | e :: es, m + 1 => by
    have ih := prs_take' es m
    simp only [prs, List.flatMap_cons, List.take_succ_cons] at ih ⊢
    rw [← ih, show (m + 1) * 2 = (pr e).length + m * 2 by simp [pr]; omega, List.take_length_add_append]
theorem gd_succ {p : Int} {l : List Ed} {i : Nat} : Gd p l (i + 1) ↔ Gd p l i ∧ (0 ≤ Xz l i ∧ Xz l i < p ∧ 0 ≤ Yz l i ∧ Yz l i < p) ∧ ¬ ∃ j, j < i ∧ Xz l j = Xz l i := by
  constructor
  · exact fun h => ⟨h.less (by omega), h.1 i (by omega), fun ⟨j, hj, e⟩ => h.2 j i hj (by omega) e⟩
  · rintro ⟨h1, h2, h3⟩
    refine ⟨fun j hj => ?_, fun j k hjk hk => ?_⟩
    · by_cases h : j = i
      · subst h; exact h2
      · exact h1.1 j (by omega)
    · by_cases h : k = i
      · subst h; exact fun e => h3 ⟨j, hjk, e⟩
      · exact h1.2 j k hjk (by omega)
theorem gd_zero (p : Int) (l : List Ed) : Gd p l 0 := ⟨fun j hj => by omega, fun j k _ hk => by omega⟩
theorem pt_pair {w : World} {b o : Nat} {l : List Ed} {j : Nat} (h : j < l.length) (sl : Sl w (some ⟨b, o, none⟩) (prs l)) : ∀ (q : Nat) (u : Value), ([Value.int .i64 (Xz l j), Value.int .i64 (Yz l j)] : List Value)[q]? = some u → w.cell? ⟨b, o + j * 2 + q, none⟩ = some u := by
  intro q u hq
  obtain ⟨b', o', e, hc⟩ := sl _ _ (pt_cells h q u hq)
  simp only [Option.some.injEq, Addr.mk.injEq] at e
  rw [e.1, e.2.1, Nat.add_assoc]; exact hc
end Go.Poly
namespace Go.Proofs.Ytagfpnnplgkkoaa
open Go.W Go.Poly Go.Tree Go.RowKit
set_option maxRecDepth 100000
attribute [local irreducible] WC WL WQ WS WH

set_option maxHeartbeats 1000000 in
theorem PolyPoints_any (p : Int) (la : Option Addr) (lc : Nat) (ls : List Ed) (w : World) (sl : Sl w la (prs ls)) (hlc : ls.length ≤ lc) :
    Ret Try.prog 8 [.int .i64 p, .slice la ls.length lc] w fun u w' => u = .bool true ∧ Hp w w' [] := by
  refine enter Try.func8 rfl rfl ⟨rfl, rfl⟩ rfl ?_
  have hm : min ((ls.length : Nat) : Int) 40 = (((ls.take 40).length : Nat) : Int) := by rw [List.length_take]; omega
  have hl := List.length_take (i := 40) (l := ls)
  repeat (first | refine WC.seq ?_ | refine WC.reg ?_ | refine WL.pure rfl rfl rfl ?_ | refine WL.nil ?_ | refine WC.skip ?_ | refine WC.block ?_ | refine WC.condT rfl ?_ | refine WC.condF rfl ?_ | refine WL.off rfl rfl rfl ?_ | refine WL.off0 rfl rfl ?_ | refine WC.exit ?_ | refine blk_hit ?_ | refine blk_miss rfl ?_ | refine WC.ret ?_)
  refine WL.known (d := 16) (congrArg (fun z => some (Value.int .i64 z)) hm) ?_
  refine WL.sliceHi rfl rfl rfl rfl rfl rfl (by omega) ?_
  refine WL.append 0 ((Hp.start w).nilrow 50 2) rfl rfl rfl rfl rfl (by decide) rfl rfl rfl (news := prs (ls.take 40)) (by rw [← prs_take']; exact sl.take _) (by rw [prs_len]; rfl) (prs_cells' _) (by unfold maxLen; omega) (by show (0 + (ls.take 40).length) * 16 ≤ _; omega) ?_
  intro oa oc w2 hp2 hg2
  rw [Nat.zero_add] at hp2 ⊢
  rw [List.nil_append] at hp2
  have hl40 : (ls.take 40).length ≤ 40 := by omega
  clear hm hl hg2 sl
  generalize ls.take 40 = l at *
  have so : Sl w2 oa (prs l) := Sl.of_row (hp2.at 0 rfl)
  repeat (first | refine WC.seq ?_ | refine WC.reg ?_ | refine WL.pure rfl rfl rfl ?_ | refine WL.nil ?_ | refine WC.skip ?_ | refine WC.block ?_ | refine WC.condT rfl ?_ | refine WC.condF rfl ?_ | refine WL.off rfl rfl rfl ?_ | refine WL.off0 rfl rfl ?_ | refine WC.exit ?_ | refine blk_hit ?_ | refine blk_miss rfl ?_ | refine WC.ret ?_)
  refine WL.append 0 (hp2.nilrow 50 2) rfl rfl rfl rfl rfl (by decide) rfl rfl rfl (news := prs l) so (by rw [prs_len]; rfl) (prs_cells' _) (by unfold maxLen; omega) (by show (0 + l.length) * 16 ≤ _; omega) ?_
  intro ga gc w3 hp3 hg3
  rw [Nat.zero_add] at hp3 ⊢
  rw [List.nil_append] at hp3
  have sg3 : Sl w3 ga (prs l) := Sl.of_row (hp3.at 0 rfl)
  have so3 : Sl w3 oa (prs l) := Sl.of_row (hp3.at 1 rfl)
  have hw3 := hp3.nil'
  clear hp3 hg3 so hp2 w2
  repeat (first | refine WC.seq ?_ | refine WC.reg ?_ | refine WL.pure rfl rfl rfl ?_ | refine WL.nil ?_ | refine WC.skip ?_ | refine WC.block ?_ | refine WC.condT rfl ?_ | refine WC.condF rfl ?_ | refine WL.off rfl rfl rfl ?_ | refine WL.off0 rfl rfl ?_ | refine WC.exit ?_ | refine blk_hit ?_ | refine blk_miss rfl ?_ | refine WC.ret ?_)
  refine WL.call rfl rfl rfl rfl rfl ent32 (Through_any p ga gc l (by omega) w3 sg3) ?_
  rintro u w4 ⟨t1, t2⟩
  obtain ⟨v, ev, rfl, hp4, hcase⟩ : ∃ v ev, u = .tuple #[v, .int .i64 ev] ∧ Hp w3 w4 [] ∧ (((fieldB p = false ∨ 33 < l.length ∨ ¬ Gd p l l.length) ∧ v = .slice none 0 0 ∧ ev = 2) ∨
      (¬ (fieldB p = false ∨ 33 < l.length ∨ ¬ Gd p l l.length) ∧ ev = 0 ∧ ∃ q : Nat, p = q ∧ Pri q ∧ q ≤ 1021 ∧ l.length ≤ 33 ∧ Gd p l l.length ∧ Pd w4 v (thL q (Xn l) (Yn l) l.length).1)) := by
    by_cases hB : fieldB p = false ∨ 33 < l.length ∨ ¬ Gd p l l.length
    · obtain ⟨rfl, h⟩ := t1 hB
      exact ⟨_, _, rfl, h, .inl ⟨hB, rfl, rfl⟩⟩
    · have hf : fieldB p = true := by
        cases h : fieldB p with
        | true => rfl
        | false => exact absurd (.inl h) hB
      have hn : l.length ≤ 33 := Nat.le_of_not_lt fun h => hB (.inr (.inl h))
      have hG : Gd p l l.length := Classical.byContradiction fun h => hB (.inr (.inr h))
      obtain ⟨q, rfl, hq, hq2⟩ := fieldB_pri hf
      obtain ⟨v, rfl, h⟩ := t2 q hf rfl hn hG
      exact ⟨_, _, rfl, h.nil', .inr ⟨hB, rfl, q, rfl, hq, hq2, hn, hG, Pd.row h 0 rfl⟩⟩
  clear t1 t2
  have hw4 := hw3.over hp4
  have sg4 := sg3.hp hp4
  have so4 := so3.hp hp4
  clear hw3 sg3 so3 hp4
  repeat refine WL.pure rfl rfl rfl ?_
  refine WL.nil ?_
  repeat (first | refine WC.seq ?_ | refine WC.skip ?_ | refine WC.block ?_)
  refine WC.mid Bool (fun c => [(0, .int .i64 p), (5, .slice oa l.length oc), (6, .slice ga l.length gc), (7, v), (8, .int .i64 ev), (9, .bool c)]) (fun c w' => w' = w4 ∧ (c = true ↔ fieldB p = false ∨ 33 < l.length)) ?_ ?_
  · repeat (first | refine WC.seq ?_ | refine WC.reg ?_ | refine WL.pure rfl rfl rfl ?_ | refine WL.nil ?_ | refine WC.skip ?_ | refine WC.block ?_ | refine WC.condT rfl ?_ | refine WC.condF rfl ?_ | refine WL.off rfl rfl rfl ?_ | refine WL.off0 rfl rfl ?_ | refine WC.exit ?_ | refine blk_hit ?_ | refine blk_miss rfl ?_ | refine WC.ret ?_)
    refine WL.callP rfl rfl rfl rfl rfl ent19 (Field_any p w4) ?_
    cases hf : fieldB p with
    | false =>
      repeat (first | refine WC.seq ?_ | refine WC.reg ?_ | refine WL.pure rfl rfl rfl ?_ | refine WL.nil ?_ | refine WC.skip ?_ | refine WC.block ?_ | refine WC.condT rfl ?_ | refine WC.condF rfl ?_ | refine WL.off rfl rfl rfl ?_ | refine WL.off0 rfl rfl ?_ | refine WC.exit ?_ | refine blk_hit ?_ | refine blk_miss rfl ?_ | refine WC.ret ?_)
      exact ⟨true, ⟨rfl, rfl, rfl, rfl, rfl, rfl, rfl⟩, rfl, by simp⟩
    | true =>
      repeat (first | refine WC.seq ?_ | refine WC.reg ?_ | refine WL.pure rfl rfl rfl ?_ | refine WL.nil ?_ | refine WC.skip ?_ | refine WC.block ?_ | refine WC.condT rfl ?_ | refine WC.condF rfl ?_ | refine WL.off rfl rfl rfl ?_ | refine WL.off0 rfl rfl ?_ | refine WC.exit ?_ | refine blk_hit ?_ | refine blk_miss rfl ?_ | refine WC.ret ?_)
      refine ⟨_, ⟨rfl, rfl, rfl, rfl, rfl, rfl, rfl⟩, rfl, ?_⟩
      simp
      omega
  rintro c e2 w5 hsub ⟨rfl, hc⟩
  refine WC.sub hsub ?_
  clear hsub
  repeat (first | refine WC.seq ?_ | refine WC.reg ?_ | refine WL.pure rfl rfl rfl ?_ | refine WL.nil ?_ | refine WC.skip ?_ | refine WC.block ?_ | refine WC.condT rfl ?_ | refine WC.condF rfl ?_ | refine WL.off rfl rfl rfl ?_ | refine WL.off0 rfl rfl ?_ | refine WC.exit ?_ | refine blk_hit ?_ | refine blk_miss rfl ?_ | refine WC.ret ?_)
  refine WC.loop (Nat × Bool) (fun (i, c) => [(0, .int .i64 p), (5, .slice oa l.length oc), (6, .slice ga l.length gc), (7, v), (8, .int .i64 ev), (9, .bool c), (10, .int .i64 (i : Nat))])
    (fun (i, c) w' => i ≤ l.length ∧ Hp w5 w' [] ∧ (c = true ↔ fieldB p = false ∨ 33 < l.length ∨ ¬ Gd p l i)) (fun (i, _) => l.length - i) (0, c) ⟨rfl, rfl, rfl, rfl, rfl, rfl, rfl, rfl⟩ ⟨Nat.zero_le _, Hp.start w5, by rw [hc]; have := gd_zero p l; simp [this]⟩ ?_
  clear hc c
  rintro ⟨i, c⟩ w6 ⟨hi, hp6, hc⟩
  repeat (first | refine WC.seq ?_ | refine WC.reg ?_ | refine WL.pure rfl rfl rfl ?_ | refine WL.nil ?_ | refine WC.skip ?_ | refine WC.block ?_ | refine WC.condT rfl ?_ | refine WC.condF rfl ?_ | refine WL.off rfl rfl rfl ?_ | refine WL.off0 rfl rfl ?_ | refine WC.exit ?_ | refine blk_hit ?_ | refine blk_miss rfl ?_ | refine WC.ret ?_)
  refine WC.cond rfl (fun h => ?_) (fun h => ?_)
  · have hi : i < l.length := by have := of_decide_eq_true h; omega
    have step : IntKind.i64.wrap ((i : Int) + 1) = ((i + 1 : Nat) : Int) := by rw [wrap_i64_in (by omega) (by omega)]; omega
    obtain ⟨bo, oo, rfl⟩ := Sl.some so4 (pt_cells hi 0 _ rfl)
    obtain ⟨bg, og, rfl⟩ := Sl.some sg4 (pt_cells hi 0 _ rfl)
    repeat (first | refine WC.seq ?_ | refine WC.reg ?_ | refine WL.pure rfl rfl rfl ?_ | refine WL.nil ?_ | refine WC.skip ?_ | refine WC.block ?_ | refine WC.condT rfl ?_ | refine WC.condF rfl ?_ | refine WL.off rfl rfl rfl ?_ | refine WL.off0 rfl rfl ?_ | refine WC.exit ?_ | refine blk_hit ?_ | refine blk_miss rfl ?_ | refine WC.ret ?_)
    refine WC.regQ (fun w2 => Hp w5 w2 []) mixed (by kernel_rfl) (fun w2 hw2 => hp6.keep hw2) ?_
    repeat (first | refine WQ.pure rfl rfl rfl ?_ | refine WQ.off rfl rfl rfl ?_ | refine WQ.nil ?_)
    refine WQ.ix rfl rfl rfl rfl rfl rfl hi ?_
    refine WQ.loadN (cs := [.int .i64 (Xz l i), .int .i64 (Yz l i)]) rfl rfl rfl rfl rfl rfl (fun w2 h2 => pt_pair hi (sg4.hp h2)) ?_
    repeat (first | refine WQ.pure rfl rfl rfl ?_ | refine WQ.off rfl rfl rfl ?_ | refine WQ.nil ?_)
    refine WQ.ix rfl rfl rfl rfl rfl rfl hi ?_
    refine WQ.loadN (cs := [.int .i64 (Xz l i), .int .i64 (Yz l i)]) rfl rfl rfl rfl rfl rfl (fun w2 h2 => pt_pair hi (so4.hp h2)) ?_
    refine WQ.cmp2 rfl rfl rfl rfl (by kernel_rfl) rfl rfl (.inr ⟨rfl, rfl⟩) ?_
    repeat (first | refine WQ.pure rfl rfl rfl ?_ | refine WQ.off rfl rfl rfl ?_ | refine WQ.nil ?_)
    intro w7 hp7
    repeat (first | refine WC.seq ?_ | refine WC.reg ?_ | refine WL.pure rfl rfl rfl ?_ | refine WL.nil ?_ | refine WC.skip ?_ | refine WC.block ?_ | refine WC.condT rfl ?_ | refine WC.condF rfl ?_ | refine WL.off rfl rfl rfl ?_ | refine WL.off0 rfl rfl ?_ | refine WC.exit ?_ | refine blk_hit ?_ | refine blk_miss rfl ?_ | refine WC.ret ?_)
    refine WC.cond rfl (fun hq => ?_) (fun _ => ?_)
    · simp at hq
    repeat (first | refine WC.seq ?_ | refine WC.skip ?_ | refine WC.block ?_)
    refine WC.mid Bool (fun c => [(0, .int .i64 p), (5, .slice (some ⟨bo, oo, none⟩) l.length oc), (6, .slice (some ⟨bg, og, none⟩) l.length gc), (7, v), (8, .int .i64 ev), (10, .int .i64 (i : Nat)), (9, .bool c)])
      (fun c' w' => w' = w7 ∧ (c' = true ↔ c = true ∨ ¬ (0 ≤ Xz l i ∧ Xz l i < p ∧ 0 ≤ Yz l i ∧ Yz l i < p))) ?_ ?_
    · have so7 := so4.hp hp7
      cases c with
      | true =>
        repeat (first | refine WC.seq ?_ | refine WC.reg ?_ | refine WL.pure rfl rfl rfl ?_ | refine WL.nil ?_ | refine WC.skip ?_ | refine WC.block ?_ | refine WC.condT rfl ?_ | refine WC.condF rfl ?_ | refine WL.off rfl rfl rfl ?_ | refine WL.off0 rfl rfl ?_ | refine WC.exit ?_ | refine blk_hit ?_ | refine blk_miss rfl ?_ | refine WC.ret ?_)
        exact ⟨true, ⟨rfl, rfl, rfl, rfl, rfl, rfl, rfl, rfl⟩, rfl, by simp⟩
      | false =>
        clear hc
        repeat (first | refine WC.seq ?_ | refine WC.reg ?_ | refine WL.pure rfl rfl rfl ?_ | refine WL.nil ?_ | refine WC.skip ?_ | refine WC.block ?_ | refine WC.condT rfl ?_ | refine WC.condF rfl ?_ | refine WL.off rfl rfl rfl ?_ | refine WL.off0 rfl rfl ?_ | refine WC.exit ?_ | refine blk_hit ?_ | refine blk_miss rfl ?_ | refine WC.ret ?_)
        refine WL.ix rfl rfl rfl rfl rfl hi rfl ?_
        repeat (first | refine WC.seq ?_ | refine WC.reg ?_ | refine WL.pure rfl rfl rfl ?_ | refine WL.nil ?_ | refine WC.skip ?_ | refine WC.block ?_ | refine WC.condT rfl ?_ | refine WC.condF rfl ?_ | refine WL.off rfl rfl rfl ?_ | refine WL.off0 rfl rfl ?_ | refine WC.exit ?_ | refine blk_hit ?_ | refine blk_miss rfl ?_ | refine WC.ret ?_)
        refine WL.load rfl rfl rfl rfl rfl (pt_fst hi so7) ?_
        repeat (first | refine WC.seq ?_ | refine WC.reg ?_ | refine WL.pure rfl rfl rfl ?_ | refine WL.nil ?_ | refine WC.skip ?_ | refine WC.block ?_ | refine WC.condT rfl ?_ | refine WC.condF rfl ?_ | refine WL.off rfl rfl rfl ?_ | refine WL.off0 rfl rfl ?_ | refine WC.exit ?_ | refine blk_hit ?_ | refine blk_miss rfl ?_ | refine WC.ret ?_)
        refine WL.split 60 rfl (fun h1 => ?_) (fun h1 => ?_)
        · have h1 : Xz l i < 0 := of_decide_eq_true h1
          repeat (first | refine WC.seq ?_ | refine WC.reg ?_ | refine WL.pure rfl rfl rfl ?_ | refine WL.nil ?_ | refine WC.skip ?_ | refine WC.block ?_ | refine WC.condT rfl ?_ | refine WC.condF rfl ?_ | refine WL.off rfl rfl rfl ?_ | refine WL.off0 rfl rfl ?_ | refine WC.exit ?_ | refine blk_hit ?_ | refine blk_miss rfl ?_ | refine WC.ret ?_)
          exact ⟨true, ⟨rfl, rfl, rfl, rfl, rfl, rfl, rfl, rfl⟩, rfl, by simp; omega⟩
        have h1 : ¬ Xz l i < 0 := of_decide_eq_false h1
        repeat (first | refine WC.seq ?_ | refine WC.reg ?_ | refine WL.pure rfl rfl rfl ?_ | refine WL.nil ?_ | refine WC.skip ?_ | refine WC.block ?_ | refine WC.condT rfl ?_ | refine WC.condF rfl ?_ | refine WL.off rfl rfl rfl ?_ | refine WL.off0 rfl rfl ?_ | refine WC.exit ?_ | refine blk_hit ?_ | refine blk_miss rfl ?_ | refine WC.ret ?_)
        refine WL.ix rfl rfl rfl rfl rfl hi rfl ?_
        repeat (first | refine WC.seq ?_ | refine WC.reg ?_ | refine WL.pure rfl rfl rfl ?_ | refine WL.nil ?_ | refine WC.skip ?_ | refine WC.block ?_ | refine WC.condT rfl ?_ | refine WC.condF rfl ?_ | refine WL.off rfl rfl rfl ?_ | refine WL.off0 rfl rfl ?_ | refine WC.exit ?_ | refine blk_hit ?_ | refine blk_miss rfl ?_ | refine WC.ret ?_)
        refine WL.load rfl rfl rfl rfl rfl (pt_fst hi so7) ?_
        repeat (first | refine WC.seq ?_ | refine WC.reg ?_ | refine WL.pure rfl rfl rfl ?_ | refine WL.nil ?_ | refine WC.skip ?_ | refine WC.block ?_ | refine WC.condT rfl ?_ | refine WC.condF rfl ?_ | refine WL.off rfl rfl rfl ?_ | refine WL.off0 rfl rfl ?_ | refine WC.exit ?_ | refine blk_hit ?_ | refine blk_miss rfl ?_ | refine WC.ret ?_)
        refine WL.split 69 rfl (fun h2 => ?_) (fun h2 => ?_)
        · have h2 : p ≤ Xz l i := of_decide_eq_true h2
          repeat (first | refine WC.seq ?_ | refine WC.reg ?_ | refine WL.pure rfl rfl rfl ?_ | refine WL.nil ?_ | refine WC.skip ?_ | refine WC.block ?_ | refine WC.condT rfl ?_ | refine WC.condF rfl ?_ | refine WL.off rfl rfl rfl ?_ | refine WL.off0 rfl rfl ?_ | refine WC.exit ?_ | refine blk_hit ?_ | refine blk_miss rfl ?_ | refine WC.ret ?_)
          exact ⟨true, ⟨rfl, rfl, rfl, rfl, rfl, rfl, rfl, rfl⟩, rfl, by simp; omega⟩
        have h2 : ¬ p ≤ Xz l i := of_decide_eq_false h2
        repeat (first | refine WC.seq ?_ | refine WC.reg ?_ | refine WL.pure rfl rfl rfl ?_ | refine WL.nil ?_ | refine WC.skip ?_ | refine WC.block ?_ | refine WC.condT rfl ?_ | refine WC.condF rfl ?_ | refine WL.off rfl rfl rfl ?_ | refine WL.off0 rfl rfl ?_ | refine WC.exit ?_ | refine blk_hit ?_ | refine blk_miss rfl ?_ | refine WC.ret ?_)
        refine WL.ix rfl rfl rfl rfl rfl hi rfl ?_
        repeat (first | refine WC.seq ?_ | refine WC.reg ?_ | refine WL.pure rfl rfl rfl ?_ | refine WL.nil ?_ | refine WC.skip ?_ | refine WC.block ?_ | refine WC.condT rfl ?_ | refine WC.condF rfl ?_ | refine WL.off rfl rfl rfl ?_ | refine WL.off0 rfl rfl ?_ | refine WC.exit ?_ | refine blk_hit ?_ | refine blk_miss rfl ?_ | refine WC.ret ?_)
        refine WL.load rfl rfl rfl rfl rfl (pt_snd hi so7) ?_
        repeat (first | refine WC.seq ?_ | refine WC.reg ?_ | refine WL.pure rfl rfl rfl ?_ | refine WL.nil ?_ | refine WC.skip ?_ | refine WC.block ?_ | refine WC.condT rfl ?_ | refine WC.condF rfl ?_ | refine WL.off rfl rfl rfl ?_ | refine WL.off0 rfl rfl ?_ | refine WC.exit ?_ | refine blk_hit ?_ | refine blk_miss rfl ?_ | refine WC.ret ?_)
        refine WL.split 77 rfl (fun h3 => ?_) (fun h3 => ?_)
        · have h3 : Yz l i < 0 := of_decide_eq_true h3
          repeat (first | refine WC.seq ?_ | refine WC.reg ?_ | refine WL.pure rfl rfl rfl ?_ | refine WL.nil ?_ | refine WC.skip ?_ | refine WC.block ?_ | refine WC.condT rfl ?_ | refine WC.condF rfl ?_ | refine WL.off rfl rfl rfl ?_ | refine WL.off0 rfl rfl ?_ | refine WC.exit ?_ | refine blk_hit ?_ | refine blk_miss rfl ?_ | refine WC.ret ?_)
          exact ⟨true, ⟨rfl, rfl, rfl, rfl, rfl, rfl, rfl, rfl⟩, rfl, by simp; omega⟩
        have h3 : ¬ Yz l i < 0 := of_decide_eq_false h3
        repeat (first | refine WC.seq ?_ | refine WC.reg ?_ | refine WL.pure rfl rfl rfl ?_ | refine WL.nil ?_ | refine WC.skip ?_ | refine WC.block ?_ | refine WC.condT rfl ?_ | refine WC.condF rfl ?_ | refine WL.off rfl rfl rfl ?_ | refine WL.off0 rfl rfl ?_ | refine WC.exit ?_ | refine blk_hit ?_ | refine blk_miss rfl ?_ | refine WC.ret ?_)
        refine WL.ix rfl rfl rfl rfl rfl hi rfl ?_
        repeat (first | refine WC.seq ?_ | refine WC.reg ?_ | refine WL.pure rfl rfl rfl ?_ | refine WL.nil ?_ | refine WC.skip ?_ | refine WC.block ?_ | refine WC.condT rfl ?_ | refine WC.condF rfl ?_ | refine WL.off rfl rfl rfl ?_ | refine WL.off0 rfl rfl ?_ | refine WC.exit ?_ | refine blk_hit ?_ | refine blk_miss rfl ?_ | refine WC.ret ?_)
        refine WL.load rfl rfl rfl rfl rfl (pt_snd hi so7) ?_
        repeat (first | refine WC.seq ?_ | refine WC.reg ?_ | refine WL.pure rfl rfl rfl ?_ | refine WL.nil ?_ | refine WC.skip ?_ | refine WC.block ?_ | refine WC.condT rfl ?_ | refine WC.condF rfl ?_ | refine WL.off rfl rfl rfl ?_ | refine WL.off0 rfl rfl ?_ | refine WC.exit ?_ | refine blk_hit ?_ | refine blk_miss rfl ?_ | refine WC.ret ?_)
        refine ⟨decide (p ≤ Yz l i), ⟨rfl, rfl, rfl, rfl, rfl, rfl, rfl, rfl⟩, rfl, ?_⟩
        rw [decide_eq_true_iff]
        simp
        omega
    rintro c' e3 w8 hsub ⟨rfl, hc'⟩
    refine WC.sub hsub ?_
    clear hsub
    repeat (first | refine WC.seq ?_ | refine WC.reg ?_ | refine WL.pure rfl rfl rfl ?_ | refine WL.nil ?_ | refine WC.skip ?_ | refine WC.block ?_ | refine WC.condT rfl ?_ | refine WC.condF rfl ?_ | refine WL.off rfl rfl rfl ?_ | refine WL.off0 rfl rfl ?_ | refine WC.exit ?_ | refine blk_hit ?_ | refine blk_miss rfl ?_ | refine WC.ret ?_)
    refine WC.loop (Nat × Bool) (fun (k, c) => [(0, .int .i64 p), (5, .slice (some ⟨bo, oo, none⟩) l.length oc), (6, .slice (some ⟨bg, og, none⟩) l.length gc), (7, v), (8, .int .i64 ev), (10, .int .i64 (i : Nat)), (9, .bool c), (11, .int .i64 (k : Nat))])
      (fun (k, c) w' => k ≤ i ∧ Hp w5 w' [] ∧ (c = true ↔ c' = true ∨ ∃ j, j < k ∧ Xz l j = Xz l i)) (fun (k, _) => i - k) (0, c') ⟨rfl, rfl, rfl, rfl, rfl, rfl, rfl, rfl, rfl⟩ ⟨Nat.zero_le _, hp7, by simp⟩ ?_
    rintro ⟨k, c2⟩ w9 ⟨hk, hp9, hc2⟩
    repeat (first | refine WC.seq ?_ | refine WC.reg ?_ | refine WL.pure rfl rfl rfl ?_ | refine WL.nil ?_ | refine WC.skip ?_ | refine WC.block ?_ | refine WC.condT rfl ?_ | refine WC.condF rfl ?_ | refine WL.off rfl rfl rfl ?_ | refine WL.off0 rfl rfl ?_ | refine WC.exit ?_ | refine blk_hit ?_ | refine blk_miss rfl ?_ | refine WC.ret ?_)
    refine WC.cond rfl (fun h => ?_) (fun h => ?_)
    · have hk : k < i := by have := of_decide_eq_true h; omega
      have stepk : IntKind.i64.wrap ((k : Int) + 1) = ((k + 1 : Nat) : Int) := by rw [wrap_i64_in (by omega) (by omega)]; omega
      have hkl : k < l.length := by omega
      have nx : (∃ j, j < k + 1 ∧ Xz l j = Xz l i) ↔ (∃ j, j < k ∧ Xz l j = Xz l i) ∨ Xz l k = Xz l i := by
        constructor
        · rintro ⟨j, hj, e⟩
          by_cases h : j = k
          · subst h; exact .inr e
          · exact .inl ⟨j, by omega, e⟩
        · rintro (⟨j, hj, e⟩ | e)
          · exact ⟨j, by omega, e⟩
          · exact ⟨k, by omega, e⟩
      repeat (first | refine WC.seq ?_ | refine WC.reg ?_ | refine WL.pure rfl rfl rfl ?_ | refine WL.nil ?_ | refine WC.skip ?_ | refine WC.block ?_ | refine WC.condT rfl ?_ | refine WC.condF rfl ?_ | refine WL.off rfl rfl rfl ?_ | refine WL.off0 rfl rfl ?_ | refine WC.exit ?_ | refine blk_hit ?_ | refine blk_miss rfl ?_ | refine WC.ret ?_)
      refine WC.regQ (fun w2 => Hp w5 w2 []) mixed (by kernel_rfl) (fun w2 hw2 => hp9.keep hw2) ?_
      cases c2 with
      | true =>
        repeat (first | refine WQ.pure rfl rfl rfl ?_ | refine WQ.off rfl rfl rfl ?_ | refine WQ.nil ?_)
        intro wA hpA
        repeat (first | refine WC.seq ?_ | refine WC.reg ?_ | refine WL.pure rfl rfl rfl ?_ | refine WL.nil ?_ | refine WC.skip ?_ | refine WC.block ?_ | refine WC.condT rfl ?_ | refine WC.condF rfl ?_ | refine WL.off rfl rfl rfl ?_ | refine WL.off0 rfl rfl ?_ | refine WC.exit ?_ | refine blk_hit ?_ | refine blk_miss rfl ?_ | refine WC.ret ?_)
        exact ⟨(k + 1, true), by show i - (k + 1) < i - k; omega, ⟨rfl, rfl, rfl, rfl, rfl, rfl, rfl, congrArg (fun z => some (Value.int .i64 z)) stepk, rfl⟩, hk, hpA, by rw [nx, ← or_assoc, ← hc2]; simp⟩
      | false =>
        repeat (first | refine WQ.pure rfl rfl rfl ?_ | refine WQ.off rfl rfl rfl ?_ | refine WQ.nil ?_)
        refine WQ.ix rfl rfl rfl rfl rfl rfl hkl ?_
        repeat (first | refine WQ.pure rfl rfl rfl ?_ | refine WQ.off rfl rfl rfl ?_ | refine WQ.nil ?_)
        refine WQ.load rfl rfl rfl rfl rfl (fun w' h => pt_fst hkl (so4.hp h)) ?_
        repeat (first | refine WQ.pure rfl rfl rfl ?_ | refine WQ.off rfl rfl rfl ?_ | refine WQ.nil ?_)
        refine WQ.ix rfl rfl rfl rfl rfl rfl hi ?_
        repeat (first | refine WQ.pure rfl rfl rfl ?_ | refine WQ.off rfl rfl rfl ?_ | refine WQ.nil ?_)
        refine WQ.load rfl rfl rfl rfl rfl (fun w' h => pt_fst hi (so4.hp h)) ?_
        repeat (first | refine WQ.pure rfl rfl rfl ?_ | refine WQ.off rfl rfl rfl ?_ | refine WQ.nil ?_)
        intro wA hpA
        repeat (first | refine WC.seq ?_ | refine WC.reg ?_ | refine WL.pure rfl rfl rfl ?_ | refine WL.nil ?_ | refine WC.skip ?_ | refine WC.block ?_ | refine WC.condT rfl ?_ | refine WC.condF rfl ?_ | refine WL.off rfl rfl rfl ?_ | refine WL.off0 rfl rfl ?_ | refine WC.exit ?_ | refine blk_hit ?_ | refine blk_miss rfl ?_ | refine WC.ret ?_)
        refine ⟨(k + 1, _), by show i - (k + 1) < i - k; omega, ⟨rfl, rfl, rfl, rfl, rfl, rfl, rfl, congrArg (fun z => some (Value.int .i64 z)) stepk, rfl⟩, hk, hpA, ?_⟩
        rw [nx, ← or_assoc, ← hc2]
        simp
    · have hk : k = i := by have := of_decide_eq_false h; omega
      subst hk
      repeat (first | refine WC.seq ?_ | refine WC.reg ?_ | refine WL.pure rfl rfl rfl ?_ | refine WL.nil ?_ | refine WC.skip ?_ | refine WC.block ?_ | refine WC.condT rfl ?_ | refine WC.condF rfl ?_ | refine WL.off rfl rfl rfl ?_ | refine WL.off0 rfl rfl ?_ | refine WC.exit ?_ | refine blk_hit ?_ | refine blk_miss rfl ?_ | refine WC.ret ?_)
      refine ⟨(k + 1, c2), by show l.length - (k + 1) < l.length - k; omega, ⟨rfl, rfl, rfl, rfl, rfl, rfl, congrArg (fun z => some (Value.int .i64 z)) step, rfl⟩, hi, hp9, ?_⟩
      rw [hc2, hc', hc, gd_succ]
      generalize Gd p l k = A
      generalize (0 ≤ Xz l k ∧ Xz l k < p ∧ 0 ≤ Yz l k ∧ Yz l k < p) = B
      generalize (∃ j, j < k ∧ Xz l j = Xz l k) = C
      generalize (33 < l.length) = D
      by_cases A <;> by_cases B <;> by_cases C <;> by_cases D <;> simp [*]
  · have hi : i = l.length := by have := of_decide_eq_false h; omega
    subst hi
    have hpo := hp6
    cases c with
    | true =>
      have hB := hc.1 rfl
      rcases hcase with ⟨-, rfl, rfl⟩ | ⟨h, -⟩
      · repeat (first | refine WC.seq ?_ | refine WC.reg ?_ | refine WL.pure rfl rfl rfl ?_ | refine WL.nil ?_ | refine WC.skip ?_ | refine WC.block ?_ | refine WC.condT rfl ?_ | refine WC.condF rfl ?_ | refine WL.off rfl rfl rfl ?_ | refine WL.off0 rfl rfl ?_ | refine WC.exit ?_ | refine blk_hit ?_ | refine blk_miss rfl ?_ | refine WC.ret ?_)
        refine WL.call rfl rfl rfl rfl rfl ent21 (awake_any w6) ?_
        rintro _ wB ⟨rfl, hpB⟩
        repeat (first | refine WC.seq ?_ | refine WC.reg ?_ | refine WL.pure rfl rfl rfl ?_ | refine WL.nil ?_ | refine WC.skip ?_ | refine WC.block ?_ | refine WC.condT rfl ?_ | refine WC.condF rfl ?_ | refine WL.off rfl rfl rfl ?_ | refine WL.off0 rfl rfl ?_ | refine WC.exit ?_ | refine blk_hit ?_ | refine blk_miss rfl ?_ | refine WC.ret ?_)
        exact Res.one rfl rfl rfl ⟨rfl, (hw4.over hp6).over hpB⟩
      · exact absurd hB h
    | false =>
      rcases hcase with ⟨h, -⟩ | ⟨hnB, rfl, q, rfl, hq, hq2, hn, hG, dv⟩
      · exact absurd (hc.2 h) (by simp)
      · have lth := (th_inv hq l.length hG.pts).lf
        repeat (first | refine WC.seq ?_ | refine WC.reg ?_ | refine WL.pure rfl rfl rfl ?_ | refine WL.nil ?_ | refine WC.skip ?_ | refine WC.block ?_ | refine WC.condT rfl ?_ | refine WC.condF rfl ?_ | refine WL.off rfl rfl rfl ?_ | refine WL.off0 rfl rfl ?_ | refine WC.exit ?_ | refine blk_hit ?_ | refine blk_miss rfl ?_ | refine WC.ret ?_)
        refine WL.call rfl rfl rfl rfl rfl ent33 (RThrough_pd q oa oc l hq hq2 hn hG w6 (so4.hp hp6)) ?_
        rintro r wA hpA
        rw [← through_eq hq hG.pts] at hpA
        refine WL.call rfl rfl rfl rfl rfl ent18 (Same_pd v r _ _ (by omega) wA ((dv.hp hp6).hp hpA) (Pd.row hpA 0 rfl)) ?_
        rintro _ wB ⟨rfl, hpB⟩
        rw [decide_eq_true rfl]
        repeat (first | refine WC.seq ?_ | refine WC.reg ?_ | refine WL.pure rfl rfl rfl ?_ | refine WL.nil ?_ | refine WC.skip ?_ | refine WC.block ?_ | refine WC.condT rfl ?_ | refine WC.condF rfl ?_ | refine WL.off rfl rfl rfl ?_ | refine WL.off0 rfl rfl ?_ | refine WC.exit ?_ | refine blk_hit ?_ | refine blk_miss rfl ?_ | refine WC.ret ?_)
        refine WL.call rfl rfl rfl rfl rfl ent21 (awake_any wB) ?_
        rintro _ wC ⟨rfl, hpC⟩
        repeat (first | refine WC.seq ?_ | refine WC.reg ?_ | refine WL.pure rfl rfl rfl ?_ | refine WL.nil ?_ | refine WC.skip ?_ | refine WC.block ?_ | refine WC.condT rfl ?_ | refine WC.condF rfl ?_ | refine WL.off rfl rfl rfl ?_ | refine WL.off0 rfl rfl ?_ | refine WC.exit ?_ | refine blk_hit ?_ | refine blk_miss rfl ?_ | refine WC.ret ?_)
        exact Res.one rfl rfl rfl ⟨rfl, (((hw4.over hp6).over hpA.nil').over hpB).over hpC⟩
end Go.Proofs.Ytagfpnnplgkkoaa
