/- The walk of WordsRelated. -/
import Derived.Test.YtoghnhbjdnjghaaV40
namespace Go.Words
open Go.W Go.Proofs.Ytoghnhbjdnjghaa
/-- Equal never tells equal strings apart. -/
theorem EqM_rel {l : List Rl} {k : Nat} {x y : Str} (hg : Lg 97 3 l) (hs : Sm 24 l) (hl : l.length ≤ 64) (hk : k ≤ 12) (hx : Dg 97 3 x) (hy : Dg 97 3 y) (hxl : x.length ≤ 200) (hyl : y.length ≤ 200) (hc : Cg l x y) :
    EqM l (k : Nat) x y = (0, 5) ∨ EqM l (k : Nat) x y = (1, 0) ∨ EqM l (k : Nat) x y = (-1, 0) := by
  obtain ⟨he, hd⟩ := comp_tame hg hs hl hk
  have hE : EqM l (k : Nat) x y = match completeM l k with
    | none => (0, 5)
    | some (t, b) => match formsM t (x, y) with
      | none => (0, 5)
      | some q => if q.1 = q.2 then (1, 0) else if b then (0, 0) else (-1, 0) := by
    unfold EqM
    rw [he, strB_dg hx hxl, strB_dg hy hyl, Int.toNat_natCast]
    cases completeM l k <;> rfl
  obtain ⟨hn, _⟩ | ⟨t, c, hn, _, hK, hCe, _, hC, _, _⟩ := hd
  · rw [hn] at hE; exact .inl hE
  · rw [hn] at hE
    simp only at hE
    cases hf : formsM t (x, y) with
    | none => rw [hf] at hE; exact .inl hE
    | some q =>
      rw [hf] at hE
      simp only at hE
      by_cases hq : q.1 = q.2
      · rw [if_pos hq] at hE; exact .inr (.inl hE)
      · rw [if_neg hq] at hE
        cases c with
        | true => exact absurd (forms_eq hK (hC rfl) hf ((hCe x y).1 hc)) hq
        | false => exact .inr (.inr hE)
theorem replM_dg {off b : Nat} {s : Str} {i : Nat} {r : Rl} (h1 : Dg off b s) (h2 : Dg off b r.2) : Dg off b (replM s i r) := by
  unfold replM
  rw [Dg.app, Dg.app]
  exact ⟨fun c hc => h1 c (List.mem_of_mem_take hc), h2, fun c hc => h1 c (List.mem_of_mem_drop hc)⟩
end Go.Words
namespace Go.Proofs.Ytoghnhbjdnjghaa
open Go.W Go.Words Go.RowKit
set_option maxRecDepth 100000
attribute [local irreducible] WC WL WQ WS WH

set_option maxHeartbeats 1000000 in
theorem WordsRelated_any (a : Option Addr) (cap : Nat) (l : List Rl) (s0 : Str) (za : Option Addr) (zc : Nat) (ch : List Int) (hlen : l.length ≤ 9223372036854775807) (hsm : Sm 9223372036854775807 l) (hs0 : s0.length ≤ 9223372036854775807) (w : World) (hmx : Mx w) (hs : Sl w a (rcs l)) (hz : Sl w za (zs ch)) :
    Ret Try.prog 5 [.slice a l.length cap, st s0, .slice za ch.length zc] w fun u w' => u = .bool true ∧ Hp w w' [] := by
  have hTl := tameM_len l 5 5 3
  have hTs := tameM_sm l 5 5 3
  have hTg := tameM_lg l 5 5 (k := 3) (by decide) (by decide)
  have hsl := wordM_len s0 12 3
  have hsg := wordM_dg s0 12 (many := 3) (by decide) (by decide)
  refine enter Try.func5 rfl rfl ⟨rfl, rfl⟩ rfl ?_
  repeat (first | refine WC.seq ?_ | refine WC.reg ?_ | refine WL.pure rfl rfl rfl ?_ | refine WL.nil ?_ | refine WC.skip ?_ | refine WC.block ?_ | refine WC.condT rfl ?_ | refine WC.condF rfl ?_ | refine WL.off rfl rfl rfl ?_ | refine WL.off0 rfl rfl ?_ | refine WC.exit ?_ | refine blk_hit ?_ | refine blk_miss rfl ?_ | refine WC.ret ?_)
  refine WL.call rfl rfl rfl rfl rfl ent9 (tame_any a cap l 5 5 3 (by decide) (by decide) (by decide) (by decide) hlen hsm w hs) ?_
  rintro _ w1 ⟨qa, qc, rfl, hp1⟩
  generalize tameM l 5 5 3 = T at *
  repeat (first | refine WC.seq ?_ | refine WC.reg ?_ | refine WL.pure rfl rfl rfl ?_ | refine WL.nil ?_ | refine WC.skip ?_ | refine WC.block ?_ | refine WC.condT rfl ?_ | refine WC.condF rfl ?_ | refine WL.off rfl rfl rfl ?_ | refine WL.off0 rfl rfl ?_ | refine WC.exit ?_ | refine blk_hit ?_ | refine blk_miss rfl ?_ | refine WC.ret ?_)
  refine WL.call rfl rfl rfl rfl rfl ent11 (word_any s0 12 3 hs0 (by decide) (by decide) (by decide) w1) ?_
  rintro _ w2 ⟨rfl, hp2⟩
  have hp2 := hp1.comb hp2
  have hp2 : Hp w w2 [Rt (.slice qa T.length qc) T] := hp2
  generalize wordM s0 12 3 = s at *
  repeat (first | refine WC.seq ?_ | refine WC.reg ?_ | refine WL.pure rfl rfl rfl ?_ | refine WL.nil ?_ | refine WC.skip ?_ | refine WC.block ?_ | refine WC.condT rfl ?_ | refine WC.condF rfl ?_ | refine WL.off rfl rfl rfl ?_ | refine WL.off0 rfl rfl ?_ | refine WC.exit ?_ | refine blk_hit ?_ | refine blk_miss rfl ?_ | refine WC.ret ?_)
  refine WC.loop (Nat × Str) (fun (i, u) => [(2, .slice za ch.length zc), (7, .slice qa T.length qc), (8, st s), (9, st u), (10, .int .i64 (i : Nat))])
    (fun (i, u) w' => i ≤ 8 ∧ Cg T s u ∧ u.length ≤ 100 ∧ Dg 97 3 u ∧ Hp w w' [Rt (.slice qa T.length qc) T]) (fun (i, _) => 8 - i) (0, s) ⟨rfl, rfl, rfl, rfl, rfl, rfl⟩ ⟨Nat.zero_le _, .rfl _, by omega, hsg, hp2⟩ ?_
  clear hp2 hp1
  rintro ⟨i, u⟩ w3 ⟨hi, hcg, hul, hug, hp3⟩
  repeat (first | refine WC.seq ?_ | refine WC.skip ?_ | refine WC.block ?_)
  refine WC.mid Bool (fun q => [(2, .slice za ch.length zc), (7, .slice qa T.length qc), (8, st s), (9, st u), (10, .int .i64 (i : Nat)), (32, .bool q)]) (fun q w' => w' = w3 ∧ (q = true → i < ch.length ∧ i < 8 ∧ 0 < T.length)) ?_ ?_
  · repeat (first | refine WC.seq ?_ | refine WC.reg ?_ | refine WL.pure rfl rfl rfl ?_ | refine WL.nil ?_ | refine WC.skip ?_ | refine WC.block ?_ | refine WC.condT rfl ?_ | refine WC.condF rfl ?_ | refine WL.off rfl rfl rfl ?_ | refine WL.off0 rfl rfl ?_ | refine WC.exit ?_ | refine blk_hit ?_ | refine blk_miss rfl ?_ | refine WC.ret ?_)
    refine WL.split 24 rfl (fun h1 => ?_) (fun h1 => ?_)
    · have h1 : i < ch.length := by have := of_decide_eq_true h1; omega
      repeat (first | refine WC.seq ?_ | refine WC.reg ?_ | refine WL.pure rfl rfl rfl ?_ | refine WL.nil ?_ | refine WC.skip ?_ | refine WC.block ?_ | refine WC.condT rfl ?_ | refine WC.condF rfl ?_ | refine WL.off rfl rfl rfl ?_ | refine WL.off0 rfl rfl ?_ | refine WC.exit ?_ | refine blk_hit ?_ | refine blk_miss rfl ?_ | refine WC.ret ?_)
      refine WL.split 28 rfl (fun h2 => ?_) (fun h2 => ?_)
      · have h2 : i < 8 := by have := of_decide_eq_true h2; omega
        repeat (first | refine WC.seq ?_ | refine WC.reg ?_ | refine WL.pure rfl rfl rfl ?_ | refine WL.nil ?_ | refine WC.skip ?_ | refine WC.block ?_ | refine WC.condT rfl ?_ | refine WC.condF rfl ?_ | refine WL.off rfl rfl rfl ?_ | refine WL.off0 rfl rfl ?_ | refine WC.exit ?_ | refine blk_hit ?_ | refine blk_miss rfl ?_ | refine WC.ret ?_)
        exact ⟨_, ⟨rfl, rfl, rfl, rfl, rfl, rfl, rfl⟩, rfl, fun h => ⟨h1, h2, by have := of_decide_eq_true h; omega⟩⟩
      · repeat (first | refine WC.seq ?_ | refine WC.reg ?_ | refine WL.pure rfl rfl rfl ?_ | refine WL.nil ?_ | refine WC.skip ?_ | refine WC.block ?_ | refine WC.condT rfl ?_ | refine WC.condF rfl ?_ | refine WL.off rfl rfl rfl ?_ | refine WL.off0 rfl rfl ?_ | refine WC.exit ?_ | refine blk_hit ?_ | refine blk_miss rfl ?_ | refine WC.ret ?_)
        exact ⟨false, ⟨rfl, rfl, rfl, rfl, rfl, rfl, rfl⟩, rfl, fun h => by cases h⟩
    · repeat (first | refine WC.seq ?_ | refine WC.reg ?_ | refine WL.pure rfl rfl rfl ?_ | refine WL.nil ?_ | refine WC.skip ?_ | refine WC.block ?_ | refine WC.condT rfl ?_ | refine WC.condF rfl ?_ | refine WL.off rfl rfl rfl ?_ | refine WL.off0 rfl rfl ?_ | refine WC.exit ?_ | refine blk_hit ?_ | refine blk_miss rfl ?_ | refine WC.ret ?_)
      exact ⟨false, ⟨rfl, rfl, rfl, rfl, rfl, rfl, rfl⟩, rfl, fun h => by cases h⟩
  rintro q e4 w4 hsub ⟨hw4, hq⟩
  obtain rfl := hw4.symm
  refine WC.sub hsub ?_
  clear hsub
  repeat (first | refine WC.seq ?_ | refine WC.reg ?_ | refine WL.pure rfl rfl rfl ?_ | refine WL.nil ?_ | refine WC.skip ?_ | refine WC.block ?_ | refine WC.condT rfl ?_ | refine WC.condF rfl ?_ | refine WL.off rfl rfl rfl ?_ | refine WL.off0 rfl rfl ?_ | refine WC.exit ?_ | refine blk_hit ?_ | refine blk_miss rfl ?_ | refine WC.ret ?_)
  refine WC.cond rfl (fun hc => ?_) (fun hc => ?_)
  · obtain ⟨hi1, hi2, hT0⟩ := hq hc
    have step := wrap_succ hi2 (by omega)
    obtain ⟨zb, zo, rfl, hcell⟩ := zs_cell (hz.hp hp3) hi1
    obtain ⟨tb, to, rfl⟩ := rcs_some (Sl.of_row (hp3.at 0 rfl)) hT0
    have hlt := modN_lt hT0 ch[i]
    repeat (first | refine WC.seq ?_ | refine WC.reg ?_ | refine WL.pure rfl rfl rfl ?_ | refine WL.nil ?_ | refine WC.skip ?_ | refine WC.block ?_ | refine WC.condT rfl ?_ | refine WC.condF rfl ?_ | refine WL.off rfl rfl rfl ?_ | refine WL.off0 rfl rfl ?_ | refine WC.exit ?_ | refine blk_hit ?_ | refine blk_miss rfl ?_ | refine WC.ret ?_)
    refine WL.ix1 rfl rfl rfl rfl rfl rfl rfl hi1 ?_
    refine WL.load rfl rfl rfl rfl rfl hcell ?_
    repeat (first | refine WC.seq ?_ | refine WC.reg ?_ | refine WL.pure rfl rfl rfl ?_ | refine WL.nil ?_ | refine WC.skip ?_ | refine WC.block ?_ | refine WC.condT rfl ?_ | refine WC.condF rfl ?_ | refine WL.off rfl rfl rfl ?_ | refine WL.off0 rfl rfl ?_ | refine WC.exit ?_ | refine blk_hit ?_ | refine blk_miss rfl ?_ | refine WC.ret ?_)
    refine WL.callP rfl rfl rfl rfl rfl ent15 (modO_any ch[i] T.length hT0 (by omega) w3) ?_
    generalize modN ch[i] T.length = m at *
    refine WL.ixload2 rfl (fun _ => rfl) rfl rfl rfl rfl rfl rfl rfl hlt rfl rfl (Sl.of_row (hp3.at 0 rfl)) hlt ?_
    intro pp
    have hmem : T[m] ∈ T := List.getElem_mem hlt
    have hsz := hTs.at_ hlt
    have hgm := hTg _ hmem
    have hrc : Cg T T[m].1 T[m].2 := Cg.of_mem hmem
    generalize T[m] = r at *
    refine WL.alloc rfl rfl rfl ?_
    intro b11 w5 hb11
    have hp5 := hp3.new hb11
    repeat (first | refine WC.seq ?_ | refine WC.reg ?_ | refine WL.pure rfl rfl rfl ?_ | refine WL.nil ?_ | refine WC.skip ?_ | refine WC.block ?_ | refine WC.condT rfl ?_ | refine WC.condF rfl ?_ | refine WL.off rfl rfl rfl ?_ | refine WL.off0 rfl rfl ?_ | refine WC.exit ?_ | refine blk_hit ?_ | refine blk_miss rfl ?_ | refine WC.ret ?_)
    refine WL.storeN (vs := (rc r).toArray) (arr2 := (rc r).toArray) rfl rfl rfl rfl rfl (rc_one _) (hp5.obj 0 rfl) (Nat.le_refl 2) rfl (fun w6 hw6 => ?_)
    have hp6 : Hp w w6 [Bx b11 r, Rt (.slice (some ⟨tb, to, none⟩) T.length qc) T] := hp5.set 0 rfl rfl hw6
    clear hp5 hb11
    refine WL.nil ?_
    refine WC.seq ?_
    refine WC.mid Rl (fun r => [(2, .slice (some ⟨zb, zo, none⟩) ch.length zc), (7, .slice (some ⟨tb, to, none⟩) T.length qc), (8, st s), (9, st u), (10, .int .i64 (i : Nat)), (11, .pointer (some ⟨b11, 0, none⟩))])
      (fun r w' => Hp w w' [Bx b11 r, Rt (.slice (some ⟨tb, to, none⟩) T.length qc) T] ∧ r.1.length ≤ 5 ∧ r.2.length ≤ 5 ∧ Dg 97 3 r.1 ∧ Dg 97 3 r.2 ∧ Cg T r.1 r.2) ?_ ?_
    · obtain ⟨zb2, zo2, hze, hcell6⟩ := zs_cell (hz.hp hp6) hi1
      simp only [Option.some.injEq, Addr.mk.injEq, and_true] at hze
      obtain ⟨rfl, rfl⟩ := hze
      repeat (first | refine WC.seq ?_ | refine WC.reg ?_ | refine WL.pure rfl rfl rfl ?_ | refine WL.nil ?_ | refine WC.skip ?_ | refine WC.block ?_ | refine WC.condT rfl ?_ | refine WC.condF rfl ?_ | refine WL.off rfl rfl rfl ?_ | refine WL.off0 rfl rfl ?_ | refine WC.exit ?_ | refine blk_hit ?_ | refine blk_miss rfl ?_ | refine WC.ret ?_)
      refine WL.ix1 rfl rfl rfl rfl rfl rfl rfl hi1 ?_
      refine WL.load rfl rfl rfl rfl rfl hcell6 ?_
      repeat (first | refine WC.seq ?_ | refine WC.reg ?_ | refine WL.pure rfl rfl rfl ?_ | refine WL.nil ?_ | refine WC.skip ?_ | refine WC.block ?_ | refine WC.condT rfl ?_ | refine WC.condF rfl ?_ | refine WL.off rfl rfl rfl ?_ | refine WL.off0 rfl rfl ?_ | refine WC.exit ?_ | refine blk_hit ?_ | refine blk_miss rfl ?_ | refine WC.ret ?_)
      refine WC.cond rfl (fun _ => ?_) (fun _ => ?_)
      · repeat (first | refine WC.seq ?_ | refine WC.reg ?_ | refine WL.pure rfl rfl rfl ?_ | refine WL.nil ?_ | refine WC.skip ?_ | refine WC.block ?_ | refine WC.condT rfl ?_ | refine WC.condF rfl ?_ | refine WL.off rfl rfl rfl ?_ | refine WL.off0 rfl rfl ?_ | refine WC.exit ?_ | refine blk_hit ?_ | refine blk_miss rfl ?_ | refine WC.ret ?_)
        refine WL.loadB rfl rfl rfl rfl rfl (hp6.obj 0 rfl) (j := 1) rfl ?_
        repeat (first | refine WC.seq ?_ | refine WC.reg ?_ | refine WL.pure rfl rfl rfl ?_ | refine WL.nil ?_ | refine WC.skip ?_ | refine WC.block ?_ | refine WC.condT rfl ?_ | refine WC.condF rfl ?_ | refine WL.off rfl rfl rfl ?_ | refine WL.off0 rfl rfl ?_ | refine WC.exit ?_ | refine blk_hit ?_ | refine blk_miss rfl ?_ | refine WC.ret ?_)
        refine WL.loadB rfl rfl rfl rfl rfl (hp6.obj 0 rfl) (j := 0) rfl ?_
        refine WL.buildT (cs := [st r.2, st r.1]) rfl rfl rfl rfl rfl rfl ?_
        refine WL.storeN (vs := (rc (r.2, r.1)).toArray) (arr2 := (rc (r.2, r.1)).toArray) rfl rfl rfl rfl rfl (rc_one _) (hp6.obj 0 rfl) (Nat.le_refl 2) rfl (fun w7 hw7 => ?_)
        have hp7 : Hp w w7 [Bx b11 (r.2, r.1), Rt (.slice (some ⟨tb, to, none⟩) T.length qc) T] := hp6.set 0 rfl rfl hw7
        refine WL.nil ?_
        exact ⟨(r.2, r.1), ⟨rfl, rfl, rfl, rfl, rfl, rfl, rfl⟩, hp7, hsz.2, hsz.1, hgm.2, hgm.1, hrc.symm⟩
      · repeat (first | refine WC.seq ?_ | refine WC.reg ?_ | refine WL.pure rfl rfl rfl ?_ | refine WL.nil ?_ | refine WC.skip ?_ | refine WC.block ?_ | refine WC.condT rfl ?_ | refine WC.condF rfl ?_ | refine WL.off rfl rfl rfl ?_ | refine WL.off0 rfl rfl ?_ | refine WC.exit ?_ | refine blk_hit ?_ | refine blk_miss rfl ?_ | refine WC.ret ?_)
        exact ⟨r, ⟨rfl, rfl, rfl, rfl, rfl, rfl, rfl⟩, hp6, hsz.1, hsz.2, hgm.1, hgm.2, hrc⟩
    clear hgm hrc hsz hmem hlt hcell hp6 pp
    rintro r e8 w8 hsub8 ⟨hp8, hr1, hr2, hg1, hg2, hrc⟩
    refine WC.sub hsub8 ?_
    clear hsub8
    obtain ⟨zb2, zo2, hze, hcell8⟩ := zs_cell (hz.hp hp8) hi1
    simp only [Option.some.injEq, Addr.mk.injEq, and_true] at hze
    obtain ⟨rfl, rfl⟩ := hze
    have hsucc : IntKind.i64.wrap (((u.length : Nat) : Int) + 1) = ((u.length + 1 : Nat) : Int) := by rw [wrap_i64_in (by omega) (by omega)]; omega
    repeat (first | refine WC.seq ?_ | refine WC.reg ?_ | refine WL.pure rfl rfl rfl ?_ | refine WL.nil ?_ | refine WC.skip ?_ | refine WC.block ?_ | refine WC.condT rfl ?_ | refine WC.condF rfl ?_ | refine WL.off rfl rfl rfl ?_ | refine WL.off0 rfl rfl ?_ | refine WC.exit ?_ | refine blk_hit ?_ | refine blk_miss rfl ?_ | refine WC.ret ?_)
    refine WL.ix1 rfl rfl rfl rfl rfl rfl rfl hi1 ?_
    refine WL.load rfl rfl rfl rfl rfl hcell8 ?_
    refine WL.quo rfl rfl rfl rfl (by decide) ?_
    generalize IntKind.i64.wrap (ch[i].tdiv 7) = z2
    repeat (first | refine WC.seq ?_ | refine WC.reg ?_ | refine WL.pure rfl rfl rfl ?_ | refine WL.nil ?_ | refine WC.skip ?_ | refine WC.block ?_ | refine WC.condT rfl ?_ | refine WC.condF rfl ?_ | refine WL.off rfl rfl rfl ?_ | refine WL.off0 rfl rfl ?_ | refine WC.exit ?_ | refine blk_hit ?_ | refine blk_miss rfl ?_ | refine WC.ret ?_)
    refine WL.known (d := 63) (congrArg (fun z => some (Value.int .i64 z)) hsucc) ?_
    refine WL.callP rfl rfl rfl rfl rfl ent15 (modO_any z2 (u.length + 1) (by omega) (by omega) w8) ?_
    have hm := modN_lt (n := u.length + 1) (by omega) z2
    generalize modN z2 (u.length + 1) = m2 at *
    have hadd : IntKind.i64.wrap (((m2 : Nat) : Int) + ((r.1.length : Nat) : Int)) = ((m2 + r.1.length : Nat) : Int) := by rw [wrap_i64_in (by omega) (by omega)]; omega
    have hadd2 : IntKind.i64.wrap (((u.length : Nat) : Int) + ((r.2.length : Nat) : Int)) = ((u.length + r.2.length : Nat) : Int) := by rw [wrap_i64_in (by omega) (by omega)]; omega
    repeat (first | refine WC.seq ?_ | refine WC.reg ?_ | refine WL.pure rfl rfl rfl ?_ | refine WL.nil ?_ | refine WC.skip ?_ | refine WC.block ?_ | refine WC.condT rfl ?_ | refine WC.condF rfl ?_ | refine WL.off rfl rfl rfl ?_ | refine WL.off0 rfl rfl ?_ | refine WC.exit ?_ | refine blk_hit ?_ | refine blk_miss rfl ?_ | refine WC.ret ?_)
    refine WC.mid Bool (fun q => [(2, .slice (some ⟨zb, zo, none⟩) ch.length zc), (7, .slice (some ⟨tb, to, none⟩) T.length qc), (8, st s), (9, st u), (10, .int .i64 (i : Nat)), (11, .pointer (some ⟨b11, 0, none⟩)), (12, .int .i64 (m2 : Nat)), (94, .bool q)])
      (fun q w' => (q = true → m2 + r.1.length ≤ u.length ∧ (u.drop m2).take r.1.length = r.1 ∧ u.length + r.2.length < 100) ∧ Hp w w' [Bx b11 r, Rt (.slice (some ⟨tb, to, none⟩) T.length qc) T]) ?_ ?_
    · refine WC.regQ (fun w' => Hp w w' [Bx b11 r, Rt (.slice (some ⟨tb, to, none⟩) T.length qc) T]) mixed (by kernel_rfl) (fun w' hw' => hp8.keep hw') ?_
      repeat (first | refine WQ.pure rfl rfl rfl ?_ | refine WQ.off rfl rfl rfl ?_ | refine WQ.nil ?_)
      refine WQ.load rfl rfl rfl rfl rfl (fun w' hw' => cell_of_obj (j := 0) (hw'.obj 0 rfl) rfl) ?_
      repeat (first | refine WQ.pure rfl rfl rfl ?_ | refine WQ.off rfl rfl rfl ?_ | refine WQ.nil ?_)
      refine WQ.split 73 rfl (fun h1 => ?_) (fun h1 => ?_)
      · have h1 : m2 + r.1.length ≤ u.length := by
          have h2 := of_decide_eq_true h1
          rw [sb_size, sb_size, hadd] at h2
          omega
        repeat (first | refine WQ.pure rfl rfl rfl ?_ | refine WQ.off rfl rfl rfl ?_ | refine WQ.nil ?_)
        refine WQ.load rfl rfl rfl rfl rfl (fun w' hw' => cell_of_obj (j := 0) (hw'.obj 0 rfl) rfl) ?_
        repeat (first | refine WQ.pure rfl rfl rfl ?_ | refine WQ.off rfl rfl rfl ?_ | refine WQ.nil ?_)
        refine WQ.known (d := 80) (congrArg (fun z => some (Value.int .i64 z)) hadd) ?_
        refine WQ.sSl (a := m2) (b := m2 + r.1.length) rfl rfl rfl rfl rfl rfl (by omega) h1 ?_
        repeat (first | refine WQ.pure rfl rfl rfl ?_ | refine WQ.off rfl rfl rfl ?_ | refine WQ.nil ?_)
        refine WQ.load rfl rfl rfl rfl rfl (fun w' hw' => cell_of_obj (j := 0) (hw'.obj 0 rfl) rfl) ?_
        refine WQ.sCmp rfl rfl rfl rfl rfl ?_
        repeat (first | refine WQ.pure rfl rfl rfl ?_ | refine WQ.off rfl rfl rfl ?_ | refine WQ.nil ?_)
        refine WQ.split 86 rfl (fun h2 => ?_) (fun h2 => ?_)
        · have h2 := of_decide_eq_true h2
          rw [Nat.add_sub_cancel_left] at h2
          repeat (first | refine WQ.pure rfl rfl rfl ?_ | refine WQ.off rfl rfl rfl ?_ | refine WQ.nil ?_)
          refine WQ.load rfl rfl rfl rfl rfl (fun w' hw' => cell_of_obj (j := 1) (hw'.obj 0 rfl) rfl) ?_
          repeat (first | refine WQ.pure rfl rfl rfl ?_ | refine WQ.off rfl rfl rfl ?_ | refine WQ.nil ?_)
          intro w' hw'
          refine ⟨_, ⟨rfl, rfl, rfl, rfl, rfl, rfl, rfl, rfl, rfl⟩, fun h => ⟨h1, h2, ?_⟩, hw'⟩
          have h3 := of_decide_eq_true h
          rw [sb_size, sb_size, hadd2] at h3
          omega
        · repeat (first | refine WQ.pure rfl rfl rfl ?_ | refine WQ.off rfl rfl rfl ?_ | refine WQ.nil ?_)
          intro w' hw'
          exact ⟨false, ⟨rfl, rfl, rfl, rfl, rfl, rfl, rfl, rfl, rfl⟩, (fun h => by cases h), hw'⟩
      · repeat (first | refine WQ.pure rfl rfl rfl ?_ | refine WQ.off rfl rfl rfl ?_ | refine WQ.nil ?_)
        intro w' hw'
        exact ⟨false, ⟨rfl, rfl, rfl, rfl, rfl, rfl, rfl, rfl, rfl⟩, (fun h => by cases h), hw'⟩
    rintro q e9 w9 hsub9 ⟨hq9, hp9⟩
    refine WC.sub hsub9 ?_
    clear hsub9
    refine WC.cond rfl (fun h4 => ?_) (fun h4 => ?_)
    · obtain ⟨k1, k2, k3⟩ := hq9 h4
      have hu : u = u.take m2 ++ (r.1 ++ u.drop (m2 + r.1.length)) := by
        conv => lhs; rw [← List.take_append_drop m2 u, ← List.take_append_drop r.1.length (u.drop m2), k2, List.drop_drop]
      have hnew : Cg T u (replM u m2 r) := by
        have := hrc.ctx (u.take m2) (u.drop (m2 + r.1.length))
        rw [← hu] at this
        exact this
      have hnl := replM_le (s := u) (i := m2) (r := r)
      have hng := replM_dg (i := m2) hug hg2
      have hdef : replM u m2 r = u.take m2 ++ r.2 ++ (u.drop (m2 + r.1.length)).take (u.length - (m2 + r.1.length)) := by
        unfold replM
        rw [List.take_of_length_le (i := u.length - (m2 + r.1.length)) (by rw [List.length_drop]; omega), List.append_assoc]
      repeat (first | refine WC.seq ?_ | refine WC.skip ?_ | refine WC.block ?_)
      refine WC.mid Unit (fun _ => [(2, .slice (some ⟨zb, zo, none⟩) ch.length zc), (7, .slice (some ⟨tb, to, none⟩) T.length qc), (8, st s), (9, st (replM u m2 r)), (10, .int .i64 (i : Nat))])
        (fun _ w' => Hp w w' [Bx b11 r, Rt (.slice (some ⟨tb, to, none⟩) T.length qc) T]) ?_ ?_
      · refine WC.regQ (fun w' => Hp w w' [Bx b11 r, Rt (.slice (some ⟨tb, to, none⟩) T.length qc) T]) mixed (by kernel_rfl) (fun w' hw' => hp9.keep hw') ?_
        repeat (first | refine WQ.pure rfl rfl rfl ?_ | refine WQ.off rfl rfl rfl ?_ | refine WQ.nil ?_)
        refine WQ.sSl (a := 0) (b := m2) rfl rfl rfl rfl rfl rfl (Nat.zero_le _) (by omega) ?_
        repeat (first | refine WQ.pure rfl rfl rfl ?_ | refine WQ.off rfl rfl rfl ?_ | refine WQ.nil ?_)
        refine WQ.load rfl rfl rfl rfl rfl (fun w' hw' => cell_of_obj (j := 1) (hw'.obj 0 rfl) rfl) ?_
        refine WQ.sCat rfl rfl rfl rfl (by rw [List.length_take]; omega) ?_
        repeat (first | refine WQ.pure rfl rfl rfl ?_ | refine WQ.off rfl rfl rfl ?_ | refine WQ.nil ?_)
        refine WQ.load rfl rfl rfl rfl rfl (fun w' hw' => cell_of_obj (j := 0) (hw'.obj 0 rfl) rfl) ?_
        repeat (first | refine WQ.pure rfl rfl rfl ?_ | refine WQ.off rfl rfl rfl ?_ | refine WQ.nil ?_)
        refine WQ.known (d := 106) (congrArg (fun z => some (Value.int .i64 z)) hadd) ?_
        refine WQ.sSl (a := m2 + r.1.length) (b := u.length) rfl rfl rfl rfl rfl rfl k1 (Nat.le_refl _) ?_
        refine WQ.sCat rfl rfl rfl rfl (by simp only [List.length_append, List.length_take, List.length_drop]; omega) ?_
        rw [List.drop_zero, Nat.sub_zero, ← hdef]
        repeat (first | refine WQ.pure rfl rfl rfl ?_ | refine WQ.off rfl rfl rfl ?_ | refine WQ.nil ?_)
        intro w' hw'
        exact ⟨(), ⟨rfl, rfl, rfl, rfl, rfl, rfl⟩, hw'⟩
      rintro ⟨⟩ e10 w10 hsub10 hp10
      refine WC.sub hsub10 ?_
      repeat (first | refine WC.seq ?_ | refine WC.reg ?_ | refine WL.pure rfl rfl rfl ?_ | refine WL.nil ?_ | refine WC.skip ?_ | refine WC.block ?_ | refine WC.condT rfl ?_ | refine WC.condF rfl ?_ | refine WL.off rfl rfl rfl ?_ | refine WL.off0 rfl rfl ?_ | refine WC.exit ?_ | refine blk_hit ?_ | refine blk_miss rfl ?_ | refine WC.ret ?_)
      exact ⟨(i + 1, replM u m2 r), (by show 8 - (i + 1) < 8 - i; omega), ⟨rfl, rfl, rfl, rfl, congrArg (fun z => some (Value.int .i64 z)) step, rfl⟩, by omega, hcg.trans hnew, by omega, hng, hp10.tail⟩
    · repeat (first | refine WC.seq ?_ | refine WC.reg ?_ | refine WL.pure rfl rfl rfl ?_ | refine WL.nil ?_ | refine WC.skip ?_ | refine WC.block ?_ | refine WC.condT rfl ?_ | refine WC.condF rfl ?_ | refine WL.off rfl rfl rfl ?_ | refine WL.off0 rfl rfl ?_ | refine WC.exit ?_ | refine blk_hit ?_ | refine blk_miss rfl ?_ | refine WC.ret ?_)
      exact ⟨(i + 1, u), (by show 8 - (i + 1) < 8 - i; omega), ⟨rfl, rfl, rfl, rfl, congrArg (fun z => some (Value.int .i64 z)) step, rfl⟩, by omega, hcg, hul, hug, hp9.tail⟩
  have hE := EqM_rel (k := 5) hTg (hTs.mono (by decide)) (by omega) (by decide) hsg hug (by omega) (by omega) hcg
  repeat (first | refine WC.seq ?_ | refine WC.reg ?_ | refine WL.pure rfl rfl rfl ?_ | refine WL.nil ?_ | refine WC.skip ?_ | refine WC.block ?_ | refine WC.condT rfl ?_ | refine WC.condF rfl ?_ | refine WL.off rfl rfl rfl ?_ | refine WL.off0 rfl rfl ?_ | refine WC.exit ?_ | refine blk_hit ?_ | refine blk_miss rfl ?_ | refine WC.ret ?_)
  refine WL.call rfl rfl rfl rfl rfl ent17 (Equal_any qa qc T (5 : Nat) s u (hTs.mono (by decide)) (by omega) (by omega) w3 (hmx.hp hp3) (Sl.of_row (hp3.at 0 rfl))) ?_
  rintro _ w5 ⟨rfl, hp5⟩
  have hp5 := hp3.comb hp5
  rcases hE with hE | hE | hE
  all_goals
    rw [hE]
    repeat (first | refine WC.seq ?_ | refine WC.reg ?_ | refine WL.pure rfl rfl rfl ?_ | refine WL.nil ?_ | refine WC.skip ?_ | refine WC.block ?_ | refine WC.condT rfl ?_ | refine WC.condF rfl ?_ | refine WL.off rfl rfl rfl ?_ | refine WL.off0 rfl rfl ?_ | refine WC.exit ?_ | refine blk_hit ?_ | refine blk_miss rfl ?_ | refine WC.ret ?_)
    refine WL.call rfl rfl rfl rfl rfl ent10 (awake_any w5 (hmx.hp hp5)) ?_
    rintro _ w9 ⟨rfl, hp9⟩
    repeat (first | refine WC.seq ?_ | refine WC.reg ?_ | refine WL.pure rfl rfl rfl ?_ | refine WL.nil ?_ | refine WC.skip ?_ | refine WC.block ?_ | refine WC.condT rfl ?_ | refine WC.condF rfl ?_ | refine WL.off rfl rfl rfl ?_ | refine WL.off0 rfl rfl ?_ | refine WC.exit ?_ | refine blk_hit ?_ | refine blk_miss rfl ?_ | refine WC.ret ?_)
    exact Res.one rfl rfl rfl ⟨rfl, (hp5.comb hp9).nil'⟩
end Go.Proofs.Ytoghnhbjdnjghaa
