/- The walk of WordsKeeps. -/
import Derived.Test.YtoghnhbjdnjghaaV40
import Derived.Test.YtoghnhbjdnjghaaV33a
namespace Go.Words
open Go.W Go.Proofs.Ytoghnhbjdnjghaa
theorem compN_succ : ∀ (k : Nat) (l t : List Rl), compN k l = some (t, true) → compN (k + 1) l = some (t, true) := by
  intro k
  induction k with
  | zero =>
    intro l t h
    rw [compN] at h
    cases hc : clashM l with
    | none => rw [hc] at h; cases h
    | some n =>
      rw [hc] at h
      simp only [Option.some.injEq, Prod.mk.injEq, decide_eq_true_eq] at h
      obtain ⟨rfl, hn⟩ := h
      exact compN_conf 1 hc hn
  | succ k ih =>
    intro l t h
    rw [compN] at h ⊢
    cases hr : roundM l with
    | none => rw [hr] at h; cases h
    | some nx =>
      rw [hr] at h
      simp only at h ⊢
      by_cases he : nx.length = l.length
      · rw [if_pos he] at h ⊢
        exact h
      · rw [if_neg he] at h ⊢
        cases hs : settleM nx with
        | none => rw [hs] at h; cases h
        | some q =>
          rw [hs] at h
          exact ih q t h
theorem completeM_succ {k : Nat} {l t : List Rl} (h : completeM l k = some (t, true)) : completeM l (k + 1) = some (t, true) := by
  unfold completeM at h ⊢
  cases hs : settleM (eqsM l) with
  | none => rw [hs] at h; cases h
  | some q =>
    rw [hs] at h
    exact compN_succ k q t h
theorem tidyM_self {t : List Rl} (hS : Ss t) (hn : nextI t = none) : tidyM t = some t := by
  have h1 : srtM t = t := Ss.uniq (srtM_ss t) hS (fun y => mem_srtM)
  unfold tidyM
  rw [h1, tidyN_none hn]
theorem next_none {t : List Rl} (hn : nextI t = none) {i : Nat} (hi : i < t.length) : firstM (t.eraseIdx i) t[i].1 = none ∧ firstM (t.eraseIdx i) t[i].2 = none := by
  unfold nextI at hn
  rw [List.find?_eq_none] at hn
  have h1 := hn i (List.mem_range.2 hi)
  have h2 : nrmB t i = true := by simpa using h1
  rw [nrmB_eq hi, Bool.and_eq_true, Option.isNone_iff_eq_none, Option.isNone_iff_eq_none] at h2
  exact h2
theorem left_up {t : List Rl} (hS : Ss t) (hd : Dc t) (hn : nextI t = none) {i : Nat} (hi : i < t.length) (h0 : 0 < i) : grtB t[i].1 t[i - 1].1 = true := by
  have h1 := hS.at_ (p := i - 1) (q := i) (by omega) hi (by omega)
  unfold grtB
  rw [decide_eq_true_iff, ordS_neg]
  unfold ordR at h1
  split at h1
  · rename_i h2
    exfalso
    have h3 := ordS_zero h2
    have h4 := (next_none hn hi).1
    have hmem : t[i - 1] ∈ t.eraseIdx i := List.mem_eraseIdx_iff_getElem.2 ⟨i - 1, by omega, by omega, rfl⟩
    have hne := hd.ne (List.getElem_mem (show i - 1 < t.length by omega))
    have hl : 0 < t[i].1.length := by rw [← h3]; exact List.length_pos_iff.2 hne
    have h5 := firstM_nohit h4 0 hl
    rw [List.drop_zero] at h5
    exact hit_nopre h5 hmem (by rw [h3]; exact List.prefix_refl _)
  · omega
theorem short_forms {t : List Rl} (hK : Kp3 97 3 t) {x y : Str} (hx : Dg 97 3 x) (hy : Dg 97 3 y) (hxl : x.length ≤ 6) (hyl : y.length ≤ 6) : ∃ q, formsM t (x, y) = some q := by
  have key : ∀ s, Dg 97 3 s → s.length ≤ 6 → ∃ p, normM t s = some p := by
    intro s hs hl
    refine normN_ok hK.dc hK.lg 20000 0 s hs ?_
    have h1 := vl_hi hs
    have h2 := geo_mono 3 (show s.length + 1 ≤ 7 by omega)
    have h3 : geo 3 7 = 1093 := by decide
    omega
  obtain ⟨p, hp⟩ := key x hx hxl
  obtain ⟨q, hq⟩ := key y hy hyl
  refine ⟨(p.1, q.1), ?_⟩
  unfold formsM
  simp only [hp, hq]
theorem EqM_one {l t : List Rl} {k : Nat} {x y : Str} (hg : Lg 97 3 l) (hs : Sm 24 l) (hl : l.length ≤ 64) (hk : k ≤ 12) (hx : Dg 97 3 x) (hy : Dg 97 3 y) (hxl : x.length ≤ 6) (hyl : y.length ≤ 6) (hc : Cg l x y) (hn : completeM l k = some (t, true)) :
    EqM l (k : Nat) x y = (1, 0) := by
  obtain ⟨he, _⟩ := comp_tame hg hs hl hk
  obtain ⟨hK, hCe, _, hC⟩ := completeM_cg hn hg
  obtain ⟨q, hq⟩ := short_forms hK hx hy hxl hyl
  have hqe := forms_eq hK (hC rfl) hq ((hCe x y).1 hc)
  unfold EqM
  rw [he, strB_dg hx (by omega), strB_dg hy (by omega), Int.toNat_natCast, hn]
  simp only [Bool.and_self, if_true, hq, if_pos hqe]
end Go.Words
namespace Go.Proofs.Ytoghnhbjdnjghaa
open Go.W Go.Words Go.RowKit
set_option maxRecDepth 100000
attribute [local irreducible] WC WL WQ WS WH

set_option maxHeartbeats 2000000 in
theorem WordsKeeps_any (a : Option Addr) (cap : Nat) (l : List Rl) (x : Int) (hlen : l.length ≤ 9223372036854775807) (hsm : Sm 9223372036854775807 l) (w : World) (hmx : Mx w) (hs : Sl w a (rcs l)) :
    Ret Try.prog 7 [.slice a l.length cap, .int .i64 x] w fun u w' => u = .bool true ∧ Hp w w' [] := by
  have hTl := tameM_len l 6 6 3
  have hTs := tameM_sm l 6 6 3
  have hTg := tameM_lg l 6 6 (k := 3) (by decide) (by decide)
  refine enter Try.func7 rfl rfl ⟨rfl, rfl⟩ rfl ?_
  repeat (first | refine WC.seq ?_ | refine WC.reg ?_ | refine WL.pure rfl rfl rfl ?_ | refine WL.nil ?_ | refine WC.skip ?_ | refine WC.block ?_ | refine WC.condT rfl ?_ | refine WC.condF rfl ?_ | refine WL.off rfl rfl rfl ?_ | refine WL.off0 rfl rfl ?_ | refine WC.exit ?_ | refine blk_hit ?_ | refine blk_miss rfl ?_ | refine WC.ret ?_)
  refine WL.call rfl rfl rfl rfl rfl ent9 (tame_any a cap l 6 6 3 (by decide) (by decide) (by decide) (by decide) hlen hsm w hs) ?_
  rintro _ w1 ⟨qa, qc, rfl, hp1⟩
  generalize tameM l 6 6 3 = T at *
  repeat (first | refine WC.seq ?_ | refine WC.reg ?_ | refine WL.pure rfl rfl rfl ?_ | refine WL.nil ?_ | refine WC.skip ?_ | refine WC.block ?_ | refine WC.condT rfl ?_ | refine WC.condF rfl ?_ | refine WL.off rfl rfl rfl ?_ | refine WL.off0 rfl rfl ?_ | refine WC.exit ?_ | refine blk_hit ?_ | refine blk_miss rfl ?_ | refine WC.ret ?_)
  refine WL.callP rfl rfl rfl rfl rfl ent15 (modO_any x 6 (by decide) (by decide) w1) ?_
  have hk := modN_lt (n := 6) (by decide) x
  generalize modN x 6 = k at *
  repeat (first | refine WC.seq ?_ | refine WC.reg ?_ | refine WL.pure rfl rfl rfl ?_ | refine WL.nil ?_ | refine WC.skip ?_ | refine WC.block ?_ | refine WC.condT rfl ?_ | refine WC.condF rfl ?_ | refine WL.off rfl rfl rfl ?_ | refine WL.off0 rfl rfl ?_ | refine WC.exit ?_ | refine blk_hit ?_ | refine blk_miss rfl ?_ | refine WC.ret ?_)
  refine WL.call rfl rfl rfl rfl rfl ent8 (Complete_any qa qc T (k : Nat) (hTs.mono (by decide)) w1 (hmx.hp hp1) (Sl.of_row (hp1.at 0 rfl))) ?_
  intro u w2 hu
  obtain ⟨ca, cc, rfl, hp2⟩ := hu.to
  clear hu
  have hp2 := hp1.comb hp2
  obtain ⟨_, ⟨_, hR⟩ | ⟨t, c, hcm, hR, hK, hCe, hnx, hC, hS, hsys⟩⟩ := comp_tame (k := k) hTg (hTs.mono (by decide)) (by omega) (by omega)
  · rw [hR] at hp2 ⊢
    repeat (first | refine WC.seq ?_ | refine WC.reg ?_ | refine WL.pure rfl rfl rfl ?_ | refine WL.nil ?_ | refine WC.skip ?_ | refine WC.block ?_ | refine WC.condT rfl ?_ | refine WC.condF rfl ?_ | refine WL.off rfl rfl rfl ?_ | refine WL.off0 rfl rfl ?_ | refine WC.exit ?_ | refine blk_hit ?_ | refine blk_miss rfl ?_ | refine WC.ret ?_)
    refine WL.call rfl rfl rfl rfl rfl ent10 (awake_any w2 (hmx.hp hp2)) ?_
    rintro _ w9 ⟨rfl, hp9⟩
    repeat (first | refine WC.seq ?_ | refine WC.reg ?_ | refine WL.pure rfl rfl rfl ?_ | refine WL.nil ?_ | refine WC.skip ?_ | refine WC.block ?_ | refine WC.condT rfl ?_ | refine WC.condF rfl ?_ | refine WL.off rfl rfl rfl ?_ | refine WL.off0 rfl rfl ?_ | refine WC.exit ?_ | refine blk_hit ?_ | refine blk_miss rfl ?_ | refine WC.ret ?_)
    exact Res.one rfl rfl rfl ⟨rfl, (hp2.comb hp9).nil'⟩
  rw [hR] at hp2 ⊢
  simp only at hp2 ⊢
  have hp2 : Hp w w2 [Rt (.slice ca t.length cc) t, Rt (.slice qa T.length qc) T] := hp2
  have hSl := hS.len
  repeat (first | refine WC.seq ?_ | refine WC.reg ?_ | refine WL.pure rfl rfl rfl ?_ | refine WL.nil ?_ | refine WC.skip ?_ | refine WC.block ?_ | refine WC.condT rfl ?_ | refine WC.condF rfl ?_ | refine WL.off rfl rfl rfl ?_ | refine WL.off0 rfl rfl ?_ | refine WC.exit ?_ | refine blk_hit ?_ | refine blk_miss rfl ?_ | refine WC.ret ?_)
  refine WL.call rfl rfl rfl rfl rfl ent21 (Tidy_any ca cc t (hS.sm.mono (by decide)) w2 (hmx.hp hp2) (Sl.of_row (hp2.at 0 rfl))) ?_
  intro u w3 hu
  unfold TidyQ at hu
  rw [hsys, if_pos rfl, tidyM_self hS.ss hnx] at hu
  obtain ⟨ya, yc, rfl, hp3⟩ := hu
  have hp3 := hp2.comb hp3
  repeat (first | refine WC.seq ?_ | refine WC.reg ?_ | refine WL.pure rfl rfl rfl ?_ | refine WL.nil ?_ | refine WC.skip ?_ | refine WC.block ?_ | refine WC.condT rfl ?_ | refine WC.condF rfl ?_ | refine WL.off rfl rfl rfl ?_ | refine WL.off0 rfl rfl ?_ | refine WC.exit ?_ | refine blk_hit ?_ | refine blk_miss rfl ?_ | refine WC.ret ?_)
  refine WL.call rfl rfl rfl rfl rfl ent22 (same_any ya ca yc cc t t (by omega) w3 (Sl.of_row (hp3.at 0 rfl)) (Sl.of_row (hp3.at 1 rfl))) ?_
  rintro _ w4 ⟨rfl, hp4⟩
  rw [decide_eq_true rfl]
  have hp4 := hp3.comb hp4
  repeat (first | refine WC.seq ?_ | refine WC.reg ?_ | refine WL.pure rfl rfl rfl ?_ | refine WL.nil ?_ | refine WC.skip ?_ | refine WC.block ?_ | refine WC.condT rfl ?_ | refine WC.condF rfl ?_ | refine WL.off rfl rfl rfl ?_ | refine WL.off0 rfl rfl ?_ | refine WC.exit ?_ | refine blk_hit ?_ | refine blk_miss rfl ?_ | refine WC.ret ?_)
  refine WL.call rfl rfl rfl rfl rfl ent23 (rSystem_any ca cc t (by omega) (hS.sm.mono (by decide)) w4 (Sl.of_row (hp4.at 1 rfl))) ?_
  rintro _ w5 ⟨rfl, hp5⟩
  rw [hsys]
  have hp5 := hp4.comb hp5
  have hp5 : Hp w w5 [Rt (.slice ca t.length cc) t, Rt (.slice qa T.length qc) T] := hp5.tail
  clear hp4 hp3 hp2 hp1
  have hcap : t.length ≤ cc := by
    obtain ⟨_, ⟨hv, h0⟩ | ⟨b, cap, cur, hv, _, _, hnc, _⟩⟩ := hp5.at 0 rfl
    · simp only [Value.slice.injEq] at hv; omega
    · simp only [Value.slice.injEq] at hv; omega
  repeat (first | refine WC.seq ?_ | refine WC.reg ?_ | refine WL.pure rfl rfl rfl ?_ | refine WL.nil ?_ | refine WC.skip ?_ | refine WC.block ?_ | refine WC.condT rfl ?_ | refine WC.condF rfl ?_ | refine WL.off rfl rfl rfl ?_ | refine WL.off0 rfl rfl ?_ | refine WC.exit ?_ | refine blk_hit ?_ | refine blk_miss rfl ?_ | refine WC.ret ?_)
  refine WC.loop Nat (fun i => [(5, .slice qa T.length qc), (6, .int .i64 (k : Nat)), (7, .slice ca t.length cc), (8, .bool c), (12, .int .i64 (i : Nat))])
    (fun i w' => i ≤ t.length ∧ Hp w w' [Rt (.slice ca t.length cc) t, Rt (.slice qa T.length qc) T]) (fun i => t.length - i) 0 ⟨rfl, rfl, rfl, rfl, rfl, rfl⟩ ⟨Nat.zero_le _, hp5⟩ ?_
  clear hp5
  rintro i w6 ⟨hi, hp6⟩
  repeat (first | refine WC.seq ?_ | refine WC.reg ?_ | refine WL.pure rfl rfl rfl ?_ | refine WL.nil ?_ | refine WC.skip ?_ | refine WC.block ?_ | refine WC.condT rfl ?_ | refine WC.condF rfl ?_ | refine WL.off rfl rfl rfl ?_ | refine WL.off0 rfl rfl ?_ | refine WC.exit ?_ | refine blk_hit ?_ | refine blk_miss rfl ?_ | refine WC.ret ?_)
  refine WC.cond rfl (fun hc => ?_) (fun hc => ?_)
  · have hi : i < t.length := by have := of_decide_eq_true hc; omega
    have step := wrap_succ hi (by omega)
    have hsz := hS.sm.at_ hi
    obtain ⟨hn1, hn2⟩ := next_none hnx hi
    have hup := left_up hS.ss hK.dc hnx hi
    have hs6 : Sl w6 ca (rcs t) := Sl.of_row (hp6.at 0 rfl)
    have hel : (t.eraseIdx i).length = i + (t.length - (i + 1)) := by rw [List.length_eraseIdx_of_lt hi]; omega
    have hee : rcs (t.eraseIdx i) = rcs (t.take i) ++ rcs (t.drop (i + 1)) := by rw [List.eraseIdx_eq_take_drop_succ, rcs_app]
    repeat (first | refine WC.seq ?_ | refine WC.reg ?_ | refine WL.pure rfl rfl rfl ?_ | refine WL.nil ?_ | refine WC.skip ?_ | refine WC.block ?_ | refine WC.condT rfl ?_ | refine WC.condF rfl ?_ | refine WL.off rfl rfl rfl ?_ | refine WL.off0 rfl rfl ?_ | refine WC.exit ?_ | refine blk_hit ?_ | refine blk_miss rfl ?_ | refine WC.ret ?_)
    refine WL.sliceHi (h := i) rfl rfl rfl rfl rfl rfl (by omega) ?_
    refine WL.append 0 (hp6.nilrow 38 2) rfl rfl rfl rfl rfl (by decide) rfl rfl rfl (news := rcs (t.take i)) (by rw [← rcs_take]; exact hs6.take _) (by rw [rcs_len, List.length_take, Nat.min_eq_left (by omega)]; rfl) (rcs_cells _) (by unfold maxLen; omega) (by show (0 + i) * 32 ≤ _; omega) ?_
    intro ra rc1 w7 hp7 hg7
    rw [Nat.zero_add] at hp7 ⊢
    rw [List.nil_append] at hp7
    have hp7 : Hp w w7 [.row 38 2 (.slice ra i rc1) i (rcs (t.take i)), Rt (.slice ca t.length cc) t, Rt (.slice qa T.length qc) T] := hp7
    have hs7 : Sl w7 ca (rcs t) := Sl.of_row (hp7.at 1 rfl)
    repeat (first | refine WC.seq ?_ | refine WC.reg ?_ | refine WL.pure rfl rfl rfl ?_ | refine WL.nil ?_ | refine WC.skip ?_ | refine WC.block ?_ | refine WC.condT rfl ?_ | refine WC.condF rfl ?_ | refine WL.off rfl rfl rfl ?_ | refine WL.off0 rfl rfl ?_ | refine WC.exit ?_ | refine blk_hit ?_ | refine blk_miss rfl ?_ | refine WC.ret ?_)
    refine WL.known (d := 83) (congrArg (fun z => some (Value.int .i64 z)) step) ?_
    refine WL.val rfl rfl rfl (ySlLo (l := i + 1) rfl rfl rfl rfl (by omega) hcap) ?_
    refine WL.append 0 hp7 rfl rfl rfl rfl rfl (by decide) rfl rfl rfl (news := rcs (t.drop (i + 1))) (by rw [← rcs_drop]; exact hs7.ofs (by omega) hcap (by rw [rcs_len]; exact Nat.le_refl _)) (by rw [rcs_len, List.length_drop]; rfl) (rcs_cells _) (by unfold maxLen; omega) (by show (i + (t.length - (i + 1))) * 32 ≤ _; omega) ?_
    intro rb rc2 w8 hp8 hg8
    rw [← hee, ← hel] at hp8
    rw [← hel]
    have hp8 : Hp w w8 [Rt (.slice rb (t.eraseIdx i).length rc2) (t.eraseIdx i), Rt (.slice ca t.length cc) t, Rt (.slice qa T.length qc) T] := hp8
    clear hp7 hg7 hg8 hs7 hs6
    have hol : (t.eraseIdx i).length ≤ 1000 := by omega
    have hom : Sm 1000 (t.eraseIdx i) := (hS.sm.erase i).mono (by decide)
    generalize hO : t.eraseIdx i = O at *
    obtain ⟨b, o, rfl⟩ := rcs_some (Sl.of_row (hp6.at 0 rfl)) (by omega)
    repeat (first | refine WC.seq ?_ | refine WC.reg ?_ | refine WL.pure rfl rfl rfl ?_ | refine WL.nil ?_ | refine WC.skip ?_ | refine WC.block ?_ | refine WC.condT rfl ?_ | refine WC.condF rfl ?_ | refine WL.off rfl rfl rfl ?_ | refine WL.off0 rfl rfl ?_ | refine WC.exit ?_ | refine blk_hit ?_ | refine blk_miss rfl ?_ | refine WC.ret ?_)
    refine WL.ix rfl rfl rfl rfl rfl (j := i) hi rfl ?_
    repeat (first | refine WC.seq ?_ | refine WC.reg ?_ | refine WL.pure rfl rfl rfl ?_ | refine WL.nil ?_ | refine WC.skip ?_ | refine WC.block ?_ | refine WC.condT rfl ?_ | refine WC.condF rfl ?_ | refine WL.off rfl rfl rfl ?_ | refine WL.off0 rfl rfl ?_ | refine WC.exit ?_ | refine blk_hit ?_ | refine blk_miss rfl ?_ | refine WC.ret ?_)
    refine WL.load rfl rfl rfl rfl rfl (rcs_cell (Sl.of_row (hp8.at 1 rfl)) hi (q := 0) rfl) ?_
    refine WL.call rfl rfl rfl rfl rfl ent14 (replacedO_any rb rc2 O t[i].1 0 hol hom (by omega) w8 (Sl.of_row (hp8.at 0 rfl))) ?_
    rintro _ w9 ⟨hp9, ⟨_, rfl⟩ | ⟨_, hfn, _⟩⟩
    rotate_left
    · exact absurd hn1 hfn
    have hp9 := hp8.comb hp9
    repeat (first | refine WC.seq ?_ | refine WC.reg ?_ | refine WL.pure rfl rfl rfl ?_ | refine WL.nil ?_ | refine WC.skip ?_ | refine WC.block ?_ | refine WC.condT rfl ?_ | refine WC.condF rfl ?_ | refine WL.off rfl rfl rfl ?_ | refine WL.off0 rfl rfl ?_ | refine WC.exit ?_ | refine blk_hit ?_ | refine blk_miss rfl ?_ | refine WC.ret ?_)
    refine WL.ix rfl rfl rfl rfl rfl (j := i) hi rfl ?_
    repeat (first | refine WC.seq ?_ | refine WC.reg ?_ | refine WL.pure rfl rfl rfl ?_ | refine WL.nil ?_ | refine WC.skip ?_ | refine WC.block ?_ | refine WC.condT rfl ?_ | refine WC.condF rfl ?_ | refine WL.off rfl rfl rfl ?_ | refine WL.off0 rfl rfl ?_ | refine WC.exit ?_ | refine blk_hit ?_ | refine blk_miss rfl ?_ | refine WC.ret ?_)
    refine WL.load rfl rfl rfl rfl rfl (rcs_cell (Sl.of_row (hp9.at 1 rfl)) hi (q := 1) rfl) ?_
    refine WL.call rfl rfl rfl rfl rfl ent14 (replacedO_any rb rc2 O t[i].2 0 hol hom (by omega) w9 (Sl.of_row (hp9.at 0 rfl))) ?_
    rintro _ w10 ⟨hp10, ⟨_, rfl⟩ | ⟨_, hfn, _⟩⟩
    rotate_left
    · exact absurd hn2 hfn
    have hp10 := hp9.comb hp10
    have hp10 : Hp w w10 [Rt (.slice (some ⟨b, o, none⟩) t.length cc) t, Rt (.slice qa T.length qc) T] := hp10.tail
    clear hp9 hp8 hn1 hn2
    repeat (first | refine WC.seq ?_ | refine WC.reg ?_ | refine WL.pure rfl rfl rfl ?_ | refine WL.nil ?_ | refine WC.skip ?_ | refine WC.block ?_ | refine WC.condT rfl ?_ | refine WC.condF rfl ?_ | refine WL.off rfl rfl rfl ?_ | refine WL.off0 rfl rfl ?_ | refine WC.exit ?_ | refine blk_hit ?_ | refine blk_miss rfl ?_ | refine WC.ret ?_)
    refine WC.mid Unit (fun _ => [(5, .slice qa T.length qc), (6, .int .i64 (k : Nat)), (7, .slice (some ⟨b, o, none⟩) t.length cc), (8, .bool c), (12, .int .i64 (i : Nat)), (128, .bool false)])
      (fun _ w' => Hp w w' [Rt (.slice (some ⟨b, o, none⟩) t.length cc) t, Rt (.slice qa T.length qc) T]) ?_ ?_
    · refine WC.regQ (fun w' => Hp w w' [Rt (.slice (some ⟨b, o, none⟩) t.length cc) t, Rt (.slice qa T.length qc) T]) mixed (by kernel_rfl) (fun w' hw' => hp10.keep hw') ?_
      repeat (first | refine WQ.pure rfl rfl rfl ?_ | refine WQ.off rfl rfl rfl ?_ | refine WQ.nil ?_)
      refine WQ.split 113 rfl (fun h1 => ?_) (fun h1 => ?_)
      · have h1 : 0 < i := by have := of_decide_eq_true h1; omega
        have hpred : IntKind.i64.wrap (((i : Nat) : Int) - 1) = ((i - 1 : Nat) : Int) := by rw [wrap_i64_in (by omega) (by omega)]; omega
        have hPg := rGreater_any t[i].1 t[i - 1].1
        rw [hup h1] at hPg
        repeat (first | refine WQ.pure rfl rfl rfl ?_ | refine WQ.off rfl rfl rfl ?_ | refine WQ.nil ?_)
        refine WQ.ix rfl rfl rfl rfl rfl rfl (j := i) hi ?_
        repeat (first | refine WQ.pure rfl rfl rfl ?_ | refine WQ.off rfl rfl rfl ?_ | refine WQ.nil ?_)
        refine WQ.load rfl rfl rfl rfl rfl (fun w' hw' => rcs_cell (Sl.of_row (hw'.at 0 rfl)) hi (q := 0) rfl) ?_
        repeat (first | refine WQ.pure rfl rfl rfl ?_ | refine WQ.off rfl rfl rfl ?_ | refine WQ.nil ?_)
        refine WQ.known (d := 121) (congrArg (fun z => some (Value.int .i64 z)) hpred) ?_
        refine WQ.ix rfl rfl rfl rfl rfl rfl (j := i - 1) (by omega) ?_
        repeat (first | refine WQ.pure rfl rfl rfl ?_ | refine WQ.off rfl rfl rfl ?_ | refine WQ.nil ?_)
        refine WQ.load rfl rfl rfl rfl rfl (fun w' hw' => rcs_cell (Sl.of_row (hw'.at 0 rfl)) (show i - 1 < t.length by omega) (q := 0) rfl) ?_
        refine WQ.call rfl rfl rfl rfl rfl ent13 (fun w' hw' => (hPg w').mono fun u w'' ⟨h1, h2⟩ => ⟨h1, by rw [h2]; exact hw'⟩) ?_
        repeat (first | refine WQ.pure rfl rfl rfl ?_ | refine WQ.off rfl rfl rfl ?_ | refine WQ.nil ?_)
        intro w' hw'
        exact ⟨(), ⟨rfl, rfl, rfl, rfl, rfl, rfl, rfl⟩, hw'⟩
      · repeat (first | refine WQ.pure rfl rfl rfl ?_ | refine WQ.off rfl rfl rfl ?_ | refine WQ.nil ?_)
        intro w' hw'
        exact ⟨(), ⟨rfl, rfl, rfl, rfl, rfl, rfl, rfl⟩, hw'⟩
    rintro ⟨⟩ e11 w11 hsub hp11
    refine WC.sub hsub ?_
    repeat (first | refine WC.seq ?_ | refine WC.reg ?_ | refine WL.pure rfl rfl rfl ?_ | refine WL.nil ?_ | refine WC.skip ?_ | refine WC.block ?_ | refine WC.condT rfl ?_ | refine WC.condF rfl ?_ | refine WL.off rfl rfl rfl ?_ | refine WL.off0 rfl rfl ?_ | refine WC.exit ?_ | refine blk_hit ?_ | refine blk_miss rfl ?_ | refine WC.ret ?_)
    exact ⟨i + 1, by omega, ⟨rfl, rfl, rfl, rfl, congrArg (fun z => some (Value.int .i64 z)) step, rfl⟩, by omega, hp11⟩

  cases c with
  | false =>
    repeat (first | refine WC.seq ?_ | refine WC.reg ?_ | refine WL.pure rfl rfl rfl ?_ | refine WL.nil ?_ | refine WC.skip ?_ | refine WC.block ?_ | refine WC.condT rfl ?_ | refine WC.condF rfl ?_ | refine WL.off rfl rfl rfl ?_ | refine WL.off0 rfl rfl ?_ | refine WC.exit ?_ | refine blk_hit ?_ | refine blk_miss rfl ?_ | refine WC.ret ?_)
    refine WL.call rfl rfl rfl rfl rfl ent10 (awake_any w6 (hmx.hp hp6)) ?_
    rintro _ w9 ⟨rfl, hp9⟩
    repeat (first | refine WC.seq ?_ | refine WC.reg ?_ | refine WL.pure rfl rfl rfl ?_ | refine WL.nil ?_ | refine WC.skip ?_ | refine WC.block ?_ | refine WC.condT rfl ?_ | refine WC.condF rfl ?_ | refine WL.off rfl rfl rfl ?_ | refine WL.off0 rfl rfl ?_ | refine WC.exit ?_ | refine blk_hit ?_ | refine blk_miss rfl ?_ | refine WC.ret ?_)
    exact Res.one rfl rfl rfl ⟨rfl, (hp6.comb hp9).nil'⟩
  | true =>
    have hs1 := completeM_succ hcm
    repeat (first | refine WC.seq ?_ | refine WC.reg ?_ | refine WL.pure rfl rfl rfl ?_ | refine WL.nil ?_ | refine WC.skip ?_ | refine WC.block ?_ | refine WC.condT rfl ?_ | refine WC.condF rfl ?_ | refine WL.off rfl rfl rfl ?_ | refine WL.off0 rfl rfl ?_ | refine WC.exit ?_ | refine blk_hit ?_ | refine blk_miss rfl ?_ | refine WC.ret ?_)
    refine WC.loop Nat (fun i => [(5, .slice qa T.length qc), (6, .int .i64 (k : Nat)), (7, .slice ca t.length cc), (18, .int .i64 (i : Nat))])
      (fun i w' => i ≤ T.length ∧ Hp w w' [Rt (.slice ca t.length cc) t, Rt (.slice qa T.length qc) T]) (fun i => T.length - i) 0 ⟨rfl, rfl, rfl, rfl, rfl⟩ ⟨Nat.zero_le _, hp6⟩ ?_
    clear hp6
    rintro i w7 ⟨hi, hp7⟩
    repeat (first | refine WC.seq ?_ | refine WC.reg ?_ | refine WL.pure rfl rfl rfl ?_ | refine WL.nil ?_ | refine WC.skip ?_ | refine WC.block ?_ | refine WC.condT rfl ?_ | refine WC.condF rfl ?_ | refine WL.off rfl rfl rfl ?_ | refine WL.off0 rfl rfl ?_ | refine WC.exit ?_ | refine blk_hit ?_ | refine blk_miss rfl ?_ | refine WC.ret ?_)
    refine WC.cond rfl (fun hc => ?_) (fun hc => ?_)
    · have hi : i < T.length := by have := of_decide_eq_true hc; omega
      have step := wrap_succ hi (by omega)
      have hsz := hTs.at_ hi
      have hgm := hTg _ (List.getElem_mem hi)
      have hE := EqM_one (k := k) hTg (hTs.mono (by decide)) (by omega) (by omega) hgm.1 hgm.2 hsz.1 hsz.2 (Cg.of_mem (List.getElem_mem hi)) hcm
      obtain ⟨b, o, rfl⟩ := rcs_some (Sl.of_row (hp7.at 1 rfl)) (by omega)
      repeat (first | refine WC.seq ?_ | refine WC.reg ?_ | refine WL.pure rfl rfl rfl ?_ | refine WL.nil ?_ | refine WC.skip ?_ | refine WC.block ?_ | refine WC.condT rfl ?_ | refine WC.condF rfl ?_ | refine WL.off rfl rfl rfl ?_ | refine WL.off0 rfl rfl ?_ | refine WC.exit ?_ | refine blk_hit ?_ | refine blk_miss rfl ?_ | refine WC.ret ?_)
      refine WC.mid Unit (fun _ => [(5, .slice (some ⟨b, o, none⟩) T.length qc), (6, .int .i64 (k : Nat)), (7, .slice ca t.length cc), (18, .int .i64 (i : Nat)), (19, .int .i64 1), (20, .int .i64 0)])
        (fun _ w' => Hp w w' [Rt (.slice ca t.length cc) t, Rt (.slice (some ⟨b, o, none⟩) T.length qc) T]) ?_ ?_
      · refine WC.regQ (fun w' => Hp w w' [Rt (.slice ca t.length cc) t, Rt (.slice (some ⟨b, o, none⟩) T.length qc) T]) mixed (by kernel_rfl) (fun w' hw' => hp7.keep hw') ?_
        repeat (first | refine WQ.pure rfl rfl rfl ?_ | refine WQ.off rfl rfl rfl ?_ | refine WQ.nil ?_)
        refine WQ.ix rfl rfl rfl rfl rfl rfl (j := i) hi ?_
        repeat (first | refine WQ.pure rfl rfl rfl ?_ | refine WQ.off rfl rfl rfl ?_ | refine WQ.nil ?_)
        refine WQ.load rfl rfl rfl rfl rfl (fun w' hw' => rcs_cell (Sl.of_row (hw'.at 1 rfl)) hi (q := 0) rfl) ?_
        repeat (first | refine WQ.pure rfl rfl rfl ?_ | refine WQ.off rfl rfl rfl ?_ | refine WQ.nil ?_)
        refine WQ.ix rfl rfl rfl rfl rfl rfl (j := i) hi ?_
        repeat (first | refine WQ.pure rfl rfl rfl ?_ | refine WQ.off rfl rfl rfl ?_ | refine WQ.nil ?_)
        refine WQ.load rfl rfl rfl rfl rfl (fun w' hw' => rcs_cell (Sl.of_row (hw'.at 1 rfl)) hi (q := 1) rfl) ?_
        refine WQ.call (v := .tuple #[.int .i64 1, .int .i64 0]) rfl rfl rfl rfl rfl ent17 (fun w' hw' => (Equal_any (some ⟨b, o, none⟩) qc T (k : Nat) T[i].1 T[i].2 (hTs.mono (by decide)) (by omega) (by omega) w' (hmx.hp hw') (Sl.of_row (hw'.at 1 rfl))).mono fun u w'' ⟨h1, h2⟩ => ⟨by rw [h1, hE], by have := hw'.comb h2; exact this⟩) ?_
        repeat (first | refine WQ.pure rfl rfl rfl ?_ | refine WQ.off rfl rfl rfl ?_ | refine WQ.nil ?_)
        intro w' hw'
        exact ⟨(), ⟨rfl, rfl, rfl, rfl, rfl, rfl, rfl⟩, hw'⟩
      rintro ⟨⟩ e11 w11 hsub hp11
      refine WC.sub hsub ?_
      repeat (first | refine WC.seq ?_ | refine WC.reg ?_ | refine WL.pure rfl rfl rfl ?_ | refine WL.nil ?_ | refine WC.skip ?_ | refine WC.block ?_ | refine WC.condT rfl ?_ | refine WC.condF rfl ?_ | refine WL.off rfl rfl rfl ?_ | refine WL.off0 rfl rfl ?_ | refine WC.exit ?_ | refine blk_hit ?_ | refine blk_miss rfl ?_ | refine WC.ret ?_)
      exact ⟨i + 1, by omega, ⟨rfl, rfl, rfl, congrArg (fun z => some (Value.int .i64 z)) step, rfl⟩, by omega, hp11⟩

    obtain ⟨_, ⟨hno, _⟩ | ⟨t2, c2, hcm2, hR2, _⟩⟩ := comp_tame (k := k + 1) hTg (hTs.mono (by decide)) (by omega) (by omega)
    · rw [hs1] at hno; cases hno
    rw [hs1] at hcm2
    simp only [Option.some.injEq, Prod.mk.injEq] at hcm2
    obtain ⟨rfl, rfl⟩ := hcm2
    have hk1 : IntKind.i64.wrap (((k : Nat) : Int) + 1) = ((k + 1 : Nat) : Int) := wrap_succ hk (by decide)
    repeat (first | refine WC.seq ?_ | refine WC.reg ?_ | refine WL.pure rfl rfl rfl ?_ | refine WL.nil ?_ | refine WC.skip ?_ | refine WC.block ?_ | refine WC.condT rfl ?_ | refine WC.condF rfl ?_ | refine WL.off rfl rfl rfl ?_ | refine WL.off0 rfl rfl ?_ | refine WC.exit ?_ | refine blk_hit ?_ | refine blk_miss rfl ?_ | refine WC.ret ?_)
    refine WL.known (d := 163) (congrArg (fun z => some (Value.int .i64 z)) hk1) ?_
    refine WL.call rfl rfl rfl rfl rfl ent8 (Complete_any qa qc T (k + 1 : Nat) (hTs.mono (by decide)) w7 (hmx.hp hp7) (Sl.of_row (hp7.at 1 rfl))) ?_
    intro u w8 hu
    obtain ⟨da, dc, rfl, hp8⟩ := hu.to
    clear hu
    have hp8 := hp7.comb hp8
    rw [hR2] at hp8 ⊢
    simp only at hp8 ⊢
    repeat (first | refine WC.seq ?_ | refine WC.reg ?_ | refine WL.pure rfl rfl rfl ?_ | refine WL.nil ?_ | refine WC.skip ?_ | refine WC.block ?_ | refine WC.condT rfl ?_ | refine WC.condF rfl ?_ | refine WL.off rfl rfl rfl ?_ | refine WL.off0 rfl rfl ?_ | refine WC.exit ?_ | refine blk_hit ?_ | refine blk_miss rfl ?_ | refine WC.ret ?_)
    refine WL.call rfl rfl rfl rfl rfl ent22 (same_any da ca dc cc t t (by omega) w8 (Sl.of_row (hp8.at 0 rfl)) (Sl.of_row (hp8.at 1 rfl))) ?_
    rintro _ w9 ⟨rfl, hp9⟩
    rw [decide_eq_true rfl]
    have hp9 := hp8.comb hp9
    repeat (first | refine WC.seq ?_ | refine WC.reg ?_ | refine WL.pure rfl rfl rfl ?_ | refine WL.nil ?_ | refine WC.skip ?_ | refine WC.block ?_ | refine WC.condT rfl ?_ | refine WC.condF rfl ?_ | refine WL.off rfl rfl rfl ?_ | refine WL.off0 rfl rfl ?_ | refine WC.exit ?_ | refine blk_hit ?_ | refine blk_miss rfl ?_ | refine WC.ret ?_)
    refine WL.call rfl rfl rfl rfl rfl ent10 (awake_any w9 (hmx.hp hp9)) ?_
    rintro _ w10 ⟨rfl, hp10⟩
    repeat (first | refine WC.seq ?_ | refine WC.reg ?_ | refine WL.pure rfl rfl rfl ?_ | refine WL.nil ?_ | refine WC.skip ?_ | refine WC.block ?_ | refine WC.condT rfl ?_ | refine WC.condF rfl ?_ | refine WL.off rfl rfl rfl ?_ | refine WL.off0 rfl rfl ?_ | refine WC.exit ?_ | refine blk_hit ?_ | refine blk_miss rfl ?_ | refine WC.ret ?_)
    exact Res.one rfl rfl rfl ⟨rfl, (hp9.comb hp10).nil'⟩
end Go.Proofs.Ytoghnhbjdnjghaa
