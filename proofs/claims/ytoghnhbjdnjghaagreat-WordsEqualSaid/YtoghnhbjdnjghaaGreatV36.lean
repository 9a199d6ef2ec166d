/- The walk of WordsEqual. -/
import Derived.Test.YtoghnhbjdnjghaaGreatV35
namespace Go.Words
open Go.W Go.Proofs.YtoghnhbjdnjghaaGreat
theorem shortS_len (s : Str) : (shortS s).length ≤ 201 := by
  unfold shortS
  rw [List.length_take]; omega
theorem CompR_err (l : List Rl) (k : Int) : ¬ (CompR l k).2.2 = 2 → ¬ (CompR l k).2.2 = 0 → (CompR l k).2.2 = 5 := by
  unfold CompR
  split
  · cases completeM l k.toNat with
    | none => intro _ _; rfl
    | some q => intro _ h; exact absurd rfl h
  · intro h; exact absurd rfl h
/-- What Equal says, by the words of the law. -/
theorem EqM_eq (L : List Rl) (k : Int) (x y : Str) : EqM L k x y = if (CompR L k).2.2 = 2 ∨ strB x = false ∨ strB y = false then ((0, 2) : Int × Int) else if (CompR L k).2.2 ≠ 0 then (0, 5) else match formsM (CompR L k).1 (x, y) with
    | none => (0, 5)
    | some q => if q.1 = q.2 then (1, 0) else if (CompR L k).2.1 then (0, 0) else (-1, 0) := by
  unfold EqM CompR
  cases h1 : eqnsB L k with
  | false => rfl
  | true =>
    cases h2 : strB x with
    | false => rw [if_neg (by simp), if_pos (.inr (.inl rfl))]
    | true =>
      cases h3 : strB y with
      | false => rw [if_neg (by simp), if_pos (.inr (.inr rfl))]
      | true =>
        cases hc : completeM L k.toNat with
        | none => rfl
        | some q =>
          obtain ⟨t, b⟩ := q
          rfl
end Go.Words
namespace Go.Proofs.YtoghnhbjdnjghaaGreat
open Go.W Go.Words Go.RowKit
set_option maxRecDepth 100000
attribute [local irreducible] WC WL WQ WS WH

set_option maxHeartbeats 1000000 in
theorem WordsEqual_any (a : Option Addr) (cap : Nat) (l : List Rl) (k : Int) (x0 y0 : Str) (hlen : l.length ≤ 9223372036854775807) (hsm : Sm 9223372036854775807 l) (hx : x0.length ≤ 9223372036854775807) (hy : y0.length ≤ 9223372036854775807) (w : World) (hmx : Mx w) (hs : Sl w a (rcs l)) :
    Ret Tryz.prog 8 [.slice a l.length cap, .int .i64 k, .agg #[st x0, st y0]] w fun u w' => u = .bool true ∧ Hp w w' [] := by
  have hL := rulesM_sm l 8
  have hLl := rulesM_len l (m := 8) (by decide)
  refine enter Tryz.func8 rfl rfl ⟨rfl, rfl⟩ rfl ?_
  repeat (first | refine WC.seq ?_ | refine WC.reg ?_ | refine WL.pure rfl rfl rfl ?_ | refine WL.nil ?_ | refine WC.skip ?_ | refine WC.block ?_ | refine WC.condT rfl ?_ | refine WC.condF rfl ?_ | refine WL.off rfl rfl rfl ?_ | refine WL.off0 rfl rfl ?_ | refine WC.exit ?_ | refine blk_hit ?_ | refine blk_miss rfl ?_ | refine WC.ret ?_)
  refine WL.box rfl rfl rfl ?_
  intro b5 w0 hb5
  have hp0 : Hp w w0 [.blk b5 (.cells #[st x0, st y0] 58 (0, 0))] := (Hp.start w).new hb5
  repeat (first | refine WC.seq ?_ | refine WC.reg ?_ | refine WL.pure rfl rfl rfl ?_ | refine WL.nil ?_ | refine WC.skip ?_ | refine WC.block ?_ | refine WC.condT rfl ?_ | refine WC.condF rfl ?_ | refine WL.off rfl rfl rfl ?_ | refine WL.off0 rfl rfl ?_ | refine WC.exit ?_ | refine blk_hit ?_ | refine blk_miss rfl ?_ | refine WC.ret ?_)
  refine WL.call rfl rfl rfl rfl rfl ent10 (rules_any a cap l 8 (by decide) hlen hsm w0 (hs.hp hp0)) ?_
  rintro _ w1 ⟨oa, oc, rfl, hp1⟩
  have hp1 := hp0.comb hp1
  repeat (first | refine WC.seq ?_ | refine WC.reg ?_ | refine WL.pure rfl rfl rfl ?_ | refine WL.nil ?_ | refine WC.skip ?_ | refine WC.block ?_ | refine WC.condT rfl ?_ | refine WC.condF rfl ?_ | refine WL.off rfl rfl rfl ?_ | refine WL.off0 rfl rfl ?_ | refine WC.exit ?_ | refine blk_hit ?_ | refine blk_miss rfl ?_ | refine WC.ret ?_)
  refine WL.call rfl rfl rfl rfl rfl ent10 (rules_any a cap l 8 (by decide) hlen hsm w1 (hs.hp hp1)) ?_
  rintro _ w2 ⟨ga, gc, rfl, hp2⟩
  have hp2 := hp1.comb hp2
  have hxl := shortS_len x0
  have hyl := shortS_len y0
  generalize hLe : rulesM l 8 = L at *
  repeat (first | refine WC.seq ?_ | refine WC.reg ?_ | refine WL.pure rfl rfl rfl ?_ | refine WL.nil ?_ | refine WC.skip ?_ | refine WC.block ?_ | refine WC.condT rfl ?_ | refine WC.condF rfl ?_ | refine WL.off rfl rfl rfl ?_ | refine WL.off0 rfl rfl ?_ | refine WC.exit ?_ | refine blk_hit ?_ | refine blk_miss rfl ?_ | refine WC.ret ?_)
  refine WC.mid Unit (fun _ => [(1, .int .i64 k), (7, .slice oa L.length oc), (8, .slice ga L.length gc), (9, st (shortS x0)), (10, st (shortS y0))])
    (fun _ w' => Hp w w' [Rt (.slice ga L.length gc) L, Rt (.slice oa L.length oc) L, .blk b5 (.cells #[st x0, st y0] 58 (0, 0))]) ?_ ?_
  · refine WC.regQ (fun w' => Hp w w' [Rt (.slice ga L.length gc) L, Rt (.slice oa L.length oc) L, .blk b5 (.cells #[st x0, st y0] 58 (0, 0))]) mixed (by kernel_rfl) (fun w' hw' => hp2.keep hw') ?_
    repeat (first | refine WQ.pure rfl rfl rfl ?_ | refine WQ.off rfl rfl rfl ?_ | refine WQ.nil ?_)
    refine WQ.load rfl rfl rfl rfl rfl (fun w' hw' => cell_of_obj (hw'.obj 2 rfl) (show (#[st x0, st y0] : Array Value)[0]? = some (st x0) from rfl)) ?_
    refine WQ.call rfl rfl rfl rfl rfl ent11 (fun w' hw' => (short_any x0 hx w').mono fun u w'' ⟨h1, h2⟩ => ⟨h1, by rw [h2]; exact hw'⟩) ?_
    repeat (first | refine WQ.pure rfl rfl rfl ?_ | refine WQ.off rfl rfl rfl ?_ | refine WQ.nil ?_)
    refine WQ.load rfl rfl rfl rfl rfl (fun w' hw' => cell_of_obj (hw'.obj 2 rfl) (show (#[st x0, st y0] : Array Value)[1]? = some (st y0) from rfl)) ?_
    refine WQ.call rfl rfl rfl rfl rfl ent11 (fun w' hw' => (short_any y0 hy w').mono fun u w'' ⟨h1, h2⟩ => ⟨h1, by rw [h2]; exact hw'⟩) ?_
    repeat (first | refine WQ.pure rfl rfl rfl ?_ | refine WQ.off rfl rfl rfl ?_ | refine WQ.nil ?_)
    intro w' hw'
    exact ⟨(), ⟨rfl, rfl, rfl, rfl, rfl, rfl⟩, hw'⟩
  rintro ⟨⟩ e3 w3 hsub hp3
  refine WC.sub hsub ?_
  generalize shortS x0 = x at *
  generalize shortS y0 = y at *
  repeat (first | refine WC.seq ?_ | refine WC.reg ?_ | refine WL.pure rfl rfl rfl ?_ | refine WL.nil ?_ | refine WC.skip ?_ | refine WC.block ?_ | refine WC.condT rfl ?_ | refine WC.condF rfl ?_ | refine WL.off rfl rfl rfl ?_ | refine WL.off0 rfl rfl ?_ | refine WC.exit ?_ | refine blk_hit ?_ | refine blk_miss rfl ?_ | refine WC.ret ?_)
  refine WL.call rfl rfl rfl rfl rfl ent28 (Equal_any ga gc L k x y (hL.mono (by decide)) (by omega) (by omega) w3 (hmx.hp hp3) (Sl.of_row (hp3.at 0 rfl))) ?_
  rintro _ w4 ⟨rfl, hp4⟩
  have hp4 := hp3.comb hp4
  have hE := EqM_eq L k x y
  generalize EqM L k x y = Z at *
  obtain ⟨z1, z2⟩ := Z
  repeat (first | refine WC.seq ?_ | refine WC.reg ?_ | refine WL.pure rfl rfl rfl ?_ | refine WL.nil ?_ | refine WC.skip ?_ | refine WC.block ?_ | refine WC.condT rfl ?_ | refine WC.condF rfl ?_ | refine WL.off rfl rfl rfl ?_ | refine WL.off0 rfl rfl ?_ | refine WC.exit ?_ | refine blk_hit ?_ | refine blk_miss rfl ?_ | refine WC.ret ?_)
  refine WL.call rfl rfl rfl rfl rfl ent13 (same_any ga oa gc oc L L (by omega) w4 (Sl.of_row (hp4.at 0 rfl)) (Sl.of_row (hp4.at 1 rfl))) ?_
  rintro _ w5 ⟨rfl, hp5⟩
  rw [decide_eq_true rfl]
  have hp5 := hp4.comb hp5
  repeat (first | refine WC.seq ?_ | refine WC.reg ?_ | refine WL.pure rfl rfl rfl ?_ | refine WL.nil ?_ | refine WC.skip ?_ | refine WC.block ?_ | refine WC.condT rfl ?_ | refine WC.condF rfl ?_ | refine WL.off rfl rfl rfl ?_ | refine WL.off0 rfl rfl ?_ | refine WC.exit ?_ | refine blk_hit ?_ | refine blk_miss rfl ?_ | refine WC.ret ?_)
  refine WL.call rfl rfl rfl rfl rfl ent19 (rComplete_any oa oc L k (by omega) (hL.mono (by decide)) w5 (Sl.of_row (hp5.at 1 rfl))) ?_
  intro u w6 hu6
  obtain ⟨qa, qc, rfl, hp6⟩ := hu6.to
  have hp6 := hp5.comb hp6
  obtain ⟨hRl, hRd, hRs⟩ := CompR_len L k
  have hE5 := CompR_err L k
  clear hu6
  generalize CompR L k = R at *
  obtain ⟨t, cf, er⟩ := R
  have hp6 : Hp w w6 [Rt (.slice qa t.length qc) t, Rt (.slice ga L.length gc) L, Rt (.slice oa L.length oc) L, .blk b5 (.cells #[st x0, st y0] 58 (0, 0))] := hp6
  simp only at hE hRl hRd hRs hE5
  repeat (first | refine WC.seq ?_ | refine WC.reg ?_ | refine WL.pure rfl rfl rfl ?_ | refine WL.nil ?_ | refine WC.skip ?_ | refine WC.block ?_ | refine WC.condT rfl ?_ | refine WC.condF rfl ?_ | refine WL.off rfl rfl rfl ?_ | refine WL.off0 rfl rfl ?_ | refine WC.exit ?_ | refine blk_hit ?_ | refine blk_miss rfl ?_ | refine WC.ret ?_)
  refine WL.split 54 rfl (fun h1 => ?_) (fun h1 => ?_)
  · have h1 : er = 2 := eq_of_beq h1
    rw [if_pos (.inl h1)] at hE
    obtain ⟨rfl, rfl⟩ := Prod.mk.inj hE
    repeat (first | refine WC.seq ?_ | refine WC.reg ?_ | refine WL.pure rfl rfl rfl ?_ | refine WL.nil ?_ | refine WC.skip ?_ | refine WC.block ?_ | refine WC.condT rfl ?_ | refine WC.condF rfl ?_ | refine WL.off rfl rfl rfl ?_ | refine WL.off0 rfl rfl ?_ | refine WC.exit ?_ | refine blk_hit ?_ | refine blk_miss rfl ?_ | refine WC.ret ?_)
    refine WL.call rfl rfl rfl rfl rfl ent16 (awake_any w6 (hmx.hp hp6)) ?_
    rintro _ w9 ⟨rfl, hp9⟩
    repeat (first | refine WC.seq ?_ | refine WC.reg ?_ | refine WL.pure rfl rfl rfl ?_ | refine WL.nil ?_ | refine WC.skip ?_ | refine WC.block ?_ | refine WC.condT rfl ?_ | refine WC.condF rfl ?_ | refine WL.off rfl rfl rfl ?_ | refine WL.off0 rfl rfl ?_ | refine WC.exit ?_ | refine blk_hit ?_ | refine blk_miss rfl ?_ | refine WC.ret ?_)
    exact Res.one rfl rfl rfl ⟨rfl, (hp6.comb hp9).nil'⟩
  have h1 : ¬ er = 2 := fun h => by rw [h] at h1; simp at h1
  repeat (first | refine WC.seq ?_ | refine WC.reg ?_ | refine WL.pure rfl rfl rfl ?_ | refine WL.nil ?_ | refine WC.skip ?_ | refine WC.block ?_ | refine WC.condT rfl ?_ | refine WC.condF rfl ?_ | refine WL.off rfl rfl rfl ?_ | refine WL.off0 rfl rfl ?_ | refine WC.exit ?_ | refine blk_hit ?_ | refine blk_miss rfl ?_ | refine WC.ret ?_)
  refine WL.callP rfl rfl rfl rfl rfl ent15 (rString_any x (by omega) w6) ?_
  repeat (first | refine WC.seq ?_ | refine WC.reg ?_ | refine WL.pure rfl rfl rfl ?_ | refine WL.nil ?_ | refine WC.skip ?_ | refine WC.block ?_ | refine WC.condT rfl ?_ | refine WC.condF rfl ?_ | refine WL.off rfl rfl rfl ?_ | refine WL.off0 rfl rfl ?_ | refine WC.exit ?_ | refine blk_hit ?_ | refine blk_miss rfl ?_ | refine WC.ret ?_)
  refine WL.split 59 rfl (fun h2 => ?_) (fun h2 => ?_)
  · have h2 : strB x = false := by simpa using h2
    rw [if_pos (.inr (.inl h2))] at hE
    obtain ⟨rfl, rfl⟩ := Prod.mk.inj hE
    repeat (first | refine WC.seq ?_ | refine WC.reg ?_ | refine WL.pure rfl rfl rfl ?_ | refine WL.nil ?_ | refine WC.skip ?_ | refine WC.block ?_ | refine WC.condT rfl ?_ | refine WC.condF rfl ?_ | refine WL.off rfl rfl rfl ?_ | refine WL.off0 rfl rfl ?_ | refine WC.exit ?_ | refine blk_hit ?_ | refine blk_miss rfl ?_ | refine WC.ret ?_)
    refine WL.call rfl rfl rfl rfl rfl ent16 (awake_any w6 (hmx.hp hp6)) ?_
    rintro _ w9 ⟨rfl, hp9⟩
    repeat (first | refine WC.seq ?_ | refine WC.reg ?_ | refine WL.pure rfl rfl rfl ?_ | refine WL.nil ?_ | refine WC.skip ?_ | refine WC.block ?_ | refine WC.condT rfl ?_ | refine WC.condF rfl ?_ | refine WL.off rfl rfl rfl ?_ | refine WL.off0 rfl rfl ?_ | refine WC.exit ?_ | refine blk_hit ?_ | refine blk_miss rfl ?_ | refine WC.ret ?_)
    exact Res.one rfl rfl rfl ⟨rfl, (hp6.comb hp9).nil'⟩
  have h2 : strB x = true := by simpa using h2
  repeat (first | refine WC.seq ?_ | refine WC.reg ?_ | refine WL.pure rfl rfl rfl ?_ | refine WL.nil ?_ | refine WC.skip ?_ | refine WC.block ?_ | refine WC.condT rfl ?_ | refine WC.condF rfl ?_ | refine WL.off rfl rfl rfl ?_ | refine WL.off0 rfl rfl ?_ | refine WC.exit ?_ | refine blk_hit ?_ | refine blk_miss rfl ?_ | refine WC.ret ?_)
  refine WL.callP rfl rfl rfl rfl rfl ent15 (rString_any y (by omega) w6) ?_
  repeat (first | refine WC.seq ?_ | refine WC.reg ?_ | refine WL.pure rfl rfl rfl ?_ | refine WL.nil ?_ | refine WC.skip ?_ | refine WC.block ?_ | refine WC.condT rfl ?_ | refine WC.condF rfl ?_ | refine WL.off rfl rfl rfl ?_ | refine WL.off0 rfl rfl ?_ | refine WC.exit ?_ | refine blk_hit ?_ | refine blk_miss rfl ?_ | refine WC.ret ?_)
  refine WC.cond rfl (fun h3 => ?_) (fun h3 => ?_)
  · have h3 : strB y = false := by simpa using h3
    rw [if_pos (.inr (.inr h3))] at hE
    obtain ⟨rfl, rfl⟩ := Prod.mk.inj hE
    repeat (first | refine WC.seq ?_ | refine WC.reg ?_ | refine WL.pure rfl rfl rfl ?_ | refine WL.nil ?_ | refine WC.skip ?_ | refine WC.block ?_ | refine WC.condT rfl ?_ | refine WC.condF rfl ?_ | refine WL.off rfl rfl rfl ?_ | refine WL.off0 rfl rfl ?_ | refine WC.exit ?_ | refine blk_hit ?_ | refine blk_miss rfl ?_ | refine WC.ret ?_)
    refine WL.call rfl rfl rfl rfl rfl ent16 (awake_any w6 (hmx.hp hp6)) ?_
    rintro _ w9 ⟨rfl, hp9⟩
    repeat (first | refine WC.seq ?_ | refine WC.reg ?_ | refine WL.pure rfl rfl rfl ?_ | refine WL.nil ?_ | refine WC.skip ?_ | refine WC.block ?_ | refine WC.condT rfl ?_ | refine WC.condF rfl ?_ | refine WL.off rfl rfl rfl ?_ | refine WL.off0 rfl rfl ?_ | refine WC.exit ?_ | refine blk_hit ?_ | refine blk_miss rfl ?_ | refine WC.ret ?_)
    exact Res.one rfl rfl rfl ⟨rfl, (hp6.comb hp9).nil'⟩
  have h3 : strB y = true := by simpa using h3
  rw [if_neg (by rw [h2, h3]; simp [h1])] at hE
  repeat (first | refine WC.seq ?_ | refine WC.reg ?_ | refine WL.pure rfl rfl rfl ?_ | refine WL.nil ?_ | refine WC.skip ?_ | refine WC.block ?_ | refine WC.condT rfl ?_ | refine WC.condF rfl ?_ | refine WL.off rfl rfl rfl ?_ | refine WL.off0 rfl rfl ?_ | refine WC.exit ?_ | refine blk_hit ?_ | refine blk_miss rfl ?_ | refine WC.ret ?_)
  refine WC.cond rfl (fun h4 => ?_) (fun h4 => ?_)
  · have h4 : ¬ er = 0 := fun h => by rw [h] at h4; simp at h4
    rw [if_pos h4] at hE
    obtain ⟨rfl, rfl⟩ := Prod.mk.inj hE
    have h5 : er = 5 := hE5 h1 h4
    subst h5
    repeat (first | refine WC.seq ?_ | refine WC.reg ?_ | refine WL.pure rfl rfl rfl ?_ | refine WL.nil ?_ | refine WC.skip ?_ | refine WC.block ?_ | refine WC.condT rfl ?_ | refine WC.condF rfl ?_ | refine WL.off rfl rfl rfl ?_ | refine WL.off0 rfl rfl ?_ | refine WC.exit ?_ | refine blk_hit ?_ | refine blk_miss rfl ?_ | refine WC.ret ?_)
    refine WL.call rfl rfl rfl rfl rfl ent16 (awake_any w6 (hmx.hp hp6)) ?_
    rintro _ w9 ⟨rfl, hp9⟩
    repeat (first | refine WC.seq ?_ | refine WC.reg ?_ | refine WL.pure rfl rfl rfl ?_ | refine WL.nil ?_ | refine WC.skip ?_ | refine WC.block ?_ | refine WC.condT rfl ?_ | refine WC.condF rfl ?_ | refine WL.off rfl rfl rfl ?_ | refine WL.off0 rfl rfl ?_ | refine WC.exit ?_ | refine blk_hit ?_ | refine blk_miss rfl ?_ | refine WC.ret ?_)
    exact Res.one rfl rfl rfl ⟨rfl, (hp6.comb hp9).nil'⟩
  have h4 : er = 0 := by simpa using h4
  rw [if_neg (by simp [h4])] at hE
  have hx2 : x.length ≤ 200 := of_decide_eq_true (Bool.and_eq_true_iff.1 h2).1
  have hy2 : y.length ≤ 200 := of_decide_eq_true (Bool.and_eq_true_iff.1 h3).1
  have hz : ∀ s, ∃ q z, norV (normM t s) = .tuple #[st q, .int .i64 z, .bool (normM t s).isSome] ∧ q = nrS t s := by
    intro s
    unfold nrS
    cases normM t s with
    | none => exact ⟨[], (0 : Nat), rfl, rfl⟩
    | some p => exact ⟨p.1, (p.2 : Nat), rfl, rfl⟩
  have hiso := formsM_iso t (x, y)
  simp only at hiso
  repeat (first | refine WC.seq ?_ | refine WC.reg ?_ | refine WL.pure rfl rfl rfl ?_ | refine WL.nil ?_ | refine WC.skip ?_ | refine WC.block ?_ | refine WC.condT rfl ?_ | refine WC.condF rfl ?_ | refine WL.off rfl rfl rfl ?_ | refine WL.off0 rfl rfl ?_ | refine WC.exit ?_ | refine blk_hit ?_ | refine blk_miss rfl ?_ | refine WC.ret ?_)
  refine WL.call rfl rfl rfl rfl rfl ent17 (rNormal_any qa qc t x (by omega) hRd (by omega) (hRs.mono (by decide)) w6 (Sl.of_row (hp6.at 0 rfl))) ?_
  rintro _ w7 ⟨rfl, hp7⟩
  have hp7 := hp6.comb hp7
  obtain ⟨t1, y1, e1, et1⟩ := hz x
  rw [e1]
  repeat (first | refine WC.seq ?_ | refine WC.reg ?_ | refine WL.pure rfl rfl rfl ?_ | refine WL.nil ?_ | refine WC.skip ?_ | refine WC.block ?_ | refine WC.condT rfl ?_ | refine WC.condF rfl ?_ | refine WL.off rfl rfl rfl ?_ | refine WL.off0 rfl rfl ?_ | refine WC.exit ?_ | refine blk_hit ?_ | refine blk_miss rfl ?_ | refine WC.ret ?_)
  refine WL.call rfl rfl rfl rfl rfl ent17 (rNormal_any qa qc t y (by omega) hRd (by omega) (hRs.mono (by decide)) w7 (Sl.of_row (hp7.at 0 rfl))) ?_
  rintro _ w8 ⟨rfl, hp8⟩
  have hp8 := hp7.comb hp8
  obtain ⟨t2, y2, e2, et2⟩ := hz y
  rw [e2]
  repeat (first | refine WC.seq ?_ | refine WC.reg ?_ | refine WL.pure rfl rfl rfl ?_ | refine WL.nil ?_ | refine WC.skip ?_ | refine WC.block ?_ | refine WC.condT rfl ?_ | refine WC.condF rfl ?_ | refine WL.off rfl rfl rfl ?_ | refine WL.off0 rfl rfl ?_ | refine WC.exit ?_ | refine blk_hit ?_ | refine blk_miss rfl ?_ | refine WC.ret ?_)
  refine WL.split 101 rfl (fun h5 => ?_) (fun h5 => ?_)
  · have h5 : (normM t x).isSome = false := by simpa using h5
    have hf : formsM t (x, y) = none := by rw [h5, Bool.false_and] at hiso; exact Option.not_isSome_iff_eq_none.1 (by rw [hiso]; decide)
    rw [hf] at hE
    obtain ⟨rfl, rfl⟩ := Prod.mk.inj hE
    repeat (first | refine WC.seq ?_ | refine WC.reg ?_ | refine WL.pure rfl rfl rfl ?_ | refine WL.nil ?_ | refine WC.skip ?_ | refine WC.block ?_ | refine WC.condT rfl ?_ | refine WC.condF rfl ?_ | refine WL.off rfl rfl rfl ?_ | refine WL.off0 rfl rfl ?_ | refine WC.exit ?_ | refine blk_hit ?_ | refine blk_miss rfl ?_ | refine WC.ret ?_)
    refine WL.call rfl rfl rfl rfl rfl ent16 (awake_any w8 (hmx.hp hp8)) ?_
    rintro _ w9 ⟨rfl, hp9⟩
    repeat (first | refine WC.seq ?_ | refine WC.reg ?_ | refine WL.pure rfl rfl rfl ?_ | refine WL.nil ?_ | refine WC.skip ?_ | refine WC.block ?_ | refine WC.condT rfl ?_ | refine WC.condF rfl ?_ | refine WL.off rfl rfl rfl ?_ | refine WL.off0 rfl rfl ?_ | refine WC.exit ?_ | refine blk_hit ?_ | refine blk_miss rfl ?_ | refine WC.ret ?_)
    exact Res.one rfl rfl rfl ⟨rfl, (hp8.comb hp9).nil'⟩
  have h5 : (normM t x).isSome = true := by simpa using h5
  repeat (first | refine WC.seq ?_ | refine WC.reg ?_ | refine WL.pure rfl rfl rfl ?_ | refine WL.nil ?_ | refine WC.skip ?_ | refine WC.block ?_ | refine WC.condT rfl ?_ | refine WC.condF rfl ?_ | refine WL.off rfl rfl rfl ?_ | refine WL.off0 rfl rfl ?_ | refine WC.exit ?_ | refine blk_hit ?_ | refine blk_miss rfl ?_ | refine WC.ret ?_)
  refine WC.cond rfl (fun h6 => ?_) (fun h6 => ?_)
  · have h6 : (normM t y).isSome = false := by simpa using h6
    have hf : formsM t (x, y) = none := by rw [h6, Bool.and_false] at hiso; exact Option.not_isSome_iff_eq_none.1 (by rw [hiso]; decide)
    rw [hf] at hE
    obtain ⟨rfl, rfl⟩ := Prod.mk.inj hE
    repeat (first | refine WC.seq ?_ | refine WC.reg ?_ | refine WL.pure rfl rfl rfl ?_ | refine WL.nil ?_ | refine WC.skip ?_ | refine WC.block ?_ | refine WC.condT rfl ?_ | refine WC.condF rfl ?_ | refine WL.off rfl rfl rfl ?_ | refine WL.off0 rfl rfl ?_ | refine WC.exit ?_ | refine blk_hit ?_ | refine blk_miss rfl ?_ | refine WC.ret ?_)
    refine WL.call rfl rfl rfl rfl rfl ent16 (awake_any w8 (hmx.hp hp8)) ?_
    rintro _ w9 ⟨rfl, hp9⟩
    repeat (first | refine WC.seq ?_ | refine WC.reg ?_ | refine WL.pure rfl rfl rfl ?_ | refine WL.nil ?_ | refine WC.skip ?_ | refine WC.block ?_ | refine WC.condT rfl ?_ | refine WC.condF rfl ?_ | refine WL.off rfl rfl rfl ?_ | refine WL.off0 rfl rfl ?_ | refine WC.exit ?_ | refine blk_hit ?_ | refine blk_miss rfl ?_ | refine WC.ret ?_)
    exact Res.one rfl rfl rfl ⟨rfl, (hp8.comb hp9).nil'⟩
  have h6 : (normM t y).isSome = true := by simpa using h6
  obtain ⟨p, hf⟩ := Option.isSome_iff_exists.1 (show (formsM t (x, y)).isSome = true by rw [hiso, h5, h6]; rfl)
  have hp := formsM_some hf
  rw [hf, hp, ← et1, ← et2] at hE
  simp only at hE
  repeat (first | refine WC.seq ?_ | refine WC.reg ?_ | refine WL.pure rfl rfl rfl ?_ | refine WL.nil ?_ | refine WC.skip ?_ | refine WC.block ?_ | refine WC.condT rfl ?_ | refine WC.condF rfl ?_ | refine WL.off rfl rfl rfl ?_ | refine WL.off0 rfl rfl ?_ | refine WC.exit ?_ | refine blk_hit ?_ | refine blk_miss rfl ?_ | refine WC.ret ?_)
  refine WL.sCmp rfl rfl rfl rfl rfl ?_
  repeat (first | refine WC.seq ?_ | refine WC.reg ?_ | refine WL.pure rfl rfl rfl ?_ | refine WL.nil ?_ | refine WC.skip ?_ | refine WC.block ?_ | refine WC.condT rfl ?_ | refine WC.condF rfl ?_ | refine WL.off rfl rfl rfl ?_ | refine WL.off0 rfl rfl ?_ | refine WC.exit ?_ | refine blk_hit ?_ | refine blk_miss rfl ?_ | refine WC.ret ?_)
  refine WC.cond rfl (fun h7 => ?_) (fun h7 => ?_)
  · have h7 : t1 = t2 := by simpa using h7
    rw [if_pos h7] at hE
    obtain ⟨rfl, rfl⟩ := Prod.mk.inj hE
    repeat (first | refine WC.seq ?_ | refine WC.reg ?_ | refine WL.pure rfl rfl rfl ?_ | refine WL.nil ?_ | refine WC.skip ?_ | refine WC.block ?_ | refine WC.condT rfl ?_ | refine WC.condF rfl ?_ | refine WL.off rfl rfl rfl ?_ | refine WL.off0 rfl rfl ?_ | refine WC.exit ?_ | refine blk_hit ?_ | refine blk_miss rfl ?_ | refine WC.ret ?_)
    refine WL.call rfl rfl rfl rfl rfl ent16 (awake_any w8 (hmx.hp hp8)) ?_
    rintro _ w9 ⟨rfl, hp9⟩
    repeat (first | refine WC.seq ?_ | refine WC.reg ?_ | refine WL.pure rfl rfl rfl ?_ | refine WL.nil ?_ | refine WC.skip ?_ | refine WC.block ?_ | refine WC.condT rfl ?_ | refine WC.condF rfl ?_ | refine WL.off rfl rfl rfl ?_ | refine WL.off0 rfl rfl ?_ | refine WC.exit ?_ | refine blk_hit ?_ | refine blk_miss rfl ?_ | refine WC.ret ?_)
    exact Res.one rfl rfl rfl ⟨rfl, (hp8.comb hp9).nil'⟩
  · have h7 : ¬ t1 = t2 := by simpa using h7
    rw [if_neg h7] at hE
    repeat (first | refine WC.seq ?_ | refine WC.reg ?_ | refine WL.pure rfl rfl rfl ?_ | refine WL.nil ?_ | refine WC.skip ?_ | refine WC.block ?_ | refine WC.condT rfl ?_ | refine WC.condF rfl ?_ | refine WL.off rfl rfl rfl ?_ | refine WL.off0 rfl rfl ?_ | refine WC.exit ?_ | refine blk_hit ?_ | refine blk_miss rfl ?_ | refine WC.ret ?_)
    cases cf with
    | true =>
      obtain ⟨rfl, rfl⟩ := Prod.mk.inj hE
      repeat (first | refine WC.seq ?_ | refine WC.reg ?_ | refine WL.pure rfl rfl rfl ?_ | refine WL.nil ?_ | refine WC.skip ?_ | refine WC.block ?_ | refine WC.condT rfl ?_ | refine WC.condF rfl ?_ | refine WL.off rfl rfl rfl ?_ | refine WL.off0 rfl rfl ?_ | refine WC.exit ?_ | refine blk_hit ?_ | refine blk_miss rfl ?_ | refine WC.ret ?_)
      refine WL.call rfl rfl rfl rfl rfl ent16 (awake_any w8 (hmx.hp hp8)) ?_
      rintro _ w9 ⟨rfl, hp9⟩
      repeat (first | refine WC.seq ?_ | refine WC.reg ?_ | refine WL.pure rfl rfl rfl ?_ | refine WL.nil ?_ | refine WC.skip ?_ | refine WC.block ?_ | refine WC.condT rfl ?_ | refine WC.condF rfl ?_ | refine WL.off rfl rfl rfl ?_ | refine WL.off0 rfl rfl ?_ | refine WC.exit ?_ | refine blk_hit ?_ | refine blk_miss rfl ?_ | refine WC.ret ?_)
      exact Res.one rfl rfl rfl ⟨rfl, (hp8.comb hp9).nil'⟩
    | false =>
      obtain ⟨rfl, rfl⟩ := Prod.mk.inj hE
      repeat (first | refine WC.seq ?_ | refine WC.reg ?_ | refine WL.pure rfl rfl rfl ?_ | refine WL.nil ?_ | refine WC.skip ?_ | refine WC.block ?_ | refine WC.condT rfl ?_ | refine WC.condF rfl ?_ | refine WL.off rfl rfl rfl ?_ | refine WL.off0 rfl rfl ?_ | refine WC.exit ?_ | refine blk_hit ?_ | refine blk_miss rfl ?_ | refine WC.ret ?_)
      refine WL.call rfl rfl rfl rfl rfl ent16 (awake_any w8 (hmx.hp hp8)) ?_
      rintro _ w9 ⟨rfl, hp9⟩
      repeat (first | refine WC.seq ?_ | refine WC.reg ?_ | refine WL.pure rfl rfl rfl ?_ | refine WL.nil ?_ | refine WC.skip ?_ | refine WC.block ?_ | refine WC.condT rfl ?_ | refine WC.condF rfl ?_ | refine WL.off rfl rfl rfl ?_ | refine WL.off0 rfl rfl ?_ | refine WC.exit ?_ | refine blk_hit ?_ | refine blk_miss rfl ?_ | refine WC.ret ?_)
      exact Res.one rfl rfl rfl ⟨rfl, (hp8.comb hp9).nil'⟩
end Go.Proofs.YtoghnhbjdnjghaaGreat
