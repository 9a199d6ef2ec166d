/- The walk of WordsOwn. -/
import Derived.Test.YtoghnhbjdnjghaaGreatV38a
import Derived.Test.YtoghnhbjdnjghaaGreatV35
import Derived.Test.YtoghnhbjdnjghaaGreatV5p
namespace Go.Words
open Go.W Go.Proofs.YtoghnhbjdnjghaaGreat
theorem rulesM_self {l : List Rl} {m : Nat} (h : Sm 25 l) (hl : l.length ≤ m) (hm : m ≤ 64) : rulesM l m = l := by
  unfold rulesM rulesN
  rw [if_neg (by omega), Nat.min_eq_left hl, List.take_length]
  conv => rhs; rw [← List.map_id l]
  refine List.map_congr_left (fun r hr => ?_)
  have h1 := h r hr
  unfold cutR
  rw [List.take_of_length_le h1.1, List.take_of_length_le h1.2]; rfl
end Go.Words
namespace Go.Proofs.YtoghnhbjdnjghaaGreat
open Go.W Go.Words Go.RowKit
set_option maxRecDepth 100000
attribute [local irreducible] WC WL WQ WS WH

theorem TidyQ.to {l : List Rl} {w w' : World} {u : Value} (h : TidyQ l w u w') : ∃ pa pc TL e, u = .tuple #[.slice pa (List.length TL) pc, .int .i64 e] ∧ Hp w w' [Rt (.slice pa TL.length pc) TL] := by
  unfold TidyQ at h
  split at h
  · cases ht : tidyM l with
    | none => rw [ht] at h; exact ⟨none, 0, [], 5, h.1, h.2.nilrow _ _⟩
    | some t => rw [ht] at h; obtain ⟨pa, pc, h1, h2⟩ := h; exact ⟨pa, pc, t, 0, h1, h2⟩
  · exact ⟨none, 0, [], 2, h.1, h.2.nilrow _ _⟩
/-- What a row may have become that is written into. -/
def Wr (E : TypeId) (a : Option Addr) (n c : Nat) (X : List Ent) : Prop := (n = 0 ∧ X = []) ∨ ∃ (b : Nat) (cur : Array Value), a = some ⟨b, 0, none⟩ ∧ n ≤ c ∧ c ≤ maxLen ∧ cur.size = c * 2 ∧ X = [.blk b (.cells cur E (0, 0))]
theorem Wr.le {E : TypeId} {a : Option Addr} {n c : Nat} {X : List Ent} (h : Wr E a n c X) : n ≤ 9223372036854775807 := by
  obtain ⟨h, _⟩ | ⟨b, cur, _, h1, h2, _⟩ := h
  · omega
  · unfold maxLen at h2; omega
theorem Wr.drop {E : TypeId} {a : Option Addr} {n c : Nat} {X L : List Ent} {w0 w : World} (h : Wr E a n c X) (hp : Hp w0 w (X ++ L)) : Hp w0 w L := by
  obtain ⟨_, rfl⟩ | ⟨b, cur, _, _, _, _, rfl⟩ := h
  · exact hp
  · exact hp.tail
theorem _root_.Go.W.Hp.wr {E : TypeId} {a : Option Addr} {n c : Nat} {xs : List Value} {L : List Ent} {w0 w : World} (h : Hp w0 w (.row E 2 (.slice a n c) n xs :: L)) : ∃ X, Hp w0 w (X ++ L) ∧ Wr E a n c X := by
  rcases h.unrow0 with ⟨hv, h0⟩ | ⟨b, cap, cur, hv, hnc, hcm, hcs, _, hp⟩
  · exact ⟨[], h.tail, .inl ⟨h0, rfl⟩⟩
  · simp only [Value.slice.injEq] at hv
    obtain ⟨rfl, _, rfl⟩ := hv
    exact ⟨[.blk b (.cells cur E (0, 0))], hp, .inr ⟨b, cur, rfl, hnc, hcm, hcs, rfl⟩⟩
theorem store_size {arr : Array Value} {j c : Nat} {vs : List Value} (hs : arr.size = c) (hv : j + vs.length ≤ c) : ((arr.toList.take j ++ vs ++ arr.toList.drop (j + vs.length)).toArray).size = c := by
  rw [List.size_toArray, List.length_append, List.length_append, List.length_take, List.length_drop, Array.length_toList]
  omega
set_option maxHeartbeats 2000000 in
theorem WordsOwn_any (a : Option Addr) (cap : Nat) (l : List Rl) (hlen : l.length ≤ 9223372036854775807) (hsm : Sm 9223372036854775807 l) (w : World) (hmx : Mx w) (hs : Sl w a (rcs l)) :
    Ret Tryz.prog 7 [.slice a l.length cap] w fun u w' => u = .bool true ∧ Hp w w' [] := by
  have hTl := tameM_len l 6 6 3
  have hTs := tameM_sm l 6 6 3
  have hTg := tameM_lg l 6 6 (k := 3) (by decide) (by decide)
  refine enter Tryz.func7 rfl rfl ⟨rfl, rfl⟩ rfl ?_
  repeat (first | refine WC.seq ?_ | refine WC.reg ?_ | refine WL.pure rfl rfl rfl ?_ | refine WL.nil ?_ | refine WC.skip ?_ | refine WC.block ?_ | refine WC.condT rfl ?_ | refine WC.condF rfl ?_ | refine WL.off rfl rfl rfl ?_ | refine WL.off0 rfl rfl ?_ | refine WC.exit ?_ | refine blk_hit ?_ | refine blk_miss rfl ?_ | refine WC.ret ?_)
  refine WL.call rfl rfl rfl rfl rfl ent27 (tame_any a cap l 6 6 3 (by decide) (by decide) (by decide) (by decide) hlen hsm w hs) ?_
  rintro _ w1 ⟨qa, qc, rfl, hp1⟩
  generalize tameM l 6 6 3 = T at *
  refine WL.call rfl rfl rfl rfl rfl ent26 (oriented_any qa qc T (by omega) w1 (Sl.of_row (hp1.at 0 rfl))) ?_
  rintro _ w2 ⟨oa, oc, rfl, hp2⟩
  have hp2 := (hp1.comb hp2).drop1
  have hL := (eqsM_inv hTs).2
  have hLl := eqsM_len T
  have hLs : sysB (eqsM T) = true := sys_of (eqsM_kp (hTg.mono (by decide))) (hL.mono (by decide)) (by omega)
  have hLr : rulesM (eqsM T) 6 = eqsM T := rulesM_self (hL.mono (by decide)) (by omega) (by decide)
  generalize eqsM T = L at *
  have hp2 : Hp w w2 [Rt (.slice oa L.length oc) L] := hp2
  repeat (first | refine WC.seq ?_ | refine WC.reg ?_ | refine WL.pure rfl rfl rfl ?_ | refine WL.nil ?_ | refine WC.skip ?_ | refine WC.block ?_ | refine WC.condT rfl ?_ | refine WC.condF rfl ?_ | refine WL.off rfl rfl rfl ?_ | refine WL.off0 rfl rfl ?_ | refine WC.exit ?_ | refine blk_hit ?_ | refine blk_miss rfl ?_ | refine WC.ret ?_)
  refine WL.call rfl rfl rfl rfl rfl ent10 (rules_any oa oc L 6 (by decide) (by omega) (hL.mono (by decide)) w2 (Sl.of_row (hp2.at 0 rfl))) ?_
  rintro _ w3 ⟨ga, gc, rfl, hp3⟩
  rw [hLr] at hp3 ⊢
  have hp3 := hp2.comb hp3
  have hp3 : Hp w w3 [Rt (.slice ga L.length gc) L, Rt (.slice oa L.length oc) L] := hp3
  repeat (first | refine WC.seq ?_ | refine WC.reg ?_ | refine WL.pure rfl rfl rfl ?_ | refine WL.nil ?_ | refine WC.skip ?_ | refine WC.block ?_ | refine WC.condT rfl ?_ | refine WC.condF rfl ?_ | refine WL.off rfl rfl rfl ?_ | refine WL.off0 rfl rfl ?_ | refine WC.exit ?_ | refine blk_hit ?_ | refine blk_miss rfl ?_ | refine WC.ret ?_)
  refine WL.call rfl rfl rfl rfl rfl ent20 (Pairs_any oa oc L (hL.mono (by decide)) w3 (Sl.of_row (hp3.at 1 rfl))) ?_
  rintro _ w4 ⟨pa, pc, rfl, hp4⟩
  have hp4 := hp3.comb hp4
  rw [hLs] at hp4 ⊢
  simp only [if_true] at hp4 ⊢
  have hpl : (pairsM L).length ≤ 1000000 := by
    refine Nat.le_trans (pairsM_len hL) ?_
    refine Nat.le_trans (Nat.mul_le_mul (show L.length ≤ 6 by omega) (Nat.mul_le_mul_right _ (show L.length ≤ 6 by omega))) ?_
    decide
  generalize pairsM L = PS at *
  have hp4 : Hp w w4 [Rr (.slice pa PS.length pc) PS, Rt (.slice ga L.length gc) L, Rt (.slice oa L.length oc) L] := hp4
  repeat (first | refine WC.seq ?_ | refine WC.reg ?_ | refine WL.pure rfl rfl rfl ?_ | refine WL.nil ?_ | refine WC.skip ?_ | refine WC.block ?_ | refine WC.condT rfl ?_ | refine WC.condF rfl ?_ | refine WL.off rfl rfl rfl ?_ | refine WL.off0 rfl rfl ?_ | refine WC.exit ?_ | refine blk_hit ?_ | refine blk_miss rfl ?_ | refine WC.ret ?_)
  refine WL.call rfl rfl rfl rfl rfl ent24 (Tidy_any oa oc L (hL.mono (by decide)) w4 (hmx.hp hp4) (Sl.of_row (hp4.at 2 rfl))) ?_
  intro u w5 hu
  obtain ⟨ta, tc, TL, te, rfl, hp5⟩ := hu.to
  clear hu
  have hp5 := hp4.comb hp5
  have hp5 : Hp w w5 [Rt (.slice ta TL.length tc) TL, Rr (.slice pa PS.length pc) PS, Rt (.slice ga L.length gc) L, Rt (.slice oa L.length oc) L] := hp5
  repeat (first | refine WC.seq ?_ | refine WC.reg ?_ | refine WL.pure rfl rfl rfl ?_ | refine WL.nil ?_ | refine WC.skip ?_ | refine WC.block ?_ | refine WC.condT rfl ?_ | refine WC.condF rfl ?_ | refine WL.off rfl rfl rfl ?_ | refine WL.off0 rfl rfl ?_ | refine WC.exit ?_ | refine blk_hit ?_ | refine blk_miss rfl ?_ | refine WC.ret ?_)
  refine WL.call rfl rfl rfl rfl rfl ent18 (Complete_any oa oc L (2 : Nat) (hL.mono (by decide)) w5 (hmx.hp hp5) (Sl.of_row (hp5.at 3 rfl))) ?_
  intro u w6 hu
  obtain ⟨ca, cc, rfl, hp6⟩ := hu.to
  have hp6 := hp5.comb hp6
  clear hu
  generalize CompR L (2 : Nat) = R at *
  obtain ⟨CL, cb, ce⟩ := R
  have hp6 : Hp w w6 [Rt (.slice ca CL.length cc) CL, Rt (.slice ta TL.length tc) TL, Rr (.slice pa PS.length pc) PS, Rt (.slice ga L.length gc) L, Rt (.slice oa L.length oc) L] := hp6
  clear hp5 hp4 hp3 hp2 hp1
  have hp6 : Hp w w6 [Rr (.slice pa PS.length pc) PS, Rt (.slice ta TL.length tc) TL, Rt (.slice ca CL.length cc) CL, Rt (.slice ga L.length gc) L, Rt (.slice oa L.length oc) L] := hp6.pick [2, 1, 0, 3, 4] (by decide)
  obtain ⟨Y6, hp6y, hY6⟩ := hp6.wr
  clear hp6
  have hX6 : PS.length ≤ 9223372036854775807 := hY6.le
  repeat (first | refine WC.seq ?_ | refine WC.reg ?_ | refine WL.pure rfl rfl rfl ?_ | refine WL.nil ?_ | refine WC.skip ?_ | refine WC.block ?_ | refine WC.condT rfl ?_ | refine WC.condF rfl ?_ | refine WL.off rfl rfl rfl ?_ | refine WL.off0 rfl rfl ?_ | refine WC.exit ?_ | refine blk_hit ?_ | refine blk_miss rfl ?_ | refine WC.ret ?_)
  refine WC.loop (Nat × List Ent) (fun (i, _) => [(3, .slice oa L.length oc), (4, .slice ga L.length gc), (6, .int .i64 0), (7, .slice ta TL.length tc), (9, .slice ca CL.length cc), (5, .slice pa PS.length pc), (12, .int .i64 (i : Nat))])
    (fun (i, Y) w' => i ≤ PS.length ∧ Wr 46 pa PS.length pc Y ∧ Hp w w' (Y ++ [Rt (.slice ta TL.length tc) TL, Rt (.slice ca CL.length cc) CL, Rt (.slice ga L.length gc) L, Rt (.slice oa L.length oc) L])) (fun (i, _) => PS.length - i) (0, Y6) ⟨rfl, rfl, rfl, rfl, rfl, rfl, rfl, rfl⟩ ⟨Nat.zero_le _, hY6, hp6y⟩ ?_
  clear hp6y hY6
  rintro ⟨i, Y⟩ w16 ⟨hi, hY, hp16⟩
  repeat (first | refine WC.seq ?_ | refine WC.reg ?_ | refine WL.pure rfl rfl rfl ?_ | refine WL.nil ?_ | refine WC.skip ?_ | refine WC.block ?_ | refine WC.condT rfl ?_ | refine WC.condF rfl ?_ | refine WL.off rfl rfl rfl ?_ | refine WL.off0 rfl rfl ?_ | refine WC.exit ?_ | refine blk_hit ?_ | refine blk_miss rfl ?_ | refine WC.ret ?_)
  refine WC.cond rfl (fun hc => ?_) (fun hc => ?_)
  · have hi : i < PS.length := by have := of_decide_eq_true hc; omega
    have step := wrap_succ hi hX6
    obtain ⟨h0, _⟩ | ⟨b, arr, rfl, hnc, hcm, has, rfl⟩ := hY
    · omega
    repeat (first | refine WC.seq ?_ | refine WC.reg ?_ | refine WL.pure rfl rfl rfl ?_ | refine WL.nil ?_ | refine WC.skip ?_ | refine WC.block ?_ | refine WC.condT rfl ?_ | refine WC.condF rfl ?_ | refine WL.off rfl rfl rfl ?_ | refine WL.off0 rfl rfl ?_ | refine WC.exit ?_ | refine blk_hit ?_ | refine blk_miss rfl ?_ | refine WC.ret ?_)
    refine WL.buildA (cs := [st [120], st [121]]) rfl rfl rfl rfl rfl rfl ?_
    refine WL.ix rfl rfl rfl rfl rfl (j := i) hi rfl ?_
    refine WL.storeN (vs := ([st [120], st [121]] : List Value).toArray) rfl rfl rfl rfl rfl (by intro v hv; simp only [List.mem_cons, List.not_mem_nil, or_false] at hv; rcases hv with rfl | rfl <;> rfl) (hp16.obj 0 rfl) (by show 0 + i * 2 + 2 ≤ arr.size; omega) rfl (fun w8 hw8 => ?_)
    have hp8 := hp16.set 0 rfl rfl hw8
    repeat (first | refine WC.seq ?_ | refine WC.reg ?_ | refine WL.pure rfl rfl rfl ?_ | refine WL.nil ?_ | refine WC.skip ?_ | refine WC.block ?_ | refine WC.condT rfl ?_ | refine WC.condF rfl ?_ | refine WL.off rfl rfl rfl ?_ | refine WL.off0 rfl rfl ?_ | refine WC.exit ?_ | refine blk_hit ?_ | refine blk_miss rfl ?_ | refine WC.ret ?_)
    exact ⟨(i + 1, [.blk b (.cells _ 46 (0, 0))]), (by show PS.length - (i + 1) < PS.length - i; omega), ⟨rfl, rfl, rfl, rfl, rfl, rfl, congrArg (fun z => some (Value.int .i64 z)) step, rfl⟩, by omega, .inr ⟨b, _, rfl, hnc, hcm, store_size (vs := [st [120], st [121]]) has (by show 0 + i * 2 + 2 ≤ _; omega), rfl⟩, hp8⟩
  replace hp16 := hY.drop hp16
  clear hY hc
  obtain ⟨Y16, hp16y, hY16⟩ := hp16.wr
  clear hp16
  have hX16 : TL.length ≤ 9223372036854775807 := hY16.le
  repeat (first | refine WC.seq ?_ | refine WC.reg ?_ | refine WL.pure rfl rfl rfl ?_ | refine WL.nil ?_ | refine WC.skip ?_ | refine WC.block ?_ | refine WC.condT rfl ?_ | refine WC.condF rfl ?_ | refine WL.off rfl rfl rfl ?_ | refine WL.off0 rfl rfl ?_ | refine WC.exit ?_ | refine blk_hit ?_ | refine blk_miss rfl ?_ | refine WC.ret ?_)
  refine WC.loop (Nat × List Ent) (fun (i, _) => [(3, .slice oa L.length oc), (4, .slice ga L.length gc), (6, .int .i64 0), (9, .slice ca CL.length cc), (7, .slice ta TL.length tc), (13, .int .i64 (i : Nat))])
    (fun (i, Y) w' => i ≤ TL.length ∧ Wr 56 ta TL.length tc Y ∧ Hp w w' (Y ++ [Rt (.slice ca CL.length cc) CL, Rt (.slice ga L.length gc) L, Rt (.slice oa L.length oc) L])) (fun (i, _) => TL.length - i) (0, Y16) ⟨rfl, rfl, rfl, rfl, rfl, rfl, rfl⟩ ⟨Nat.zero_le _, hY16, hp16y⟩ ?_
  clear hp16y hY16
  rintro ⟨i, Y⟩ w26 ⟨hi, hY, hp26⟩
  repeat (first | refine WC.seq ?_ | refine WC.reg ?_ | refine WL.pure rfl rfl rfl ?_ | refine WL.nil ?_ | refine WC.skip ?_ | refine WC.block ?_ | refine WC.condT rfl ?_ | refine WC.condF rfl ?_ | refine WL.off rfl rfl rfl ?_ | refine WL.off0 rfl rfl ?_ | refine WC.exit ?_ | refine blk_hit ?_ | refine blk_miss rfl ?_ | refine WC.ret ?_)
  refine WC.cond rfl (fun hc => ?_) (fun hc => ?_)
  · have hi : i < TL.length := by have := of_decide_eq_true hc; omega
    have step := wrap_succ hi hX16
    obtain ⟨h0, _⟩ | ⟨b, arr, rfl, hnc, hcm, has, rfl⟩ := hY
    · omega
    repeat (first | refine WC.seq ?_ | refine WC.reg ?_ | refine WL.pure rfl rfl rfl ?_ | refine WL.nil ?_ | refine WC.skip ?_ | refine WC.block ?_ | refine WC.condT rfl ?_ | refine WC.condF rfl ?_ | refine WL.off rfl rfl rfl ?_ | refine WL.off0 rfl rfl ?_ | refine WC.exit ?_ | refine blk_hit ?_ | refine blk_miss rfl ?_ | refine WC.ret ?_)
    refine WL.buildT (cs := [st [120], st []]) rfl rfl rfl rfl rfl rfl ?_
    refine WL.ix rfl rfl rfl rfl rfl (j := i) hi rfl ?_
    refine WL.storeN (vs := ([st [120], st []] : List Value).toArray) rfl rfl rfl rfl rfl (by intro v hv; simp only [List.mem_cons, List.not_mem_nil, or_false] at hv; rcases hv with rfl | rfl <;> rfl) (hp26.obj 0 rfl) (by show 0 + i * 2 + 2 ≤ arr.size; omega) rfl (fun w8 hw8 => ?_)
    have hp8 := hp26.set 0 rfl rfl hw8
    repeat (first | refine WC.seq ?_ | refine WC.reg ?_ | refine WL.pure rfl rfl rfl ?_ | refine WL.nil ?_ | refine WC.skip ?_ | refine WC.block ?_ | refine WC.condT rfl ?_ | refine WC.condF rfl ?_ | refine WL.off rfl rfl rfl ?_ | refine WL.off0 rfl rfl ?_ | refine WC.exit ?_ | refine blk_hit ?_ | refine blk_miss rfl ?_ | refine WC.ret ?_)
    exact ⟨(i + 1, [.blk b (.cells _ 56 (0, 0))]), (by show TL.length - (i + 1) < TL.length - i; omega), ⟨rfl, rfl, rfl, rfl, rfl, congrArg (fun z => some (Value.int .i64 z)) step, rfl⟩, by omega, .inr ⟨b, _, rfl, hnc, hcm, store_size (vs := [st [120], st []]) has (by show 0 + i * 2 + 2 ≤ _; omega), rfl⟩, hp8⟩
  replace hp26 := hY.drop hp26
  clear hY hc
  obtain ⟨Y26, hp26y, hY26⟩ := hp26.wr
  clear hp26
  have hX26 : CL.length ≤ 9223372036854775807 := hY26.le
  repeat (first | refine WC.seq ?_ | refine WC.reg ?_ | refine WL.pure rfl rfl rfl ?_ | refine WL.nil ?_ | refine WC.skip ?_ | refine WC.block ?_ | refine WC.condT rfl ?_ | refine WC.condF rfl ?_ | refine WL.off rfl rfl rfl ?_ | refine WL.off0 rfl rfl ?_ | refine WC.exit ?_ | refine blk_hit ?_ | refine blk_miss rfl ?_ | refine WC.ret ?_)
  refine WC.loop (Nat × List Ent) (fun (i, _) => [(3, .slice oa L.length oc), (4, .slice ga L.length gc), (6, .int .i64 0), (9, .slice ca CL.length cc), (14, .int .i64 (i : Nat))])
    (fun (i, Y) w' => i ≤ CL.length ∧ Wr 56 ca CL.length cc Y ∧ Hp w w' (Y ++ [Rt (.slice ga L.length gc) L, Rt (.slice oa L.length oc) L])) (fun (i, _) => CL.length - i) (0, Y26) ⟨rfl, rfl, rfl, rfl, rfl, rfl⟩ ⟨Nat.zero_le _, hY26, hp26y⟩ ?_
  clear hp26y hY26
  rintro ⟨i, Y⟩ w36 ⟨hi, hY, hp36⟩
  repeat (first | refine WC.seq ?_ | refine WC.reg ?_ | refine WL.pure rfl rfl rfl ?_ | refine WL.nil ?_ | refine WC.skip ?_ | refine WC.block ?_ | refine WC.condT rfl ?_ | refine WC.condF rfl ?_ | refine WL.off rfl rfl rfl ?_ | refine WL.off0 rfl rfl ?_ | refine WC.exit ?_ | refine blk_hit ?_ | refine blk_miss rfl ?_ | refine WC.ret ?_)
  refine WC.cond rfl (fun hc => ?_) (fun hc => ?_)
  · have hi : i < CL.length := by have := of_decide_eq_true hc; omega
    have step := wrap_succ hi hX26
    obtain ⟨h0, _⟩ | ⟨b, arr, rfl, hnc, hcm, has, rfl⟩ := hY
    · omega
    repeat (first | refine WC.seq ?_ | refine WC.reg ?_ | refine WL.pure rfl rfl rfl ?_ | refine WL.nil ?_ | refine WC.skip ?_ | refine WC.block ?_ | refine WC.condT rfl ?_ | refine WC.condF rfl ?_ | refine WL.off rfl rfl rfl ?_ | refine WL.off0 rfl rfl ?_ | refine WC.exit ?_ | refine blk_hit ?_ | refine blk_miss rfl ?_ | refine WC.ret ?_)
    refine WL.buildT (cs := [st [120], st []]) rfl rfl rfl rfl rfl rfl ?_
    refine WL.ix rfl rfl rfl rfl rfl (j := i) hi rfl ?_
    refine WL.storeN (vs := ([st [120], st []] : List Value).toArray) rfl rfl rfl rfl rfl (by intro v hv; simp only [List.mem_cons, List.not_mem_nil, or_false] at hv; rcases hv with rfl | rfl <;> rfl) (hp36.obj 0 rfl) (by show 0 + i * 2 + 2 ≤ arr.size; omega) rfl (fun w8 hw8 => ?_)
    have hp8 := hp36.set 0 rfl rfl hw8
    repeat (first | refine WC.seq ?_ | refine WC.reg ?_ | refine WL.pure rfl rfl rfl ?_ | refine WL.nil ?_ | refine WC.skip ?_ | refine WC.block ?_ | refine WC.condT rfl ?_ | refine WC.condF rfl ?_ | refine WL.off rfl rfl rfl ?_ | refine WL.off0 rfl rfl ?_ | refine WC.exit ?_ | refine blk_hit ?_ | refine blk_miss rfl ?_ | refine WC.ret ?_)
    exact ⟨(i + 1, [.blk b (.cells _ 56 (0, 0))]), (by show CL.length - (i + 1) < CL.length - i; omega), ⟨rfl, rfl, rfl, rfl, congrArg (fun z => some (Value.int .i64 z)) step, rfl⟩, by omega, .inr ⟨b, _, rfl, hnc, hcm, store_size (vs := [st [120], st []]) has (by show 0 + i * 2 + 2 ≤ _; omega), rfl⟩, hp8⟩
  replace hp36 := hY.drop hp36
  clear hY hc
  have hp6 := hp36
  repeat (first | refine WC.seq ?_ | refine WC.reg ?_ | refine WL.pure rfl rfl rfl ?_ | refine WL.nil ?_ | refine WC.skip ?_ | refine WC.block ?_ | refine WC.condT rfl ?_ | refine WC.condF rfl ?_ | refine WL.off rfl rfl rfl ?_ | refine WL.off0 rfl rfl ?_ | refine WC.exit ?_ | refine blk_hit ?_ | refine blk_miss rfl ?_ | refine WC.ret ?_)
  refine WL.call rfl rfl rfl rfl rfl ent24 (Tidy_any oa oc L (hL.mono (by decide)) w36 (hmx.hp hp6) (Sl.of_row (hp6.at 1 rfl))) ?_
  intro u w7 hu
  unfold TidyQ at hu
  rw [hLs, if_pos rfl] at hu
  have hLd := sys_dn hLs
  cases ht : tidyM L with
  | none =>
    rw [ht] at hu
    obtain ⟨rfl, hp7⟩ := hu
    have hp7 := hp6.comb hp7
    repeat (first | refine WC.seq ?_ | refine WC.reg ?_ | refine WL.pure rfl rfl rfl ?_ | refine WL.nil ?_ | refine WC.skip ?_ | refine WC.block ?_ | refine WC.condT rfl ?_ | refine WC.condF rfl ?_ | refine WL.off rfl rfl rfl ?_ | refine WL.off0 rfl rfl ?_ | refine WC.exit ?_ | refine blk_hit ?_ | refine blk_miss rfl ?_ | refine WC.ret ?_)
    refine WL.call rfl rfl rfl rfl rfl ent25 (rTidy_any ga gc L (by omega) hLd (hL.mono (by decide)) w7 (Sl.of_row (hp7.at 0 rfl))) ?_
    intro u w8 hu
    rw [ht] at hu
    obtain ⟨rfl, hp8⟩ := hu
    have hp8 := hp7.comb hp8
    repeat (first | refine WC.seq ?_ | refine WC.reg ?_ | refine WL.pure rfl rfl rfl ?_ | refine WL.nil ?_ | refine WC.skip ?_ | refine WC.block ?_ | refine WC.condT rfl ?_ | refine WC.condF rfl ?_ | refine WL.off rfl rfl rfl ?_ | refine WL.off0 rfl rfl ?_ | refine WC.exit ?_ | refine blk_hit ?_ | refine blk_miss rfl ?_ | refine WC.ret ?_)
    refine WL.call rfl rfl rfl rfl rfl ent13 (same_any oa ga oc gc L L (by omega) w8 (Sl.of_row (hp8.at 1 rfl)) (Sl.of_row (hp8.at 0 rfl))) ?_
    rintro _ w9 ⟨rfl, hp9⟩
    rw [decide_eq_true rfl]
    have hp9 := hp8.comb hp9
    repeat (first | refine WC.seq ?_ | refine WC.reg ?_ | refine WL.pure rfl rfl rfl ?_ | refine WL.nil ?_ | refine WC.skip ?_ | refine WC.block ?_ | refine WC.condT rfl ?_ | refine WC.condF rfl ?_ | refine WL.off rfl rfl rfl ?_ | refine WL.off0 rfl rfl ?_ | refine WC.exit ?_ | refine blk_hit ?_ | refine blk_miss rfl ?_ | refine WC.ret ?_)
    refine WL.call rfl rfl rfl rfl rfl ent16 (awake_any w9 (hmx.hp hp9)) ?_
    rintro _ w10 ⟨rfl, hp10⟩
    repeat (first | refine WC.seq ?_ | refine WC.reg ?_ | refine WL.pure rfl rfl rfl ?_ | refine WL.nil ?_ | refine WC.skip ?_ | refine WC.block ?_ | refine WC.condT rfl ?_ | refine WC.condF rfl ?_ | refine WL.off rfl rfl rfl ?_ | refine WL.off0 rfl rfl ?_ | refine WC.exit ?_ | refine blk_hit ?_ | refine blk_miss rfl ?_ | refine WC.ret ?_)
    exact Res.one rfl rfl rfl ⟨rfl, (hp9.comb hp10).nil'⟩
  | some t =>
    rw [ht] at hu
    obtain ⟨xa, xc, rfl, hp7⟩ := hu
    have hp7 := hp6.comb hp7
    have hp7 : Hp w w7 [Rt (.slice xa t.length xc) t, Rt (.slice ga L.length gc) L, Rt (.slice oa L.length oc) L] := hp7
    obtain ⟨_, _, _, htl, _⟩ := tidyM_inv ht hLd hL
    repeat (first | refine WC.seq ?_ | refine WC.reg ?_ | refine WL.pure rfl rfl rfl ?_ | refine WL.nil ?_ | refine WC.skip ?_ | refine WC.block ?_ | refine WC.condT rfl ?_ | refine WC.condF rfl ?_ | refine WL.off rfl rfl rfl ?_ | refine WL.off0 rfl rfl ?_ | refine WC.exit ?_ | refine blk_hit ?_ | refine blk_miss rfl ?_ | refine WC.ret ?_)
    refine WL.call rfl rfl rfl rfl rfl ent25 (rTidy_any ga gc L (by omega) hLd (hL.mono (by decide)) w7 (Sl.of_row (hp7.at 1 rfl))) ?_
    intro u w8 hu
    rw [ht] at hu
    obtain ⟨ya, yc, rfl, hp8⟩ := hu
    have hp8 := hp7.comb hp8
    repeat (first | refine WC.seq ?_ | refine WC.reg ?_ | refine WL.pure rfl rfl rfl ?_ | refine WL.nil ?_ | refine WC.skip ?_ | refine WC.block ?_ | refine WC.condT rfl ?_ | refine WC.condF rfl ?_ | refine WL.off rfl rfl rfl ?_ | refine WL.off0 rfl rfl ?_ | refine WC.exit ?_ | refine blk_hit ?_ | refine blk_miss rfl ?_ | refine WC.ret ?_)
    refine WL.call rfl rfl rfl rfl rfl ent13 (same_any oa ga oc gc L L (by omega) w8 (Sl.of_row (hp8.at 3 rfl)) (Sl.of_row (hp8.at 2 rfl))) ?_
    rintro _ w9 ⟨rfl, hp9⟩
    rw [decide_eq_true rfl]
    have hp9 := hp8.comb hp9
    repeat (first | refine WC.seq ?_ | refine WC.reg ?_ | refine WL.pure rfl rfl rfl ?_ | refine WL.nil ?_ | refine WC.skip ?_ | refine WC.block ?_ | refine WC.condT rfl ?_ | refine WC.condF rfl ?_ | refine WL.off rfl rfl rfl ?_ | refine WL.off0 rfl rfl ?_ | refine WC.exit ?_ | refine blk_hit ?_ | refine blk_miss rfl ?_ | refine WC.ret ?_)
    refine WL.call rfl rfl rfl rfl rfl ent13 (same_any xa ya xc yc t t (by omega) w9 (Sl.of_row (hp9.at 1 rfl)) (Sl.of_row (hp9.at 0 rfl))) ?_
    rintro _ w10 ⟨rfl, hp10⟩
    rw [decide_eq_true rfl]
    have hp10 := hp9.comb hp10
    repeat (first | refine WC.seq ?_ | refine WC.reg ?_ | refine WL.pure rfl rfl rfl ?_ | refine WL.nil ?_ | refine WC.skip ?_ | refine WC.block ?_ | refine WC.condT rfl ?_ | refine WC.condF rfl ?_ | refine WL.off rfl rfl rfl ?_ | refine WL.off0 rfl rfl ?_ | refine WC.exit ?_ | refine blk_hit ?_ | refine blk_miss rfl ?_ | refine WC.ret ?_)
    refine WL.call rfl rfl rfl rfl rfl ent16 (awake_any w10 (hmx.hp hp10)) ?_
    rintro _ w11 ⟨rfl, hp11⟩
    repeat (first | refine WC.seq ?_ | refine WC.reg ?_ | refine WL.pure rfl rfl rfl ?_ | refine WL.nil ?_ | refine WC.skip ?_ | refine WC.block ?_ | refine WC.condT rfl ?_ | refine WC.condF rfl ?_ | refine WL.off rfl rfl rfl ?_ | refine WL.off0 rfl rfl ?_ | refine WC.exit ?_ | refine blk_hit ?_ | refine blk_miss rfl ?_ | refine WC.ret ?_)
    exact Res.one rfl rfl rfl ⟨rfl, (hp10.comb hp11).nil'⟩
end Go.Proofs.YtoghnhbjdnjghaaGreat
