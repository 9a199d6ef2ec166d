/- The walk of Count. -/
import Derived.Test.YtoghnhbjdnjghaaGreatV21
namespace Go.Words
open Go.W
/-- The sums of the lengths that are left, behind those that are known. -/
def couN (tab : List (List Int)) : Nat → List Int → List Int → Option (List Int)
  | 0, now, out => match totM now with
    | none => none
    | some s => some (out ++ [s])
  | k + 1, now, out => match totM now with
    | none => none
    | some s => match spM tab now with
      | none => none
      | some nw => couN tab k nw (out ++ [s])
def countM (l : List Rl) (k n : Nat) : Option (List Int) := couN (tabM l k) n (iniM (tabM l k).length) []
end Go.Words
namespace Go.Proofs.YtoghnhbjdnjghaaGreat
open Go.W Go.Words Go.RowKit
set_option maxRecDepth 100000
attribute [local irreducible] WC WL WQ WS WH

/-- A row of ints. -/
abbrev Ri (v : Value) (l : List Int) : Ent := .row 3 1 v l.length (zs l)
/-- What Count hands back. -/
def CouQ (l : List Rl) (k n : Int) (w : World) (u : Value) (w' : World) : Prop := if cntB l k && decide (0 ≤ n) && decide (n ≤ 40) then match countM l k.toNat n.toNat with
    | some o => ∃ pa pc, u = .tuple #[.slice pa o.length pc, .int .i64 0] ∧ Hp w w' [Ri (.slice pa o.length pc) o]
    | none => u = .tuple #[.slice none 0 0, .int .i64 5] ∧ Hp w w' []
  else u = .tuple #[.slice none 0 0, .int .i64 2] ∧ Hp w w' []
set_option maxHeartbeats 1000000 in
theorem Count_any (a : Option Addr) (cap : Nat) (l : List Rl) (k z : Int) (hm : Sm 9223372036854775807 l) (w : World) (hs : Sl w a (rcs l)) :
    Ret Tryz.prog 29 [.slice a l.length cap, .int .i64 k, .int .i64 z] w (CouQ l k z w) := by
  refine enter Tryz.func29 rfl rfl ⟨rfl, rfl⟩ rfl ?_
  repeat (first | refine WC.seq ?_ | refine WC.reg ?_ | refine WL.pure rfl rfl rfl ?_ | refine WL.nil ?_ | refine WC.skip ?_ | refine WC.block ?_ | refine WC.condT rfl ?_ | refine WC.condF rfl ?_ | refine WL.off rfl rfl rfl ?_ | refine WL.off0 rfl rfl ?_ | refine WC.exit ?_ | refine blk_hit ?_ | refine blk_miss rfl ?_ | refine WC.ret ?_)
  refine WL.call rfl rfl rfl rfl rfl ent53 (isCounted_any a cap l k hm w hs) ?_
  rintro _ w1 ⟨rfl, hp1⟩
  have hbad : (cntB l k && decide (0 ≤ z) && decide (z ≤ 40)) = false → CouQ l k z w (.tuple #[.slice none 0 0, .int .i64 2]) w1 := fun h => by
    unfold CouQ
    rw [h, if_neg (by decide)]
    exact ⟨rfl, hp1⟩
  have hgood : (cntB l k && decide (0 ≤ z) && decide (z ≤ 40)) = true → ∀ u w', (match countM l k.toNat z.toNat with
    | some o => ∃ pa pc, u = .tuple #[.slice pa o.length pc, .int .i64 0] ∧ Hp w w' [Ri (.slice pa o.length pc) o]
    | none => u = .tuple #[.slice none 0 0, .int .i64 5] ∧ Hp w w' [] : Prop) → CouQ l k z w u w' := fun h u w' hx => by
    unfold CouQ
    rw [h, if_pos rfl]
    exact hx
  repeat (first | refine WC.seq ?_ | refine WC.reg ?_ | refine WL.pure rfl rfl rfl ?_ | refine WL.nil ?_ | refine WC.skip ?_ | refine WC.block ?_ | refine WC.condT rfl ?_ | refine WC.condF rfl ?_ | refine WL.off rfl rfl rfl ?_ | refine WL.off0 rfl rfl ?_ | refine WC.exit ?_ | refine blk_hit ?_ | refine blk_miss rfl ?_ | refine WC.ret ?_)
  refine WL.split 17 rfl (fun h1 => ?_) (fun h1 => ?_)
  · have h1 : cntB l k = false := by simpa using h1
    repeat (first | refine WC.seq ?_ | refine WC.reg ?_ | refine WL.pure rfl rfl rfl ?_ | refine WL.nil ?_ | refine WC.skip ?_ | refine WC.block ?_ | refine WC.condT rfl ?_ | refine WC.condF rfl ?_ | refine WL.off rfl rfl rfl ?_ | refine WL.off0 rfl rfl ?_ | refine WC.exit ?_ | refine blk_hit ?_ | refine blk_miss rfl ?_ | refine WC.ret ?_)
    exact Res.two rfl rfl rfl rfl (hbad (by rw [h1]; rfl))
  have h1 : cntB l k = true := by simpa using h1
  repeat (first | refine WC.seq ?_ | refine WC.reg ?_ | refine WL.pure rfl rfl rfl ?_ | refine WL.nil ?_ | refine WC.skip ?_ | refine WC.block ?_ | refine WC.condT rfl ?_ | refine WC.condF rfl ?_ | refine WL.off rfl rfl rfl ?_ | refine WL.off0 rfl rfl ?_ | refine WC.exit ?_ | refine blk_hit ?_ | refine blk_miss rfl ?_ | refine WC.ret ?_)
  refine WL.split 21 rfl (fun h2 => ?_) (fun h2 => ?_)
  · have h2 : z < 0 := of_decide_eq_true h2
    repeat (first | refine WC.seq ?_ | refine WC.reg ?_ | refine WL.pure rfl rfl rfl ?_ | refine WL.nil ?_ | refine WC.skip ?_ | refine WC.block ?_ | refine WC.condT rfl ?_ | refine WC.condF rfl ?_ | refine WL.off rfl rfl rfl ?_ | refine WL.off0 rfl rfl ?_ | refine WC.exit ?_ | refine blk_hit ?_ | refine blk_miss rfl ?_ | refine WC.ret ?_)
    exact Res.two rfl rfl rfl rfl (hbad (by rw [decide_eq_false (show ¬ 0 ≤ z by omega), Bool.and_false, Bool.false_and]))
  have h2 : ¬ z < 0 := of_decide_eq_false h2
  repeat (first | refine WC.seq ?_ | refine WC.reg ?_ | refine WL.pure rfl rfl rfl ?_ | refine WL.nil ?_ | refine WC.skip ?_ | refine WC.block ?_ | refine WC.condT rfl ?_ | refine WC.condF rfl ?_ | refine WL.off rfl rfl rfl ?_ | refine WL.off0 rfl rfl ?_ | refine WC.exit ?_ | refine blk_hit ?_ | refine blk_miss rfl ?_ | refine WC.ret ?_)
  refine WC.cond rfl (fun h3 => ?_) (fun h3 => ?_)
  · have h3 : 40 < z := of_decide_eq_true h3
    repeat (first | refine WC.seq ?_ | refine WC.reg ?_ | refine WL.pure rfl rfl rfl ?_ | refine WL.nil ?_ | refine WC.skip ?_ | refine WC.block ?_ | refine WC.condT rfl ?_ | refine WC.condF rfl ?_ | refine WL.off rfl rfl rfl ?_ | refine WL.off0 rfl rfl ?_ | refine WC.exit ?_ | refine blk_hit ?_ | refine blk_miss rfl ?_ | refine WC.ret ?_)
    exact Res.two rfl rfl rfl rfl (hbad (by rw [decide_eq_false (show ¬ z ≤ 40 by omega), Bool.and_false]))
  have h3 : ¬ 40 < z := of_decide_eq_false h3
  have hgood := hgood (by rw [h1, decide_eq_true (show 0 ≤ z by omega), decide_eq_true (show z ≤ 40 by omega)]; rfl)
  clear hbad
  obtain ⟨m, rfl⟩ := Int.eq_ofNat_of_zero_le (show 0 ≤ z by omega)
  obtain ⟨hsys, n, rfl, hn1, hn⟩ := cntB_of h1
  have hln : l.length ≤ 64 := of_decide_eq_true (Bool.and_eq_true_iff.1 hsys).1
  have hsm : Sm 24 l := fun r hr => sys_side hsys r hr
  have hpx := prefM_pfx hsm
  have hpl := hpx.len
  have hp0 : 0 < (prefM l).length := by have := fnd_lt hpx.head; omega
  have htb := tabM_tb l hn hsm
  have htl := tabM_len l n
  rw [Int.toNat_natCast, Int.toNat_natCast] at hgood
  unfold countM at hgood
  repeat (first | refine WC.seq ?_ | refine WC.reg ?_ | refine WL.pure rfl rfl rfl ?_ | refine WL.nil ?_ | refine WC.skip ?_ | refine WC.block ?_ | refine WC.condT rfl ?_ | refine WC.condF rfl ?_ | refine WL.off rfl rfl rfl ?_ | refine WL.off0 rfl rfl ?_ | refine WC.exit ?_ | refine blk_hit ?_ | refine blk_miss rfl ?_ | refine WC.ret ?_)
  refine WL.call rfl rfl rfl rfl rfl ent54 (newAut_any a cap l n hn1 hn hln hsm w1 (hs.hp hp1)) ?_
  rintro _ w2 ⟨xb, R, rfl, hR, hA, hp2⟩
  have hp2 := hp1.over hp2
  have hRl : R.length = (tabM l n).length := by rw [← hR, List.length_map]
  generalize tabM l n = tab at *
  have hcl : ∀ x L, Hp w2 x L → Hp w x L := fun x L hx => hp2.over hx
  obtain ⟨na, nc, ht1, ht2⟩ := hA.top
  repeat (first | refine WC.seq ?_ | refine WC.reg ?_ | refine WL.pure rfl rfl rfl ?_ | refine WL.nil ?_ | refine WC.skip ?_ | refine WC.block ?_ | refine WC.condT rfl ?_ | refine WC.condF rfl ?_ | refine WL.off rfl rfl rfl ?_ | refine WL.off0 rfl rfl ?_ | refine WC.exit ?_ | refine blk_hit ?_ | refine blk_miss rfl ?_ | refine WC.ret ?_)
  refine WL.nilC rfl rfl rfl ?_
  repeat (first | refine WC.seq ?_ | refine WC.reg ?_ | refine WL.pure rfl rfl rfl ?_ | refine WL.nil ?_ | refine WC.skip ?_ | refine WC.block ?_ | refine WC.condT rfl ?_ | refine WC.condF rfl ?_ | refine WL.off rfl rfl rfl ?_ | refine WL.off0 rfl rfl ?_ | refine WC.exit ?_ | refine blk_hit ?_ | refine blk_miss rfl ?_ | refine WC.ret ?_)
  refine WL.loadB rfl rfl rfl rfl rfl ht1 (j := 0) rfl ?_
  repeat (first | refine WC.seq ?_ | refine WC.reg ?_ | refine WL.pure rfl rfl rfl ?_ | refine WL.nil ?_ | refine WC.skip ?_ | refine WC.block ?_ | refine WC.condT rfl ?_ | refine WC.condF rfl ?_ | refine WL.off rfl rfl rfl ?_ | refine WL.off0 rfl rfl ?_ | refine WC.exit ?_ | refine blk_hit ?_ | refine blk_miss rfl ?_ | refine WC.ret ?_)
  refine WL.make rfl rfl rfl rfl rfl rfl rfl rfl (by show 8 * R.length ≤ _; omega) (by unfold maxLen; omega) ?_
  intro nb w3 hnb
  have hp3 : Hp w2 w3 [.blk nb (.cells (zs (List.replicate R.length 0)).toArray 3 (0, 0))] := by
    have := (Hp.start w2).new hnb
    unfold zs
    rw [List.map_replicate]
    exact this
  repeat (first | refine WC.seq ?_ | refine WC.reg ?_ | refine WL.pure rfl rfl rfl ?_ | refine WL.nil ?_ | refine WC.skip ?_ | refine WC.block ?_ | refine WC.condT rfl ?_ | refine WC.condF rfl ?_ | refine WL.off rfl rfl rfl ?_ | refine WL.off0 rfl rfl ?_ | refine WC.exit ?_ | refine blk_hit ?_ | refine blk_miss rfl ?_ | refine WC.ret ?_)
  refine WL.ix rfl rfl rfl rfl rfl (j := 0) (by omega) rfl ?_
  refine WL.store rfl rfl rfl rfl rfl rfl (hp3.obj 0 rfl) (by rw [List.size_toArray, zs_len, List.length_replicate]; show 0 + 0 * 1 < _; omega) (fun w4 hw4 => ?_)
  rw [show 0 + 0 * ti3.size = 0 from rfl, zs_set] at hw4
  have hp4 : Hp w2 w4 [.row 3 1 (.slice none 0 0) 0 [], .blk nb (.cells (zs (iniM R.length)).toArray 3 (0, 0))] := (hp3.set 0 rfl rfl hw4).nilrow _ _
  rw [← hRl] at hgood
  repeat (first | refine WC.seq ?_ | refine WC.reg ?_ | refine WL.pure rfl rfl rfl ?_ | refine WL.nil ?_ | refine WC.skip ?_ | refine WC.block ?_ | refine WC.condT rfl ?_ | refine WC.condF rfl ?_ | refine WL.off rfl rfl rfl ?_ | refine WL.off0 rfl rfl ?_ | refine WC.exit ?_ | refine blk_hit ?_ | refine blk_miss rfl ?_ | refine WC.ret ?_)
  refine WC.loop (Nat × List Int × Option Addr × Nat × List Int) (fun (nb, now, va, vc, out) => [(2, .int .i64 (m : Nat)), (8, .pointer (some ⟨xb, 0, none⟩)), (9, .slice (some ⟨nb, 0, none⟩) now.length now.length), (10, .slice va out.length vc)])
    (fun (nb, now, va, vc, out) w' => out.length ≤ m ∧ now.length = R.length ∧ Cnt now ∧ couN tab m (iniM R.length) [] = couN tab (m - out.length) now out ∧ Hp w2 w' [Ri (.slice va out.length vc) out, .blk nb (.cells (zs now).toArray 3 (0, 0))]) (fun (_, _, _, _, out) => m - out.length) (nb, iniM R.length, none, 0, [])
    ⟨rfl, rfl, congrArg (fun z : Nat => some (Value.slice (some ⟨nb, 0, none⟩) z z)) (iniM_len R.length).symm, rfl, rfl⟩ ⟨Nat.zero_le _, iniM_len _, iniM_cnt _, rfl, hp4⟩ ?_
  clear hp4 hp3 hw4 hnb ht1 ht2
  rintro ⟨nb, now, va, vc, out⟩ w5 ⟨hol, hnl, hcn, hS, hp5⟩
  have hTb : Tb now.length tab := by rw [hnl, hRl]; exact htb
  repeat (first | refine WC.seq ?_ | refine WC.reg ?_ | refine WL.pure rfl rfl rfl ?_ | refine WL.nil ?_ | refine WC.skip ?_ | refine WC.block ?_ | refine WC.condT rfl ?_ | refine WC.condF rfl ?_ | refine WL.off rfl rfl rfl ?_ | refine WL.off0 rfl rfl ?_ | refine WC.exit ?_ | refine blk_hit ?_ | refine blk_miss rfl ?_ | refine WC.ret ?_)
  refine WL.call rfl rfl rfl rfl rfl ent55 (total_any _ _ now (by omega) hcn w5 (Sl.of_obj (hp5.obj 1 rfl) (fun j u hu => by simpa using hu))) ?_
  rintro _ w6 ⟨rfl, hw6⟩
  obtain rfl := hw6.symm
  have hnone : totM now = none → couN tab m (iniM R.length) [] = none := fun h => by
    rw [hS]
    cases m - out.length <;> (unfold couN; rw [h])
  cases hf : totM now with
  | none =>
    rw [hnone hf] at hgood
    unfold totV
    repeat (first | refine WC.seq ?_ | refine WC.reg ?_ | refine WL.pure rfl rfl rfl ?_ | refine WL.nil ?_ | refine WC.skip ?_ | refine WC.block ?_ | refine WC.condT rfl ?_ | refine WC.condF rfl ?_ | refine WL.off rfl rfl rfl ?_ | refine WL.off0 rfl rfl ?_ | refine WC.exit ?_ | refine blk_hit ?_ | refine blk_miss rfl ?_ | refine WC.ret ?_)
    exact Res.two rfl rfl rfl rfl (hgood _ _ ⟨rfl, hcl _ _ hp5.nil'⟩)
  | some s =>
    unfold totV
    repeat (first | refine WC.seq ?_ | refine WC.reg ?_ | refine WL.pure rfl rfl rfl ?_ | refine WL.nil ?_ | refine WC.skip ?_ | refine WC.block ?_ | refine WC.condT rfl ?_ | refine WC.condF rfl ?_ | refine WL.off rfl rfl rfl ?_ | refine WL.off0 rfl rfl ?_ | refine WC.exit ?_ | refine blk_hit ?_ | refine blk_miss rfl ?_ | refine WC.ret ?_)
    refine WL.buildS (cs := zs [s]) rfl rfl rfl rfl rfl rfl rfl rfl rfl ?_
    intro b6 w7 hb7
    have hp7 := hp5.new hb7
    refine WL.append 1 hp7 rfl rfl rfl rfl rfl (by decide) rfl rfl rfl (news := zs [s]) (Sl.of_obj (hp7.obj 0 rfl) (fun q u hq => by simpa using hq)) rfl (zs_cells [s]) (by unfold maxLen; omega) (by show (out.length + 1) * 8 ≤ _; omega) ?_
    intro ra rc1 w8 hp8 hg8
    have e1 : (out ++ [s]).length = out.length + 1 := by rw [List.length_append]; rfl
    have hp8 : Hp w2 w8 [Ri (.slice ra (out ++ [s]).length rc1) (out ++ [s]), .blk nb (.cells (zs now).toArray 3 (0, 0))] := by
      unfold Ri
      rw [e1, show zs (out ++ [s]) = zs out ++ zs [s] by simp [zs]]
      exact hp8.tail
    repeat (first | refine WC.seq ?_ | refine WC.reg ?_ | refine WL.pure rfl rfl rfl ?_ | refine WL.nil ?_ | refine WC.skip ?_ | refine WC.block ?_ | refine WC.condT rfl ?_ | refine WC.condF rfl ?_ | refine WL.off rfl rfl rfl ?_ | refine WL.off0 rfl rfl ?_ | refine WC.exit ?_ | refine blk_hit ?_ | refine blk_miss rfl ?_ | refine WC.ret ?_)
    refine WC.cond rfl (fun h4 => ?_) (fun h4 => ?_)
    · have h4 : m < out.length + 1 := by have := of_decide_eq_true h4; omega
      have h5 : m - out.length = 0 := by omega
      have hfin : couN tab m (iniM R.length) [] = some (out ++ [s]) := by
        rw [hS, h5]
        unfold couN
        rw [hf]
      rw [hfin] at hgood
      repeat (first | refine WC.seq ?_ | refine WC.reg ?_ | refine WL.pure rfl rfl rfl ?_ | refine WL.nil ?_ | refine WC.skip ?_ | refine WC.block ?_ | refine WC.condT rfl ?_ | refine WC.condF rfl ?_ | refine WL.off rfl rfl rfl ?_ | refine WL.off0 rfl rfl ?_ | refine WC.exit ?_ | refine blk_hit ?_ | refine blk_miss rfl ?_ | refine WC.ret ?_)
      exact Res.two (v1 := .slice ra (out.length + 1) rc1) rfl rfl rfl rfl (hgood _ _ ⟨ra, rc1, by rw [e1], hcl _ _ hp8.drop1⟩)
    · have h4 : ¬ m < out.length + 1 := by have := of_decide_eq_false h4; omega
      obtain ⟨q, hq⟩ : ∃ q, m - out.length = q + 1 := ⟨m - out.length - 1, by omega⟩
      have hq2 : m - (out ++ [s]).length = q := by omega
      rw [hq, couN] at hS
      rw [hf] at hS
      simp only at hS
      repeat (first | refine WC.seq ?_ | refine WC.reg ?_ | refine WL.pure rfl rfl rfl ?_ | refine WL.nil ?_ | refine WC.skip ?_ | refine WC.block ?_ | refine WC.condT rfl ?_ | refine WC.condF rfl ?_ | refine WL.off rfl rfl rfl ?_ | refine WL.off0 rfl rfl ?_ | refine WC.exit ?_ | refine blk_hit ?_ | refine blk_miss rfl ?_ | refine WC.ret ?_)
      refine WL.call rfl rfl rfl rfl rfl ent56 (spread_any xb R _ _ now hnl.symm (by omega) (by rw [hR]; exact hTb) hcn w8 (hA.hp hp8) (Sl.of_obj (hp8.obj 1 rfl) (fun j u hu => by simpa using hu))) ?_
      intro u w9 hu
      rw [hR] at hu
      cases hsp : spM tab now with
      | none =>
        rw [hsp] at hu hS
        obtain ⟨rfl, hp9⟩ := hu
        have hp9 := hp8.comb hp9
        rw [hS] at hgood
        repeat (first | refine WC.seq ?_ | refine WC.reg ?_ | refine WL.pure rfl rfl rfl ?_ | refine WL.nil ?_ | refine WC.skip ?_ | refine WC.block ?_ | refine WC.condT rfl ?_ | refine WC.condF rfl ?_ | refine WL.off rfl rfl rfl ?_ | refine WL.off0 rfl rfl ?_ | refine WC.exit ?_ | refine blk_hit ?_ | refine blk_miss rfl ?_ | refine WC.ret ?_)
        exact Res.two rfl rfl rfl rfl (hgood _ _ ⟨rfl, hcl _ _ hp9.nil'⟩)
      | some nw =>
        rw [hsp] at hu hS
        obtain ⟨b2, rfl, hp9⟩ := hu
        have hp9 := hp8.comb hp9
        obtain ⟨k1, k2⟩ := spM_inv hsp hcn hTb
        have hp10 : Hp w2 w9 [Ri (.slice ra (out ++ [s]).length rc1) (out ++ [s]), .blk b2 (.cells (zs nw).toArray 3 (0, 0))] := hp9.pick [1, 0] (by decide)
        repeat (first | refine WC.seq ?_ | refine WC.reg ?_ | refine WL.pure rfl rfl rfl ?_ | refine WL.nil ?_ | refine WC.skip ?_ | refine WC.block ?_ | refine WC.condT rfl ?_ | refine WC.condF rfl ?_ | refine WL.off rfl rfl rfl ?_ | refine WL.off0 rfl rfl ?_ | refine WC.exit ?_ | refine blk_hit ?_ | refine blk_miss rfl ?_ | refine WC.ret ?_)
        exact ⟨(b2, nw, ra, rc1, out ++ [s]), (by show m - (out ++ [s]).length < m - out.length; omega), ⟨rfl, rfl, rfl, congrArg (fun z : Nat => some (Value.slice ra z rc1)) e1.symm, rfl⟩, by omega, by rw [k2, hnl], k1, by rw [hq2]; exact hS, hp10⟩
end Go.Proofs.YtoghnhbjdnjghaaGreat
