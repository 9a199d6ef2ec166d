/- ltl, thirty-fifth: the reference's Parse. -/
import Derived.Test.YtpbbneclkhfgoaaDoorU32
import Derived.Test.YtpbbneclkhfgoaaDoorU34
import Derived.Test.YtpbbneclkhfgoaaDoorU5
namespace Go.Proofs.YtpbbneclkhfgoaaDoor
open Go.W Go.Ltl Go.RowKit
set_option maxRecDepth 100000
set_option linter.unusedSectionVars false
attribute [local irreducible] WC WL WQ WS WH

theorem wcnt_take {t : List Str} {i : Nat} (h : i < t.length) : wcnt (t.take (i + 1)) = wcnt (t.take i) + if parB t[i] then 0 else 1 := by
  rw [List.take_add_one, List.getElem?_eq_getElem h]
  unfold wcnt
  rw [List.filter_append, List.length_append]
  show _ + (List.filter _ [t[i]]).length = _
  congr 1
  cases hp : parB t[i] <;> simp [hp]
theorem wcnt_le (t : List Str) : wcnt t ≤ t.length := List.length_filter_le _ _
theorem parseM_wf {s : Str} {f : Fm} (h : parseM s = some f) : wfF f := by
  rw [parseM_ref] at h
  split at h
  · cases h
  · split at h
    · rename_i g he
      cases h
      exact (rprs_wcnt _ _ _ _ he).2.2
    · cases h
theorem Parse_any (s : Str) (hs : s.length ≤ 1000) (w : World) :
    Ret Tryd.prog 19 [st s] w fun v w' => match parseM s with
      | some f => ∃ a c, v = .tuple #[.slice a (nodesN 0 f).length c, .bool true] ∧ Hp w w' [Rnd (.slice a (nodesN 0 f).length c) (nodesN 0 f)]
      | none => ∃ a n c, v = .tuple #[.slice a n c, .bool false] ∧ Hp w w' [] := by
  refine enter Tryd.func19 rfl rfl ⟨rfl, rfl⟩ rfl ?_
  repeat (first | refine WC.seq ?_ | refine WC.reg ?_ | refine WL.pure rfl rfl rfl ?_ | refine WL.nil ?_ | refine WC.skip ?_ | refine WC.block ?_ | refine WC.condT rfl ?_ | refine WC.condF rfl ?_ | refine WL.off rfl rfl rfl ?_ | refine WL.off0 rfl rfl ?_ | refine WC.exit ?_ | refine blk_hit ?_ | refine blk_miss rfl ?_ | refine WC.ret ?_)
  refine WL.call rfl rfl rfl rfl rfl ent50 (Tokens_any s hs w) ?_
  rintro _ w1 ⟨ta, tc, rfl, hp1⟩
  have htl : (tokM s).length ≤ 2 * s.length + 1 := tokN_len s []
  obtain ⟨t, hte⟩ : ∃ t, t = tokM s := ⟨_, rfl⟩
  rw [parseM_ref, ← hte]
  rw [← hte] at hp1 htl
  have hsl : Sl w1 ta (t.map st) := Sl.of_row (hp1.at 0 rfl)
  have ht5 : t.length ≤ 5000 := by omega
  repeat (first | refine WC.seq ?_ | refine WC.reg ?_ | refine WL.pure rfl rfl rfl ?_ | refine WL.nil ?_ | refine WC.skip ?_ | refine WC.block ?_ | refine WC.condT rfl ?_ | refine WC.condF rfl ?_ | refine WL.off rfl rfl rfl ?_ | refine WL.off0 rfl rfl ?_ | refine WC.exit ?_ | refine blk_hit ?_ | refine blk_miss rfl ?_ | refine WC.ret ?_)
  refine WC.loop Nat (fun i => [(4, .slice ta t.length tc), (5, .int .i64 (wcnt (t.take i) : Nat)), (6, .int .i64 (i : Nat))])
    (fun i w' => i ≤ t.length ∧ w' = w1) (fun i => t.length - i) 0 ⟨rfl, rfl, rfl, rfl⟩ ⟨Nat.zero_le _, rfl⟩ ?_
  rintro i w ⟨hi0, rfl⟩
  repeat (first | refine WC.seq ?_ | refine WC.reg ?_ | refine WL.pure rfl rfl rfl ?_ | refine WL.nil ?_ | refine WC.skip ?_ | refine WC.block ?_ | refine WC.condT rfl ?_ | refine WC.condF rfl ?_ | refine WL.off rfl rfl rfl ?_ | refine WL.off0 rfl rfl ?_ | refine WC.exit ?_ | refine blk_hit ?_ | refine blk_miss rfl ?_ | refine WC.ret ?_)
  refine WC.cond rfl (fun c1 => ?_) (fun c1 => ?_)
  · have hi : i < t.length := by have := of_decide_eq_true c1; omega
    have step := wrap_succ (i := i) (n := i + 1) (by omega) (by omega)
    have hw := wcnt_take hi
    have hwl : wcnt (t.take i) ≤ i := by have := wcnt_le (t.take i); rw [List.length_take] at this; omega
    obtain ⟨x, hx⟩ : ∃ x, x = t[i] := ⟨_, rfl⟩
    rw [← hx] at hw
    repeat (first | refine WC.seq ?_ | refine WC.reg ?_ | refine WL.pure rfl rfl rfl ?_ | refine WL.nil ?_ | refine WC.skip ?_ | refine WC.block ?_ | refine WC.condT rfl ?_ | refine WC.condF rfl ?_ | refine WL.off rfl rfl rfl ?_ | refine WL.off0 rfl rfl ?_ | refine WC.exit ?_ | refine blk_hit ?_ | refine blk_miss rfl ?_ | refine WC.ret ?_)
    refine WL.ixload rfl (fun _ => rfl) rfl rfl rfl rfl rfl rfl rfl hi rfl rfl hsl (st_at hi) ?_
    intro q0
    rw [← hx]
    by_cases h1 : x = [40]
    · have e : wcnt (t.take (i + 1)) = wcnt (t.take i) := by rw [hw]; simp [parB, h1]
      refine WL.sCmp (a := x) (b := [40]) (r := false) rfl rfl rfl rfl (by simp [cmpS, h1]) ?_
      repeat (first | refine WC.seq ?_ | refine WC.reg ?_ | refine WL.pure rfl rfl rfl ?_ | refine WL.nil ?_ | refine WC.skip ?_ | refine WC.block ?_ | refine WC.condT rfl ?_ | refine WC.condF rfl ?_ | refine WL.off rfl rfl rfl ?_ | refine WL.off0 rfl rfl ?_ | refine WC.exit ?_ | refine blk_hit ?_ | refine blk_miss rfl ?_ | refine WC.ret ?_)
      exact ⟨i + 1, by omega, ⟨rfl, congrArg (fun z => some (Value.int .i64 ((z : Nat) : Int))) e.symm, congrArg (fun z => some (Value.int .i64 z)) step, rfl⟩, hi, rfl⟩
    refine WL.sCmp (a := x) (b := [40]) (r := true) rfl rfl rfl rfl (by simp [cmpS, h1]) ?_
    repeat (first | refine WC.seq ?_ | refine WC.reg ?_ | refine WL.pure rfl rfl rfl ?_ | refine WL.nil ?_ | refine WC.skip ?_ | refine WC.block ?_ | refine WC.condT rfl ?_ | refine WC.condF rfl ?_ | refine WL.off rfl rfl rfl ?_ | refine WL.off0 rfl rfl ?_ | refine WC.exit ?_ | refine blk_hit ?_ | refine blk_miss rfl ?_ | refine WC.ret ?_)
    refine WL.ixload (j := i) rfl (fun _ => rfl) rfl rfl rfl rfl rfl rfl rfl hi rfl rfl hsl (st_at hi) ?_
    intro q1
    rw [← hx]
    by_cases h2 : x = [41]
    · have e : wcnt (t.take (i + 1)) = wcnt (t.take i) := by rw [hw]; simp [parB, h2]
      refine WL.sCmp (a := x) (b := [41]) (r := false) rfl rfl rfl rfl (by simp [cmpS, h2]) ?_
      repeat (first | refine WC.seq ?_ | refine WC.reg ?_ | refine WL.pure rfl rfl rfl ?_ | refine WL.nil ?_ | refine WC.skip ?_ | refine WC.block ?_ | refine WC.condT rfl ?_ | refine WC.condF rfl ?_ | refine WL.off rfl rfl rfl ?_ | refine WL.off0 rfl rfl ?_ | refine WC.exit ?_ | refine blk_hit ?_ | refine blk_miss rfl ?_ | refine WC.ret ?_)
      exact ⟨i + 1, by omega, ⟨rfl, congrArg (fun z => some (Value.int .i64 ((z : Nat) : Int))) e.symm, congrArg (fun z => some (Value.int .i64 z)) step, rfl⟩, hi, rfl⟩
    have e : wcnt (t.take (i + 1)) = wcnt (t.take i) + 1 := by rw [hw]; simp [parB, h1, h2]
    have step2 : IntKind.i64.wrap (((wcnt (t.take i) : Nat) : Int) + 1) = ((wcnt (t.take (i + 1)) : Nat) : Int) := by rw [e]; exact wrap_succ (i := wcnt (t.take i)) (n := wcnt (t.take i) + 1) (by omega) (by omega)
    refine WL.sCmp (a := x) (b := [41]) (r := true) rfl rfl rfl rfl (by simp [cmpS, h2]) ?_
    repeat (first | refine WC.seq ?_ | refine WC.reg ?_ | refine WL.pure rfl rfl rfl ?_ | refine WL.nil ?_ | refine WC.skip ?_ | refine WC.block ?_ | refine WC.condT rfl ?_ | refine WC.condF rfl ?_ | refine WL.off rfl rfl rfl ?_ | refine WL.off0 rfl rfl ?_ | refine WC.exit ?_ | refine blk_hit ?_ | refine blk_miss rfl ?_ | refine WC.ret ?_)
    exact ⟨i + 1, by omega, ⟨rfl, congrArg (fun z => some (Value.int .i64 z)) step2, congrArg (fun z => some (Value.int .i64 z)) step, rfl⟩, hi, rfl⟩
  have hi : i = t.length := by have := of_decide_eq_false c1; omega
  subst hi
  rw [List.take_length]
  repeat (first | refine WC.seq ?_ | refine WC.reg ?_ | refine WL.pure rfl rfl rfl ?_ | refine WL.nil ?_ | refine WC.skip ?_ | refine WC.block ?_ | refine WC.condT rfl ?_ | refine WC.condF rfl ?_ | refine WL.off rfl rfl rfl ?_ | refine WL.off0 rfl rfl ?_ | refine WC.exit ?_ | refine blk_hit ?_ | refine blk_miss rfl ?_ | refine WC.ret ?_)
  refine WC.cond rfl (fun c2 => ?_) (fun c2 => ?_)
  · have c2 : 12 < wcnt t := by have := of_decide_eq_true c2; omega
    rw [if_pos c2]
    repeat (first | refine WC.seq ?_ | refine WC.reg ?_ | refine WL.pure rfl rfl rfl ?_ | refine WL.nil ?_ | refine WC.skip ?_ | refine WC.block ?_ | refine WC.condT rfl ?_ | refine WC.condF rfl ?_ | refine WL.off rfl rfl rfl ?_ | refine WL.off0 rfl rfl ?_ | refine WC.exit ?_ | refine blk_hit ?_ | refine blk_miss rfl ?_ | refine WC.ret ?_)
    exact Res.two rfl rfl rfl rfl ⟨none, 0, 0, rfl, hp1.nil'⟩
  have c2 : ¬ 12 < wcnt t := by have := of_decide_eq_false c2; omega
  rw [if_neg c2]
  have hp2 : Hp w w (Rnd (.slice none 0 0) [] :: []) := (Hp.start w).nilrow 98 3
  repeat (first | refine WC.seq ?_ | refine WC.reg ?_ | refine WL.pure rfl rfl rfl ?_ | refine WL.nil ?_ | refine WC.skip ?_ | refine WC.block ?_ | refine WC.condT rfl ?_ | refine WC.condF rfl ?_ | refine WL.off rfl rfl rfl ?_ | refine WL.off0 rfl rfl ?_ | refine WC.exit ?_ | refine blk_hit ?_ | refine blk_miss rfl ?_ | refine WC.ret ?_)
  refine WL.call rfl rfl rfl rfl rfl ent51 (rparse_any t ta tc ht5 (t.length + 1) 0 [] [] none 0 w (by omega) (by omega) (by show 0 + (t.length - 0) ≤ _; omega) hsl hp2) ?_
  intro v w3 hv
  rw [List.drop_zero] at hv
  cases hr : rprs (t.length + 1) t with
  | none =>
    rw [hr] at hv
    obtain ⟨la, n, lc, rfl, hp3⟩ := hv
    repeat (first | refine WC.seq ?_ | refine WC.reg ?_ | refine WL.pure rfl rfl rfl ?_ | refine WL.nil ?_ | refine WC.skip ?_ | refine WC.block ?_ | refine WC.condT rfl ?_ | refine WC.condF rfl ?_ | refine WL.off rfl rfl rfl ?_ | refine WL.off0 rfl rfl ?_ | refine WC.exit ?_ | refine blk_hit ?_ | refine blk_miss rfl ?_ | refine WC.ret ?_)
    exact Res.two rfl rfl rfl rfl ⟨la, n, lc, rfl, (hp1.comb hp3).nil'⟩
  | some qq =>
    obtain ⟨f, r⟩ := qq
    rw [hr] at hv
    obtain ⟨la, lc, rfl, hp3⟩ := hv
    rw [List.nil_append] at hp3 ⊢
    have hsz := rprs_size _ _ _ _ hr
    have hpos := sizeF_pos f
    cases r with
    | nil =>
      rw [List.length_nil] at hsz
      repeat (first | refine WC.seq ?_ | refine WC.reg ?_ | refine WL.pure rfl rfl rfl ?_ | refine WL.nil ?_ | refine WC.skip ?_ | refine WC.block ?_ | refine WC.condT rfl ?_ | refine WC.condF rfl ?_ | refine WL.off rfl rfl rfl ?_ | refine WL.off0 rfl rfl ?_ | refine WC.exit ?_ | refine blk_hit ?_ | refine blk_miss rfl ?_ | refine WC.ret ?_)
      refine WL.split 43 rfl (fun c3 => ?_) (fun c3 => ?_)
      · repeat (first | refine WC.seq ?_ | refine WC.reg ?_ | refine WL.pure rfl rfl rfl ?_ | refine WL.nil ?_ | refine WC.skip ?_ | refine WC.block ?_ | refine WC.condT rfl ?_ | refine WC.condF rfl ?_ | refine WL.off rfl rfl rfl ?_ | refine WL.off0 rfl rfl ?_ | refine WC.exit ?_ | refine blk_hit ?_ | refine blk_miss rfl ?_ | refine WC.ret ?_)
        refine Res.two rfl rfl rfl rfl ⟨la, lc, congrArg (fun b => Value.tuple #[_, .bool b]) (decide_eq_true (show ((0 : Nat) : Int) < ((t.length - 0 : Nat) : Int) by omega)), (hp1.comb hp3).pick [0] (by decide)⟩
      · have h : (((t.length - 0 : Nat) : Int) == ((t.length : Nat) : Int)) = true := beq_self_eq_true _
        exact Bool.noConfusion (h.symm.trans c3)
    | cons x r =>
      repeat (first | refine WC.seq ?_ | refine WC.reg ?_ | refine WL.pure rfl rfl rfl ?_ | refine WL.nil ?_ | refine WC.skip ?_ | refine WC.block ?_ | refine WC.condT rfl ?_ | refine WC.condF rfl ?_ | refine WL.off rfl rfl rfl ?_ | refine WL.off0 rfl rfl ?_ | refine WC.exit ?_ | refine blk_hit ?_ | refine blk_miss rfl ?_ | refine WC.ret ?_)
      refine WL.split 43 rfl (fun c3 => ?_) (fun c3 => ?_)
      · have c3 : ((t.length - (x :: r).length : Nat) : Int) = ((t.length : Nat) : Int) := eq_of_beq c3
        rw [List.length_cons] at c3
        omega
      · repeat (first | refine WC.seq ?_ | refine WC.reg ?_ | refine WL.pure rfl rfl rfl ?_ | refine WL.nil ?_ | refine WC.skip ?_ | refine WC.block ?_ | refine WC.condT rfl ?_ | refine WC.condF rfl ?_ | refine WL.off rfl rfl rfl ?_ | refine WL.off0 rfl rfl ?_ | refine WC.exit ?_ | refine blk_hit ?_ | refine blk_miss rfl ?_ | refine WC.ret ?_)
        exact Res.two rfl rfl rfl rfl ⟨la, _, lc, rfl, (hp1.comb hp3).nil'⟩
end Go.Proofs.YtpbbneclkhfgoaaDoor
