/- The walks of what compares: numbers, lists, polynomials; of a reversal. -/
import Derived.Test.YtagfpnnplgkkoaaR25
namespace Go.Poly
open Go.W Go.Tree
def cmpZ (x y : Int) : Int := if x < y then -1 else if y < x then 1 else 0
def cmpR : List Nat → List Nat → Int
  | [], [] => 0
  | [], _ :: _ => -1
  | _ :: _, [] => 1
  | x :: f, y :: g => if x < y then -1 else if y < x then 1 else cmpR f g
def ordP (f g : List Nat) : Int := if f.length < g.length then -1 else if g.length < f.length then 1 else cmpR f.reverse g.reverse
/-- A list, reversed from its ends on. -/
def rvF (f : List Nat) (i k : Nat) : Nat := if k < i ∨ f.length - 1 - i < k then co f (f.length - 1 - k) else co f k
theorem rvF_step {f : List Nat} {i : Nat} (h : i < f.length - 1 - i) :
    fl f.length (rvF f (i + 1)) = ((fl f.length (rvF f i)).set i (rvF f i (f.length - 1 - i))).set (f.length - 1 - i) (rvF f i i) := by
  rw [fl_set, fl_set]
  refine fl_congr fun k hk => ?_
  unfold rvF
  by_cases h1 : k = f.length - 1 - i
  · subst h1
    rw [if_pos rfl, if_pos (by omega), if_neg (by omega)]
    congr 1; omega
  · rw [if_neg h1]
    by_cases h2 : k = i
    · subst h2
      rw [if_pos rfl, if_pos (by omega), if_neg (by omega)]
    · rw [if_neg h2]
      by_cases h3 : k < i ∨ f.length - 1 - i < k
      · rw [if_pos h3, if_pos (by omega)]
      · rw [if_neg h3, if_neg (by omega)]
theorem rvF_end {f : List Nat} {i : Nat} (h : f.length - 1 - i ≤ i) : fl f.length (rvF f i) = f.reverse := by
  apply List.ext_getElem?
  intro k
  by_cases hk : k < f.length
  · rw [fl_get _ hk, List.getElem?_reverse hk]
    rw [List.getElem?_eq_getElem (by omega), ← co_get (by omega)]
    unfold rvF
    split
    · rfl
    · rw [show f.length - 1 - k = k by omega]
  · rw [List.getElem?_eq_none (by rw [fl_len]; omega), List.getElem?_eq_none (by rw [List.length_reverse]; omega)]
theorem rvF_zero (f : List Nat) : fl f.length (rvF f 0) = f := by
  rw [fl_congr (f' := co f) fun k hk => by unfold rvF; rw [if_neg (by omega)], fl_self]
end Go.Poly
namespace Go.Proofs.Ytagfpnnplgkkoaa
open Go.W Go.Poly Go.Tree Go.RowKit
set_option maxRecDepth 100000
attribute [local irreducible] WC WL WQ WS WH

theorem isNaN_any (x : Int) : Pur Try.prog 124 [.int .i64 x] (.bool false) := by
  intro w
  refine enter Try.func124 rfl rfl ⟨rfl, rfl⟩ rfl ?_
  repeat (first | refine WC.seq ?_ | refine WC.reg ?_ | refine WL.pure rfl rfl rfl ?_ | refine WL.nil ?_ | refine WC.skip ?_ | refine WC.block ?_ | refine WC.condT rfl ?_ | refine WC.condF rfl ?_ | refine WL.off rfl rfl rfl ?_ | refine WL.off0 rfl rfl ?_ | refine WC.exit ?_ | refine blk_hit ?_ | refine blk_miss rfl ?_ | refine WC.ret ?_)
  exact Res.one rfl rfl rfl ⟨by simp, rfl⟩
theorem cmpI_any (x y : Int) : Pur Try.prog 106 [.int .i64 x, .int .i64 y] (.int .i64 (cmpZ x y)) := by
  intro w
  refine enter Try.func106 rfl rfl ⟨rfl, rfl⟩ rfl ?_
  repeat (first | refine WC.seq ?_ | refine WC.reg ?_ | refine WL.pure rfl rfl rfl ?_ | refine WL.nil ?_ | refine WC.skip ?_ | refine WC.block ?_ | refine WC.condT rfl ?_ | refine WC.condF rfl ?_ | refine WL.off rfl rfl rfl ?_ | refine WL.off0 rfl rfl ?_ | refine WC.exit ?_ | refine blk_hit ?_ | refine blk_miss rfl ?_ | refine WC.ret ?_)
  refine WL.callP rfl rfl rfl rfl rfl ent124 (isNaN_any x _) ?_
  repeat (first | refine WC.seq ?_ | refine WC.reg ?_ | refine WL.pure rfl rfl rfl ?_ | refine WL.nil ?_ | refine WC.skip ?_ | refine WC.block ?_ | refine WC.condT rfl ?_ | refine WC.condF rfl ?_ | refine WL.off rfl rfl rfl ?_ | refine WL.off0 rfl rfl ?_ | refine WC.exit ?_ | refine blk_hit ?_ | refine blk_miss rfl ?_ | refine WC.ret ?_)
  refine WL.callP rfl rfl rfl rfl rfl ent124 (isNaN_any y _) ?_
  repeat (first | refine WC.seq ?_ | refine WC.reg ?_ | refine WL.pure rfl rfl rfl ?_ | refine WL.nil ?_ | refine WC.skip ?_ | refine WC.block ?_ | refine WC.condT rfl ?_ | refine WC.condF rfl ?_ | refine WL.off rfl rfl rfl ?_ | refine WL.off0 rfl rfl ?_ | refine WC.exit ?_ | refine blk_hit ?_ | refine blk_miss rfl ?_ | refine WC.ret ?_)
  refine WC.cond rfl (fun h => ?_) (fun h => ?_)
  · have h := of_decide_eq_true h
    repeat (first | refine WC.seq ?_ | refine WC.reg ?_ | refine WL.pure rfl rfl rfl ?_ | refine WL.nil ?_ | refine WC.skip ?_ | refine WC.block ?_ | refine WC.condT rfl ?_ | refine WC.condF rfl ?_ | refine WL.off rfl rfl rfl ?_ | refine WL.off0 rfl rfl ?_ | refine WC.exit ?_ | refine blk_hit ?_ | refine blk_miss rfl ?_ | refine WC.ret ?_)
    exact Res.one rfl rfl rfl ⟨by rw [cmpZ, if_pos h], rfl⟩
  · have h := of_decide_eq_false h
    repeat (first | refine WC.seq ?_ | refine WC.reg ?_ | refine WL.pure rfl rfl rfl ?_ | refine WL.nil ?_ | refine WC.skip ?_ | refine WC.block ?_ | refine WC.condT rfl ?_ | refine WC.condF rfl ?_ | refine WL.off rfl rfl rfl ?_ | refine WL.off0 rfl rfl ?_ | refine WC.exit ?_ | refine blk_hit ?_ | refine blk_miss rfl ?_ | refine WC.ret ?_)
    refine WC.cond rfl (fun h1 => ?_) (fun h1 => ?_)
    · have h1 : y < x := of_decide_eq_true h1
      repeat (first | refine WC.seq ?_ | refine WC.reg ?_ | refine WL.pure rfl rfl rfl ?_ | refine WL.nil ?_ | refine WC.skip ?_ | refine WC.block ?_ | refine WC.condT rfl ?_ | refine WC.condF rfl ?_ | refine WL.off rfl rfl rfl ?_ | refine WL.off0 rfl rfl ?_ | refine WC.exit ?_ | refine blk_hit ?_ | refine blk_miss rfl ?_ | refine WC.ret ?_)
      exact Res.one rfl rfl rfl ⟨by rw [cmpZ, if_neg h, if_pos h1], rfl⟩
    · have h1 : ¬ y < x := of_decide_eq_false h1
      repeat (first | refine WC.seq ?_ | refine WC.reg ?_ | refine WL.pure rfl rfl rfl ?_ | refine WL.nil ?_ | refine WC.skip ?_ | refine WC.block ?_ | refine WC.condT rfl ?_ | refine WC.condF rfl ?_ | refine WL.off rfl rfl rfl ?_ | refine WL.off0 rfl rfl ?_ | refine WC.exit ?_ | refine blk_hit ?_ | refine blk_miss rfl ?_ | refine WC.ret ?_)
      exact Res.one rfl rfl rfl ⟨by rw [cmpZ, if_neg h, if_neg h1], rfl⟩

theorem Compare_any (fa ga : Option Addr) (fc gc : Nat) (f g : List Nat) (hlf : f.length ≤ 1000000) (hlg : g.length ≤ 1000000) (w : World) (sf : Sl w fa (ints f)) (sg_ : Sl w ga (ints g)) :
    Ret Try.prog 109 [.slice fa f.length fc, .slice ga g.length gc] w fun u w' => u = .int .i64 (cmpR f g) ∧ w' = w := by
  obtain ⟨R, hR⟩ : ∃ R, cmpR f g = R := ⟨_, rfl⟩
  rw [hR]
  refine enter Try.func109 rfl rfl ⟨rfl, rfl⟩ rfl ?_
  repeat (first | refine WC.seq ?_ | refine WC.reg ?_ | refine WL.pure rfl rfl rfl ?_ | refine WL.nil ?_ | refine WC.skip ?_ | refine WC.block ?_ | refine WC.condT rfl ?_ | refine WC.condF rfl ?_ | refine WL.off rfl rfl rfl ?_ | refine WL.off0 rfl rfl ?_ | refine WC.exit ?_ | refine blk_hit ?_ | refine blk_miss rfl ?_ | refine WC.ret ?_)
  refine WC.loop Nat (fun i => [(0, .slice fa f.length fc), (1, .slice ga g.length gc), (9, .slice fa f.length fc), (10, .int .i64 (f.length : Nat)), (11, .int .i64 (i : Nat))])
    (fun i w' => w' = w ∧ i ≤ f.length ∧ i ≤ g.length ∧ cmpR (f.drop i) (g.drop i) = R) (fun i => f.length - i) 0 ⟨rfl, rfl, rfl, rfl, rfl, rfl⟩ ⟨rfl, Nat.zero_le _, Nat.zero_le _, hR⟩ ?_
  rintro i w1 ⟨rfl, hi, hig, hR⟩
  repeat (first | refine WC.seq ?_ | refine WC.reg ?_ | refine WL.pure rfl rfl rfl ?_ | refine WL.nil ?_ | refine WC.skip ?_ | refine WC.block ?_ | refine WC.condT rfl ?_ | refine WC.condF rfl ?_ | refine WL.off rfl rfl rfl ?_ | refine WL.off0 rfl rfl ?_ | refine WC.exit ?_ | refine blk_hit ?_ | refine blk_miss rfl ?_ | refine WC.ret ?_)
  refine WC.cond rfl (fun hc => ?_) (fun hc => ?_)
  · have hi : i < f.length := by have := of_decide_eq_true hc; omega
    have step : IntKind.i64.wrap ((i : Int) + 1) = ((i + 1 : Nat) : Int) := by rw [wrap_i64_in (by omega) (by omega)]; omega
    rw [List.drop_eq_getElem_cons hi] at hR
    repeat (first | refine WC.seq ?_ | refine WC.reg ?_ | refine WL.pure rfl rfl rfl ?_ | refine WL.nil ?_ | refine WC.skip ?_ | refine WC.block ?_ | refine WC.condT rfl ?_ | refine WC.condF rfl ?_ | refine WL.off rfl rfl rfl ?_ | refine WL.off0 rfl rfl ?_ | refine WC.exit ?_ | refine blk_hit ?_ | refine blk_miss rfl ?_ | refine WC.ret ?_)
    refine WL.ixload rfl (fun _ => rfl) rfl rfl rfl rfl rfl rfl rfl hi rfl rfl sf (ints_at hi) ?_
    intro pa
    repeat (first | refine WC.seq ?_ | refine WC.reg ?_ | refine WL.pure rfl rfl rfl ?_ | refine WL.nil ?_ | refine WC.skip ?_ | refine WC.block ?_ | refine WC.condT rfl ?_ | refine WC.condF rfl ?_ | refine WL.off rfl rfl rfl ?_ | refine WL.off0 rfl rfl ?_ | refine WC.exit ?_ | refine blk_hit ?_ | refine blk_miss rfl ?_ | refine WC.ret ?_)
    refine WC.cond rfl (fun h1 => ?_) (fun h1 => ?_)
    · have h1 : g.length ≤ i := by have := of_decide_eq_true h1; omega
      rw [List.drop_of_length_le h1, cmpR] at hR
      repeat (first | refine WC.seq ?_ | refine WC.reg ?_ | refine WL.pure rfl rfl rfl ?_ | refine WL.nil ?_ | refine WC.skip ?_ | refine WC.block ?_ | refine WC.condT rfl ?_ | refine WC.condF rfl ?_ | refine WL.off rfl rfl rfl ?_ | refine WL.off0 rfl rfl ?_ | refine WC.exit ?_ | refine blk_hit ?_ | refine blk_miss rfl ?_ | refine WC.ret ?_)
      exact Res.one rfl rfl rfl ⟨by rw [hR], rfl⟩
    · have h1 : i < g.length := by have := of_decide_eq_false h1; omega
      rw [List.drop_eq_getElem_cons h1, cmpR, ← co_get hi, ← co_get h1] at hR
      repeat (first | refine WC.seq ?_ | refine WC.reg ?_ | refine WL.pure rfl rfl rfl ?_ | refine WL.nil ?_ | refine WC.skip ?_ | refine WC.block ?_ | refine WC.condT rfl ?_ | refine WC.condF rfl ?_ | refine WL.off rfl rfl rfl ?_ | refine WL.off0 rfl rfl ?_ | refine WC.exit ?_ | refine blk_hit ?_ | refine blk_miss rfl ?_ | refine WC.ret ?_)
      refine WL.ixload rfl (fun _ => rfl) rfl rfl rfl rfl rfl rfl rfl h1 rfl rfl sg_ (ints_at h1) ?_
      intro pb
      repeat (first | refine WC.seq ?_ | refine WC.reg ?_ | refine WL.pure rfl rfl rfl ?_ | refine WL.nil ?_ | refine WC.skip ?_ | refine WC.block ?_ | refine WC.condT rfl ?_ | refine WC.condF rfl ?_ | refine WL.off rfl rfl rfl ?_ | refine WL.off0 rfl rfl ?_ | refine WC.exit ?_ | refine blk_hit ?_ | refine blk_miss rfl ?_ | refine WC.ret ?_)
      refine WL.callP rfl rfl rfl rfl rfl ent106 (cmpI_any _ _ _) ?_
      repeat (first | refine WC.seq ?_ | refine WC.reg ?_ | refine WL.pure rfl rfl rfl ?_ | refine WL.nil ?_ | refine WC.skip ?_ | refine WC.block ?_ | refine WC.condT rfl ?_ | refine WC.condF rfl ?_ | refine WL.off rfl rfl rfl ?_ | refine WL.off0 rfl rfl ?_ | refine WC.exit ?_ | refine blk_hit ?_ | refine blk_miss rfl ?_ | refine WC.ret ?_)
      refine WC.cond rfl (fun h2 => ?_) (fun h2 => ?_)
      · have h2 : cmpZ (co f i) (co g i) ≠ 0 := by simpa using h2
        repeat (first | refine WC.seq ?_ | refine WC.reg ?_ | refine WL.pure rfl rfl rfl ?_ | refine WL.nil ?_ | refine WC.skip ?_ | refine WC.block ?_ | refine WC.condT rfl ?_ | refine WC.condF rfl ?_ | refine WL.off rfl rfl rfl ?_ | refine WL.off0 rfl rfl ?_ | refine WC.exit ?_ | refine blk_hit ?_ | refine blk_miss rfl ?_ | refine WC.ret ?_)
        refine Res.one rfl rfl rfl ⟨?_, rfl⟩
        rw [← hR]
        congr 1
        unfold cmpZ at h2 ⊢
        by_cases h3 : co f i < co g i
        · rw [if_pos (by omega), if_pos h3]
        · rw [if_neg (by omega), if_neg h3]
          by_cases h4 : co g i < co f i
          · rw [if_pos (by omega), if_pos h4]
          · rw [if_neg (by omega), if_neg (by omega)] at h2
            exact absurd rfl h2
      · have h2 : cmpZ (co f i) (co g i) = 0 := by simpa using h2
        have h5 : ¬ co f i < co g i ∧ ¬ co g i < co f i := by
          unfold cmpZ at h2
          split at h2
          · omega
          · split at h2
            · omega
            · omega
        rw [if_neg h5.1, if_neg h5.2] at hR
        repeat (first | refine WC.seq ?_ | refine WC.reg ?_ | refine WL.pure rfl rfl rfl ?_ | refine WL.nil ?_ | refine WC.skip ?_ | refine WC.block ?_ | refine WC.condT rfl ?_ | refine WC.condF rfl ?_ | refine WL.off rfl rfl rfl ?_ | refine WL.off0 rfl rfl ?_ | refine WC.exit ?_ | refine blk_hit ?_ | refine blk_miss rfl ?_ | refine WC.ret ?_)
        exact ⟨i + 1, by show f.length - (i + 1) < f.length - i; omega, ⟨rfl, rfl, rfl, rfl, congrArg (fun z => some (Value.int .i64 z)) step, rfl⟩, rfl, hi, h1, hR⟩
  · have hi : i = f.length := by have := of_decide_eq_false hc; omega
    subst hi
    rw [List.drop_length] at hR
    repeat (first | refine WC.seq ?_ | refine WC.reg ?_ | refine WL.pure rfl rfl rfl ?_ | refine WL.nil ?_ | refine WC.skip ?_ | refine WC.block ?_ | refine WC.condT rfl ?_ | refine WC.condF rfl ?_ | refine WL.off rfl rfl rfl ?_ | refine WL.off0 rfl rfl ?_ | refine WC.exit ?_ | refine blk_hit ?_ | refine blk_miss rfl ?_ | refine WC.ret ?_)
    refine WC.cond rfl (fun h1 => ?_) (fun h1 => ?_)
    · have h1 : f.length < g.length := by have := of_decide_eq_true h1; omega
      rw [List.drop_eq_getElem_cons h1, cmpR] at hR
      repeat (first | refine WC.seq ?_ | refine WC.reg ?_ | refine WL.pure rfl rfl rfl ?_ | refine WL.nil ?_ | refine WC.skip ?_ | refine WC.block ?_ | refine WC.condT rfl ?_ | refine WC.condF rfl ?_ | refine WL.off rfl rfl rfl ?_ | refine WL.off0 rfl rfl ?_ | refine WC.exit ?_ | refine blk_hit ?_ | refine blk_miss rfl ?_ | refine WC.ret ?_)
      exact Res.one rfl rfl rfl ⟨by rw [hR], rfl⟩
    · have h1 : g.length ≤ f.length := by have := of_decide_eq_false h1; omega
      rw [List.drop_of_length_le h1, cmpR] at hR
      repeat (first | refine WC.seq ?_ | refine WC.reg ?_ | refine WL.pure rfl rfl rfl ?_ | refine WL.nil ?_ | refine WC.skip ?_ | refine WC.block ?_ | refine WC.condT rfl ?_ | refine WC.condF rfl ?_ | refine WL.off rfl rfl rfl ?_ | refine WL.off0 rfl rfl ?_ | refine WC.exit ?_ | refine blk_hit ?_ | refine blk_miss rfl ?_ | refine WC.ret ?_)
      exact Res.one rfl rfl rfl ⟨by rw [hR], rfl⟩

theorem Reverse_any (v : Value) (f : List Nat) (hl : f.length ≤ 1000000) (w0 w : World) (L : List Ent) (hp : Hp w0 w (Rw v f :: L)) :
    Ret Try.prog 108 [v] w fun _ w' => Hp w0 w' (Rw v f.reverse :: L) := by
  rcases Nat.eq_zero_or_pos f.length with h0 | h0
  · have hf : f = [] := List.length_eq_zero_iff.1 h0
    subst hf
    obtain ⟨a, c, rfl, -⟩ := Pd.row hp 0 rfl
    refine enter Try.func108 rfl rfl ⟨rfl, rfl⟩ rfl ?_
    repeat (first | refine WC.seq ?_ | refine WC.reg ?_ | refine WL.pure rfl rfl rfl ?_ | refine WL.nil ?_ | refine WC.skip ?_ | refine WC.block ?_ | refine WC.condT rfl ?_ | refine WC.condF rfl ?_ | refine WL.off rfl rfl rfl ?_ | refine WL.off0 rfl rfl ?_ | refine WC.exit ?_ | refine blk_hit ?_ | refine blk_miss rfl ?_ | refine WC.ret ?_)
    refine WC.loop Unit (fun _ => [(2, .int .i64 0), (3, .int .i64 (-1))]) (fun _ w' => w' = w) (fun _ => 0) () ⟨rfl, rfl, rfl⟩ rfl ?_
    rintro ⟨⟩ w1 rfl
    repeat (first | refine WC.seq ?_ | refine WC.reg ?_ | refine WL.pure rfl rfl rfl ?_ | refine WL.nil ?_ | refine WC.skip ?_ | refine WC.block ?_ | refine WC.condT rfl ?_ | refine WC.condF rfl ?_ | refine WL.off rfl rfl rfl ?_ | refine WL.off0 rfl rfl ?_ | refine WC.exit ?_ | refine blk_hit ?_ | refine blk_miss rfl ?_ | refine WC.ret ?_)
    exact Res.zero rfl rfl hp
  · obtain ⟨b, cap, t, rfl, hnc, hcm, htl, hpb⟩ := Hp.toBlk hp h0
    have e0 : IntKind.i64.wrap ((f.length : Int) - 1) = ((f.length - 1 - 0 : Nat) : Int) := by rw [wrap_mid (by omega) (by omega)]; omega
    rw [← rvF_zero f] at hpb
    refine enter Try.func108 rfl rfl ⟨rfl, rfl⟩ rfl ?_
    repeat (first | refine WC.seq ?_ | refine WC.reg ?_ | refine WL.pure rfl rfl rfl ?_ | refine WL.nil ?_ | refine WC.skip ?_ | refine WC.block ?_ | refine WC.condT rfl ?_ | refine WC.condF rfl ?_ | refine WL.off rfl rfl rfl ?_ | refine WL.off0 rfl rfl ?_ | refine WC.exit ?_ | refine blk_hit ?_ | refine blk_miss rfl ?_ | refine WC.ret ?_)
    refine WC.loop Nat (fun i => [(0, .slice (some ⟨b, 0, none⟩) f.length cap), (2, .int .i64 (i : Nat)), (3, .int .i64 (f.length - 1 - i : Nat))])
      (fun i w' => i ≤ f.length ∧ 2 * i ≤ f.length ∧ Hp w0 w' (.blk b (.cells (ints (fl f.length (rvF f i)) ++ t).toArray 3 (0, 0)) :: L)) (fun i => f.length - i) 0 ⟨rfl, rfl, congrArg (fun z => some (Value.int .i64 z)) e0, rfl⟩ ⟨Nat.zero_le _, Nat.zero_le _, hpb⟩ ?_
    rintro i w1 ⟨hi, hi2, hp1⟩
    repeat (first | refine WC.seq ?_ | refine WC.reg ?_ | refine WL.pure rfl rfl rfl ?_ | refine WL.nil ?_ | refine WC.skip ?_ | refine WC.block ?_ | refine WC.condT rfl ?_ | refine WC.condF rfl ?_ | refine WL.off rfl rfl rfl ?_ | refine WL.off0 rfl rfl ?_ | refine WC.exit ?_ | refine blk_hit ?_ | refine blk_miss rfl ?_ | refine WC.ret ?_)
    refine WC.cond rfl (fun hc => ?_) (fun hc => ?_)
    · have hc : i < f.length - 1 - i := by have := of_decide_eq_true hc; omega
      have step : IntKind.i64.wrap ((i : Int) + 1) = ((i + 1 : Nat) : Int) := by rw [wrap_i64_in (by omega) (by omega)]; omega
      have step2 : IntKind.i64.wrap (((f.length - 1 - i : Nat) : Int) - 1) = ((f.length - 1 - (i + 1) : Nat) : Int) := by rw [wrap_mid (by omega) (by omega)]; omega
      have hst := rvF_step hc
      have hiI : i < f.length := by omega
      have hjI : f.length - 1 - i < f.length := by omega
      generalize hjj : f.length - 1 - i = j at *
      have cell : ∀ {k : Nat} {w' : World}, k < f.length → Hp w0 w' (.blk b (.cells (ints (fl f.length (rvF f i)) ++ t).toArray 3 (0, 0)) :: L) → w'.cell? ⟨b, 0 + k, none⟩ = some (.int .i64 (rvF f i k : Nat)) := fun {k w'} hk h => cell_of_obj (h.obj 0 rfl) (by
        rw [Nat.zero_add]
        simp only [List.getElem?_toArray]
        rw [List.getElem?_append_left (by rw [ints_len, fl_len]; exact hk)]
        exact ints_fl_at _ hk)
      have fin : ∀ w', Hp w0 w' (.blk b (.cells (ints (((fl f.length (rvF f i)).set i (rvF f i j)).set j (rvF f i i)) ++ t).toArray 3 (0, 0)) :: L) → Hp w0 w' (.blk b (.cells (ints (fl f.length (rvF f (i + 1))) ++ t).toArray 3 (0, 0)) :: L) := fun w' h => by rw [hst]; exact h
      repeat (first | refine WC.seq ?_ | refine WC.reg ?_ | refine WL.pure rfl rfl rfl ?_ | refine WL.nil ?_ | refine WC.skip ?_ | refine WC.block ?_ | refine WC.condT rfl ?_ | refine WC.condF rfl ?_ | refine WL.off rfl rfl rfl ?_ | refine WL.off0 rfl rfl ?_ | refine WC.exit ?_ | refine blk_hit ?_ | refine blk_miss rfl ?_ | refine WC.ret ?_)
      refine WC.mid Unit (fun _ => [(0, .slice (some ⟨b, 0, none⟩) f.length cap), (2, .int .i64 (i : Nat)), (3, .int .i64 (j : Nat))]) (fun _ w' => Hp w0 w' (.blk b (.cells (ints (fl f.length (rvF f (i + 1))) ++ t).toArray 3 (0, 0)) :: L)) ?_ ?_
      · refine WC.regH (fun _ => True) mixed (by kernel_rfl) (fun w6 hw6 hh6 => ?_)
        have kh6 := hp1.keep hw6
        refine WH.pure 0 (by kernel_rfl) rfl (by kernel_rfl) rfl rfl rfl trivial ?_
        refine WH.pure 1 (by kernel_rfl) rfl (by kernel_rfl) rfl rfl rfl trivial ?_
        refine WH.pure 2 (by kernel_rfl) rfl (by kernel_rfl) rfl rfl rfl trivial ?_
        refine WH.pure 3 (by kernel_rfl) rfl (by kernel_rfl) rfl rfl rfl trivial ?_
        refine WH.pure 4 (by kernel_rfl) rfl (by kernel_rfl) rfl rfl rfl trivial ?_
        refine WH.pure 5 (by kernel_rfl) rfl (by kernel_rfl) rfl rfl rfl trivial ?_
        refine WH.ix1 6 (by kernel_rfl) rfl (by kernel_rfl) rfl rfl rfl rfl rfl rfl rfl hjI trivial ?_
        refine WH.pure 8 (by kernel_rfl) rfl (by kernel_rfl) rfl rfl rfl trivial ?_
        refine WH.pure 9 (by kernel_rfl) rfl (by kernel_rfl) rfl rfl rfl trivial ?_
        refine WH.ix1 10 (by kernel_rfl) rfl (by kernel_rfl) rfl rfl rfl rfl rfl rfl rfl hiI trivial ?_
        refine WH.two 7 11 rfl rfl (by kernel_rfl) ?_ ?_
        · refine WL.load rfl rfl rfl rfl rfl (cell hjI kh6) (WL.nil ⟨trivial, ?_⟩)
          refine WH.one 11 rfl (by kernel_rfl) ?_
          refine WL.load rfl rfl rfl rfl rfl (cell hiI kh6) (WL.nil ⟨trivial, ?_⟩)
          refine WH.ix1 12 (by kernel_rfl) rfl (by kernel_rfl) rfl rfl rfl rfl rfl rfl rfl hiI trivial ?_
          refine WH.one 13 rfl (by kernel_rfl) ?_
          refine WL.store rfl rfl rfl rfl rfl rfl (kh6.obj 0 rfl) (by simp [ints, fl]; omega) (fun w7 hw7 => WL.nil ⟨trivial, ?_⟩)
          rw [Nat.zero_add, ints_set_app _ _ _ (by rw [fl_len]; exact hiI)] at hw7
          have hp7 := kh6.set 0 rfl rfl hw7
          refine WH.ix1 14 (by kernel_rfl) rfl (by kernel_rfl) rfl rfl rfl rfl rfl rfl rfl hjI trivial ?_
          refine WH.one 15 rfl (by kernel_rfl) ?_
          refine WL.store rfl rfl rfl rfl rfl rfl (hp7.obj 0 rfl) (by simp [ints, fl]; omega) (fun w8 hw8 => WL.nil ⟨trivial, ?_⟩)
          rw [Nat.zero_add, ints_set_app _ _ _ (by rw [List.length_set, fl_len]; exact hjI)] at hw8
          have hp8 := hp7.set 0 rfl rfl hw8
          refine WH.done (by kernel_rfl) ?_
          exact ⟨(), ⟨rfl, rfl, rfl, rfl⟩, fin _ hp8⟩
        · refine WL.load rfl rfl rfl rfl rfl (cell hiI kh6) (WL.nil ⟨trivial, ?_⟩)
          refine WH.one 7 rfl (by kernel_rfl) ?_
          refine WL.load rfl rfl rfl rfl rfl (cell hjI kh6) (WL.nil ⟨trivial, ?_⟩)
          refine WH.ix1 12 (by kernel_rfl) rfl (by kernel_rfl) rfl rfl rfl rfl rfl rfl rfl hiI trivial ?_
          refine WH.one 13 rfl (by kernel_rfl) ?_
          refine WL.store rfl rfl rfl rfl rfl rfl (kh6.obj 0 rfl) (by simp [ints, fl]; omega) (fun w7 hw7 => WL.nil ⟨trivial, ?_⟩)
          rw [Nat.zero_add, ints_set_app _ _ _ (by rw [fl_len]; exact hiI)] at hw7
          have hp7 := kh6.set 0 rfl rfl hw7
          refine WH.ix1 14 (by kernel_rfl) rfl (by kernel_rfl) rfl rfl rfl rfl rfl rfl rfl hjI trivial ?_
          refine WH.one 15 rfl (by kernel_rfl) ?_
          refine WL.store rfl rfl rfl rfl rfl rfl (hp7.obj 0 rfl) (by simp [ints, fl]; omega) (fun w8 hw8 => WL.nil ⟨trivial, ?_⟩)
          rw [Nat.zero_add, ints_set_app _ _ _ (by rw [List.length_set, fl_len]; exact hjI)] at hw8
          have hp8 := hp7.set 0 rfl rfl hw8
          refine WH.done (by kernel_rfl) ?_
          exact ⟨(), ⟨rfl, rfl, rfl, rfl⟩, fin _ hp8⟩
      rintro ⟨⟩ e6 w6 hsub hp6
      refine WC.sub hsub ?_
      clear hsub
      repeat (first | refine WC.seq ?_ | refine WC.reg ?_ | refine WL.pure rfl rfl rfl ?_ | refine WL.nil ?_ | refine WC.skip ?_ | refine WC.block ?_ | refine WC.condT rfl ?_ | refine WC.condF rfl ?_ | refine WL.off rfl rfl rfl ?_ | refine WL.off0 rfl rfl ?_ | refine WC.exit ?_ | refine blk_hit ?_ | refine blk_miss rfl ?_ | refine WC.ret ?_)
      exact ⟨i + 1, by show f.length - (i + 1) < f.length - i; omega, ⟨rfl, congrArg (fun z => some (Value.int .i64 z)) step, congrArg (fun z => some (Value.int .i64 z)) step2, rfl⟩, by omega, by omega, hp6⟩
    · have hc : f.length - 1 - i ≤ i := by have := of_decide_eq_false hc; omega
      rw [rvF_end hc] at hp1
      repeat (first | refine WC.seq ?_ | refine WC.reg ?_ | refine WL.pure rfl rfl rfl ?_ | refine WL.nil ?_ | refine WC.skip ?_ | refine WC.block ?_ | refine WC.condT rfl ?_ | refine WC.condF rfl ?_ | refine WL.off rfl rfl rfl ?_ | refine WL.off0 rfl rfl ?_ | refine WC.exit ?_ | refine blk_hit ?_ | refine blk_miss rfl ?_ | refine WC.ret ?_)
      refine Res.zero rfl rfl ?_
      have h9 := Hp.ofBlk (cap := cap) (m := f.length) hp1 (by rw [ints_len, List.length_reverse]; omega) hcm (by rw [ints_len, List.length_reverse])
      show Hp w0 w1 (Ent.row _ 1 _ _ _ :: L)
      rw [List.length_reverse]
      exact h9

theorem order_pd (vf vg : Value) (f g : List Nat) (hlf : f.length ≤ 1000000) (hlg : g.length ≤ 1000000) (w : World) (sf : Pd w vf f) (sg_ : Pd w vg g) :
    Ret Try.prog 86 [vf, vg] w fun u w' => u = .int .i64 (ordP f g) ∧ Hp w w' [] := by
  obtain ⟨fa, fc, rfl, sf, nf, cf⟩ := sf
  obtain ⟨ga, gc, rfl, sg_, ng, cg⟩ := sg_
  refine enter Try.func86 rfl rfl ⟨rfl, rfl⟩ rfl ?_
  repeat (first | refine WC.seq ?_ | refine WC.reg ?_ | refine WL.pure rfl rfl rfl ?_ | refine WL.nil ?_ | refine WC.skip ?_ | refine WC.block ?_ | refine WC.condT rfl ?_ | refine WC.condF rfl ?_ | refine WL.off rfl rfl rfl ?_ | refine WL.off0 rfl rfl ?_ | refine WC.exit ?_ | refine blk_hit ?_ | refine blk_miss rfl ?_ | refine WC.ret ?_)
  refine WL.callP rfl rfl rfl rfl rfl ent106 (cmpI_any _ _ _) ?_
  repeat (first | refine WC.seq ?_ | refine WC.reg ?_ | refine WL.pure rfl rfl rfl ?_ | refine WL.nil ?_ | refine WC.skip ?_ | refine WC.block ?_ | refine WC.condT rfl ?_ | refine WC.condF rfl ?_ | refine WL.off rfl rfl rfl ?_ | refine WL.off0 rfl rfl ?_ | refine WC.exit ?_ | refine blk_hit ?_ | refine blk_miss rfl ?_ | refine WC.ret ?_)
  refine WC.cond rfl (fun h => ?_) (fun h => ?_)
  · have h : cmpZ f.length g.length ≠ 0 := by simpa using h
    repeat (first | refine WC.seq ?_ | refine WC.reg ?_ | refine WL.pure rfl rfl rfl ?_ | refine WL.nil ?_ | refine WC.skip ?_ | refine WC.block ?_ | refine WC.condT rfl ?_ | refine WC.condF rfl ?_ | refine WL.off rfl rfl rfl ?_ | refine WL.off0 rfl rfl ?_ | refine WC.exit ?_ | refine blk_hit ?_ | refine blk_miss rfl ?_ | refine WC.ret ?_)
    refine Res.one rfl rfl rfl ⟨?_, Hp.start w⟩
    congr 1
    unfold cmpZ at h ⊢
    unfold ordP
    by_cases h3 : f.length < g.length
    · rw [if_pos (by omega), if_pos h3]
    · rw [if_neg (by omega), if_neg h3]
      by_cases h4 : g.length < f.length
      · rw [if_pos (by omega), if_pos h4]
      · rw [if_neg (by omega), if_neg (by omega)] at h
        exact absurd rfl h
  · have h : cmpZ f.length g.length = 0 := by simpa using h
    have h5 : ¬ f.length < g.length ∧ ¬ g.length < f.length := by
      unfold cmpZ at h
      split at h
      · omega
      · split at h
        · omega
        · omega
    repeat (first | refine WC.seq ?_ | refine WC.reg ?_ | refine WL.pure rfl rfl rfl ?_ | refine WL.nil ?_ | refine WC.skip ?_ | refine WC.block ?_ | refine WC.condT rfl ?_ | refine WC.condF rfl ?_ | refine WL.off rfl rfl rfl ?_ | refine WL.off0 rfl rfl ?_ | refine WC.exit ?_ | refine blk_hit ?_ | refine blk_miss rfl ?_ | refine WC.ret ?_)
    refine WL.call rfl rfl rfl rfl rfl ent107 (clone_any fa fc f hlf (fun h => List.length_eq_zero_iff.1 (by have := nf h; omega)) w sf) ?_
    rintro v1 w1 hp1
    repeat (first | refine WC.seq ?_ | refine WC.reg ?_ | refine WL.pure rfl rfl rfl ?_ | refine WL.nil ?_ | refine WC.skip ?_ | refine WC.block ?_ | refine WC.condT rfl ?_ | refine WC.condF rfl ?_ | refine WL.off rfl rfl rfl ?_ | refine WL.off0 rfl rfl ?_ | refine WC.exit ?_ | refine blk_hit ?_ | refine blk_miss rfl ?_ | refine WC.ret ?_)
    refine WL.call rfl rfl rfl rfl rfl ent107 (clone_any ga gc g hlg (fun h => List.length_eq_zero_iff.1 (by have := ng h; omega)) w1 (sg_.hp hp1)) ?_
    rintro v2 w2 hp2
    have hp2 := (hp1.comb hp2).swap
    repeat (first | refine WC.seq ?_ | refine WC.reg ?_ | refine WL.pure rfl rfl rfl ?_ | refine WL.nil ?_ | refine WC.skip ?_ | refine WC.block ?_ | refine WC.condT rfl ?_ | refine WC.condF rfl ?_ | refine WL.off rfl rfl rfl ?_ | refine WL.off0 rfl rfl ?_ | refine WC.exit ?_ | refine blk_hit ?_ | refine blk_miss rfl ?_ | refine WC.ret ?_)
    refine WL.call rfl rfl rfl rfl rfl ent108 (Reverse_any v1 f hlf w w2 _ hp2) ?_
    rintro _ w3 hp3
    have hp3 := hp3.swap
    repeat (first | refine WC.seq ?_ | refine WC.reg ?_ | refine WL.pure rfl rfl rfl ?_ | refine WL.nil ?_ | refine WC.skip ?_ | refine WC.block ?_ | refine WC.condT rfl ?_ | refine WC.condF rfl ?_ | refine WL.off rfl rfl rfl ?_ | refine WL.off0 rfl rfl ?_ | refine WC.exit ?_ | refine blk_hit ?_ | refine blk_miss rfl ?_ | refine WC.ret ?_)
    refine WL.call rfl rfl rfl rfl rfl ent108 (Reverse_any v2 g hlg w w3 _ hp3) ?_
    rintro _ w4 hp4
    obtain ⟨a1, c1, rfl, s1, -⟩ := Pd.row hp4 1 rfl
    obtain ⟨a2, c2, rfl, s2, -⟩ := Pd.row hp4 0 rfl
    repeat (first | refine WC.seq ?_ | refine WC.reg ?_ | refine WL.pure rfl rfl rfl ?_ | refine WL.nil ?_ | refine WC.skip ?_ | refine WC.block ?_ | refine WC.condT rfl ?_ | refine WC.condF rfl ?_ | refine WL.off rfl rfl rfl ?_ | refine WL.off0 rfl rfl ?_ | refine WC.exit ?_ | refine blk_hit ?_ | refine blk_miss rfl ?_ | refine WC.ret ?_)
    refine WL.call rfl rfl rfl rfl rfl ent109 (Compare_any a1 a2 c1 c2 f.reverse g.reverse (by rw [List.length_reverse]; exact hlf) (by rw [List.length_reverse]; exact hlg) w4 s1 s2) ?_
    rintro _ w5 ⟨rfl, rfl⟩
    repeat (first | refine WC.seq ?_ | refine WC.reg ?_ | refine WL.pure rfl rfl rfl ?_ | refine WL.nil ?_ | refine WC.skip ?_ | refine WC.block ?_ | refine WC.condT rfl ?_ | refine WC.condF rfl ?_ | refine WL.off rfl rfl rfl ?_ | refine WL.off0 rfl rfl ?_ | refine WC.exit ?_ | refine blk_hit ?_ | refine blk_miss rfl ?_ | refine WC.ret ?_)
    exact Res.one rfl rfl rfl ⟨by rw [ordP, if_neg h5.1, if_neg h5.2], hp4.nil'⟩
end Go.Proofs.Ytagfpnnplgkkoaa
