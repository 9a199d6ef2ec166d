/- The walks of what is a field, in the program and in the reference. -/
import Derived.Test.YtagfpnnplgkkoaaR7
namespace Go.Poly
/-- Whether a number is the prime of a field. -/
def fieldB (p : Int) : Bool := decide (2 ≤ p) && (decide (p ≤ 1021) && priB p.toNat)
theorem fieldB_pri {p : Int} (h : fieldB p = true) : ∃ q : Nat, p = q ∧ Pri q ∧ q ≤ 1021 := by
  simp only [fieldB, Bool.and_eq_true, decide_eq_true_eq] at h
  exact ⟨p.toNat, by omega, priB_spec h.2.2, by omega⟩
/-- The least divisor above 1, as the reference looks for it. -/
def dvr : Nat → Nat → Nat → Nat
  | 0, _, n => n
  | k + 1, d, n => if d * d ≤ n then (if n % d = 0 then d else dvr k (d + 1) n) else n
theorem dvr_all : ∀ p, p < 1022 → (decide (2 ≤ p) && dvr 48 2 p == p) = priB p := by decide +kernel
end Go.Poly
namespace Go.Proofs.Ytagfpnnplgkkoaa
open Go.W Go.Poly Go.Tree
set_option maxRecDepth 100000
attribute [local irreducible] WC WL WQ WS WH

theorem Factor_any (n : Int) (w : World) :
    Ret Try.prog 79 [.int .i64 n] w fun u w' => (1 ≤ n ∧ n ≤ 2147483647 → ∃ a c, u = .tuple #[.slice a (fac n.toNat).length c, .int .i64 0] ∧ Hp w w' [.row 84 2 (.slice a (fac n.toNat).length c) (fac n.toNat).length (prs (upp (fac n.toNat)))]) ∧ (¬ (1 ≤ n ∧ n ≤ 2147483647) → u = .tuple #[.slice none 0 0, .int .i64 2] ∧ w' = w) := by
  refine enter Try.func79 rfl rfl ⟨rfl, rfl⟩ rfl ?_
  repeat (first | refine WC.seq ?_ | refine WC.reg ?_ | refine WL.pure rfl rfl rfl ?_ | refine WL.nil ?_ | refine WC.skip ?_ | refine WC.block ?_ | refine WC.condT rfl ?_ | refine WC.condF rfl ?_ | refine WL.off rfl rfl rfl ?_ | refine WL.off0 rfl rfl ?_ | refine WC.exit ?_ | refine blk_hit ?_ | refine blk_miss rfl ?_ | refine WC.ret ?_)
  refine WL.callP rfl rfl rfl rfl rfl ent98 (isNumber_any n _) ?_
  by_cases h : 1 ≤ n ∧ n ≤ 2147483647
  · rw [decide_eq_true h.1, decide_eq_true h.2]
    obtain ⟨m, rfl⟩ := Int.eq_ofNat_of_zero_le (show 0 ≤ n by omega)
    repeat (first | refine WC.seq ?_ | refine WC.reg ?_ | refine WL.pure rfl rfl rfl ?_ | refine WL.nil ?_ | refine WC.skip ?_ | refine WC.block ?_ | refine WC.condT rfl ?_ | refine WC.condF rfl ?_ | refine WL.off rfl rfl rfl ?_ | refine WL.off0 rfl rfl ?_ | refine WC.exit ?_ | refine blk_hit ?_ | refine blk_miss rfl ?_ | refine WC.ret ?_)
    refine WL.call rfl rfl rfl rfl rfl ent99 (factor_any m (by omega) (by omega) w) ?_
    rintro _ w1 ⟨a, c, rfl, hp⟩
    repeat (first | refine WC.seq ?_ | refine WC.reg ?_ | refine WL.pure rfl rfl rfl ?_ | refine WL.nil ?_ | refine WC.skip ?_ | refine WC.block ?_ | refine WC.condT rfl ?_ | refine WC.condF rfl ?_ | refine WL.off rfl rfl rfl ?_ | refine WL.off0 rfl rfl ?_ | refine WC.exit ?_ | refine blk_hit ?_ | refine blk_miss rfl ?_ | refine WC.ret ?_)
    exact Res.two rfl rfl rfl rfl ⟨fun _ => ⟨a, c, rfl, hp⟩, fun k => absurd h k⟩
  · have hb : (decide (1 ≤ n) && decide (n ≤ 2147483647)) = false := by
      rw [Bool.and_eq_false_iff]
      simp only [decide_eq_false_iff_not]
      omega
    rw [hb]
    repeat (first | refine WC.seq ?_ | refine WC.reg ?_ | refine WL.pure rfl rfl rfl ?_ | refine WL.nil ?_ | refine WC.skip ?_ | refine WC.block ?_ | refine WC.condT rfl ?_ | refine WC.condF rfl ?_ | refine WL.off rfl rfl rfl ?_ | refine WL.off0 rfl rfl ?_ | refine WC.exit ?_ | refine blk_hit ?_ | refine blk_miss rfl ?_ | refine WC.ret ?_)
    exact Res.two rfl rfl rfl rfl ⟨fun k => absurd k h, fun _ => ⟨rfl, rfl⟩⟩

theorem isField_any (p : Int) (w : World) : Ret Try.prog 53 [.int .i64 p] w fun u w' => u = .bool (fieldB p) ∧ Hp w w' [] := by
  refine enter Try.func53 rfl rfl ⟨rfl, rfl⟩ rfl ?_
  repeat (first | refine WC.seq ?_ | refine WC.reg ?_ | refine WL.pure rfl rfl rfl ?_ | refine WL.nil ?_ | refine WC.skip ?_ | refine WC.block ?_ | refine WC.condT rfl ?_ | refine WC.condF rfl ?_ | refine WL.off rfl rfl rfl ?_ | refine WL.off0 rfl rfl ?_ | refine WC.exit ?_ | refine blk_hit ?_ | refine blk_miss rfl ?_ | refine WC.ret ?_)
  refine WL.call rfl rfl rfl rfl rfl ent79 (Factor_any p w) ?_
  rintro u w1 ⟨hA, hB⟩
  by_cases h : 1 ≤ p ∧ p ≤ 2147483647
  · obtain ⟨a, c, rfl, hp⟩ := hA h
    obtain ⟨m, rfl⟩ := Int.eq_ofNat_of_zero_le (show 0 ≤ p by omega)
    simp only [Int.toNat_natCast] at hp ⊢
    repeat (first | refine WC.seq ?_ | refine WC.reg ?_ | refine WL.pure rfl rfl rfl ?_ | refine WL.nil ?_ | refine WC.skip ?_ | refine WC.block ?_ | refine WC.condT rfl ?_ | refine WC.condF rfl ?_ | refine WL.off rfl rfl rfl ?_ | refine WL.off0 rfl rfl ?_ | refine WC.exit ?_ | refine blk_hit ?_ | refine blk_miss rfl ?_ | refine WC.ret ?_)
    refine WL.split 12 rfl (fun h1 => ?_) (fun h1 => ?_)
    · have h1 : (m : Int) ≤ 1021 := of_decide_eq_true h1
      have hall := field_all m (by omega)
      have hfb : fieldB (m : Int) = oneB (fac m) := by
        rw [hall]
        unfold fieldB
        rw [decide_eq_true h1, Int.toNat_natCast]
        cases hpb : priB m with
        | false => simp
        | true =>
          have := (priB_spec hpb).1
          rw [decide_eq_true (by omega)]; rfl
      repeat (first | refine WC.seq ?_ | refine WC.reg ?_ | refine WL.pure rfl rfl rfl ?_ | refine WL.nil ?_ | refine WC.skip ?_ | refine WC.block ?_ | refine WC.condT rfl ?_ | refine WC.condF rfl ?_ | refine WL.off rfl rfl rfl ?_ | refine WL.off0 rfl rfl ?_ | refine WC.exit ?_ | refine blk_hit ?_ | refine blk_miss rfl ?_ | refine WC.ret ?_)
      refine WL.split 16 (b := true) (by simp [W.look]) (fun _ => ?_) (fun h => by cases h)
      repeat (first | refine WC.seq ?_ | refine WC.reg ?_ | refine WL.pure rfl rfl rfl ?_ | refine WL.nil ?_ | refine WC.skip ?_ | refine WC.block ?_ | refine WC.condT rfl ?_ | refine WC.condF rfl ?_ | refine WL.off rfl rfl rfl ?_ | refine WL.off0 rfl rfl ?_ | refine WC.exit ?_ | refine blk_hit ?_ | refine blk_miss rfl ?_ | refine WC.ret ?_)
      refine WL.split 21 rfl (fun h2 => ?_) (fun h2 => ?_)
      · have h2 : (fac m).length = 1 := by
          have : ((fac m).length : Int) = 1 := by simpa using h2
          omega
        obtain ⟨⟨r, e⟩, he⟩ := List.length_eq_one_iff.1 h2
        rw [he] at hp hfb ⊢
        have hsl := Sl.of_row (hp.at 0 rfl)
        obtain ⟨b, o, rfl⟩ := Sl.some (i := 0) hsl rfl
        have hcell := Sl.cell (i := 1) hsl (show (prs (upp [(r, e)]))[1]? = some (.int .i64 (e : Nat)) from rfl)
        have hob : oneB [(r, e)] = (e == 1) := rfl
        repeat (first | refine WC.seq ?_ | refine WC.reg ?_ | refine WL.pure rfl rfl rfl ?_ | refine WL.nil ?_ | refine WC.skip ?_ | refine WC.block ?_ | refine WC.condT rfl ?_ | refine WC.condF rfl ?_ | refine WL.off rfl rfl rfl ?_ | refine WL.off0 rfl rfl ?_ | refine WC.exit ?_ | refine blk_hit ?_ | refine blk_miss rfl ?_ | refine WC.ret ?_)
        refine WL.ix rfl rfl rfl rfl (j := 0) rfl (by simp) rfl ?_
        repeat (first | refine WC.seq ?_ | refine WC.reg ?_ | refine WL.pure rfl rfl rfl ?_ | refine WL.nil ?_ | refine WC.skip ?_ | refine WC.block ?_ | refine WC.condT rfl ?_ | refine WC.condF rfl ?_ | refine WL.off rfl rfl rfl ?_ | refine WL.off0 rfl rfl ?_ | refine WC.exit ?_ | refine blk_hit ?_ | refine blk_miss rfl ?_ | refine WC.ret ?_)
        refine WL.load rfl rfl rfl rfl rfl hcell ?_
        repeat (first | refine WC.seq ?_ | refine WC.reg ?_ | refine WL.pure rfl rfl rfl ?_ | refine WL.nil ?_ | refine WC.skip ?_ | refine WC.block ?_ | refine WC.condT rfl ?_ | refine WC.condF rfl ?_ | refine WL.off rfl rfl rfl ?_ | refine WL.off0 rfl rfl ?_ | refine WC.exit ?_ | refine blk_hit ?_ | refine blk_miss rfl ?_ | refine WC.ret ?_)
        refine Res.one rfl rfl rfl ⟨?_, hp.nil'⟩
        rw [hfb, hob]
        congr 1
        rw [Bool.eq_iff_iff]
        simp
        omega
      · have h2 : (fac m).length ≠ 1 := by
          have : ((fac m).length : Int) ≠ 1 := by simpa using h2
          omega
        have hob : oneB (fac m) = false := by
          match hq : fac m, h2 with
          | [], _ => rfl
          | [_], h2 => exact absurd rfl h2
          | _ :: _ :: _, _ => rfl
        repeat (first | refine WC.seq ?_ | refine WC.reg ?_ | refine WL.pure rfl rfl rfl ?_ | refine WL.nil ?_ | refine WC.skip ?_ | refine WC.block ?_ | refine WC.condT rfl ?_ | refine WC.condF rfl ?_ | refine WL.off rfl rfl rfl ?_ | refine WL.off0 rfl rfl ?_ | refine WC.exit ?_ | refine blk_hit ?_ | refine blk_miss rfl ?_ | refine WC.ret ?_)
        exact Res.one rfl rfl rfl ⟨by rw [hfb, hob], hp.nil'⟩
    · have h1 : ¬ (m : Int) ≤ 1021 := of_decide_eq_false h1
      repeat (first | refine WC.seq ?_ | refine WC.reg ?_ | refine WL.pure rfl rfl rfl ?_ | refine WL.nil ?_ | refine WC.skip ?_ | refine WC.block ?_ | refine WC.condT rfl ?_ | refine WC.condF rfl ?_ | refine WL.off rfl rfl rfl ?_ | refine WL.off0 rfl rfl ?_ | refine WC.exit ?_ | refine blk_hit ?_ | refine blk_miss rfl ?_ | refine WC.ret ?_)
      exact Res.one rfl rfl rfl ⟨by unfold fieldB; rw [decide_eq_false h1]; simp, hp.nil'⟩
  · obtain ⟨rfl, rfl⟩ := hB h
    have hfb : fieldB p = false := by
      unfold fieldB
      by_cases h2 : 2 ≤ p
      · rw [decide_eq_false (show ¬ p ≤ 1021 by omega)]; simp
      · rw [decide_eq_false h2]; rfl
    repeat (first | refine WC.seq ?_ | refine WC.reg ?_ | refine WL.pure rfl rfl rfl ?_ | refine WL.nil ?_ | refine WC.skip ?_ | refine WC.block ?_ | refine WC.condT rfl ?_ | refine WC.condF rfl ?_ | refine WL.off rfl rfl rfl ?_ | refine WL.off0 rfl rfl ?_ | refine WC.exit ?_ | refine blk_hit ?_ | refine blk_miss rfl ?_ | refine WC.ret ?_)
    refine WL.split 12 rfl (fun h1 => ?_) (fun h1 => ?_)
    · repeat (first | refine WC.seq ?_ | refine WC.reg ?_ | refine WL.pure rfl rfl rfl ?_ | refine WL.nil ?_ | refine WC.skip ?_ | refine WC.block ?_ | refine WC.condT rfl ?_ | refine WC.condF rfl ?_ | refine WL.off rfl rfl rfl ?_ | refine WL.off0 rfl rfl ?_ | refine WC.exit ?_ | refine blk_hit ?_ | refine blk_miss rfl ?_ | refine WC.ret ?_)
      exact Res.one rfl rfl rfl ⟨by rw [hfb], Hp.start _⟩
    · repeat (first | refine WC.seq ?_ | refine WC.reg ?_ | refine WL.pure rfl rfl rfl ?_ | refine WL.nil ?_ | refine WC.skip ?_ | refine WC.block ?_ | refine WC.condT rfl ?_ | refine WC.condF rfl ?_ | refine WL.off rfl rfl rfl ?_ | refine WL.off0 rfl rfl ?_ | refine WC.exit ?_ | refine blk_hit ?_ | refine blk_miss rfl ?_ | refine WC.ret ?_)
      exact Res.one rfl rfl rfl ⟨by rw [hfb], Hp.start _⟩

theorem Number_any (n : Int) : Pur Try.prog 73 [.int .i64 n] (.bool (decide (1 ≤ n) && decide (n ≤ 2147483647))) := by
  intro w
  refine enter Try.func73 rfl rfl ⟨rfl, rfl⟩ rfl ?_
  repeat (first | refine WC.seq ?_ | refine WC.reg ?_ | refine WL.pure rfl rfl rfl ?_ | refine WL.nil ?_ | refine WC.skip ?_ | refine WC.block ?_ | refine WC.condT rfl ?_ | refine WC.condF rfl ?_ | refine WL.off rfl rfl rfl ?_ | refine WL.off0 rfl rfl ?_ | refine WC.exit ?_ | refine blk_hit ?_ | refine blk_miss rfl ?_ | refine WC.ret ?_)
  refine WL.split 5 rfl (fun h1 => ?_) (fun h1 => ?_)
  · have h1 : 1 ≤ n := of_decide_eq_true h1
    repeat (first | refine WC.seq ?_ | refine WC.reg ?_ | refine WL.pure rfl rfl rfl ?_ | refine WL.nil ?_ | refine WC.skip ?_ | refine WC.block ?_ | refine WC.condT rfl ?_ | refine WC.condF rfl ?_ | refine WL.off rfl rfl rfl ?_ | refine WL.off0 rfl rfl ?_ | refine WC.exit ?_ | refine blk_hit ?_ | refine blk_miss rfl ?_ | refine WC.ret ?_)
    exact Res.one rfl rfl rfl ⟨by rw [decide_eq_true h1]; rfl, rfl⟩
  · have h1 : ¬ 1 ≤ n := of_decide_eq_false h1
    repeat (first | refine WC.seq ?_ | refine WC.reg ?_ | refine WL.pure rfl rfl rfl ?_ | refine WL.nil ?_ | refine WC.skip ?_ | refine WC.block ?_ | refine WC.condT rfl ?_ | refine WC.condF rfl ?_ | refine WL.off rfl rfl rfl ?_ | refine WL.off0 rfl rfl ?_ | refine WC.exit ?_ | refine blk_hit ?_ | refine blk_miss rfl ?_ | refine WC.ret ?_)
    exact Res.one rfl rfl rfl ⟨by rw [decide_eq_false h1]; rfl, rfl⟩

theorem Divisor_any (n : Nat) (h2 : 2 ≤ n) (hn : n ≤ 1021) : Pur Try.prog 74 [.int .i64 (n : Nat)] (.int .i64 (dvr 48 2 n : Nat)) := by
  intro w
  refine enter Try.func74 rfl rfl ⟨rfl, rfl⟩ rfl ?_
  repeat (first | refine WC.seq ?_ | refine WC.reg ?_ | refine WL.pure rfl rfl rfl ?_ | refine WL.nil ?_ | refine WC.skip ?_ | refine WC.block ?_ | refine WC.condT rfl ?_ | refine WC.condF rfl ?_ | refine WL.off rfl rfl rfl ?_ | refine WL.off0 rfl rfl ?_ | refine WC.exit ?_ | refine blk_hit ?_ | refine blk_miss rfl ?_ | refine WC.ret ?_)
  refine WC.loop Nat (fun d => [(0, .int .i64 (n : Nat)), (3, .int .i64 (d : Nat))]) (fun d w' => w' = w ∧ 2 ≤ d ∧ d ≤ 32 ∧ dvr (50 - d) d n = dvr 48 2 n) (fun d => 50 - d) 2 ⟨rfl, rfl, rfl⟩ ⟨rfl, by omega, by omega, rfl⟩ ?_
  rintro d w1 ⟨rfl, hd2, hd, hv⟩
  have hdd : d * d ≤ 32 * 32 := Nat.mul_le_mul hd hd
  obtain ⟨k, hk⟩ : ∃ k, 50 - d = k + 1 := ⟨49 - d, by omega⟩
  have hk2 : 50 - (d + 1) = k := by omega
  rw [hk, dvr] at hv
  have esq : IntKind.i64.wrap ((d : Int) * (d : Int)) = ((d * d : Nat) : Int) := by rw [← Int.natCast_mul]; exact wrap_mid (by omega) (by omega)
  have em : ((n : Int).tmod (d : Int)) = ((n % d : Nat) : Int) := (Int.ofNat_tmod _ _).symm
  have step : IntKind.i64.wrap ((d : Int) + 1) = ((d + 1 : Nat) : Int) := by rw [wrap_i64_in (by omega) (by omega)]; omega
  repeat (first | refine WC.seq ?_ | refine WC.reg ?_ | refine WL.pure rfl rfl rfl ?_ | refine WL.nil ?_ | refine WC.skip ?_ | refine WC.block ?_ | refine WC.condT rfl ?_ | refine WC.condF rfl ?_ | refine WL.off rfl rfl rfl ?_ | refine WL.off0 rfl rfl ?_ | refine WC.exit ?_ | refine blk_hit ?_ | refine blk_miss rfl ?_ | refine WC.ret ?_)
  refine WC.cond rfl (fun hc => ?_) (fun hc => ?_)
  · have hc : d * d ≤ n := by
      have := of_decide_eq_true hc
      rw [esq] at this
      exact Int.ofNat_le.1 this
    have hd3 : d ≤ 31 := by
      apply Nat.le_of_not_lt
      intro h
      have : 32 * 32 ≤ d * d := Nat.mul_le_mul h h
      omega
    rw [if_pos hc] at hv
    repeat (first | refine WC.seq ?_ | refine WC.reg ?_ | refine WL.pure rfl rfl rfl ?_ | refine WL.nil ?_ | refine WC.skip ?_ | refine WC.block ?_ | refine WC.condT rfl ?_ | refine WC.condF rfl ?_ | refine WL.off rfl rfl rfl ?_ | refine WL.off0 rfl rfl ?_ | refine WC.exit ?_ | refine blk_hit ?_ | refine blk_miss rfl ?_ | refine WC.ret ?_)
    refine WL.rem rfl rfl rfl rfl (by omega) ?_
    refine WL.known (d := 13) (congrArg (fun z => some (Value.int .i64 z)) em) ?_
    repeat (first | refine WC.seq ?_ | refine WC.reg ?_ | refine WL.pure rfl rfl rfl ?_ | refine WL.nil ?_ | refine WC.skip ?_ | refine WC.block ?_ | refine WC.condT rfl ?_ | refine WC.condF rfl ?_ | refine WL.off rfl rfl rfl ?_ | refine WL.off0 rfl rfl ?_ | refine WC.exit ?_ | refine blk_hit ?_ | refine blk_miss rfl ?_ | refine WC.ret ?_)
    refine WC.cond rfl (fun hc2 => ?_) (fun hc2 => ?_)
    · have hc2 : n % d = 0 := by
        have : ((n % d : Nat) : Int) = 0 := by simpa using hc2
        omega
      rw [if_pos hc2] at hv
      repeat (first | refine WC.seq ?_ | refine WC.reg ?_ | refine WL.pure rfl rfl rfl ?_ | refine WL.nil ?_ | refine WC.skip ?_ | refine WC.block ?_ | refine WC.condT rfl ?_ | refine WC.condF rfl ?_ | refine WL.off rfl rfl rfl ?_ | refine WL.off0 rfl rfl ?_ | refine WC.exit ?_ | refine blk_hit ?_ | refine blk_miss rfl ?_ | refine WC.ret ?_)
      exact Res.one rfl rfl rfl ⟨by rw [← hv], rfl⟩
    · have hc2 : n % d ≠ 0 := by
        have : ((n % d : Nat) : Int) ≠ 0 := by simpa using hc2
        omega
      rw [if_neg hc2] at hv
      repeat (first | refine WC.seq ?_ | refine WC.reg ?_ | refine WL.pure rfl rfl rfl ?_ | refine WL.nil ?_ | refine WC.skip ?_ | refine WC.block ?_ | refine WC.condT rfl ?_ | refine WC.condF rfl ?_ | refine WL.off rfl rfl rfl ?_ | refine WL.off0 rfl rfl ?_ | refine WC.exit ?_ | refine blk_hit ?_ | refine blk_miss rfl ?_ | refine WC.ret ?_)
      exact ⟨d + 1, by show 50 - (d + 1) < 50 - d; omega, ⟨rfl, congrArg (fun z => some (Value.int .i64 z)) step, rfl⟩, rfl, by omega, by omega, by rw [hk2]; exact hv⟩
  · have hc : ¬ d * d ≤ n := by
      have := of_decide_eq_false hc
      rw [esq] at this
      exact fun h => this (Int.ofNat_le.2 h)
    rw [if_neg hc] at hv
    repeat (first | refine WC.seq ?_ | refine WC.reg ?_ | refine WL.pure rfl rfl rfl ?_ | refine WL.nil ?_ | refine WC.skip ?_ | refine WC.block ?_ | refine WC.condT rfl ?_ | refine WC.condF rfl ?_ | refine WL.off rfl rfl rfl ?_ | refine WL.off0 rfl rfl ?_ | refine WC.exit ?_ | refine blk_hit ?_ | refine blk_miss rfl ?_ | refine WC.ret ?_)
    exact Res.one rfl rfl rfl ⟨by rw [← hv], rfl⟩

theorem Prime_any (n : Nat) (h2 : 2 ≤ n) (hn : n ≤ 1021) : Pur Try.prog 43 [.int .i64 (n : Nat)] (.bool (priB n)) := by
  intro w
  have hall := dvr_all n (by omega)
  rw [decide_eq_true h2, Bool.true_and] at hall
  refine enter Try.func43 rfl rfl ⟨rfl, rfl⟩ rfl ?_
  repeat (first | refine WC.seq ?_ | refine WC.reg ?_ | refine WL.pure rfl rfl rfl ?_ | refine WL.nil ?_ | refine WC.skip ?_ | refine WC.block ?_ | refine WC.condT rfl ?_ | refine WC.condF rfl ?_ | refine WL.off rfl rfl rfl ?_ | refine WL.off0 rfl rfl ?_ | refine WC.exit ?_ | refine blk_hit ?_ | refine blk_miss rfl ?_ | refine WC.ret ?_)
  refine WL.callP rfl rfl rfl rfl rfl ent73 (Number_any _ _) ?_
  rw [decide_eq_true (show (1 : Int) ≤ (n : Int) by omega), decide_eq_true (show (n : Int) ≤ 2147483647 by omega)]
  repeat (first | refine WC.seq ?_ | refine WC.reg ?_ | refine WL.pure rfl rfl rfl ?_ | refine WL.nil ?_ | refine WC.skip ?_ | refine WC.block ?_ | refine WC.condT rfl ?_ | refine WC.condF rfl ?_ | refine WL.off rfl rfl rfl ?_ | refine WL.off0 rfl rfl ?_ | refine WC.exit ?_ | refine blk_hit ?_ | refine blk_miss rfl ?_ | refine WC.ret ?_)
  refine WL.split 9 (b := true) (by simp [W.look]; omega) (fun _ => ?_) (fun h => by cases h)
  repeat (first | refine WC.seq ?_ | refine WC.reg ?_ | refine WL.pure rfl rfl rfl ?_ | refine WL.nil ?_ | refine WC.skip ?_ | refine WC.block ?_ | refine WC.condT rfl ?_ | refine WC.condF rfl ?_ | refine WL.off rfl rfl rfl ?_ | refine WL.off0 rfl rfl ?_ | refine WC.exit ?_ | refine blk_hit ?_ | refine blk_miss rfl ?_ | refine WC.ret ?_)
  refine WL.callP rfl rfl rfl rfl rfl ent74 (Divisor_any n h2 hn _) ?_
  repeat (first | refine WC.seq ?_ | refine WC.reg ?_ | refine WL.pure rfl rfl rfl ?_ | refine WL.nil ?_ | refine WC.skip ?_ | refine WC.block ?_ | refine WC.condT rfl ?_ | refine WC.condF rfl ?_ | refine WL.off rfl rfl rfl ?_ | refine WL.off0 rfl rfl ?_ | refine WC.exit ?_ | refine blk_hit ?_ | refine blk_miss rfl ?_ | refine WC.ret ?_)
  refine Res.one rfl rfl rfl ⟨?_, rfl⟩
  rw [← hall]
  congr 1
  rw [Bool.eq_iff_iff]
  simp
  omega
theorem Field_any (p : Int) : Pur Try.prog 19 [.int .i64 p] (.bool (fieldB p)) := by
  intro w
  refine enter Try.func19 rfl rfl ⟨rfl, rfl⟩ rfl ?_
  repeat (first | refine WC.seq ?_ | refine WC.reg ?_ | refine WL.pure rfl rfl rfl ?_ | refine WL.nil ?_ | refine WC.skip ?_ | refine WC.block ?_ | refine WC.condT rfl ?_ | refine WC.condF rfl ?_ | refine WL.off rfl rfl rfl ?_ | refine WL.off0 rfl rfl ?_ | refine WC.exit ?_ | refine blk_hit ?_ | refine blk_miss rfl ?_ | refine WC.ret ?_)
  refine WL.split 5 rfl (fun h1 => ?_) (fun h1 => ?_)
  · have h1 : 2 ≤ p := of_decide_eq_true h1
    repeat (first | refine WC.seq ?_ | refine WC.reg ?_ | refine WL.pure rfl rfl rfl ?_ | refine WL.nil ?_ | refine WC.skip ?_ | refine WC.block ?_ | refine WC.condT rfl ?_ | refine WC.condF rfl ?_ | refine WL.off rfl rfl rfl ?_ | refine WL.off0 rfl rfl ?_ | refine WC.exit ?_ | refine blk_hit ?_ | refine blk_miss rfl ?_ | refine WC.ret ?_)
    refine WL.split 9 rfl (fun h2 => ?_) (fun h2 => ?_)
    · have h2 : p ≤ 1021 := of_decide_eq_true h2
      obtain ⟨m, rfl⟩ := Int.eq_ofNat_of_zero_le (show 0 ≤ p by omega)
      repeat (first | refine WC.seq ?_ | refine WC.reg ?_ | refine WL.pure rfl rfl rfl ?_ | refine WL.nil ?_ | refine WC.skip ?_ | refine WC.block ?_ | refine WC.condT rfl ?_ | refine WC.condF rfl ?_ | refine WL.off rfl rfl rfl ?_ | refine WL.off0 rfl rfl ?_ | refine WC.exit ?_ | refine blk_hit ?_ | refine blk_miss rfl ?_ | refine WC.ret ?_)
      refine WL.callP rfl rfl rfl rfl rfl ent43 (Prime_any m (by omega) (by omega) _) ?_
      repeat (first | refine WC.seq ?_ | refine WC.reg ?_ | refine WL.pure rfl rfl rfl ?_ | refine WL.nil ?_ | refine WC.skip ?_ | refine WC.block ?_ | refine WC.condT rfl ?_ | refine WC.condF rfl ?_ | refine WL.off rfl rfl rfl ?_ | refine WL.off0 rfl rfl ?_ | refine WC.exit ?_ | refine blk_hit ?_ | refine blk_miss rfl ?_ | refine WC.ret ?_)
      exact Res.one rfl rfl rfl ⟨by rw [fieldB, decide_eq_true h1, decide_eq_true h2]; rfl, rfl⟩
    · have h2 : ¬ p ≤ 1021 := of_decide_eq_false h2
      repeat (first | refine WC.seq ?_ | refine WC.reg ?_ | refine WL.pure rfl rfl rfl ?_ | refine WL.nil ?_ | refine WC.skip ?_ | refine WC.block ?_ | refine WC.condT rfl ?_ | refine WC.condF rfl ?_ | refine WL.off rfl rfl rfl ?_ | refine WL.off0 rfl rfl ?_ | refine WC.exit ?_ | refine blk_hit ?_ | refine blk_miss rfl ?_ | refine WC.ret ?_)
      exact Res.one rfl rfl rfl ⟨by rw [fieldB, decide_eq_false h2]; simp, rfl⟩
  · have h1 : ¬ 2 ≤ p := of_decide_eq_false h1
    repeat (first | refine WC.seq ?_ | refine WC.reg ?_ | refine WL.pure rfl rfl rfl ?_ | refine WL.nil ?_ | refine WC.skip ?_ | refine WC.block ?_ | refine WC.condT rfl ?_ | refine WC.condF rfl ?_ | refine WL.off rfl rfl rfl ?_ | refine WL.off0 rfl rfl ?_ | refine WC.exit ?_ | refine blk_hit ?_ | refine blk_miss rfl ?_ | refine WC.ret ?_)
    exact Res.one rfl rfl rfl ⟨by rw [fieldB, decide_eq_false h1]; rfl, rfl⟩
end Go.Proofs.Ytagfpnnplgkkoaa
