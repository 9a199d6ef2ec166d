/- The walk of the division of a number by its primes, with what is called for each. -/
import Derived.Test.YtagfpnnplgkkoaaR5
namespace Go.Poly
/-- A factor taken out as often as it goes. -/
def strip (q : Nat) : Nat → Nat → Nat → Nat × Nat
  | 0, n, t => (n, t)
  | k + 1, n, t => if n % q = 0 then strip q k (n / q) (t + 1) else (n, t)
def dvF : Nat → Nat → Nat → List (Nat × Nat)
  | 0, _, _ => []
  | k + 1, q, n => if q * q ≤ n then (if 0 < (strip q n n 0).2 then [(q, (strip q n n 0).2)] else []) ++ dvF k (q + 1) (strip q n n 0).1 else if 1 < n then [(n, 1)] else []
/-- The primes of a number, with their exponents, as they are found. -/
def fac (n : Nat) : List (Nat × Nat) := dvF 49998 2 n
theorem strip_le {q : Nat} : ∀ k n t, 1 ≤ n → 2 ≤ q → 1 ≤ (strip q k n t).1 ∧ (strip q k n t).1 ≤ n ∧ t ≤ (strip q k n t).2 ∧ (strip q k n t).2 ≤ t + k
  | 0, n, t, h, _ => ⟨h, Nat.le_refl _, Nat.le_refl _, Nat.le_refl _⟩
  | k + 1, n, t, h, hq => by
    unfold strip
    split
    · rename_i h1
      have h2 : 1 ≤ n / q := by
        have := Nat.div_add_mod n q
        rcases Nat.eq_zero_or_pos (n / q) with h3 | h3
        · rw [h3, h1] at this; omega
        · exact h3
      obtain ⟨i1, i2, i3, i4⟩ := strip_le k (n / q) (t + 1) h2 hq
      have := Nat.div_le_self n q
      exact ⟨i1, by omega, by omega, by omega⟩
    · exact ⟨h, Nat.le_refl _, Nat.le_refl _, by omega⟩
end Go.Poly
namespace Go.Proofs.Ytagfpnnplgkkoaa
open Go.W Go.Poly Go.Tree
set_option maxRecDepth 100000
attribute [local irreducible] WC WL WQ WS WH

theorem divide_any (F : FuncId) (ca : Array Value) (I : List (Nat × Nat) → World → Prop) (hE : Ents Try.prog F) (n : Nat) (h1 : 1 ≤ n) (hn : n ≤ 2147483647) (w : World) (hI : I [] w)
    (hF : ∀ (acc : List (Nat × Nat)) (q t : Nat) (w' : World), I acc w' → acc.length ≤ 100000 → Ret Try.prog F ([.int .i64 (q : Nat), .int .i64 (t : Nat)] ++ ca.toList) w' fun _ w'' => I (acc ++ [(q, t)]) w'') :
    Ret Try.prog 112 [.int .i64 (n : Nat), .func (.func F) #[] ca] w fun _ w' => I (fac n) w' := by
  refine enter Try.func112 rfl rfl ⟨rfl, rfl⟩ rfl ?_
  repeat (first | refine WC.seq ?_ | refine WC.reg ?_ | refine WL.pure rfl rfl rfl ?_ | refine WL.nil ?_ | refine WC.skip ?_ | refine WC.block ?_ | refine WC.condT rfl ?_ | refine WC.condF rfl ?_ | refine WL.off rfl rfl rfl ?_ | refine WL.off0 rfl rfl ?_ | refine WC.exit ?_ | refine blk_hit ?_ | refine blk_miss rfl ?_ | refine WC.ret ?_)
  refine WC.loop (Nat × Nat × List (Nat × Nat)) (fun (q, m, acc) => [(0, .int .i64 (m : Nat)), (1, .func (.func F) #[] ca), (4, .int .i64 (q : Nat))])
    (fun (q, m, acc) w' => 2 ≤ q ∧ q ≤ 46341 ∧ 1 ≤ m ∧ m ≤ 2147483647 ∧ acc.length ≤ q ∧ acc ++ dvF (50000 - q) q m = fac n ∧ I acc w') (fun (q, m, acc) => 50000 - q) (2, n, []) ⟨rfl, rfl, rfl, rfl⟩ ⟨by omega, by omega, h1, hn, by simp, rfl, hI⟩ ?_
  rintro ⟨q, m, acc⟩ w1 ⟨hq2, hqm, hm1, hm, hal, hdv, hI1⟩
  have hqq : q * q ≤ 46341 * 46341 := Nat.mul_le_mul hqm hqm
  obtain ⟨k, hk⟩ : ∃ k, 50000 - q = k + 1 := ⟨49999 - q, by omega⟩
  have hk2 : 50000 - (q + 1) = k := by omega
  rw [hk, dvF] at hdv
  have esq : IntKind.i64.wrap ((q : Int) * (q : Int)) = ((q * q : Nat) : Int) := by rw [← Int.natCast_mul]; exact wrap_mid (by omega) (by omega)
  repeat (first | refine WC.seq ?_ | refine WC.reg ?_ | refine WL.pure rfl rfl rfl ?_ | refine WL.nil ?_ | refine WC.skip ?_ | refine WC.block ?_ | refine WC.condT rfl ?_ | refine WC.condF rfl ?_ | refine WL.off rfl rfl rfl ?_ | refine WL.off0 rfl rfl ?_ | refine WC.exit ?_ | refine blk_hit ?_ | refine blk_miss rfl ?_ | refine WC.ret ?_)
  refine WC.cond rfl (fun hc => ?_) (fun hc => ?_)
  · have hc : q * q ≤ m := by
      have := of_decide_eq_true hc
      rw [esq] at this
      exact Int.ofNat_le.1 this
    have hq3 : q ≤ 46340 := by
      apply Nat.le_of_not_lt
      intro h
      have : 46341 * 46341 ≤ q * q := Nat.mul_le_mul h h
      omega
    rw [if_pos hc] at hdv
    have step : IntKind.i64.wrap ((q : Int) + 1) = ((q + 1 : Nat) : Int) := by rw [wrap_i64_in (by omega) (by omega)]; omega
    have hst := strip_le m m 0 hm1 hq2
    generalize hR : strip q m m 0 = R at *
    repeat (first | refine WC.seq ?_ | refine WC.reg ?_ | refine WL.pure rfl rfl rfl ?_ | refine WL.nil ?_ | refine WC.skip ?_ | refine WC.block ?_ | refine WC.condT rfl ?_ | refine WC.condF rfl ?_ | refine WL.off rfl rfl rfl ?_ | refine WL.off0 rfl rfl ?_ | refine WC.exit ?_ | refine blk_hit ?_ | refine blk_miss rfl ?_ | refine WC.ret ?_)
    refine WC.loop (Nat × Nat × Nat) (fun (K, r, t) => [(0, .int .i64 (r : Nat)), (1, .func (.func F) #[] ca), (4, .int .i64 (q : Nat)), (5, .int .i64 (t : Nat))])
      (fun (K, r, t) w' => w' = w1 ∧ strip q K r t = R ∧ 1 ≤ r ∧ r ≤ K ∧ K + t = m) (fun (K, r, t) => r) (m, m, 0) ⟨rfl, rfl, rfl, rfl, rfl⟩ ⟨rfl, hR, hm1, Nat.le_refl _, rfl⟩ ?_
    rintro ⟨K, r, t⟩ w2 ⟨rfl, hs, hr1, hrK, hKt⟩
    obtain ⟨K, rfl⟩ : ∃ j, K = j + 1 := ⟨K - 1, by omega⟩
    rw [strip] at hs
    have em : ((r : Int).tmod (q : Int)) = ((r % q : Nat) : Int) := (Int.ofNat_tmod _ _).symm
    repeat (first | refine WC.seq ?_ | refine WC.reg ?_ | refine WL.pure rfl rfl rfl ?_ | refine WL.nil ?_ | refine WC.skip ?_ | refine WC.block ?_ | refine WC.condT rfl ?_ | refine WC.condF rfl ?_ | refine WL.off rfl rfl rfl ?_ | refine WL.off0 rfl rfl ?_ | refine WC.exit ?_ | refine blk_hit ?_ | refine blk_miss rfl ?_ | refine WC.ret ?_)
    refine WL.rem rfl rfl rfl rfl (by omega) ?_
    refine WL.known (d := 15) (congrArg (fun z => some (Value.int .i64 z)) em) ?_
    repeat (first | refine WC.seq ?_ | refine WC.reg ?_ | refine WL.pure rfl rfl rfl ?_ | refine WL.nil ?_ | refine WC.skip ?_ | refine WC.block ?_ | refine WC.condT rfl ?_ | refine WC.condF rfl ?_ | refine WL.off rfl rfl rfl ?_ | refine WL.off0 rfl rfl ?_ | refine WC.exit ?_ | refine blk_hit ?_ | refine blk_miss rfl ?_ | refine WC.ret ?_)
    refine WC.cond rfl (fun hc2 => ?_) (fun hc2 => ?_)
    · have hc2 : r % q = 0 := by
        have : ((r % q : Nat) : Int) = 0 := by simpa using hc2
        omega
      rw [if_pos hc2] at hs
      have hdm := Nat.div_add_mod r q
      have hlt : r / q < r := Nat.div_lt_self (by omega) (by omega)
      have h2 : 1 ≤ r / q := by
        rcases Nat.eq_zero_or_pos (r / q) with h3 | h3
        · rw [h3, hc2] at hdm; omega
        · exact h3
      have eq_ : IntKind.i64.wrap ((r : Int).tdiv (q : Int)) = ((r / q : Nat) : Int) := by
        rw [← Int.ofNat_tdiv]
        generalize r / q = z at *
        exact wrap_mid (by omega) (by omega)
      have step2 : IntKind.i64.wrap ((t : Int) + 1) = ((t + 1 : Nat) : Int) := by rw [wrap_i64_in (by omega) (by omega)]; omega
      generalize r / q = z at *
      repeat (first | refine WC.seq ?_ | refine WC.reg ?_ | refine WL.pure rfl rfl rfl ?_ | refine WL.nil ?_ | refine WC.skip ?_ | refine WC.block ?_ | refine WC.condT rfl ?_ | refine WC.condF rfl ?_ | refine WL.off rfl rfl rfl ?_ | refine WL.off0 rfl rfl ?_ | refine WC.exit ?_ | refine blk_hit ?_ | refine blk_miss rfl ?_ | refine WC.ret ?_)
      refine WL.quo rfl rfl rfl rfl (by omega) ?_
      refine WL.known (d := 19) (congrArg (fun z => some (Value.int .i64 z)) eq_) ?_
      repeat (first | refine WC.seq ?_ | refine WC.reg ?_ | refine WL.pure rfl rfl rfl ?_ | refine WL.nil ?_ | refine WC.skip ?_ | refine WC.block ?_ | refine WC.condT rfl ?_ | refine WC.condF rfl ?_ | refine WL.off rfl rfl rfl ?_ | refine WL.off0 rfl rfl ?_ | refine WC.exit ?_ | refine blk_hit ?_ | refine blk_miss rfl ?_ | refine WC.ret ?_)
      exact ⟨(K, z, t + 1), hlt, ⟨rfl, rfl, rfl, congrArg (fun z => some (Value.int .i64 z)) step2, rfl⟩, rfl, hs, h2, by omega, by omega⟩
    · have hc2 : r % q ≠ 0 := by
        have : ((r % q : Nat) : Int) ≠ 0 := by simpa using hc2
        omega
      rw [if_neg hc2] at hs
      subst hs
      simp only at hst hdv
      repeat (first | refine WC.seq ?_ | refine WC.reg ?_ | refine WL.pure rfl rfl rfl ?_ | refine WL.nil ?_ | refine WC.skip ?_ | refine WC.block ?_ | refine WC.condT rfl ?_ | refine WC.condF rfl ?_ | refine WL.off rfl rfl rfl ?_ | refine WL.off0 rfl rfl ?_ | refine WC.exit ?_ | refine blk_hit ?_ | refine blk_miss rfl ?_ | refine WC.ret ?_)
      refine WC.cond rfl (fun hc3 => ?_) (fun hc3 => ?_)
      · have hc3 : 0 < t := by have := of_decide_eq_true hc3; omega
        rw [if_pos hc3, ← List.append_assoc] at hdv
        repeat (first | refine WC.seq ?_ | refine WC.reg ?_ | refine WL.pure rfl rfl rfl ?_ | refine WL.nil ?_ | refine WC.skip ?_ | refine WC.block ?_ | refine WC.condT rfl ?_ | refine WC.condF rfl ?_ | refine WL.off rfl rfl rfl ?_ | refine WL.off0 rfl rfl ?_ | refine WC.exit ?_ | refine blk_hit ?_ | refine blk_miss rfl ?_ | refine WC.ret ?_)
        refine WL.call rfl rfl rfl rfl rfl hE (hF acc q t w2 hI1 (by omega)) ?_
        intro v3 w3 hI3
        repeat (first | refine WC.seq ?_ | refine WC.reg ?_ | refine WL.pure rfl rfl rfl ?_ | refine WL.nil ?_ | refine WC.skip ?_ | refine WC.block ?_ | refine WC.condT rfl ?_ | refine WC.condF rfl ?_ | refine WL.off rfl rfl rfl ?_ | refine WL.off0 rfl rfl ?_ | refine WC.exit ?_ | refine blk_hit ?_ | refine blk_miss rfl ?_ | refine WC.ret ?_)
        exact ⟨(q + 1, r, acc ++ [(q, t)]), by show 50000 - (q + 1) < 50000 - q; omega, ⟨rfl, rfl, congrArg (fun z => some (Value.int .i64 z)) step, rfl⟩, by omega, by omega, hst.1, by omega, by simp; omega, by rw [hk2]; exact hdv, hI3⟩
      · have hc3 : ¬ 0 < t := by have := of_decide_eq_false hc3; omega
        rw [if_neg hc3, List.nil_append] at hdv
        repeat (first | refine WC.seq ?_ | refine WC.reg ?_ | refine WL.pure rfl rfl rfl ?_ | refine WL.nil ?_ | refine WC.skip ?_ | refine WC.block ?_ | refine WC.condT rfl ?_ | refine WC.condF rfl ?_ | refine WL.off rfl rfl rfl ?_ | refine WL.off0 rfl rfl ?_ | refine WC.exit ?_ | refine blk_hit ?_ | refine blk_miss rfl ?_ | refine WC.ret ?_)
        exact ⟨(q + 1, r, acc), by show 50000 - (q + 1) < 50000 - q; omega, ⟨rfl, rfl, congrArg (fun z => some (Value.int .i64 z)) step, rfl⟩, by omega, by omega, hst.1, by omega, by omega, by rw [hk2]; exact hdv, hI1⟩
  · have hc : ¬ q * q ≤ m := by
      have := of_decide_eq_false hc
      rw [esq] at this
      exact fun h => this (Int.ofNat_le.2 h)
    rw [if_neg hc] at hdv
    repeat (first | refine WC.seq ?_ | refine WC.reg ?_ | refine WL.pure rfl rfl rfl ?_ | refine WL.nil ?_ | refine WC.skip ?_ | refine WC.block ?_ | refine WC.condT rfl ?_ | refine WC.condF rfl ?_ | refine WL.off rfl rfl rfl ?_ | refine WL.off0 rfl rfl ?_ | refine WC.exit ?_ | refine blk_hit ?_ | refine blk_miss rfl ?_ | refine WC.ret ?_)
    refine WC.cond rfl (fun hc3 => ?_) (fun hc3 => ?_)
    · have hc3 : 1 < m := by have := of_decide_eq_true hc3; omega
      rw [if_pos hc3] at hdv
      repeat (first | refine WC.seq ?_ | refine WC.reg ?_ | refine WL.pure rfl rfl rfl ?_ | refine WL.nil ?_ | refine WC.skip ?_ | refine WC.block ?_ | refine WC.condT rfl ?_ | refine WC.condF rfl ?_ | refine WL.off rfl rfl rfl ?_ | refine WL.off0 rfl rfl ?_ | refine WC.exit ?_ | refine blk_hit ?_ | refine blk_miss rfl ?_ | refine WC.ret ?_)
      refine WL.call rfl rfl rfl rfl rfl hE (hF acc m 1 w1 hI1 (by omega)) ?_
      intro v3 w3 hI3
      rw [hdv] at hI3
      repeat (first | refine WC.seq ?_ | refine WC.reg ?_ | refine WL.pure rfl rfl rfl ?_ | refine WL.nil ?_ | refine WC.skip ?_ | refine WC.block ?_ | refine WC.condT rfl ?_ | refine WC.condF rfl ?_ | refine WL.off rfl rfl rfl ?_ | refine WL.off0 rfl rfl ?_ | refine WC.exit ?_ | refine blk_hit ?_ | refine blk_miss rfl ?_ | refine WC.ret ?_)
      exact Res.zero rfl rfl hI3
    · have hc3 : ¬ 1 < m := by have := of_decide_eq_false hc3; omega
      rw [if_neg hc3, List.append_nil] at hdv
      rw [hdv] at hI1
      repeat (first | refine WC.seq ?_ | refine WC.reg ?_ | refine WL.pure rfl rfl rfl ?_ | refine WL.nil ?_ | refine WC.skip ?_ | refine WC.block ?_ | refine WC.condT rfl ?_ | refine WC.condF rfl ?_ | refine WL.off rfl rfl rfl ?_ | refine WL.off0 rfl rfl ?_ | refine WC.exit ?_ | refine blk_hit ?_ | refine blk_miss rfl ?_ | refine WC.ret ?_)
      exact Res.zero rfl rfl hI1
end Go.Proofs.Ytagfpnnplgkkoaa
