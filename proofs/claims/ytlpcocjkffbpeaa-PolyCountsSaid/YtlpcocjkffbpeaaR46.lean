/- The walks of the reference's Moebius function and count, and of the law of the count. -/
import Derived.Test.YtlpcocjkffbpeaaR31
import Derived.Test.YtlpcocjkffbpeaaQj
namespace Go.Poly
open Go.W Go.Tree
theorem moe_drop {L : List Ed} {i : Nat} (h : i < L.length) (o : Int) : moe (L.drop i) o = if 1 < (L[i]).2 then 0 else moe (L.drop (i + 1)) (-o) := by
  rw [List.drop_eq_getElem_cons h, moe]
theorem pow_snd {w : World} {b o : Nat} {l : List Ed} {j : Nat} (h : j < l.length) (sl : Sl w (some ⟨b, o, none⟩) (prs l)) : w.cell? ⟨b, o + j * 2 + 1, none⟩ = some (.int .i64 (l[j]).2) := by
  have h1 := prs_at l j h 1 (.int .i64 (l[j]).2) rfl
  obtain ⟨b', o', e, hc⟩ := sl _ _ h1
  simp only [Option.some.injEq, Addr.mk.injEq] at e
  rw [e.1, e.2.1]; exact hc
end Go.Poly
namespace Go.Proofs.Ytlpcocjkffbpeaa
open Go.W Go.Poly Go.Tree Go.RowKit
set_option maxRecDepth 100000
attribute [local irreducible] WC WL WQ WS WH

theorem RMoebius_any (n : Nat) (h1 : 1 ≤ n) (hn : n ≤ 32) (w : World) :
    Ret Try.prog 36 [.int .i64 (n : Nat)] w fun u w' => u = .int .i64 (mu n) ∧ Hp w w' [] := by
  refine enter Try.func36 rfl rfl ⟨rfl, rfl⟩ rfl ?_
  repeat (first | refine WC.seq ?_ | refine WC.reg ?_ | refine WL.pure rfl rfl rfl ?_ | refine WL.nil ?_ | refine WC.skip ?_ | refine WC.block ?_ | refine WC.condT rfl ?_ | refine WC.condF rfl ?_ | refine WL.off rfl rfl rfl ?_ | refine WL.off0 rfl rfl ?_ | refine WC.exit ?_ | refine blk_hit ?_ | refine blk_miss rfl ?_ | refine WC.ret ?_)
  refine WL.call rfl rfl rfl rfl rfl ent53 (RFactor_any n h1 hn w) ?_
  rintro _ w1 ⟨a, c, rfl, hp1⟩
  have sl : Sl w1 a (prs (rfac 32 n)) := Sl.of_row (hp1.at 0 rfl)
  have hw1 := hp1.nil'
  have hll : (rfac 32 n).length ≤ 1000 := Nat.le_trans (rfac_len 32 n) (by decide)
  have hmu : moe (rfac 32 n) 1 = mu n := rfl
  generalize rfac 32 n = L at *
  repeat (first | refine WC.seq ?_ | refine WC.reg ?_ | refine WL.pure rfl rfl rfl ?_ | refine WL.nil ?_ | refine WC.skip ?_ | refine WC.block ?_ | refine WC.condT rfl ?_ | refine WC.condF rfl ?_ | refine WL.off rfl rfl rfl ?_ | refine WL.off0 rfl rfl ?_ | refine WC.exit ?_ | refine blk_hit ?_ | refine blk_miss rfl ?_ | refine WC.ret ?_)
  refine WC.loop (Nat × Int) (fun (i, o) => [(3, .int .i64 o), (4, .slice a L.length c), (5, .int .i64 (i : Nat))])
    (fun (i, o) w' => w' = w1 ∧ i ≤ L.length ∧ -1 ≤ o ∧ o ≤ 1 ∧ moe (L.drop i) o = mu n) (fun (i, _) => L.length - i) (0, 1) ⟨rfl, rfl, rfl, rfl⟩ ⟨rfl, Nat.zero_le _, by omega, by omega, hmu⟩ ?_
  rintro ⟨i, o⟩ w2 ⟨rfl, hi, ho1, ho2, hm⟩
  repeat (first | refine WC.seq ?_ | refine WC.reg ?_ | refine WL.pure rfl rfl rfl ?_ | refine WL.nil ?_ | refine WC.skip ?_ | refine WC.block ?_ | refine WC.condT rfl ?_ | refine WC.condF rfl ?_ | refine WL.off rfl rfl rfl ?_ | refine WL.off0 rfl rfl ?_ | refine WC.exit ?_ | refine blk_hit ?_ | refine blk_miss rfl ?_ | refine WC.ret ?_)
  refine WC.cond rfl (fun h => ?_) (fun h => ?_)
  · have hi : i < L.length := by have := of_decide_eq_true h; omega
    have step : IntKind.i64.wrap ((i : Int) + 1) = ((i + 1 : Nat) : Int) := by rw [wrap_i64_in (by omega) (by omega)]; omega
    rw [moe_drop hi] at hm
    obtain ⟨b, ob, rfl⟩ := Sl.some sl (prs_at L i hi 1 _ rfl)
    have hc := pow_snd hi sl
    generalize (L[i]).2 = E at *
    repeat (first | refine WC.seq ?_ | refine WC.reg ?_ | refine WL.pure rfl rfl rfl ?_ | refine WL.nil ?_ | refine WC.skip ?_ | refine WC.block ?_ | refine WC.condT rfl ?_ | refine WC.condF rfl ?_ | refine WL.off rfl rfl rfl ?_ | refine WL.off0 rfl rfl ?_ | refine WC.exit ?_ | refine blk_hit ?_ | refine blk_miss rfl ?_ | refine WC.ret ?_)
    refine WL.ix rfl rfl rfl rfl rfl hi rfl ?_
    repeat (first | refine WC.seq ?_ | refine WC.reg ?_ | refine WL.pure rfl rfl rfl ?_ | refine WL.nil ?_ | refine WC.skip ?_ | refine WC.block ?_ | refine WC.condT rfl ?_ | refine WC.condF rfl ?_ | refine WL.off rfl rfl rfl ?_ | refine WL.off0 rfl rfl ?_ | refine WC.exit ?_ | refine blk_hit ?_ | refine blk_miss rfl ?_ | refine WC.ret ?_)
    refine WL.load rfl rfl rfl rfl rfl hc ?_
    repeat (first | refine WC.seq ?_ | refine WC.reg ?_ | refine WL.pure rfl rfl rfl ?_ | refine WL.nil ?_ | refine WC.skip ?_ | refine WC.block ?_ | refine WC.condT rfl ?_ | refine WC.condF rfl ?_ | refine WL.off rfl rfl rfl ?_ | refine WL.off0 rfl rfl ?_ | refine WC.exit ?_ | refine blk_hit ?_ | refine blk_miss rfl ?_ | refine WC.ret ?_)
    refine WC.cond rfl (fun h => ?_) (fun h => ?_)
    · have h : 1 < E := of_decide_eq_true h
      rw [if_pos h] at hm
      repeat (first | refine WC.seq ?_ | refine WC.reg ?_ | refine WL.pure rfl rfl rfl ?_ | refine WL.nil ?_ | refine WC.skip ?_ | refine WC.block ?_ | refine WC.condT rfl ?_ | refine WC.condF rfl ?_ | refine WL.off rfl rfl rfl ?_ | refine WL.off0 rfl rfl ?_ | refine WC.exit ?_ | refine blk_hit ?_ | refine blk_miss rfl ?_ | refine WC.ret ?_)
      exact Res.one rfl rfl rfl ⟨by rw [hm], hw1⟩
    · have h : ¬ 1 < E := of_decide_eq_false h
      rw [if_neg h] at hm
      have en : IntKind.i64.wrap (0 - o) = -o := by rw [IntKind.wrap_i64]; omega
      repeat (first | refine WC.seq ?_ | refine WC.reg ?_ | refine WL.pure rfl rfl rfl ?_ | refine WL.nil ?_ | refine WC.skip ?_ | refine WC.block ?_ | refine WC.condT rfl ?_ | refine WC.condF rfl ?_ | refine WL.off rfl rfl rfl ?_ | refine WL.off0 rfl rfl ?_ | refine WC.exit ?_ | refine blk_hit ?_ | refine blk_miss rfl ?_ | refine WC.ret ?_)
      exact ⟨(i + 1, -o), by show L.length - (i + 1) < L.length - i; omega, ⟨congrArg (fun z => some (Value.int .i64 z)) en, rfl, congrArg (fun z => some (Value.int .i64 z)) step, rfl⟩, rfl, hi, by omega, by omega, hm⟩
  · have hi : i = L.length := by have := of_decide_eq_false h; omega
    subst hi
    rw [List.drop_length, moe] at hm
    repeat (first | refine WC.seq ?_ | refine WC.reg ?_ | refine WL.pure rfl rfl rfl ?_ | refine WL.nil ?_ | refine WC.skip ?_ | refine WC.block ?_ | refine WC.condT rfl ?_ | refine WC.condF rfl ?_ | refine WL.off rfl rfl rfl ?_ | refine WL.off0 rfl rfl ?_ | refine WC.exit ?_ | refine blk_hit ?_ | refine blk_miss rfl ?_ | refine WC.ret ?_)
    exact Res.one rfl rfl rfl ⟨by rw [hm], hw1⟩

set_option maxHeartbeats 1000000 in
theorem RCount_any (p n : Nat) (h2 : 2 ≤ p) (hp : p ≤ 1021) (h1 : 1 ≤ n) (hn : n < 33) (hR0 : ∀ s, rsum p n n 0 = some s → s.natAbs < 4611686018427387904) (w : World) :
    Ret Try.prog 13 [.int .i64 (p : Nat), .int .i64 (n : Nat)] w fun u w' => Hp w w' [] ∧ (rcnt p n = none → u = .tuple #[.int .i64 0, .bool false]) ∧ ∀ k, rcnt p n = some k → u = .tuple #[.int .i64 k, .bool true] := by
  unfold rcnt
  obtain ⟨R, hR⟩ : ∃ R, rsum p n n 0 = R := ⟨_, rfl⟩
  rw [hR] at hR0 ⊢
  refine enter Try.func13 rfl rfl ⟨rfl, rfl⟩ rfl ?_
  repeat (first | refine WC.seq ?_ | refine WC.reg ?_ | refine WL.pure rfl rfl rfl ?_ | refine WL.nil ?_ | refine WC.skip ?_ | refine WC.block ?_ | refine WC.condT rfl ?_ | refine WC.condF rfl ?_ | refine WL.off rfl rfl rfl ?_ | refine WL.off0 rfl rfl ?_ | refine WC.exit ?_ | refine blk_hit ?_ | refine blk_miss rfl ?_ | refine WC.ret ?_)
  refine WC.loop (Nat × Int) (fun (d, s) => [(0, .int .i64 (p : Nat)), (1, .int .i64 (n : Nat)), (6, .int .i64 s), (7, .int .i64 (d : Nat))])
    (fun (d, s) w' => Hp w w' [] ∧ d ≤ n ∧ s.natAbs < 4611686018427387904 ∧ rsum p n d s = R) (fun (d, _) => d) (n, 0) ⟨rfl, rfl, rfl, rfl, rfl⟩ ⟨Hp.start w, Nat.le_refl _, by decide, hR⟩ ?_
  rintro ⟨d, s⟩ w1 ⟨hp1, hd, hs, hr⟩
  repeat (first | refine WC.seq ?_ | refine WC.reg ?_ | refine WL.pure rfl rfl rfl ?_ | refine WL.nil ?_ | refine WC.skip ?_ | refine WC.block ?_ | refine WC.condT rfl ?_ | refine WC.condF rfl ?_ | refine WL.off rfl rfl rfl ?_ | refine WL.off0 rfl rfl ?_ | refine WC.exit ?_ | refine blk_hit ?_ | refine blk_miss rfl ?_ | refine WC.ret ?_)
  refine WC.cond rfl (fun h => ?_) (fun h => ?_)
  · have hd1 : 1 ≤ d := by have := of_decide_eq_true h; omega
    obtain ⟨d, rfl⟩ : ∃ d', d = d' + 1 := ⟨d - 1, by omega⟩
    have er : ((n : Nat) : Int).tmod ((d + 1 : Nat) : Int) = ((n % (d + 1) : Nat) : Int) := (Int.ofNat_tmod n (d + 1)).symm
    have stepd : IntKind.i64.wrap (((d + 1 : Nat) : Int) - 1) = ((d : Nat) : Int) := by rw [wrap_i64_in (by omega) (by omega)]; omega
    rw [rsum] at hr
    repeat (first | refine WC.seq ?_ | refine WC.reg ?_ | refine WL.pure rfl rfl rfl ?_ | refine WL.nil ?_ | refine WC.skip ?_ | refine WC.block ?_ | refine WC.condT rfl ?_ | refine WC.condF rfl ?_ | refine WL.off rfl rfl rfl ?_ | refine WL.off0 rfl rfl ?_ | refine WC.exit ?_ | refine blk_hit ?_ | refine blk_miss rfl ?_ | refine WC.ret ?_)
    refine WC.cond rfl (fun h => ?_) (fun h => ?_)
    · have h : ¬ n % (d + 1) = 0 := by
        have h : ((n : Nat) : Int).tmod ((d + 1 : Nat) : Int) ≠ 0 := bne_iff_ne.1 h
        rw [er] at h; omega
      rw [if_neg h] at hr
      repeat (first | refine WC.seq ?_ | refine WC.reg ?_ | refine WL.pure rfl rfl rfl ?_ | refine WL.nil ?_ | refine WC.skip ?_ | refine WC.block ?_ | refine WC.condT rfl ?_ | refine WC.condF rfl ?_ | refine WL.off rfl rfl rfl ?_ | refine WL.off0 rfl rfl ?_ | refine WC.exit ?_ | refine blk_hit ?_ | refine blk_miss rfl ?_ | refine WC.ret ?_)
      exact ⟨(d, s), Nat.lt_succ_self d, ⟨rfl, rfl, rfl, congrArg (fun z => some (Value.int .i64 z)) stepd, rfl⟩, hp1, by omega, hs, hr⟩
    · have h : n % (d + 1) = 0 := by
        have h : ((n : Nat) : Int).tmod ((d + 1 : Nat) : Int) = 0 := bne_eq_false_iff_eq.1 h
        rw [er] at h; omega
      rw [if_pos h] at hr
      have hq : 2305843009213693952 / p ≤ 2305843009213693952 := Nat.div_le_self _ _
      have eq_ : IntKind.i64.wrap ((2305843009213693952 : Int).tdiv ((p : Nat) : Int)) = ((2305843009213693952 / p : Nat) : Int) := by
        rw [show (2305843009213693952 : Int) = ((2305843009213693952 : Nat) : Int) from rfl, ← Int.ofNat_tdiv]
        exact wrap_i64_in (Int.natCast_nonneg _) (Int.lt_of_le_of_lt (Int.ofNat_le.2 hq) (by decide))
      obtain ⟨X, hX⟩ : ∃ X, rx p (d + 1) 1 = X := ⟨_, rfl⟩
      rw [hX] at hr
      repeat (first | refine WC.seq ?_ | refine WC.reg ?_ | refine WL.pure rfl rfl rfl ?_ | refine WL.nil ?_ | refine WC.skip ?_ | refine WC.block ?_ | refine WC.condT rfl ?_ | refine WC.condF rfl ?_ | refine WL.off rfl rfl rfl ?_ | refine WL.off0 rfl rfl ?_ | refine WC.exit ?_ | refine blk_hit ?_ | refine blk_miss rfl ?_ | refine WC.ret ?_)
      refine WC.loop (Nat × Nat) (fun (i, x) => [(0, .int .i64 (p : Nat)), (1, .int .i64 (n : Nat)), (6, .int .i64 s), (7, .int .i64 ((d + 1 : Nat) : Int)), (8, .int .i64 (x : Nat)), (9, .int .i64 (i : Nat))])
        (fun (i, x) w' => w' = w1 ∧ i ≤ d + 1 ∧ x ≤ 2305843009213693952 ∧ rx p (d + 1 - i) x = X) (fun (i, _) => d + 1 - i) (0, 1) ⟨rfl, rfl, rfl, rfl, rfl, rfl, rfl⟩ ⟨rfl, Nat.zero_le _, by omega, hX⟩ ?_
      rintro ⟨i, x⟩ w2 ⟨rfl, hi, hx, hrx⟩
      repeat (first | refine WC.seq ?_ | refine WC.reg ?_ | refine WL.pure rfl rfl rfl ?_ | refine WL.nil ?_ | refine WC.skip ?_ | refine WC.block ?_ | refine WC.condT rfl ?_ | refine WC.condF rfl ?_ | refine WL.off rfl rfl rfl ?_ | refine WL.off0 rfl rfl ?_ | refine WC.exit ?_ | refine blk_hit ?_ | refine blk_miss rfl ?_ | refine WC.ret ?_)
      refine WC.cond rfl (fun h => ?_) (fun h => ?_)
      · have hi : i < d + 1 := by have := of_decide_eq_true h; omega
        have step : IntKind.i64.wrap ((i : Int) + 1) = ((i + 1 : Nat) : Int) := by rw [wrap_i64_in (by omega) (by omega)]; omega
        rw [show d + 1 - i = (d + 1 - (i + 1)) + 1 by omega, rx] at hrx
        repeat (first | refine WC.seq ?_ | refine WC.reg ?_ | refine WL.pure rfl rfl rfl ?_ | refine WL.nil ?_ | refine WC.skip ?_ | refine WC.block ?_ | refine WC.condT rfl ?_ | refine WC.condF rfl ?_ | refine WL.off rfl rfl rfl ?_ | refine WL.off0 rfl rfl ?_ | refine WC.exit ?_ | refine blk_hit ?_ | refine blk_miss rfl ?_ | refine WC.ret ?_)
        refine WL.quo rfl rfl rfl rfl (by omega) ?_
        refine WL.known (d := 26) (congrArg (fun z => some (Value.int .i64 z)) eq_) ?_
        repeat (first | refine WC.seq ?_ | refine WC.reg ?_ | refine WL.pure rfl rfl rfl ?_ | refine WL.nil ?_ | refine WC.skip ?_ | refine WC.block ?_ | refine WC.condT rfl ?_ | refine WC.condF rfl ?_ | refine WL.off rfl rfl rfl ?_ | refine WL.off0 rfl rfl ?_ | refine WC.exit ?_ | refine blk_hit ?_ | refine blk_miss rfl ?_ | refine WC.ret ?_)
        refine WC.cond rfl (fun h => ?_) (fun h => ?_)
        · have h : 2305843009213693952 / p < x := Int.ofNat_lt.1 (of_decide_eq_true h)
          rw [if_pos h] at hrx
          subst hrx
          subst hr
          repeat (first | refine WC.seq ?_ | refine WC.reg ?_ | refine WL.pure rfl rfl rfl ?_ | refine WL.nil ?_ | refine WC.skip ?_ | refine WC.block ?_ | refine WC.condT rfl ?_ | refine WC.condF rfl ?_ | refine WL.off rfl rfl rfl ?_ | refine WL.off0 rfl rfl ?_ | refine WC.exit ?_ | refine blk_hit ?_ | refine blk_miss rfl ?_ | refine WC.ret ?_)
          exact Res.two rfl rfl rfl rfl ⟨hp1, fun _ => rfl, fun k hk => by cases hk⟩
        · have h : ¬ 2305843009213693952 / p < x := fun h' => of_decide_eq_false h (Int.ofNat_lt.2 h')
          rw [if_neg h] at hrx
          have hxp : x * p ≤ 2305843009213693952 := (Nat.le_div_iff_mul_le (by omega)).1 (Nat.le_of_not_lt h)
          have em : IntKind.i64.wrap ((x : Int) * (p : Int)) = ((x * p : Nat) : Int) := by
            rw [← Int.natCast_mul]
            exact wrap_i64_in (Int.natCast_nonneg _) (Int.lt_of_le_of_lt (Int.ofNat_le.2 hxp) (by decide))
          repeat (first | refine WC.seq ?_ | refine WC.reg ?_ | refine WL.pure rfl rfl rfl ?_ | refine WL.nil ?_ | refine WC.skip ?_ | refine WC.block ?_ | refine WC.condT rfl ?_ | refine WC.condF rfl ?_ | refine WL.off rfl rfl rfl ?_ | refine WL.off0 rfl rfl ?_ | refine WC.exit ?_ | refine blk_hit ?_ | refine blk_miss rfl ?_ | refine WC.ret ?_)
          exact ⟨(i + 1, x * p), by show d + 1 - (i + 1) < d + 1 - i; omega, ⟨rfl, rfl, rfl, rfl, congrArg (fun z => some (Value.int .i64 z)) em, congrArg (fun z => some (Value.int .i64 z)) step, rfl⟩, rfl, hi, hxp, hrx⟩
      · have hi : i = d + 1 := by have := of_decide_eq_false h; omega
        subst hi
        rw [Nat.sub_self, rx] at hrx
        subst hrx
        simp only at hr
        have hnd : n / (d + 1) ≤ 32 := Nat.le_trans (Nat.div_le_self _ _) (by omega)
        have hnp : 1 ≤ n / (d + 1) := Nat.div_pos (by omega) (by omega)
        have eqn : IntKind.i64.wrap (((n : Nat) : Int).tdiv ((d + 1 : Nat) : Int)) = ((n / (d + 1) : Nat) : Int) := by
          rw [← Int.ofNat_tdiv]
          exact wrap_i64_in (Int.natCast_nonneg _) (Int.lt_of_le_of_lt (Int.ofNat_le.2 hnd) (by decide))
        generalize n / (d + 1) = m at *
        by_cases hok : (mu m * (x : Int)).natAbs < 4611686018427387904 ∧ (s + mu m * (x : Int)).natAbs < 4611686018427387904
        · rw [if_pos hok] at hr
          have e1 : IntKind.i64.wrap (mu m * (x : Int)) = mu m * (x : Int) := by
            generalize mu m * (x : Int) = z at *
            rw [IntKind.wrap_i64]; omega
          have e2 : IntKind.i64.wrap (s + mu m * (x : Int)) = s + mu m * (x : Int) := by
            generalize mu m * (x : Int) = z at *
            rw [IntKind.wrap_i64]; omega
          repeat (first | refine WC.seq ?_ | refine WC.reg ?_ | refine WL.pure rfl rfl rfl ?_ | refine WL.nil ?_ | refine WC.skip ?_ | refine WC.block ?_ | refine WC.condT rfl ?_ | refine WC.condF rfl ?_ | refine WL.off rfl rfl rfl ?_ | refine WL.off0 rfl rfl ?_ | refine WC.exit ?_ | refine blk_hit ?_ | refine blk_miss rfl ?_ | refine WC.ret ?_)
          refine WL.known (d := 34) (congrArg (fun z => some (Value.int .i64 z)) eqn) ?_
          refine WL.call rfl rfl rfl rfl rfl ent36 (RMoebius_any m hnp hnd w2) ?_
          rintro _ w3 ⟨rfl, hp3⟩
          refine WL.pure rfl rfl rfl ?_
          refine WL.pure rfl rfl rfl ?_
          refine WL.known (d := 37) (congrArg (fun z => some (Value.int .i64 z)) e1) ?_
          refine WL.pure rfl rfl rfl ?_
          refine WL.known (d := 38) (congrArg (fun z => some (Value.int .i64 z)) e2) ?_
          repeat (first | refine WC.seq ?_ | refine WC.reg ?_ | refine WL.pure rfl rfl rfl ?_ | refine WL.nil ?_ | refine WC.skip ?_ | refine WC.block ?_ | refine WC.condT rfl ?_ | refine WC.condF rfl ?_ | refine WL.off rfl rfl rfl ?_ | refine WL.off0 rfl rfl ?_ | refine WC.exit ?_ | refine blk_hit ?_ | refine blk_miss rfl ?_ | refine WC.ret ?_)
          exact ⟨(d, s + mu m * (x : Int)), Nat.lt_succ_self d, ⟨rfl, rfl, rfl, congrArg (fun z => some (Value.int .i64 z)) stepd, rfl⟩, hp1.over hp3, by omega, hok.2, hr⟩
        · rw [if_neg hok] at hr
          exact absurd (hR0 _ hr.symm) (by decide)
  · have hd0 : d = 0 := by have := of_decide_eq_false h; omega
    subst hd0
    rw [rsum] at hr
    subst hr
    have hq : (s.tdiv (n : Int)).natAbs ≤ s.natAbs := Int.natAbs_tdiv_le_natAbs _ _
    have eq_ : IntKind.i64.wrap (s.tdiv (n : Int)) = s.tdiv (n : Int) := by
      generalize s.tdiv (n : Int) = z at *
      rw [IntKind.wrap_i64]; omega
    repeat (first | refine WC.seq ?_ | refine WC.reg ?_ | refine WL.pure rfl rfl rfl ?_ | refine WL.nil ?_ | refine WC.skip ?_ | refine WC.block ?_ | refine WC.condT rfl ?_ | refine WC.condF rfl ?_ | refine WL.off rfl rfl rfl ?_ | refine WL.off0 rfl rfl ?_ | refine WC.exit ?_ | refine blk_hit ?_ | refine blk_miss rfl ?_ | refine WC.ret ?_)
    refine WL.quo rfl rfl rfl rfl (by omega) ?_
    refine WL.known (d := 41) (congrArg (fun z => some (Value.int .i64 z)) eq_) ?_
    simp only
    repeat (first | refine WC.seq ?_ | refine WC.reg ?_ | refine WL.pure rfl rfl rfl ?_ | refine WL.nil ?_ | refine WC.skip ?_ | refine WC.block ?_ | refine WC.condT rfl ?_ | refine WC.condF rfl ?_ | refine WL.off rfl rfl rfl ?_ | refine WL.off0 rfl rfl ?_ | refine WC.exit ?_ | refine blk_hit ?_ | refine blk_miss rfl ?_ | refine WC.ret ?_)
    refine WC.cond rfl (fun h => ?_) (fun h => ?_)
    · have h : 9007199254740992 < s.tdiv (n : Int) := of_decide_eq_true h
      rw [if_pos h]
      repeat (first | refine WC.seq ?_ | refine WC.reg ?_ | refine WL.pure rfl rfl rfl ?_ | refine WL.nil ?_ | refine WC.skip ?_ | refine WC.block ?_ | refine WC.condT rfl ?_ | refine WC.condF rfl ?_ | refine WL.off rfl rfl rfl ?_ | refine WL.off0 rfl rfl ?_ | refine WC.exit ?_ | refine blk_hit ?_ | refine blk_miss rfl ?_ | refine WC.ret ?_)
      exact Res.two rfl rfl rfl rfl ⟨hp1, fun _ => rfl, fun k hk => by cases hk⟩
    · have h : ¬ 9007199254740992 < s.tdiv (n : Int) := of_decide_eq_false h
      rw [if_neg h]
      repeat (first | refine WC.seq ?_ | refine WC.reg ?_ | refine WL.pure rfl rfl rfl ?_ | refine WL.nil ?_ | refine WC.skip ?_ | refine WC.block ?_ | refine WC.condT rfl ?_ | refine WC.condF rfl ?_ | refine WL.off rfl rfl rfl ?_ | refine WL.off0 rfl rfl ?_ | refine WC.exit ?_ | refine blk_hit ?_ | refine blk_miss rfl ?_ | refine WC.ret ?_)
      refine WL.quo rfl rfl rfl rfl (by omega) ?_
      refine WL.known (d := 45) (congrArg (fun z => some (Value.int .i64 z)) eq_) ?_
      repeat (first | refine WC.seq ?_ | refine WC.reg ?_ | refine WL.pure rfl rfl rfl ?_ | refine WL.nil ?_ | refine WC.skip ?_ | refine WC.block ?_ | refine WC.condT rfl ?_ | refine WC.condF rfl ?_ | refine WL.off rfl rfl rfl ?_ | refine WL.off0 rfl rfl ?_ | refine WC.exit ?_ | refine blk_hit ?_ | refine blk_miss rfl ?_ | refine WC.ret ?_)
      exact Res.two rfl rfl rfl rfl ⟨hp1, (fun h' => by cases h'), (fun k hk => by cases hk; rfl)⟩

set_option maxHeartbeats 1000000 in
theorem PolyCounts_any (p n : Int) (w : World) :
    Ret Try.prog 3 [.int .i64 p, .int .i64 n] w fun u w' => u = .bool true ∧ Hp w w' [] := by
  refine enter Try.func3 rfl rfl ⟨rfl, rfl⟩ rfl ?_
  repeat (first | refine WC.seq ?_ | refine WC.reg ?_ | refine WL.pure rfl rfl rfl ?_ | refine WL.nil ?_ | refine WC.skip ?_ | refine WC.block ?_ | refine WC.condT rfl ?_ | refine WC.condF rfl ?_ | refine WL.off rfl rfl rfl ?_ | refine WL.off0 rfl rfl ?_ | refine WC.exit ?_ | refine blk_hit ?_ | refine blk_miss rfl ?_ | refine WC.ret ?_)
  cases hb : (fieldB p && (decide (1 ≤ n) && decide (n < 33))) with
  | false =>
    refine WL.call rfl rfl rfl rfl rfl ent10 (Count_bad p n hb w) ?_
    rintro _ w1 ⟨rfl, hp1⟩
    repeat (first | refine WC.seq ?_ | refine WC.reg ?_ | refine WL.pure rfl rfl rfl ?_ | refine WL.nil ?_ | refine WC.skip ?_ | refine WC.block ?_ | refine WC.condT rfl ?_ | refine WC.condF rfl ?_ | refine WL.off rfl rfl rfl ?_ | refine WL.off0 rfl rfl ?_ | refine WC.exit ?_ | refine blk_hit ?_ | refine blk_miss rfl ?_ | refine WC.ret ?_)
    refine WL.callP rfl rfl rfl rfl rfl ent11 (Field_any p w1) ?_
    cases hf : fieldB p with
    | false =>
      repeat (first | refine WC.seq ?_ | refine WC.reg ?_ | refine WL.pure rfl rfl rfl ?_ | refine WL.nil ?_ | refine WC.skip ?_ | refine WC.block ?_ | refine WC.condT rfl ?_ | refine WC.condF rfl ?_ | refine WL.off rfl rfl rfl ?_ | refine WL.off0 rfl rfl ?_ | refine WC.exit ?_ | refine blk_hit ?_ | refine blk_miss rfl ?_ | refine WC.ret ?_)
      refine WL.call rfl rfl rfl rfl rfl ent12 (awake_any w1) ?_
      rintro _ w9 ⟨rfl, hp9⟩
      repeat (first | refine WC.seq ?_ | refine WC.reg ?_ | refine WL.pure rfl rfl rfl ?_ | refine WL.nil ?_ | refine WC.skip ?_ | refine WC.block ?_ | refine WC.condT rfl ?_ | refine WC.condF rfl ?_ | refine WL.off rfl rfl rfl ?_ | refine WL.off0 rfl rfl ?_ | refine WC.exit ?_ | refine blk_hit ?_ | refine blk_miss rfl ?_ | refine WC.ret ?_)
      exact Res.one rfl rfl rfl ⟨rfl, hp1.over hp9⟩
    | true =>
      rw [hf, Bool.true_and] at hb
      repeat (first | refine WC.seq ?_ | refine WC.reg ?_ | refine WL.pure rfl rfl rfl ?_ | refine WL.nil ?_ | refine WC.skip ?_ | refine WC.block ?_ | refine WC.condT rfl ?_ | refine WC.condF rfl ?_ | refine WL.off rfl rfl rfl ?_ | refine WL.off0 rfl rfl ?_ | refine WC.exit ?_ | refine blk_hit ?_ | refine blk_miss rfl ?_ | refine WC.ret ?_)
      refine WL.split 22 rfl (fun h1 => ?_) (fun h1 => ?_)
      · repeat (first | refine WC.seq ?_ | refine WC.reg ?_ | refine WL.pure rfl rfl rfl ?_ | refine WL.nil ?_ | refine WC.skip ?_ | refine WC.block ?_ | refine WC.condT rfl ?_ | refine WC.condF rfl ?_ | refine WL.off rfl rfl rfl ?_ | refine WL.off0 rfl rfl ?_ | refine WC.exit ?_ | refine blk_hit ?_ | refine blk_miss rfl ?_ | refine WC.ret ?_)
        refine WL.call rfl rfl rfl rfl rfl ent12 (awake_any w1) ?_
        rintro _ w9 ⟨rfl, hp9⟩
        repeat (first | refine WC.seq ?_ | refine WC.reg ?_ | refine WL.pure rfl rfl rfl ?_ | refine WL.nil ?_ | refine WC.skip ?_ | refine WC.block ?_ | refine WC.condT rfl ?_ | refine WC.condF rfl ?_ | refine WL.off rfl rfl rfl ?_ | refine WL.off0 rfl rfl ?_ | refine WC.exit ?_ | refine blk_hit ?_ | refine blk_miss rfl ?_ | refine WC.ret ?_)
        exact Res.one rfl rfl rfl ⟨rfl, hp1.over hp9⟩
      · have h1 : ¬ n < 1 := of_decide_eq_false h1
        have h33 : 33 ≤ n := by
          rw [decide_eq_true (show 1 ≤ n by omega), Bool.true_and] at hb
          have := of_decide_eq_false hb
          omega
        repeat (first | refine WC.seq ?_ | refine WC.reg ?_ | refine WL.pure rfl rfl rfl ?_ | refine WL.nil ?_ | refine WC.skip ?_ | refine WC.block ?_ | refine WC.condT rfl ?_ | refine WC.condF rfl ?_ | refine WL.off rfl rfl rfl ?_ | refine WL.off0 rfl rfl ?_ | refine WC.exit ?_ | refine blk_hit ?_ | refine blk_miss rfl ?_ | refine WC.ret ?_)
        refine WC.cond rfl (fun _ => ?_) (fun h => absurd h33 (of_decide_eq_false h))
        repeat (first | refine WC.seq ?_ | refine WC.reg ?_ | refine WL.pure rfl rfl rfl ?_ | refine WL.nil ?_ | refine WC.skip ?_ | refine WC.block ?_ | refine WC.condT rfl ?_ | refine WC.condF rfl ?_ | refine WL.off rfl rfl rfl ?_ | refine WL.off0 rfl rfl ?_ | refine WC.exit ?_ | refine blk_hit ?_ | refine blk_miss rfl ?_ | refine WC.ret ?_)
        refine WL.call rfl rfl rfl rfl rfl ent12 (awake_any w1) ?_
        rintro _ w9 ⟨rfl, hp9⟩
        repeat (first | refine WC.seq ?_ | refine WC.reg ?_ | refine WL.pure rfl rfl rfl ?_ | refine WL.nil ?_ | refine WC.skip ?_ | refine WC.block ?_ | refine WC.condT rfl ?_ | refine WC.condF rfl ?_ | refine WL.off rfl rfl rfl ?_ | refine WL.off0 rfl rfl ?_ | refine WC.exit ?_ | refine blk_hit ?_ | refine blk_miss rfl ?_ | refine WC.ret ?_)
        exact Res.one rfl rfl rfl ⟨rfl, hp1.over hp9⟩
  | true =>
    simp only [Bool.and_eq_true, decide_eq_true_eq] at hb
    obtain ⟨hf, h1, h33⟩ := hb
    obtain ⟨q, rfl, hq, hq2⟩ := fieldB_pri hf
    obtain ⟨m, rfl⟩ : ∃ m : Nat, n = m := ⟨n.toNat, by omega⟩
    have h2q := hq.1
    obtain ⟨hR0, hcnt⟩ := counts_say h2q hq2 (show 1 ≤ m by omega) (show m < 33 by omega)
    obtain ⟨c, e, hce⟩ : ∃ c e, cntO q (m + 1) m = some (c, e) := by rcases hcnt with ⟨k, h, -⟩ | ⟨h, -⟩ <;> exact ⟨_, _, h⟩
    refine WL.call rfl rfl rfl rfl rfl ent10 (Count_any q hf hq hq2 (m + 1) m c e (by omega) (by omega) hce w) ?_
    rintro _ w1 ⟨rfl, hp1⟩
    repeat (first | refine WC.seq ?_ | refine WC.reg ?_ | refine WL.pure rfl rfl rfl ?_ | refine WL.nil ?_ | refine WC.skip ?_ | refine WC.block ?_ | refine WC.condT rfl ?_ | refine WC.condF rfl ?_ | refine WL.off rfl rfl rfl ?_ | refine WL.off0 rfl rfl ?_ | refine WC.exit ?_ | refine blk_hit ?_ | refine blk_miss rfl ?_ | refine WC.ret ?_)
    refine WL.callP rfl rfl rfl rfl rfl ent11 (Field_any _ w1) ?_
    rw [hf]
    repeat (first | refine WC.seq ?_ | refine WC.reg ?_ | refine WL.pure rfl rfl rfl ?_ | refine WL.nil ?_ | refine WC.skip ?_ | refine WC.block ?_ | refine WC.condT rfl ?_ | refine WC.condF rfl ?_ | refine WL.off rfl rfl rfl ?_ | refine WL.off0 rfl rfl ?_ | refine WC.exit ?_ | refine blk_hit ?_ | refine blk_miss rfl ?_ | refine WC.ret ?_)
    refine WL.known (d := 22) (congrArg (fun b => some (Value.bool b)) (decide_eq_false (show ¬ (m : Int) < 1 by omega))) ?_
    repeat (first | refine WC.seq ?_ | refine WC.reg ?_ | refine WL.pure rfl rfl rfl ?_ | refine WL.nil ?_ | refine WC.skip ?_ | refine WC.block ?_ | refine WC.condT rfl ?_ | refine WC.condF rfl ?_ | refine WL.off rfl rfl rfl ?_ | refine WL.off0 rfl rfl ?_ | refine WC.exit ?_ | refine blk_hit ?_ | refine blk_miss rfl ?_ | refine WC.ret ?_)
    refine WC.cond rfl (fun h => absurd (of_decide_eq_true h) (by omega)) (fun _ => ?_)
    repeat (first | refine WC.seq ?_ | refine WC.reg ?_ | refine WL.pure rfl rfl rfl ?_ | refine WL.nil ?_ | refine WC.skip ?_ | refine WC.block ?_ | refine WC.condT rfl ?_ | refine WC.condF rfl ?_ | refine WL.off rfl rfl rfl ?_ | refine WL.off0 rfl rfl ?_ | refine WC.exit ?_ | refine blk_hit ?_ | refine blk_miss rfl ?_ | refine WC.ret ?_)
    refine WL.call rfl rfl rfl rfl rfl ent13 (RCount_any q m h2q hq2 (by omega) (by omega) hR0 w1) ?_
    rintro u w2 ⟨hp2, r1, r2⟩
    have hp2 := hp1.over hp2
    rcases hcnt with ⟨k, ho, hr⟩ | ⟨ho, hr⟩
    · have hu := r2 k hr
      subst hu
      rw [ho] at hce
      simp only [Option.some.injEq, Prod.mk.injEq] at hce
      obtain ⟨rfl, rfl⟩ := hce
      repeat (first | refine WC.seq ?_ | refine WC.reg ?_ | refine WL.pure rfl rfl rfl ?_ | refine WL.nil ?_ | refine WC.skip ?_ | refine WC.block ?_ | refine WC.condT rfl ?_ | refine WC.condF rfl ?_ | refine WL.off rfl rfl rfl ?_ | refine WL.off0 rfl rfl ?_ | refine WC.exit ?_ | refine blk_hit ?_ | refine blk_miss rfl ?_ | refine WC.ret ?_)
      refine WL.known (d := 55) (congrArg (fun b => some (Value.bool b)) (show (k == k) = true by simp)) ?_
      repeat (first | refine WC.seq ?_ | refine WC.reg ?_ | refine WL.pure rfl rfl rfl ?_ | refine WL.nil ?_ | refine WC.skip ?_ | refine WC.block ?_ | refine WC.condT rfl ?_ | refine WC.condF rfl ?_ | refine WL.off rfl rfl rfl ?_ | refine WL.off0 rfl rfl ?_ | refine WC.exit ?_ | refine blk_hit ?_ | refine blk_miss rfl ?_ | refine WC.ret ?_)
      refine WL.call rfl rfl rfl rfl rfl ent12 (awake_any w2) ?_
      rintro _ w9 ⟨rfl, hp9⟩
      repeat (first | refine WC.seq ?_ | refine WC.reg ?_ | refine WL.pure rfl rfl rfl ?_ | refine WL.nil ?_ | refine WC.skip ?_ | refine WC.block ?_ | refine WC.condT rfl ?_ | refine WC.condF rfl ?_ | refine WL.off rfl rfl rfl ?_ | refine WL.off0 rfl rfl ?_ | refine WC.exit ?_ | refine blk_hit ?_ | refine blk_miss rfl ?_ | refine WC.ret ?_)
      exact Res.one rfl rfl rfl ⟨rfl, hp2.over hp9⟩
    · have hu := r1 hr
      subst hu
      rw [ho] at hce
      simp only [Option.some.injEq, Prod.mk.injEq] at hce
      obtain ⟨rfl, rfl⟩ := hce
      repeat (first | refine WC.seq ?_ | refine WC.reg ?_ | refine WL.pure rfl rfl rfl ?_ | refine WL.nil ?_ | refine WC.skip ?_ | refine WC.block ?_ | refine WC.condT rfl ?_ | refine WC.condF rfl ?_ | refine WL.off rfl rfl rfl ?_ | refine WL.off0 rfl rfl ?_ | refine WC.exit ?_ | refine blk_hit ?_ | refine blk_miss rfl ?_ | refine WC.ret ?_)
      refine WL.call rfl rfl rfl rfl rfl ent12 (awake_any w2) ?_
      rintro _ w9 ⟨rfl, hp9⟩
      repeat (first | refine WC.seq ?_ | refine WC.reg ?_ | refine WL.pure rfl rfl rfl ?_ | refine WL.nil ?_ | refine WC.skip ?_ | refine WC.block ?_ | refine WC.condT rfl ?_ | refine WC.condF rfl ?_ | refine WL.off rfl rfl rfl ?_ | refine WL.off0 rfl rfl ?_ | refine WC.exit ?_ | refine blk_hit ?_ | refine blk_miss rfl ?_ | refine WC.ret ?_)
      exact Res.one rfl rfl rfl ⟨rfl, hp2.over hp9⟩
end Go.Proofs.Ytlpcocjkffbpeaa
