/- The walks of the count of irreducible polynomials, and of the first one. -/
import Derived.Test.YtagfpnnplgkkoaaR29
namespace Go.Poly
open Go.W Go.Tree
/-- p to the n, as far as it matters. -/
def allN (p : Nat) : Nat → Nat → Option Nat
  | 0, all => some all
  | k + 1, all => if 576460752303423488 / p < all then none else allN p k (all * p)
/-- What those of lesser degrees take away: d goes on r times. -/
def cntL (rc : Nat → Option (Int × Nat)) (n : Nat) : Nat → Nat → Int → Option Int
  | 0, _, all => some all
  | r + 1, d, all => if n % d = 0 then
      match rc d with
      | none => none
      | some x => if ((d : Int) * x.1).natAbs < 4611686018427387904 ∧ (all - (d : Int) * x.1).natAbs < 4611686018427387904 then cntL rc n r (d + 1) (all - (d : Int) * x.1) else none
    else cntL rc n r (d + 1) all
/-- The count and the error; none if a number on the way is too great. -/
def cntO (p : Nat) : Nat → Nat → Option (Int × Nat)
  | 0, _ => none
  | k + 1, n => match allN p n 1 with
    | none => some (0, 5)
    | some all => match cntL (cntO p k) n (n - 1) 1 all with
      | none => none
      | some x => if 9007199254740992 < x.tdiv n then some (0, 5) else some (x.tdiv n, 0)
theorem allN_le {p : Nat} (hp : 0 < p) : ∀ (k all r : Nat), all ≤ 576460752303423488 → allN p k all = some r → r ≤ 576460752303423488
  | 0, all, r, h, hr => by simp only [allN, Option.some.injEq] at hr; omega
  | k + 1, all, r, h, hr => by
    rw [allN] at hr
    split at hr
    · cases hr
    · rename_i h1
      refine allN_le hp k _ r ?_ hr
      have : all ≤ 576460752303423488 / p := by omega
      exact (Nat.le_div_iff_mul_le hp).1 this
/-- The first irreducible polynomial from f on; none if none of the degree comes within k steps. -/
def firstO (p n : Nat) : Nat → List Nat → Option (List Nat)
  | 0, _ => none
  | k + 1, f => if isPB p f = false ∨ f.length ≠ n + 1 ∨ co f n ≠ 1 then none else if irrL p f then some f else firstO p n k (nextF p f)
def x0 (n : Nat) : List Nat := fl (n + 1) fun j => if j = n then 1 else 0
theorem next_stop {p : Nat} (hp : 2 ≤ p) : ∀ (n : Nat) (f : List Nat), f.length = n + 1 → co f n = 1 → (∀ j, j < n → co f j = p - 1) → co (nextF p f) n ≠ 1
  | 0, f, hl, h1, _ => by
    obtain ⟨c, rfl⟩ : ∃ c, f = [c] := List.length_eq_one_iff.1 hl
    have : c = 1 := by simpa [co] using h1
    subst this
    unfold nextF
    split <;> simp [co]
  | n + 1, [], hl, _, _ => by simp at hl
  | n + 1, c :: f, hl, h1, hj => by
    have hc : c = p - 1 := by have := hj 0 (by omega); simpa [co] using this
    have := next_stop hp n f (by simpa using hl) (by simpa [co] using h1) (fun j hjn => by have := hj (j + 1) (by omega); simpa [co] using this)
    rw [nextF, if_pos hc]
    simpa [co] using this
theorem next_eq {p : Nat} : ∀ (k : Nat) (f : List Nat), k < f.length → (∀ j, j < k → co f j = p - 1) → co f k ≠ p - 1 →
    nextF p f = fl f.length fun j => if j = k then co f k + 1 else if j < k then 0 else co f j
  | k, [], h, _, _ => by simp at h
  | 0, c :: f, h, _, hk => by
    have hc : c ≠ p - 1 := by simpa [co] using hk
    rw [nextF, if_neg hc]
    refine fl_ext (by simp) fun i hi => ?_
    cases i with
    | zero => simp [co]
    | succ i => simp [co]
  | k + 1, c :: f, h, hj, hk => by
    have hc : c = p - 1 := by have := hj 0 (by omega); simpa [co] using this
    have ih := next_eq k f (by simpa using h) (fun j hjk => by have := hj (j + 1) (by omega); simpa [co] using this) (by simpa [co] using hk)
    rw [nextF, if_pos hc, ih]
    refine fl_ext (by simp [fl_len]) fun i hi => ?_
    cases i with
    | zero => simp [co]
    | succ i =>
      have hi2 : i < f.length := by simpa using hi
      show co (fl f.length _) i = _
      rw [fl_co _ hi2]
      simp [co]
end Go.Poly
namespace Go.Proofs.Ytagfpnnplgkkoaa
open Go.W Go.Poly Go.Tree Go.RowKit
set_option maxRecDepth 100000
attribute [local irreducible] WC WL WQ WS WH

theorem isDegree_any (n : Int) : Pur Try.prog 75 [.int .i64 n] (.bool (decide (1 ≤ n) && decide (n < 33))) := by
  intro w
  refine enter Try.func75 rfl rfl ⟨rfl, rfl⟩ rfl ?_
  repeat (first | refine WC.seq ?_ | refine WC.reg ?_ | refine WL.pure rfl rfl rfl ?_ | refine WL.nil ?_ | refine WC.skip ?_ | refine WC.block ?_ | refine WC.condT rfl ?_ | refine WC.condF rfl ?_ | refine WL.off rfl rfl rfl ?_ | refine WL.off0 rfl rfl ?_ | refine WC.exit ?_ | refine blk_hit ?_ | refine blk_miss rfl ?_ | refine WC.ret ?_)
  refine WL.split 5 rfl (fun h1 => ?_) (fun h1 => ?_)
  · have h1 : 1 ≤ n := of_decide_eq_true h1
    repeat (first | refine WC.seq ?_ | refine WC.reg ?_ | refine WL.pure rfl rfl rfl ?_ | refine WL.nil ?_ | refine WC.skip ?_ | refine WC.block ?_ | refine WC.condT rfl ?_ | refine WC.condF rfl ?_ | refine WL.off rfl rfl rfl ?_ | refine WL.off0 rfl rfl ?_ | refine WC.exit ?_ | refine blk_hit ?_ | refine blk_miss rfl ?_ | refine WC.ret ?_)
    exact Res.one rfl rfl rfl ⟨by rw [decide_eq_true h1]; rfl, rfl⟩
  · have h1 : ¬ 1 ≤ n := of_decide_eq_false h1
    repeat (first | refine WC.seq ?_ | refine WC.reg ?_ | refine WL.pure rfl rfl rfl ?_ | refine WL.nil ?_ | refine WC.skip ?_ | refine WC.block ?_ | refine WC.condT rfl ?_ | refine WC.condF rfl ?_ | refine WL.off rfl rfl rfl ?_ | refine WL.off0 rfl rfl ?_ | refine WC.exit ?_ | refine blk_hit ?_ | refine blk_miss rfl ?_ | refine WC.ret ?_)
    exact Res.one rfl rfl rfl ⟨by rw [decide_eq_false h1]; rfl, rfl⟩

theorem Count_bad (p n : Int) (h : (fieldB p && (decide (1 ≤ n) && decide (n < 33))) = false) (w : World) : Ret Try.prog 44 [.int .i64 p, .int .i64 n] w fun u w' => u = .tuple #[.int .i64 0, .int .i64 2] ∧ Hp w w' [] := by
  refine enter Try.func44 rfl rfl ⟨rfl, rfl⟩ rfl ?_
  repeat (first | refine WC.seq ?_ | refine WC.reg ?_ | refine WL.pure rfl rfl rfl ?_ | refine WL.nil ?_ | refine WC.skip ?_ | refine WC.block ?_ | refine WC.condT rfl ?_ | refine WC.condF rfl ?_ | refine WL.off rfl rfl rfl ?_ | refine WL.off0 rfl rfl ?_ | refine WC.exit ?_ | refine blk_hit ?_ | refine blk_miss rfl ?_ | refine WC.ret ?_)
  refine WL.call rfl rfl rfl rfl rfl ent53 (isField_any p w) ?_
  rintro _ w1 ⟨rfl, hp1⟩
  cases hf : fieldB p with
  | false =>
    repeat (first | refine WC.seq ?_ | refine WC.reg ?_ | refine WL.pure rfl rfl rfl ?_ | refine WL.nil ?_ | refine WC.skip ?_ | refine WC.block ?_ | refine WC.condT rfl ?_ | refine WC.condF rfl ?_ | refine WL.off rfl rfl rfl ?_ | refine WL.off0 rfl rfl ?_ | refine WC.exit ?_ | refine blk_hit ?_ | refine blk_miss rfl ?_ | refine WC.ret ?_)
    exact Res.two rfl rfl rfl rfl ⟨rfl, hp1⟩
  | true =>
    rw [hf, Bool.true_and] at h
    repeat (first | refine WC.seq ?_ | refine WC.reg ?_ | refine WL.pure rfl rfl rfl ?_ | refine WL.nil ?_ | refine WC.skip ?_ | refine WC.block ?_ | refine WC.condT rfl ?_ | refine WC.condF rfl ?_ | refine WL.off rfl rfl rfl ?_ | refine WL.off0 rfl rfl ?_ | refine WC.exit ?_ | refine blk_hit ?_ | refine blk_miss rfl ?_ | refine WC.ret ?_)
    refine WL.callP rfl rfl rfl rfl rfl ent75 (isDegree_any n w1) ?_
    rw [h]
    repeat (first | refine WC.seq ?_ | refine WC.reg ?_ | refine WL.pure rfl rfl rfl ?_ | refine WL.nil ?_ | refine WC.skip ?_ | refine WC.block ?_ | refine WC.condT rfl ?_ | refine WC.condF rfl ?_ | refine WL.off rfl rfl rfl ?_ | refine WL.off0 rfl rfl ?_ | refine WC.exit ?_ | refine blk_hit ?_ | refine blk_miss rfl ?_ | refine WC.ret ?_)
    exact Res.two rfl rfl rfl rfl ⟨rfl, hp1⟩

theorem Count_any (p : Nat) (hf : fieldB (p : Int) = true) (hpp : Pri p) (hp : p ≤ 1021) : ∀ (k n : Nat) (c : Int) (e : Nat), 1 ≤ n → n < 33 → cntO p k n = some (c, e) → ∀ w : World,
    Ret Try.prog 44 [.int .i64 (p : Nat), .int .i64 (n : Nat)] w fun u w' => u = .tuple #[.int .i64 c, .int .i64 (e : Nat)] ∧ Hp w w' []
  | 0, n, c, e, _, _, h, _ => by simp [cntO] at h
  | k + 1, n, c, e, h1, h33, h, w => by
    have hp0 := hpp.pos
    rw [cntO] at h
    refine enter Try.func44 rfl rfl ⟨rfl, rfl⟩ rfl ?_
    repeat (first | refine WC.seq ?_ | refine WC.reg ?_ | refine WL.pure rfl rfl rfl ?_ | refine WL.nil ?_ | refine WC.skip ?_ | refine WC.block ?_ | refine WC.condT rfl ?_ | refine WC.condF rfl ?_ | refine WL.off rfl rfl rfl ?_ | refine WL.off0 rfl rfl ?_ | refine WC.exit ?_ | refine blk_hit ?_ | refine blk_miss rfl ?_ | refine WC.ret ?_)
    refine WL.call rfl rfl rfl rfl rfl ent53 (isField_any p w) ?_
    rintro _ w1 ⟨rfl, hp1⟩
    rw [hf]
    have hdg : (decide (1 ≤ (n : Int)) && decide ((n : Int) < 33)) = true := by rw [decide_eq_true (by omega), decide_eq_true (by omega)]; rfl
    repeat (first | refine WC.seq ?_ | refine WC.reg ?_ | refine WL.pure rfl rfl rfl ?_ | refine WL.nil ?_ | refine WC.skip ?_ | refine WC.block ?_ | refine WC.condT rfl ?_ | refine WC.condF rfl ?_ | refine WL.off rfl rfl rfl ?_ | refine WL.off0 rfl rfl ?_ | refine WC.exit ?_ | refine blk_hit ?_ | refine blk_miss rfl ?_ | refine WC.ret ?_)
    refine WL.callP rfl rfl rfl rfl rfl ent75 (isDegree_any n w1) ?_
    rw [hdg]
    obtain ⟨R, hR⟩ : ∃ R, allN p n 1 = R := ⟨_, rfl⟩
    rw [hR] at h
    repeat (first | refine WC.seq ?_ | refine WC.reg ?_ | refine WL.pure rfl rfl rfl ?_ | refine WL.nil ?_ | refine WC.skip ?_ | refine WC.block ?_ | refine WC.condT rfl ?_ | refine WC.condF rfl ?_ | refine WL.off rfl rfl rfl ?_ | refine WL.off0 rfl rfl ?_ | refine WC.exit ?_ | refine blk_hit ?_ | refine blk_miss rfl ?_ | refine WC.ret ?_)
    refine WC.loop (Nat × Nat) (fun (i, all) => [(0, .int .i64 (p : Nat)), (1, .int .i64 (n : Nat)), (6, .int .i64 (all : Nat)), (18, .int .i64 (n : Nat)), (19, .int .i64 (i : Nat))])
      (fun (i, all) w' => w' = w1 ∧ i ≤ n ∧ all ≤ 576460752303423488 ∧ allN p (n - i) all = R) (fun (i, _) => n - i) (0, 1) ⟨rfl, rfl, rfl, rfl, rfl, rfl⟩ ⟨rfl, Nat.zero_le _, by omega, hR⟩ ?_
    rintro ⟨i, all⟩ w2 ⟨rfl, hi, hal, hA⟩
    repeat (first | refine WC.seq ?_ | refine WC.reg ?_ | refine WL.pure rfl rfl rfl ?_ | refine WL.nil ?_ | refine WC.skip ?_ | refine WC.block ?_ | refine WC.condT rfl ?_ | refine WC.condF rfl ?_ | refine WL.off rfl rfl rfl ?_ | refine WL.off0 rfl rfl ?_ | refine WC.exit ?_ | refine blk_hit ?_ | refine blk_miss rfl ?_ | refine WC.ret ?_)
    refine WC.cond rfl (fun hc => ?_) (fun hc => ?_)
    · have hi : i < n := by have := of_decide_eq_true hc; omega
      have step : IntKind.i64.wrap ((i : Int) + 1) = ((i + 1 : Nat) : Int) := by rw [wrap_i64_in (by omega) (by omega)]; omega
      rw [show n - i = (n - (i + 1)) + 1 by omega, allN] at hA
      have hdl := Nat.div_le_self 576460752303423488 p
      have eq_ : IntKind.i64.wrap ((576460752303423488 : Int).tdiv (p : Int)) = ((576460752303423488 / p : Nat) : Int) := by
        rw [show (576460752303423488 : Int) = ((576460752303423488 : Nat) : Int) from rfl, ← Int.ofNat_tdiv]
        generalize 576460752303423488 / p = z at *
        exact wrap_mid (by omega) (by omega)
      repeat (first | refine WC.seq ?_ | refine WC.reg ?_ | refine WL.pure rfl rfl rfl ?_ | refine WL.nil ?_ | refine WC.skip ?_ | refine WC.block ?_ | refine WC.condT rfl ?_ | refine WC.condF rfl ?_ | refine WL.off rfl rfl rfl ?_ | refine WL.off0 rfl rfl ?_ | refine WC.exit ?_ | refine blk_hit ?_ | refine blk_miss rfl ?_ | refine WC.ret ?_)
      refine WL.quo rfl rfl rfl rfl (by omega) ?_
      refine WL.known (d := 23) (congrArg (fun z => some (Value.int .i64 z)) eq_) ?_
      repeat (first | refine WC.seq ?_ | refine WC.reg ?_ | refine WL.pure rfl rfl rfl ?_ | refine WL.nil ?_ | refine WC.skip ?_ | refine WC.block ?_ | refine WC.condT rfl ?_ | refine WC.condF rfl ?_ | refine WL.off rfl rfl rfl ?_ | refine WL.off0 rfl rfl ?_ | refine WC.exit ?_ | refine blk_hit ?_ | refine blk_miss rfl ?_ | refine WC.ret ?_)
      refine WC.cond rfl (fun h2 => ?_) (fun h2 => ?_)
      · have h2 : 576460752303423488 / p < all := Int.ofNat_lt.1 (of_decide_eq_true h2)
        rw [if_pos h2] at hA
        subst hA
        simp only [Option.some.injEq, Prod.mk.injEq] at h
        obtain ⟨rfl, rfl⟩ := h
        repeat (first | refine WC.seq ?_ | refine WC.reg ?_ | refine WL.pure rfl rfl rfl ?_ | refine WL.nil ?_ | refine WC.skip ?_ | refine WC.block ?_ | refine WC.condT rfl ?_ | refine WC.condF rfl ?_ | refine WL.off rfl rfl rfl ?_ | refine WL.off0 rfl rfl ?_ | refine WC.exit ?_ | refine blk_hit ?_ | refine blk_miss rfl ?_ | refine WC.ret ?_)
        exact Res.two rfl rfl rfl rfl ⟨rfl, hp1⟩
      · have h2 : ¬ 576460752303423488 / p < all := fun h => (of_decide_eq_false h2) (Int.ofNat_lt.2 h)
        rw [if_neg h2] at hA
        have hle : all * p ≤ 576460752303423488 := (Nat.le_div_iff_mul_le hp0).1 (by omega)
        have step2 : IntKind.i64.wrap ((all : Int) * (p : Int)) = ((all * p : Nat) : Int) := by
          rw [← Int.natCast_mul]; generalize all * p = z at *; exact wrap_mid (by omega) (by omega)
        repeat (first | refine WC.seq ?_ | refine WC.reg ?_ | refine WL.pure rfl rfl rfl ?_ | refine WL.nil ?_ | refine WC.skip ?_ | refine WC.block ?_ | refine WC.condT rfl ?_ | refine WC.condF rfl ?_ | refine WL.off rfl rfl rfl ?_ | refine WL.off0 rfl rfl ?_ | refine WC.exit ?_ | refine blk_hit ?_ | refine blk_miss rfl ?_ | refine WC.ret ?_)
        exact ⟨(i + 1, all * p), by show n - (i + 1) < n - i; omega, ⟨rfl, rfl, congrArg (fun z => some (Value.int .i64 z)) step2, rfl, congrArg (fun z => some (Value.int .i64 z)) step, rfl⟩, rfl, hi, hle, hA⟩
    · have hi : i = n := by have := of_decide_eq_false hc; omega
      subst hi
      rw [Nat.sub_self, allN] at hA
      subst hA
      simp only at h
      obtain ⟨S, hS⟩ : ∃ S, cntL (cntO p k) i (i - 1) 1 (all : Int) = S := ⟨_, rfl⟩
      rw [hS] at h
      repeat (first | refine WC.seq ?_ | refine WC.reg ?_ | refine WL.pure rfl rfl rfl ?_ | refine WL.nil ?_ | refine WC.skip ?_ | refine WC.block ?_ | refine WC.condT rfl ?_ | refine WC.condF rfl ?_ | refine WL.off rfl rfl rfl ?_ | refine WL.off0 rfl rfl ?_ | refine WC.exit ?_ | refine blk_hit ?_ | refine blk_miss rfl ?_ | refine WC.ret ?_)
      refine WC.loop (Nat × Int) (fun (d, a) => [(0, .int .i64 (p : Nat)), (1, .int .i64 (i : Nat)), (6, .int .i64 a), (7, .int .i64 (d : Nat))])
        (fun (d, a) w' => Hp w w' [] ∧ 1 ≤ d ∧ d ≤ i ∧ a.natAbs < 4611686018427387904 ∧ cntL (cntO p k) i (i - d) d a = S) (fun (d, _) => i - d) (1, (all : Int)) ⟨rfl, rfl, rfl, rfl, rfl⟩ ⟨hp1, Nat.le_refl _, h1, by omega, hS⟩ ?_
      rintro ⟨d, a⟩ w3 ⟨hp3, hd1, hdi, ha, hD⟩
      repeat (first | refine WC.seq ?_ | refine WC.reg ?_ | refine WL.pure rfl rfl rfl ?_ | refine WL.nil ?_ | refine WC.skip ?_ | refine WC.block ?_ | refine WC.condT rfl ?_ | refine WC.condF rfl ?_ | refine WL.off rfl rfl rfl ?_ | refine WL.off0 rfl rfl ?_ | refine WC.exit ?_ | refine blk_hit ?_ | refine blk_miss rfl ?_ | refine WC.ret ?_)
      refine WC.cond rfl (fun hc => ?_) (fun hc => ?_)
      · have hdi : d < i := by have := of_decide_eq_true hc; omega
        have step : IntKind.i64.wrap ((d : Int) + 1) = ((d + 1 : Nat) : Int) := by rw [wrap_i64_in (by omega) (by omega)]; omega
        rw [show i - d = (i - (d + 1)) + 1 by omega, cntL] at hD
        have em : ((i : Int).tmod (d : Int)) = ((i % d : Nat) : Int) := (Int.ofNat_tmod _ _).symm
        repeat (first | refine WC.seq ?_ | refine WC.reg ?_ | refine WL.pure rfl rfl rfl ?_ | refine WL.nil ?_ | refine WC.skip ?_ | refine WC.block ?_ | refine WC.condT rfl ?_ | refine WC.condF rfl ?_ | refine WL.off rfl rfl rfl ?_ | refine WL.off0 rfl rfl ?_ | refine WC.exit ?_ | refine blk_hit ?_ | refine blk_miss rfl ?_ | refine WC.ret ?_)
        refine WL.rem rfl rfl rfl rfl (by omega) ?_
        refine WL.known (d := 36) (congrArg (fun z => some (Value.int .i64 z)) em) ?_
        repeat (first | refine WC.seq ?_ | refine WC.reg ?_ | refine WL.pure rfl rfl rfl ?_ | refine WL.nil ?_ | refine WC.skip ?_ | refine WC.block ?_ | refine WC.condT rfl ?_ | refine WC.condF rfl ?_ | refine WL.off rfl rfl rfl ?_ | refine WL.off0 rfl rfl ?_ | refine WC.exit ?_ | refine blk_hit ?_ | refine blk_miss rfl ?_ | refine WC.ret ?_)
        refine WC.cond rfl (fun h2 => ?_) (fun h2 => ?_)
        · have h2 : i % d = 0 := by
            have : ((i % d : Nat) : Int) = 0 := by simpa using h2
            omega
          rw [if_pos h2] at hD
          cases hrc : cntO p k d with
          | none =>
            rw [hrc] at hD
            subst hD
            cases h
          | some x =>
          obtain ⟨c2, e2⟩ := x
          rw [hrc] at hD
          simp only at hD
          by_cases hbd : ((d : Int) * c2).natAbs < 4611686018427387904 ∧ (a - (d : Int) * c2).natAbs < 4611686018427387904
          · rw [if_pos hbd] at hD
            have e3 : IntKind.i64.wrap (a - IntKind.i64.wrap ((d : Int) * c2)) = a - (d : Int) * c2 := by
              rw [wrap_mid (z := (d : Int) * c2) (by omega) (by omega)]
              exact wrap_mid (by omega) (by omega)
            repeat (first | refine WC.seq ?_ | refine WC.reg ?_ | refine WL.pure rfl rfl rfl ?_ | refine WL.nil ?_ | refine WC.skip ?_ | refine WC.block ?_ | refine WC.condT rfl ?_ | refine WC.condF rfl ?_ | refine WL.off rfl rfl rfl ?_ | refine WL.off0 rfl rfl ?_ | refine WC.exit ?_ | refine blk_hit ?_ | refine blk_miss rfl ?_ | refine WC.ret ?_)
            refine WL.call rfl rfl rfl rfl rfl ent44 (Count_any p hf hpp hp k d c2 e2 hd1 (by omega) hrc w3) ?_
            rintro _ w4 ⟨rfl, hp4⟩
            repeat (first | refine WC.seq ?_ | refine WC.reg ?_ | refine WL.pure rfl rfl rfl ?_ | refine WL.nil ?_ | refine WC.skip ?_ | refine WC.block ?_ | refine WC.condT rfl ?_ | refine WC.condF rfl ?_ | refine WL.off rfl rfl rfl ?_ | refine WL.off0 rfl rfl ?_ | refine WC.exit ?_ | refine blk_hit ?_ | refine blk_miss rfl ?_ | refine WC.ret ?_)
            exact ⟨(d + 1, a - (d : Int) * c2), by show i - (d + 1) < i - d; omega, ⟨rfl, rfl, congrArg (fun z => some (Value.int .i64 z)) e3, congrArg (fun z => some (Value.int .i64 z)) step, rfl⟩, hp3.over hp4, by omega, hdi, hbd.2, hD⟩
          · rw [if_neg hbd] at hD
            subst hD
            cases h
        · have h2 : i % d ≠ 0 := by
            have : ((i % d : Nat) : Int) ≠ 0 := by simpa using h2
            omega
          rw [if_neg h2] at hD
          repeat (first | refine WC.seq ?_ | refine WC.reg ?_ | refine WL.pure rfl rfl rfl ?_ | refine WL.nil ?_ | refine WC.skip ?_ | refine WC.block ?_ | refine WC.condT rfl ?_ | refine WC.condF rfl ?_ | refine WL.off rfl rfl rfl ?_ | refine WL.off0 rfl rfl ?_ | refine WC.exit ?_ | refine blk_hit ?_ | refine blk_miss rfl ?_ | refine WC.ret ?_)
          exact ⟨(d + 1, a), by show i - (d + 1) < i - d; omega, ⟨rfl, rfl, rfl, congrArg (fun z => some (Value.int .i64 z)) step, rfl⟩, hp3, by omega, hdi, ha, hD⟩
      · have hdi : d = i := by have := of_decide_eq_false hc; omega
        subst hdi
        rw [Nat.sub_self, cntL] at hD
        subst hD
        simp only at h
        have hq : (a.tdiv (d : Int)).natAbs ≤ a.natAbs := by rw [Int.natAbs_tdiv]; exact Nat.div_le_self _ _
        have eq_ : IntKind.i64.wrap (a.tdiv (d : Int)) = a.tdiv (d : Int) := wrap_mid (by omega) (by omega)
        repeat (first | refine WC.seq ?_ | refine WC.reg ?_ | refine WL.pure rfl rfl rfl ?_ | refine WL.nil ?_ | refine WC.skip ?_ | refine WC.block ?_ | refine WC.condT rfl ?_ | refine WC.condF rfl ?_ | refine WL.off rfl rfl rfl ?_ | refine WL.off0 rfl rfl ?_ | refine WC.exit ?_ | refine blk_hit ?_ | refine blk_miss rfl ?_ | refine WC.ret ?_)
        refine WL.quo rfl rfl rfl rfl (by omega) ?_
        refine WL.known (d := 51) (congrArg (fun z => some (Value.int .i64 z)) eq_) ?_
        repeat (first | refine WC.seq ?_ | refine WC.reg ?_ | refine WL.pure rfl rfl rfl ?_ | refine WL.nil ?_ | refine WC.skip ?_ | refine WC.block ?_ | refine WC.condT rfl ?_ | refine WC.condF rfl ?_ | refine WL.off rfl rfl rfl ?_ | refine WL.off0 rfl rfl ?_ | refine WC.exit ?_ | refine blk_hit ?_ | refine blk_miss rfl ?_ | refine WC.ret ?_)
        refine WC.cond rfl (fun h2 => ?_) (fun h2 => ?_)
        · have h2 : 9007199254740992 < a.tdiv (d : Int) := of_decide_eq_true h2
          rw [if_pos h2] at h
          simp only [Option.some.injEq, Prod.mk.injEq] at h
          obtain ⟨rfl, rfl⟩ := h
          repeat (first | refine WC.seq ?_ | refine WC.reg ?_ | refine WL.pure rfl rfl rfl ?_ | refine WL.nil ?_ | refine WC.skip ?_ | refine WC.block ?_ | refine WC.condT rfl ?_ | refine WC.condF rfl ?_ | refine WL.off rfl rfl rfl ?_ | refine WL.off0 rfl rfl ?_ | refine WC.exit ?_ | refine blk_hit ?_ | refine blk_miss rfl ?_ | refine WC.ret ?_)
          exact Res.two rfl rfl rfl rfl ⟨rfl, hp3⟩
        · have h2 : ¬ 9007199254740992 < a.tdiv (d : Int) := of_decide_eq_false h2
          rw [if_neg h2] at h
          simp only [Option.some.injEq, Prod.mk.injEq] at h
          obtain ⟨rfl, rfl⟩ := h
          repeat (first | refine WC.seq ?_ | refine WC.reg ?_ | refine WL.pure rfl rfl rfl ?_ | refine WL.nil ?_ | refine WC.skip ?_ | refine WC.block ?_ | refine WC.condT rfl ?_ | refine WC.condF rfl ?_ | refine WL.off rfl rfl rfl ?_ | refine WL.off0 rfl rfl ?_ | refine WC.exit ?_ | refine blk_hit ?_ | refine blk_miss rfl ?_ | refine WC.ret ?_)
          refine WL.quo rfl rfl rfl rfl (by omega) ?_
          refine WL.known (d := 55) (congrArg (fun z => some (Value.int .i64 z)) eq_) ?_
          repeat (first | refine WC.seq ?_ | refine WC.reg ?_ | refine WL.pure rfl rfl rfl ?_ | refine WL.nil ?_ | refine WC.skip ?_ | refine WC.block ?_ | refine WC.condT rfl ?_ | refine WC.condF rfl ?_ | refine WL.off rfl rfl rfl ?_ | refine WL.off0 rfl rfl ?_ | refine WC.exit ?_ | refine blk_hit ?_ | refine blk_miss rfl ?_ | refine WC.ret ?_)
          exact Res.two rfl rfl rfl rfl ⟨rfl, hp3⟩

theorem First_bad (p n : Int) (h : (fieldB p && (decide (1 ≤ n) && decide (n < 33))) = false) (w : World) : Ret Try.prog 45 [.int .i64 p, .int .i64 n] w fun u w' => u = .tuple #[.slice none 0 0, .int .i64 2] ∧ Hp w w' [] := by
  refine enter Try.func45 rfl rfl ⟨rfl, rfl⟩ rfl ?_
  repeat (first | refine WC.seq ?_ | refine WC.reg ?_ | refine WL.pure rfl rfl rfl ?_ | refine WL.nil ?_ | refine WC.skip ?_ | refine WC.block ?_ | refine WC.condT rfl ?_ | refine WC.condF rfl ?_ | refine WL.off rfl rfl rfl ?_ | refine WL.off0 rfl rfl ?_ | refine WC.exit ?_ | refine blk_hit ?_ | refine blk_miss rfl ?_ | refine WC.ret ?_)
  refine WL.call rfl rfl rfl rfl rfl ent53 (isField_any p w) ?_
  rintro _ w1 ⟨rfl, hp1⟩
  cases hf : fieldB p with
  | false =>
    repeat (first | refine WC.seq ?_ | refine WC.reg ?_ | refine WL.pure rfl rfl rfl ?_ | refine WL.nil ?_ | refine WC.skip ?_ | refine WC.block ?_ | refine WC.condT rfl ?_ | refine WC.condF rfl ?_ | refine WL.off rfl rfl rfl ?_ | refine WL.off0 rfl rfl ?_ | refine WC.exit ?_ | refine blk_hit ?_ | refine blk_miss rfl ?_ | refine WC.ret ?_)
    exact Res.two rfl rfl rfl rfl ⟨rfl, hp1⟩
  | true =>
    rw [hf, Bool.true_and] at h
    repeat (first | refine WC.seq ?_ | refine WC.reg ?_ | refine WL.pure rfl rfl rfl ?_ | refine WL.nil ?_ | refine WC.skip ?_ | refine WC.block ?_ | refine WC.condT rfl ?_ | refine WC.condF rfl ?_ | refine WL.off rfl rfl rfl ?_ | refine WL.off0 rfl rfl ?_ | refine WC.exit ?_ | refine blk_hit ?_ | refine blk_miss rfl ?_ | refine WC.ret ?_)
    refine WL.callP rfl rfl rfl rfl rfl ent75 (isDegree_any n w1) ?_
    rw [h]
    repeat (first | refine WC.seq ?_ | refine WC.reg ?_ | refine WL.pure rfl rfl rfl ?_ | refine WL.nil ?_ | refine WC.skip ?_ | refine WC.block ?_ | refine WC.condT rfl ?_ | refine WC.condF rfl ?_ | refine WL.off rfl rfl rfl ?_ | refine WL.off0 rfl rfl ?_ | refine WC.exit ?_ | refine blk_hit ?_ | refine blk_miss rfl ?_ | refine WC.ret ?_)
    exact Res.two rfl rfl rfl rfl ⟨rfl, hp1⟩

theorem First_any (p n k : Nat) (F : List Nat) (hf : fieldB (p : Int) = true) (hpp : Pri p) (hp : p ≤ 1021) (h1 : 1 ≤ n) (h33 : n < 33) (hF : firstO p n k (x0 n) = some F) (w : World) :
    Ret Try.prog 45 [.int .i64 (p : Nat), .int .i64 (n : Nat)] w fun u w' => ∃ v, u = .tuple #[v, .int .i64 0] ∧ Hp w w' [Rw v F] := by
  have hp2 := hpp.1
  refine enter Try.func45 rfl rfl ⟨rfl, rfl⟩ rfl ?_
  repeat (first | refine WC.seq ?_ | refine WC.reg ?_ | refine WL.pure rfl rfl rfl ?_ | refine WL.nil ?_ | refine WC.skip ?_ | refine WC.block ?_ | refine WC.condT rfl ?_ | refine WC.condF rfl ?_ | refine WL.off rfl rfl rfl ?_ | refine WL.off0 rfl rfl ?_ | refine WC.exit ?_ | refine blk_hit ?_ | refine blk_miss rfl ?_ | refine WC.ret ?_)
  refine WL.call rfl rfl rfl rfl rfl ent53 (isField_any p w) ?_
  rintro _ w1 ⟨rfl, hp1⟩
  rw [hf]
  have hdg : (decide (1 ≤ (n : Int)) && decide ((n : Int) < 33)) = true := by rw [decide_eq_true (by omega), decide_eq_true (by omega)]; rfl
  have en : IntKind.i64.wrap ((n : Int) + 1) = ((n + 1 : Nat) : Int) := by rw [wrap_i64_in (by omega) (by omega)]; omega
  repeat (first | refine WC.seq ?_ | refine WC.reg ?_ | refine WL.pure rfl rfl rfl ?_ | refine WL.nil ?_ | refine WC.skip ?_ | refine WC.block ?_ | refine WC.condT rfl ?_ | refine WC.condF rfl ?_ | refine WL.off rfl rfl rfl ?_ | refine WL.off0 rfl rfl ?_ | refine WC.exit ?_ | refine blk_hit ?_ | refine blk_miss rfl ?_ | refine WC.ret ?_)
  refine WL.callP rfl rfl rfl rfl rfl ent75 (isDegree_any n w1) ?_
  rw [hdg]
  repeat (first | refine WC.seq ?_ | refine WC.reg ?_ | refine WL.pure rfl rfl rfl ?_ | refine WL.nil ?_ | refine WC.skip ?_ | refine WC.block ?_ | refine WC.condT rfl ?_ | refine WC.condF rfl ?_ | refine WL.off rfl rfl rfl ?_ | refine WL.off0 rfl rfl ?_ | refine WC.exit ?_ | refine blk_hit ?_ | refine blk_miss rfl ?_ | refine WC.ret ?_)
  refine WL.known (d := 17) (congrArg (fun z => some (Value.int .i64 z)) en) ?_
  refine WL.make (m := n + 1) rfl rfl rfl rfl rfl rfl rfl rfl ?_ ?_ ?_
  · show 8 * (n + 1) ≤ _; omega
  · unfold maxLen; omega
  intro b w2 hb
  have hz : (List.replicate (n + 1) ti3.zero) = ints (fl (n + 1) fun _ => 0) := by rw [show ti3.zero = Value.int .i64 0 from rfl, ints_zero]
  rw [hz] at hb
  have hp2' := hp1.new hb
  repeat (first | refine WC.seq ?_ | refine WC.reg ?_ | refine WL.pure rfl rfl rfl ?_ | refine WL.nil ?_ | refine WC.skip ?_ | refine WC.block ?_ | refine WC.condT rfl ?_ | refine WC.condF rfl ?_ | refine WL.off rfl rfl rfl ?_ | refine WL.off0 rfl rfl ?_ | refine WC.exit ?_ | refine blk_hit ?_ | refine blk_miss rfl ?_ | refine WC.ret ?_)
  refine WL.ix1 rfl rfl rfl rfl rfl rfl rfl (j := n) (by omega) ?_
  refine WL.store rfl rfl rfl rfl rfl rfl (hp2'.obj 0 rfl) (by simp [ints, fl]) (fun w3 hw3 => ?_)
  rw [Nat.zero_add, show Value.int .i64 1 = Value.int .i64 ((1 : Nat) : Int) from rfl, ints_set, fl_set] at hw3
  have hp3 := hp2'.set 0 rfl rfl hw3
  have hp3 : Hp w w3 [.blk b (.cells (ints (x0 n)).toArray 3 (0, 0))] := hp3
  repeat (first | refine WC.seq ?_ | refine WC.reg ?_ | refine WL.pure rfl rfl rfl ?_ | refine WL.nil ?_ | refine WC.skip ?_ | refine WC.block ?_ | refine WC.condT rfl ?_ | refine WC.condF rfl ?_ | refine WL.off rfl rfl rfl ?_ | refine WL.off0 rfl rfl ?_ | refine WC.exit ?_ | refine blk_hit ?_ | refine blk_miss rfl ?_ | refine WC.ret ?_)
  refine WC.loop (Nat × List Nat) (fun _ => [(0, .int .i64 (p : Nat)), (6, .slice (some ⟨b, 0, none⟩) (n + 1) (n + 1))])
    (fun (k, f) w' => f.length = n + 1 ∧ firstO p n k f = some F ∧ Hp w w' [.blk b (.cells (ints f).toArray 3 (0, 0))]) (fun (k, _) => k) (k, x0 n) ⟨rfl, rfl, rfl⟩ ⟨by unfold x0; exact fl_len _ _, hF, hp3⟩ ?_
  rintro ⟨k, f⟩ w4 ⟨hl, hF, hp4⟩
  cases k with
  | zero => simp [firstO] at hF
  | succ k =>
  rw [firstO] at hF
  split at hF
  · cases hF
  rename_i hck
  have hck : isPB p f = true ∧ co f n = 1 := by
    cases hB : isPB p f with
    | false => exact absurd (.inl hB) hck
    | true => exact ⟨rfl, by
        by_cases h : co f n = 1
        · exact h
        · exact absurd (.inr (.inr h)) hck⟩
  have ip := isPB_spec hck.1
  have hr : Hp w w4 [Rw (.slice (some ⟨b, 0, none⟩) (n + 1) (n + 1)) f] := by
    have := hp4.toRow (m := n + 1) (s := 1) (by simp [ints, hl]) (by unfold maxLen; omega)
    show Hp w w4 [Ent.row _ 1 _ _ _]
    rw [hl]; exact this
  repeat (first | refine WC.seq ?_ | refine WC.reg ?_ | refine WL.pure rfl rfl rfl ?_ | refine WL.nil ?_ | refine WC.skip ?_ | refine WC.block ?_ | refine WC.condT rfl ?_ | refine WC.condF rfl ?_ | refine WL.off rfl rfl rfl ?_ | refine WL.off0 rfl rfl ?_ | refine WC.exit ?_ | refine blk_hit ?_ | refine blk_miss rfl ?_ | refine WC.ret ?_)
  refine WL.call rfl rfl rfl rfl rfl ent60 (irreducible_pd p _ f hpp hp ip (by omega) w4 (Pd.row hr 0 rfl)) ?_
  rintro _ w5 ⟨rfl, hp5⟩
  have hr5 := hr.call hp5.below
  have hp5 := hp4.call hp5.below
  cases hir : irrL p f with
  | true =>
    rw [hir, if_pos rfl] at hF
    obtain rfl := Option.some.inj hF
    repeat (first | refine WC.seq ?_ | refine WC.reg ?_ | refine WL.pure rfl rfl rfl ?_ | refine WL.nil ?_ | refine WC.skip ?_ | refine WC.block ?_ | refine WC.condT rfl ?_ | refine WC.condF rfl ?_ | refine WL.off rfl rfl rfl ?_ | refine WL.off0 rfl rfl ?_ | refine WC.exit ?_ | refine blk_hit ?_ | refine blk_miss rfl ?_ | refine WC.ret ?_)
    exact Res.two rfl rfl rfl rfl ⟨_, rfl, hr5⟩
  | false =>
    rw [hir, if_neg Bool.noConfusion] at hF
    have hex : ∃ j, j < n ∧ co f j ≠ p - 1 := by
      apply Classical.byContradiction
      intro hno
      have hall : ∀ j, j < n → co f j = p - 1 := fun j hj => Classical.byContradiction fun h => hno ⟨j, hj, h⟩
      have := next_stop hp2 n f hl hck.2 hall
      cases k with
      | zero => simp [firstO] at hF
      | succ k =>
        rw [firstO, if_pos (.inr (.inr this))] at hF
        cases hF
    obtain ⟨j0, hj0, hj1⟩ := hex
    repeat (first | refine WC.seq ?_ | refine WC.reg ?_ | refine WL.pure rfl rfl rfl ?_ | refine WL.nil ?_ | refine WC.skip ?_ | refine WC.block ?_ | refine WC.condT rfl ?_ | refine WC.condF rfl ?_ | refine WL.off rfl rfl rfl ?_ | refine WL.off0 rfl rfl ?_ | refine WC.exit ?_ | refine blk_hit ?_ | refine blk_miss rfl ?_ | refine WC.ret ?_)
    refine WC.loop Nat (fun q => [(0, .int .i64 (p : Nat)), (6, .slice (some ⟨b, 0, none⟩) (n + 1) (n + 1)), (7, .int .i64 (q : Nat))])
      (fun q w' => q ≤ j0 ∧ (∀ j, j < q → co f j = p - 1) ∧ Hp w w' [.blk b (.cells (ints (fl (n + 1) fun j => if j < q then 0 else co f j)).toArray 3 (0, 0))]) (fun q => n - q) 0 ⟨rfl, rfl, rfl, rfl⟩ ⟨Nat.zero_le _, fun j hj => by omega, by
        have e1 : (fl (n + 1) fun j => if j < 0 then 0 else co f j) = f := by
          rw [fl_congr (f' := co f) fun j _ => by rw [if_neg (by omega)], ← hl, fl_self]
        rw [e1]; exact hp5⟩ ?_
    rintro q w6 ⟨hq, hqa, hp6⟩
    have hqn : q < n + 1 := by omega
    have hv : (ints (fl (n + 1) fun j => if j < q then 0 else co f j))[q]? = some (.int .i64 (co f q : Nat)) := by
      rw [ints_fl_at _ hqn, if_neg (by omega)]
    have hs6 : Sl w6 (some ⟨b, 0, none⟩) (ints (fl (n + 1) fun j => if j < q then 0 else co f j)) := Sl.of_obj (hp6.obj 0 rfl) (fun q u hq => by simpa using hq)
    have ep : IntKind.i64.wrap ((p : Int) - 1) = ((p - 1 : Nat) : Int) := by rw [wrap_mid (by omega) (by omega)]; omega
    have step : IntKind.i64.wrap ((q : Int) + 1) = ((q + 1 : Nat) : Int) := by rw [wrap_i64_in (by omega) (by omega)]; omega
    have hcp := ip.co hpp.pos q
    repeat (first | refine WC.seq ?_ | refine WC.reg ?_ | refine WL.pure rfl rfl rfl ?_ | refine WL.nil ?_ | refine WC.skip ?_ | refine WC.block ?_ | refine WC.condT rfl ?_ | refine WC.condF rfl ?_ | refine WL.off rfl rfl rfl ?_ | refine WL.off0 rfl rfl ?_ | refine WC.exit ?_ | refine blk_hit ?_ | refine blk_miss rfl ?_ | refine WC.ret ?_)
    refine WL.ixload rfl (fun _ => rfl) rfl rfl rfl rfl rfl rfl rfl hqn rfl rfl hs6 hv ?_
    intro pa
    repeat (first | refine WC.seq ?_ | refine WC.reg ?_ | refine WL.pure rfl rfl rfl ?_ | refine WL.nil ?_ | refine WC.skip ?_ | refine WC.block ?_ | refine WC.condT rfl ?_ | refine WC.condF rfl ?_ | refine WL.off rfl rfl rfl ?_ | refine WL.off0 rfl rfl ?_ | refine WC.exit ?_ | refine blk_hit ?_ | refine blk_miss rfl ?_ | refine WC.ret ?_)
    refine WC.cond rfl (fun h2 => ?_) (fun h2 => ?_)
    · have h2 : co f q = p - 1 := by
        rw [ep] at h2
        have : ((co f q : Nat) : Int) = ((p - 1 : Nat) : Int) := by simpa using h2
        omega
      have hqj : q < j0 := by
        rcases Nat.lt_or_ge q j0 with h | h
        · exact h
        · have : q = j0 := by omega
          subst this
          exact absurd h2 hj1
      repeat (first | refine WC.seq ?_ | refine WC.reg ?_ | refine WL.pure rfl rfl rfl ?_ | refine WL.nil ?_ | refine WC.skip ?_ | refine WC.block ?_ | refine WC.condT rfl ?_ | refine WC.condF rfl ?_ | refine WL.off rfl rfl rfl ?_ | refine WL.off0 rfl rfl ?_ | refine WC.exit ?_ | refine blk_hit ?_ | refine blk_miss rfl ?_ | refine WC.ret ?_)
      refine WL.ix1 rfl rfl rfl rfl rfl rfl rfl (j := q) hqn ?_
      refine WL.store rfl rfl rfl rfl rfl rfl (hp6.obj 0 rfl) (by simp [ints, fl]; omega) (fun w7 hw7 => ?_)
      rw [Nat.zero_add, show Value.int .i64 0 = Value.int .i64 ((0 : Nat) : Int) from rfl, ints_set, fl_set] at hw7
      have hp7 := hp6.set 0 rfl rfl hw7
      repeat (first | refine WC.seq ?_ | refine WC.reg ?_ | refine WL.pure rfl rfl rfl ?_ | refine WL.nil ?_ | refine WC.skip ?_ | refine WC.block ?_ | refine WC.condT rfl ?_ | refine WC.condF rfl ?_ | refine WL.off rfl rfl rfl ?_ | refine WL.off0 rfl rfl ?_ | refine WC.exit ?_ | refine blk_hit ?_ | refine blk_miss rfl ?_ | refine WC.ret ?_)
      refine ⟨q + 1, by show n - (q + 1) < n - q; omega, ⟨rfl, rfl, congrArg (fun z => some (Value.int .i64 z)) step, rfl⟩, by omega, fun j hj => ?_, ?_⟩
      · rcases Nat.lt_or_ge j q with h | h
        · exact hqa j h
        · rw [show j = q by omega]; exact h2
      · rw [fl_congr (f' := fun j => if j = q then 0 else if j < q then 0 else co f j) fun j _ => by
          by_cases h : j = q
          · rw [if_pos h, if_pos (by omega)]
          · rw [if_neg h]
            by_cases h3 : j < q
            · rw [if_pos h3, if_pos (by omega)]
            · rw [if_neg h3, if_neg (by omega)]]
        exact hp7
    · have h2 : co f q ≠ p - 1 := by
        rw [ep] at h2
        intro h
        rw [h] at h2
        simp at h2
      have hnx := next_eq (p := p) q f (by omega) hqa h2
      rw [hl] at hnx
      have step2 : IntKind.i64.wrap ((co f q : Int) + 1) = ((co f q + 1 : Nat) : Int) := by rw [wrap_i64_in (by omega) (by omega)]; omega
      repeat (first | refine WC.seq ?_ | refine WC.reg ?_ | refine WL.pure rfl rfl rfl ?_ | refine WL.nil ?_ | refine WC.skip ?_ | refine WC.block ?_ | refine WC.condT rfl ?_ | refine WC.condF rfl ?_ | refine WL.off rfl rfl rfl ?_ | refine WL.off0 rfl rfl ?_ | refine WC.exit ?_ | refine blk_hit ?_ | refine blk_miss rfl ?_ | refine WC.ret ?_)
      refine WL.ixload rfl (fun _ => rfl) rfl rfl rfl rfl rfl rfl rfl hqn rfl rfl hs6 hv ?_
      intro pb
      repeat (first | refine WC.seq ?_ | refine WC.reg ?_ | refine WL.pure rfl rfl rfl ?_ | refine WL.nil ?_ | refine WC.skip ?_ | refine WC.block ?_ | refine WC.condT rfl ?_ | refine WC.condF rfl ?_ | refine WL.off rfl rfl rfl ?_ | refine WL.off0 rfl rfl ?_ | refine WC.exit ?_ | refine blk_hit ?_ | refine blk_miss rfl ?_ | refine WC.ret ?_)
      refine WL.known (d := 42) (congrArg (fun z => some (Value.int .i64 z)) step2) ?_
      refine WL.ix1 rfl rfl rfl rfl rfl rfl rfl (j := q) hqn ?_
      refine WL.store rfl rfl rfl rfl rfl rfl (hp6.obj 0 rfl) (by simp [ints, fl]; omega) (fun w7 hw7 => ?_)
      rw [Nat.zero_add, ints_set, fl_set] at hw7
      have hp7 := hp6.set 0 rfl rfl hw7
      rw [← hnx] at hp7
      repeat (first | refine WC.seq ?_ | refine WC.reg ?_ | refine WL.pure rfl rfl rfl ?_ | refine WL.nil ?_ | refine WC.skip ?_ | refine WC.block ?_ | refine WC.condT rfl ?_ | refine WC.condF rfl ?_ | refine WL.off rfl rfl rfl ?_ | refine WL.off0 rfl rfl ?_ | refine WC.exit ?_ | refine blk_hit ?_ | refine blk_miss rfl ?_ | refine WC.ret ?_)
      exact ⟨(k, nextF p f), by show k < k + 1; omega, ⟨rfl, rfl, rfl⟩, by rw [hnx, fl_len], hF, hp7⟩
end Go.Proofs.Ytagfpnnplgkkoaa
