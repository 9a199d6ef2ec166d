/- The walk of the law over small fields. -/
import Derived.Test.YtlpcocjkffbpeaaR31
import Derived.Test.YtlpcocjkffbpeaaR35
import Derived.Test.YtlpcocjkffbpeaaQk
namespace Go.Poly
open Go.W Go.Tree
def digL (q N k i : Nat) : List Nat := fl (N + 1) fun j => if j = N then 1 else if j < i then k / q ^ j % q else 0
theorem dig_zero (q N k : Nat) : (fl (N + 1) fun _ => 0).set N 1 = digL q N k 0 := by
  rw [fl_set]
  unfold digL
  exact fl_congr fun j _ => by
    by_cases h : j = N
    · rw [if_pos h, if_pos h]
    · rw [if_neg h, if_neg h, if_neg (by omega)]
theorem dig_succ {q N k i : Nat} (hi : i < N) : (digL q N k i).set i (k / q ^ i % q) = digL q N k (i + 1) := by
  unfold digL
  rw [fl_set]
  exact fl_congr fun j _ => by
    by_cases h : j = i
    · subst h
      rw [if_pos rfl, if_neg (by omega), if_pos (by omega)]
    · rw [if_neg h]
      by_cases h2 : j = N
      · rw [if_pos h2, if_pos h2]
      · rw [if_neg h2, if_neg h2]
        by_cases h3 : j < i
        · rw [if_pos h3, if_pos (by omega)]
        · rw [if_neg h3, if_neg (by omega)]
theorem dig_all (q N k : Nat) : digL q N k N = polD q N k := by
  unfold digL polD
  exact fl_congr fun j hj => by
    by_cases h : j = N
    · rw [if_pos h, if_pos h]
    · rw [if_neg h, if_neg h, if_pos (by omega)]
theorem firstO_len {p n : Nat} {F : List Nat} : ∀ (k : Nat) (f : List Nat), firstO p n k f = some F → F.length = n + 1
  | 0, f, h => by simp [firstO] at h
  | k + 1, f, h => by
    rw [firstO] at h
    split at h
    · cases h
    · rename_i h1
      split at h
      · simp only [Option.some.injEq] at h
        subst h
        exact Decidable.byContradiction fun h2 => h1 (.inr (.inl h2))
      · exact firstO_len k _ h
theorem chkA_succ {p n : Nat} {F : List Nat} {f k c T : Nat} (h : chkA p n F (f + 1) k c = some T) :
    (irrL p (polD p n k) = true → (c = 0 → F = polD p n k) ∧ chkA p n F f (k + 1) (c + 1) = some T) ∧ (irrL p (polD p n k) = false → chkA p n F f (k + 1) c = some T) := by
  rw [chkA] at h
  constructor
  · intro hi
    rw [if_pos hi] at h
    by_cases h2 : c = 0 ∧ polD p n k ≠ F
    · rw [if_pos h2] at h; cases h
    · rw [if_neg h2] at h
      exact ⟨fun hc => Decidable.byContradiction fun h3 => h2 ⟨hc, fun e => h3 e.symm⟩, h⟩
  · intro hi
    rw [if_neg (by rw [hi]; simp)] at h
    exact h
end Go.Poly
namespace Go.Proofs.Ytlpcocjkffbpeaa
open Go.W Go.Poly Go.Tree Go.RowKit
set_option maxRecDepth 100000
attribute [local irreducible] WC WL WQ WS WH

set_option maxHeartbeats 1000000 in
theorem PolyAll_any (p n : Int) (w : World) :
    Ret Try.prog 4 [.int .i64 p, .int .i64 n] w fun u w' => u = .bool true ∧ Hp w w' [] := by
  refine enter Try.func4 rfl rfl ⟨rfl, rfl⟩ rfl ?_
  refine WC.seq ?_
  refine WC.reg ?_
  repeat refine WL.pure rfl rfl rfl ?_
  refine WL.nil ?_
  refine WC.seq ?_
  refine WC.mid Nat (fun q => [(0, .int .i64 (q : Nat)), (1, .int .i64 n)]) (fun q w' => w' = w ∧ (q = 2 ∨ q = 3 ∨ q = 5 ∨ q = 7)) ?_ ?_
  · repeat (first | refine WC.seq ?_ | refine WC.reg ?_ | refine WL.pure rfl rfl rfl ?_ | refine WL.nil ?_ | refine WC.skip ?_ | refine WC.block ?_ | refine WC.condT rfl ?_ | refine WC.condF rfl ?_ | refine WL.off rfl rfl rfl ?_ | refine WL.off0 rfl rfl ?_ | refine WC.exit ?_ | refine blk_hit ?_ | refine blk_miss rfl ?_ | refine WC.ret ?_)
    refine WL.buildA (cs := ints [2, 3, 5, 7]) rfl rfl rfl rfl rfl rfl ?_
    repeat (first | refine WC.seq ?_ | refine WC.reg ?_ | refine WL.pure rfl rfl rfl ?_ | refine WL.nil ?_ | refine WC.skip ?_ | refine WC.block ?_ | refine WC.condT rfl ?_ | refine WC.condF rfl ?_ | refine WL.off rfl rfl rfl ?_ | refine WL.off0 rfl rfl ?_ | refine WC.exit ?_ | refine blk_hit ?_ | refine blk_miss rfl ?_ | refine WC.ret ?_)
    refine WL.callP rfl rfl rfl rfl rfl ent14 (modO_any p 4 (by omega) (by omega) w) ?_
    have hm := modN_lt (n := 4) (by omega) p
    generalize modN p 4 = m at *
    have hc : m = 0 ∨ m = 1 ∨ m = 2 ∨ m = 3 := by omega
    rcases hc with rfl | rfl | rfl | rfl
    · repeat (first | refine WC.seq ?_ | refine WC.reg ?_ | refine WL.pure rfl rfl rfl ?_ | refine WL.nil ?_ | refine WC.skip ?_ | refine WC.block ?_ | refine WC.condT rfl ?_ | refine WC.condF rfl ?_ | refine WL.off rfl rfl rfl ?_ | refine WL.off0 rfl rfl ?_ | refine WC.exit ?_ | refine blk_hit ?_ | refine blk_miss rfl ?_ | refine WC.ret ?_)
      exact ⟨2, ⟨rfl, rfl, rfl⟩, rfl, by omega⟩
    · repeat (first | refine WC.seq ?_ | refine WC.reg ?_ | refine WL.pure rfl rfl rfl ?_ | refine WL.nil ?_ | refine WC.skip ?_ | refine WC.block ?_ | refine WC.condT rfl ?_ | refine WC.condF rfl ?_ | refine WL.off rfl rfl rfl ?_ | refine WL.off0 rfl rfl ?_ | refine WC.exit ?_ | refine blk_hit ?_ | refine blk_miss rfl ?_ | refine WC.ret ?_)
      exact ⟨3, ⟨rfl, rfl, rfl⟩, rfl, by omega⟩
    · repeat (first | refine WC.seq ?_ | refine WC.reg ?_ | refine WL.pure rfl rfl rfl ?_ | refine WL.nil ?_ | refine WC.skip ?_ | refine WC.block ?_ | refine WC.condT rfl ?_ | refine WC.condF rfl ?_ | refine WL.off rfl rfl rfl ?_ | refine WL.off0 rfl rfl ?_ | refine WC.exit ?_ | refine blk_hit ?_ | refine blk_miss rfl ?_ | refine WC.ret ?_)
      exact ⟨5, ⟨rfl, rfl, rfl⟩, rfl, by omega⟩
    · repeat (first | refine WC.seq ?_ | refine WC.reg ?_ | refine WL.pure rfl rfl rfl ?_ | refine WL.nil ?_ | refine WC.skip ?_ | refine WC.block ?_ | refine WC.condT rfl ?_ | refine WC.condF rfl ?_ | refine WL.off rfl rfl rfl ?_ | refine WL.off0 rfl rfl ?_ | refine WC.exit ?_ | refine blk_hit ?_ | refine blk_miss rfl ?_ | refine WC.ret ?_)
      exact ⟨7, ⟨rfl, rfl, rfl⟩, rfl, by omega⟩
  rintro q e2 w1 hsub ⟨rfl, hq4⟩
  refine WC.sub hsub ?_
  clear hsub
  have hq2 : 2 ≤ q := by omega
  have hq7 : q ≤ 7 := by omega
  have hq : Pri q := by rcases hq4 with rfl | rfl | rfl | rfl <;> exact priB_spec (by decide +kernel)
  have h1021 : q ≤ 1021 := by omega
  have hf : fieldB (q : Int) = true := field_ok hq h1021
  obtain ⟨N, hN, hN1, hN6⟩ : ∃ N, 1 + modN n 6 = N ∧ 1 ≤ N ∧ N ≤ 6 := ⟨_, rfl, by omega, by have := modN_lt (n := 6) (by omega) n; omega⟩
  repeat (first | refine WC.seq ?_ | refine WC.reg ?_ | refine WL.pure rfl rfl rfl ?_ | refine WL.nil ?_ | refine WC.skip ?_ | refine WC.block ?_ | refine WC.condT rfl ?_ | refine WC.condF rfl ?_ | refine WL.off rfl rfl rfl ?_ | refine WL.off0 rfl rfl ?_ | refine WC.exit ?_ | refine blk_hit ?_ | refine blk_miss rfl ?_ | refine WC.ret ?_)
  refine WL.callP rfl rfl rfl rfl rfl ent14 (modO_any n 6 (by omega) (by omega) w1) ?_
  refine WL.pure rfl rfl rfl ?_
  refine WL.known (d := 24) (congrArg (fun z => some (Value.int .i64 z)) (show IntKind.i64.wrap (1 + ((modN n 6 : Nat) : Int)) = ((N : Nat) : Int) by rw [wrap_i64_in (by omega) (by omega)]; omega)) ?_
  have pw : ∀ i, i ≤ N → q ^ i ≤ 117649 := fun i hi => Nat.le_trans (Nat.pow_le_pow_left hq7 i) (Nat.pow_le_pow_right (show 0 < 7 by omega) (show i ≤ 6 by omega))
  repeat (first | refine WC.seq ?_ | refine WC.reg ?_ | refine WL.pure rfl rfl rfl ?_ | refine WL.nil ?_ | refine WC.skip ?_ | refine WC.block ?_ | refine WC.condT rfl ?_ | refine WC.condF rfl ?_ | refine WL.off rfl rfl rfl ?_ | refine WL.off0 rfl rfl ?_ | refine WC.exit ?_ | refine blk_hit ?_ | refine blk_miss rfl ?_ | refine WC.ret ?_)
  refine WC.loop Nat (fun i => [(0, .int .i64 (q : Nat)), (1, .int .i64 (N : Nat)), (5, .int .i64 ((q ^ i : Nat) : Int)), (6, .int .i64 (i : Nat))])
    (fun i w' => w' = w1 ∧ i ≤ N) (fun i => N - i) 0 ⟨rfl, rfl, congrArg (fun z => some (Value.int .i64 z)) (show (1 : Int) = ((q ^ 0 : Nat) : Int) by rw [Nat.pow_zero]; rfl), rfl, rfl⟩ ⟨rfl, Nat.zero_le _⟩ ?_
  rintro i w2 ⟨rfl, hi⟩
  repeat (first | refine WC.seq ?_ | refine WC.reg ?_ | refine WL.pure rfl rfl rfl ?_ | refine WL.nil ?_ | refine WC.skip ?_ | refine WC.block ?_ | refine WC.condT rfl ?_ | refine WC.condF rfl ?_ | refine WL.off rfl rfl rfl ?_ | refine WL.off0 rfl rfl ?_ | refine WC.exit ?_ | refine blk_hit ?_ | refine blk_miss rfl ?_ | refine WC.ret ?_)
  refine WC.cond rfl (fun h => ?_) (fun h => ?_)
  · have hi : i < N := by have := of_decide_eq_true h; omega
    have step : IntKind.i64.wrap ((i : Int) + 1) = ((i + 1 : Nat) : Int) := by rw [wrap_i64_in (by omega) (by omega)]; omega
    have h1 := pw (i + 1) hi
    have em : IntKind.i64.wrap (((q ^ i : Nat) : Int) * (q : Int)) = ((q ^ (i + 1) : Nat) : Int) := by
      rw [← Int.natCast_mul, ← Nat.pow_succ]
      generalize q ^ (i + 1) = z at *
      exact wrap_i64_in (by omega) (by omega)
    repeat (first | refine WC.seq ?_ | refine WC.reg ?_ | refine WL.pure rfl rfl rfl ?_ | refine WL.nil ?_ | refine WC.skip ?_ | refine WC.block ?_ | refine WC.condT rfl ?_ | refine WC.condF rfl ?_ | refine WL.off rfl rfl rfl ?_ | refine WL.off0 rfl rfl ?_ | refine WC.exit ?_ | refine blk_hit ?_ | refine blk_miss rfl ?_ | refine WC.ret ?_)
    exact ⟨i + 1, by show N - (i + 1) < N - i; omega, ⟨rfl, rfl, congrArg (fun z => some (Value.int .i64 z)) em, congrArg (fun z => some (Value.int .i64 z)) step, rfl⟩, rfl, hi⟩
  have hi : i = N := by have := of_decide_eq_false h; omega
  subst hi
  have hsay := small_say hq4 hN1 hN6
  generalize hM : q ^ i = M at *
  repeat (first | refine WC.seq ?_ | refine WC.reg ?_ | refine WL.pure rfl rfl rfl ?_ | refine WL.nil ?_ | refine WC.skip ?_ | refine WC.block ?_ | refine WC.condT rfl ?_ | refine WC.condF rfl ?_ | refine WL.off rfl rfl rfl ?_ | refine WL.off0 rfl rfl ?_ | refine WC.exit ?_ | refine blk_hit ?_ | refine blk_miss rfl ?_ | refine WC.ret ?_)
  refine WC.cond rfl (fun h => ?_) (fun h => ?_)
  · repeat (first | refine WC.seq ?_ | refine WC.reg ?_ | refine WL.pure rfl rfl rfl ?_ | refine WL.nil ?_ | refine WC.skip ?_ | refine WC.block ?_ | refine WC.condT rfl ?_ | refine WC.condF rfl ?_ | refine WL.off rfl rfl rfl ?_ | refine WL.off0 rfl rfl ?_ | refine WC.exit ?_ | refine blk_hit ?_ | refine blk_miss rfl ?_ | refine WC.ret ?_)
    refine WL.call rfl rfl rfl rfl rfl ent12 (awake_any w2) ?_
    rintro _ w9 ⟨rfl, hp9⟩
    repeat (first | refine WC.seq ?_ | refine WC.reg ?_ | refine WL.pure rfl rfl rfl ?_ | refine WL.nil ?_ | refine WC.skip ?_ | refine WC.block ?_ | refine WC.condT rfl ?_ | refine WC.condF rfl ?_ | refine WL.off rfl rfl rfl ?_ | refine WL.off0 rfl rfl ?_ | refine WC.exit ?_ | refine blk_hit ?_ | refine blk_miss rfl ?_ | refine WC.ret ?_)
    exact Res.one rfl rfl rfl ⟨rfl, hp9⟩
  have hM130 : M ≤ 130 := by have := of_decide_eq_false h; omega
  obtain ⟨F, T, hF, hT, hcnt⟩ := hsay hM130
  repeat (first | refine WC.seq ?_ | refine WC.reg ?_ | refine WL.pure rfl rfl rfl ?_ | refine WL.nil ?_ | refine WC.skip ?_ | refine WC.block ?_ | refine WC.condT rfl ?_ | refine WC.condF rfl ?_ | refine WL.off rfl rfl rfl ?_ | refine WL.off0 rfl rfl ?_ | refine WC.exit ?_ | refine blk_hit ?_ | refine blk_miss rfl ?_ | refine WC.ret ?_)
  refine WL.call rfl rfl rfl rfl rfl ent15 (First_any q i (M + 1) F hf hq h1021 hN1 (by omega) hF w2) ?_
  rintro _ w3 ⟨v, rfl, hp3⟩
  have dv := Pd.row hp3 0 rfl
  have hw3 := hp3.nil'
  clear hp3
  have hMT : chkA q i F (M - 0) 0 0 = some T := hT
  have h6i : (i : Int) ≤ 6 := by omega
  repeat (first | refine WC.seq ?_ | refine WC.reg ?_ | refine WL.pure rfl rfl rfl ?_ | refine WL.nil ?_ | refine WC.skip ?_ | refine WC.block ?_ | refine WC.condT rfl ?_ | refine WC.condF rfl ?_ | refine WL.off rfl rfl rfl ?_ | refine WL.off0 rfl rfl ?_ | refine WC.exit ?_ | refine blk_hit ?_ | refine blk_miss rfl ?_ | refine WC.ret ?_)
  refine WC.loop (Nat × Nat) (fun (k, c) => [(0, .int .i64 (q : Nat)), (1, .int .i64 (i : Nat)), (5, .int .i64 (M : Nat)), (7, .int .i64 (c : Nat)), (8, v), (9, .int .i64 0), (10, .int .i64 (k : Nat))])
    (fun (k, c) w' => Hp w3 w' [] ∧ k ≤ M ∧ c ≤ k ∧ chkA q i F (M - k) k c = some T) (fun (k, _) => M - k) (0, 0) ⟨rfl, rfl, rfl, rfl, rfl, rfl, rfl, rfl⟩ ⟨Hp.start w3, Nat.zero_le _, Nat.le_refl _, hMT⟩ ?_
  rintro ⟨k, c⟩ w4 ⟨hp4, hk, hck, hch⟩
  repeat (first | refine WC.seq ?_ | refine WC.reg ?_ | refine WL.pure rfl rfl rfl ?_ | refine WL.nil ?_ | refine WC.skip ?_ | refine WC.block ?_ | refine WC.condT rfl ?_ | refine WC.condF rfl ?_ | refine WL.off rfl rfl rfl ?_ | refine WL.off0 rfl rfl ?_ | refine WC.exit ?_ | refine blk_hit ?_ | refine blk_miss rfl ?_ | refine WC.ret ?_)
  refine WC.cond rfl (fun h => ?_) (fun h => ?_)
  · have hk : k < M := by have := of_decide_eq_true h; omega
    have stepk : IntKind.i64.wrap ((k : Int) + 1) = ((k + 1 : Nat) : Int) := by rw [wrap_i64_in (by omega) (by omega)]; omega
    have stepc : IntKind.i64.wrap ((c : Int) + 1) = ((c + 1 : Nat) : Int) := by rw [wrap_i64_in (by omega) (by omega)]; omega
    have stepN : IntKind.i64.wrap ((i : Int) + 1) = ((i + 1 : Nat) : Int) := by rw [wrap_i64_in (by omega) (by omega)]; omega
    rw [show M - k = (M - (k + 1)) + 1 by omega] at hch
    obtain ⟨hyes, hno⟩ := chkA_succ hch
    repeat (first | refine WC.seq ?_ | refine WC.reg ?_ | refine WL.pure rfl rfl rfl ?_ | refine WL.nil ?_ | refine WC.skip ?_ | refine WC.block ?_ | refine WC.condT rfl ?_ | refine WC.condF rfl ?_ | refine WL.off rfl rfl rfl ?_ | refine WL.off0 rfl rfl ?_ | refine WC.exit ?_ | refine blk_hit ?_ | refine blk_miss rfl ?_ | refine WC.ret ?_)
    refine WL.known (d := 48) (congrArg (fun z => some (Value.int .i64 z)) stepN) ?_
    refine WL.make (m := i + 1) rfl rfl rfl rfl rfl rfl rfl rfl ?_ ?_ ?_
    · show 8 * (i + 1) ≤ _; omega
    · unfold maxLen; omega
    intro b w5 hb
    have hz : (List.replicate (i + 1) ti3.zero) = ints (fl (i + 1) fun _ => 0) := by
      rw [show ti3.zero = Value.int .i64 0 from rfl, ints_zero]
    rw [hz] at hb
    have hp5 := (Hp.start w4).new hb
    repeat (first | refine WC.seq ?_ | refine WC.reg ?_ | refine WL.pure rfl rfl rfl ?_ | refine WL.nil ?_ | refine WC.skip ?_ | refine WC.block ?_ | refine WC.condT rfl ?_ | refine WC.condF rfl ?_ | refine WL.off rfl rfl rfl ?_ | refine WL.off0 rfl rfl ?_ | refine WC.exit ?_ | refine blk_hit ?_ | refine blk_miss rfl ?_ | refine WC.ret ?_)
    refine WL.ix1 rfl rfl rfl rfl rfl rfl rfl (j := i) (by omega) ?_
    refine WL.store rfl rfl rfl rfl rfl rfl (hp5.obj 0 rfl) (by simp [ints, fl]) (fun w6 hw6 => ?_)
    rw [Nat.zero_add, show (Value.int .i64 1) = Value.int .i64 ((1 : Nat) : Int) from rfl, ints_set, dig_zero q i k] at hw6
    have hp6 := hp5.set 0 rfl rfl hw6
    repeat (first | refine WC.seq ?_ | refine WC.reg ?_ | refine WL.pure rfl rfl rfl ?_ | refine WL.nil ?_ | refine WC.skip ?_ | refine WC.block ?_ | refine WC.condT rfl ?_ | refine WC.condF rfl ?_ | refine WL.off rfl rfl rfl ?_ | refine WL.off0 rfl rfl ?_ | refine WC.exit ?_ | refine blk_hit ?_ | refine blk_miss rfl ?_ | refine WC.ret ?_)
    refine WC.loop Nat (fun j => [(0, .int .i64 (q : Nat)), (1, .int .i64 (i : Nat)), (5, .int .i64 (M : Nat)), (7, .int .i64 (c : Nat)), (8, v), (9, .int .i64 0), (10, .int .i64 (k : Nat)), (11, .slice (some ⟨b, 0, none⟩) (i + 1) (i + 1)), (12, .int .i64 (j : Nat)), (13, .int .i64 ((k / q ^ j : Nat) : Int))])
      (fun j w' => j ≤ i ∧ Hp w4 w' [.blk b (.cells (ints (digL q i k j)).toArray 3 (0, 0))]) (fun j => i - j) 0 ⟨rfl, rfl, rfl, rfl, rfl, rfl, rfl, rfl, rfl, congrArg (fun z => some (Value.int .i64 z)) (show (k : Int) = ((k / q ^ 0 : Nat) : Int) by rw [Nat.pow_zero, Nat.div_one]), rfl⟩ ⟨Nat.zero_le _, hp6⟩ ?_
    clear hp6 hw6 hp5 hb hz w5 w6
    rintro j w6 ⟨hj, hp6⟩
    repeat (first | refine WC.seq ?_ | refine WC.reg ?_ | refine WL.pure rfl rfl rfl ?_ | refine WL.nil ?_ | refine WC.skip ?_ | refine WC.block ?_ | refine WC.condT rfl ?_ | refine WC.condF rfl ?_ | refine WL.off rfl rfl rfl ?_ | refine WL.off0 rfl rfl ?_ | refine WC.exit ?_ | refine blk_hit ?_ | refine blk_miss rfl ?_ | refine WC.ret ?_)
    refine WC.cond rfl (fun h => ?_) (fun h => ?_)
    · have hj : j < i := by have := of_decide_eq_true h; omega
      have stepj : IntKind.i64.wrap ((j : Int) + 1) = ((j + 1 : Nat) : Int) := by rw [wrap_i64_in (by omega) (by omega)]; omega
      have er : ((k / q ^ j : Nat) : Int).tmod (q : Int) = ((k / q ^ j % q : Nat) : Int) := (Int.ofNat_tmod _ _).symm
      have hle : k / q ^ j / q ≤ k := Nat.le_trans (Nat.div_le_self _ _) (Nat.div_le_self _ _)
      have ed : IntKind.i64.wrap (((k / q ^ j : Nat) : Int).tdiv (q : Int)) = ((k / q ^ (j + 1) : Nat) : Int) := by
        rw [← Int.ofNat_tdiv, Nat.pow_succ, ← Nat.div_div_eq_div_mul]
        exact wrap_i64_in (Int.natCast_nonneg _) (Int.lt_of_le_of_lt (Int.ofNat_le.2 hle) (by omega))
      repeat (first | refine WC.seq ?_ | refine WC.reg ?_ | refine WL.pure rfl rfl rfl ?_ | refine WL.nil ?_ | refine WC.skip ?_ | refine WC.block ?_ | refine WC.condT rfl ?_ | refine WC.condF rfl ?_ | refine WL.off rfl rfl rfl ?_ | refine WL.off0 rfl rfl ?_ | refine WC.exit ?_ | refine blk_hit ?_ | refine blk_miss rfl ?_ | refine WC.ret ?_)
      refine WL.rem rfl rfl rfl rfl (by omega) ?_
      refine WL.known (d := 63) (congrArg (fun z => some (Value.int .i64 z)) er) ?_
      refine WL.ix1 rfl rfl rfl rfl rfl rfl rfl (j := j) (by omega) ?_
      refine WL.store rfl rfl rfl rfl rfl rfl (hp6.obj 0 rfl) (by simp [ints, digL, fl]; omega) (fun w7 hw7 => ?_)
      rw [Nat.zero_add, ints_set, dig_succ hj] at hw7
      have hp7 := hp6.set 0 rfl rfl hw7
      repeat (first | refine WC.seq ?_ | refine WC.reg ?_ | refine WL.pure rfl rfl rfl ?_ | refine WL.nil ?_ | refine WC.skip ?_ | refine WC.block ?_ | refine WC.condT rfl ?_ | refine WC.condF rfl ?_ | refine WL.off rfl rfl rfl ?_ | refine WL.off0 rfl rfl ?_ | refine WC.exit ?_ | refine blk_hit ?_ | refine blk_miss rfl ?_ | refine WC.ret ?_)
      refine WL.quo rfl rfl rfl rfl (by omega) ?_
      refine WL.known (d := 67) (congrArg (fun z => some (Value.int .i64 z)) ed) ?_
      repeat (first | refine WC.seq ?_ | refine WC.reg ?_ | refine WL.pure rfl rfl rfl ?_ | refine WL.nil ?_ | refine WC.skip ?_ | refine WC.block ?_ | refine WC.condT rfl ?_ | refine WC.condF rfl ?_ | refine WL.off rfl rfl rfl ?_ | refine WL.off0 rfl rfl ?_ | refine WC.exit ?_ | refine blk_hit ?_ | refine blk_miss rfl ?_ | refine WC.ret ?_)
      exact ⟨j + 1, by show i - (j + 1) < i - j; omega, ⟨rfl, rfl, rfl, rfl, rfl, rfl, rfl, rfl, congrArg (fun z => some (Value.int .i64 z)) stepj, rfl, rfl⟩, hj, hp7⟩
    have hj : j = i := by have := of_decide_eq_false h; omega
    subst hj
    rw [dig_all] at hp6
    have hIs := polD_isP hq2 j k
    have hln := polD_len q j k
    have hr6 : Hp w4 w6 [Rw (.slice (some ⟨b, 0, none⟩) (j + 1) (j + 1)) (polD q j k)] := by
      have h := hp6.toRow (m := j + 1) (s := 1) (by simp [ints, hln]) (by unfold maxLen; omega)
      show Hp _ _ [Ent.row _ 1 _ _ _]
      rw [hln]
      simpa using h
    have dp : Pd w6 (.slice (some ⟨b, 0, none⟩) (j + 1) (j + 1)) (polD q j k) := Pd.row hr6 0 rfl
    have hw6 := hp4.over hr6.nil'
    clear hr6 hp6
    generalize polD q j k = D at *
    repeat (first | refine WC.seq ?_ | refine WC.reg ?_ | refine WL.pure rfl rfl rfl ?_ | refine WL.nil ?_ | refine WC.skip ?_ | refine WC.block ?_ | refine WC.condT rfl ?_ | refine WC.condF rfl ?_ | refine WL.off rfl rfl rfl ?_ | refine WL.off0 rfl rfl ?_ | refine WC.exit ?_ | refine blk_hit ?_ | refine blk_miss rfl ?_ | refine WC.ret ?_)
    refine WL.call rfl rfl rfl rfl rfl ent16 (Irreducible_pz _ q (up D) (by rw [up_len]; omega) w6 dp.int) ?_
    rintro _ w7 ⟨hp7, -, h2⟩
    obtain rfl := h2 q D (okF_ok hq h1021 hIs (by omega)) rfl rfl
    have hw7 := hw6.over hp7
    cases hir : irrL q D with
    | false =>
      repeat (first | refine WC.seq ?_ | refine WC.reg ?_ | refine WL.pure rfl rfl rfl ?_ | refine WL.nil ?_ | refine WC.skip ?_ | refine WC.block ?_ | refine WC.condT rfl ?_ | refine WC.condF rfl ?_ | refine WL.off rfl rfl rfl ?_ | refine WL.off0 rfl rfl ?_ | refine WC.exit ?_ | refine blk_hit ?_ | refine blk_miss rfl ?_ | refine WC.ret ?_)
      exact ⟨(k + 1, c), by show M - (k + 1) < M - k; omega, ⟨rfl, rfl, rfl, rfl, rfl, rfl, congrArg (fun z => some (Value.int .i64 z)) stepk, rfl⟩, hw7, hk, by omega, hno hir⟩
    | true =>
      obtain ⟨hfirst, hch2⟩ := hyes hir
      repeat (first | refine WC.seq ?_ | refine WC.reg ?_ | refine WL.pure rfl rfl rfl ?_ | refine WL.nil ?_ | refine WC.skip ?_ | refine WC.block ?_ | refine WC.condT rfl ?_ | refine WC.condF rfl ?_ | refine WL.off rfl rfl rfl ?_ | refine WL.off0 rfl rfl ?_ | refine WC.exit ?_ | refine blk_hit ?_ | refine blk_miss rfl ?_ | refine WC.ret ?_)
      refine WL.split 79 rfl (fun h => ?_) (fun h => ?_)
      · have hc0 : c = 0 := by simp at h; omega
        repeat (first | refine WC.seq ?_ | refine WC.reg ?_ | refine WL.pure rfl rfl rfl ?_ | refine WL.nil ?_ | refine WC.skip ?_ | refine WC.block ?_ | refine WC.condT rfl ?_ | refine WC.condF rfl ?_ | refine WL.off rfl rfl rfl ?_ | refine WL.off0 rfl rfl ?_ | refine WC.exit ?_ | refine blk_hit ?_ | refine blk_miss rfl ?_ | refine WC.ret ?_)
        refine WL.call rfl rfl rfl rfl rfl ent17 (Same_pd v _ F D (by rw [firstO_len _ _ hF]; omega) w7 (dv.hp hw7) (dp.hp hp7)) ?_
        rintro _ w8 ⟨rfl, hp8⟩
        rw [decide_eq_true (hfirst hc0)]
        repeat (first | refine WC.seq ?_ | refine WC.reg ?_ | refine WL.pure rfl rfl rfl ?_ | refine WL.nil ?_ | refine WC.skip ?_ | refine WC.block ?_ | refine WC.condT rfl ?_ | refine WC.condF rfl ?_ | refine WL.off rfl rfl rfl ?_ | refine WL.off0 rfl rfl ?_ | refine WC.exit ?_ | refine blk_hit ?_ | refine blk_miss rfl ?_ | refine WC.ret ?_)
        exact ⟨(k + 1, c + 1), by show M - (k + 1) < M - k; omega, ⟨rfl, rfl, rfl, congrArg (fun z => some (Value.int .i64 z)) stepc, rfl, rfl, congrArg (fun z => some (Value.int .i64 z)) stepk, rfl⟩, hw7.over hp8, hk, by omega, hch2⟩
      · repeat (first | refine WC.seq ?_ | refine WC.reg ?_ | refine WL.pure rfl rfl rfl ?_ | refine WL.nil ?_ | refine WC.skip ?_ | refine WC.block ?_ | refine WC.condT rfl ?_ | refine WC.condF rfl ?_ | refine WL.off rfl rfl rfl ?_ | refine WL.off0 rfl rfl ?_ | refine WC.exit ?_ | refine blk_hit ?_ | refine blk_miss rfl ?_ | refine WC.ret ?_)
        exact ⟨(k + 1, c + 1), by show M - (k + 1) < M - k; omega, ⟨rfl, rfl, rfl, congrArg (fun z => some (Value.int .i64 z)) stepc, rfl, rfl, congrArg (fun z => some (Value.int .i64 z)) stepk, rfl⟩, hw7, hk, by omega, hch2⟩
  · have hk : k = M := by have := of_decide_eq_false h; omega
    subst hk
    rw [Nat.sub_self, chkA] at hch
    obtain rfl : c = T := by simpa using hch
    repeat (first | refine WC.seq ?_ | refine WC.reg ?_ | refine WL.pure rfl rfl rfl ?_ | refine WL.nil ?_ | refine WC.skip ?_ | refine WC.block ?_ | refine WC.condT rfl ?_ | refine WC.condF rfl ?_ | refine WL.off rfl rfl rfl ?_ | refine WL.off0 rfl rfl ?_ | refine WC.exit ?_ | refine blk_hit ?_ | refine blk_miss rfl ?_ | refine WC.ret ?_)
    refine WL.call rfl rfl rfl rfl rfl ent10 (Count_any q hf hq h1021 (i + 1) i c 0 hN1 (by omega) hcnt w4) ?_
    rintro _ w5 ⟨rfl, hp5⟩
    repeat (first | refine WC.seq ?_ | refine WC.reg ?_ | refine WL.pure rfl rfl rfl ?_ | refine WL.nil ?_ | refine WC.skip ?_ | refine WC.block ?_ | refine WC.condT rfl ?_ | refine WC.condF rfl ?_ | refine WL.off rfl rfl rfl ?_ | refine WL.off0 rfl rfl ?_ | refine WC.exit ?_ | refine blk_hit ?_ | refine blk_miss rfl ?_ | refine WC.ret ?_)
    refine WL.known (d := 104) (congrArg (fun b => some (Value.bool b)) (show ((c : Int) == (c : Int)) = true by simp)) ?_
    repeat (first | refine WC.seq ?_ | refine WC.reg ?_ | refine WL.pure rfl rfl rfl ?_ | refine WL.nil ?_ | refine WC.skip ?_ | refine WC.block ?_ | refine WC.condT rfl ?_ | refine WC.condF rfl ?_ | refine WL.off rfl rfl rfl ?_ | refine WL.off0 rfl rfl ?_ | refine WC.exit ?_ | refine blk_hit ?_ | refine blk_miss rfl ?_ | refine WC.ret ?_)
    refine WL.call rfl rfl rfl rfl rfl ent12 (awake_any w5) ?_
    rintro _ w9 ⟨rfl, hp9⟩
    repeat (first | refine WC.seq ?_ | refine WC.reg ?_ | refine WL.pure rfl rfl rfl ?_ | refine WL.nil ?_ | refine WC.skip ?_ | refine WC.block ?_ | refine WC.condT rfl ?_ | refine WC.condF rfl ?_ | refine WL.off rfl rfl rfl ?_ | refine WL.off0 rfl rfl ?_ | refine WC.exit ?_ | refine blk_hit ?_ | refine blk_miss rfl ?_ | refine WC.ret ?_)
    exact Res.one rfl rfl rfl ⟨rfl, ((hw3.over hp4).over hp5).over hp9⟩
end Go.Proofs.Ytlpcocjkffbpeaa
