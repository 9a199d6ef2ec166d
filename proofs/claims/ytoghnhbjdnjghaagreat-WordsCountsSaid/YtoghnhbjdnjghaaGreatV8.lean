/- The walk of the binary search. -/
import Derived.Test.YtoghnhbjdnjghaaGreatV7
namespace Go.Proofs.YtoghnhbjdnjghaaGreat
open Go.W Go.Words
set_option maxRecDepth 100000
attribute [local irreducible] WC WL WQ WS WH

theorem half_eq {i j : Nat} (hi : i ≤ 1000000) (hj : j ≤ 1000000) : IntKind.i64.wrap (shr .u64 (IntKind.u64.wrap (IntKind.i64.wrap ((i : Int) + (j : Int)))) 1) = (((i + j) / 2 : Nat) : Int) := by
  have e1 : IntKind.i64.wrap ((i : Int) + (j : Int)) = ((i + j : Nat) : Int) := by rw [wrap_i64_in (by omega) (by omega)]; omega
  have e2 : IntKind.u64.wrap ((i + j : Nat) : Int) = ((i + j : Nat) : Int) := by rw [IntKind.wrap_u64]; omega
  rw [e1, e2, shr_nat (i + j) 1 2 (by decide)]
  exact wrap_i64_in (by omega) (by omega)
theorem byLeft_q {b : Nat} {r x y : Rl} {w : World} : ∀ w', Hp w w' [Bx b r] → Ret Tryz.prog 74 [.agg #[st x.1, st x.2], .agg #[st y.1, st y.2]] w' fun u w'' => u = .int .i64 (ordR x y) ∧ Hp w w'' [Bx b r] :=
  fun w' hw' => (byLeft_any x y w').mono fun u w'' ⟨h1, h2⟩ => ⟨h1, by have := hw'.comb h2; rwa [List.nil_append] at this⟩
theorem box_cell {w0 w : World} {b : Nat} {r : Rl} {L : List Ent} (h : Hp w0 w (Bx b r :: L)) : ∀ q v, (rc r)[q]? = some v → w.cell? ⟨b, 0 + q, none⟩ = some v := by
  intro q v hq
  rw [Nat.zero_add]
  exact cell_of_obj (h.obj 0 rfl) (by simpa [rc] using hq)
theorem Search_any (a : Option Addr) (cap : Nat) (l : List Rl) (r : Rl) (hl : l.length ≤ 1000000)
    (hm : ∀ (p q : Nat) (hq : q < l.length) (hp : p < l.length), p ≤ q → ordR l[q] r < 0 → ordR l[p] r < 0) (w : World) (hs : Sl w a (rcs l)) :
    Ret Tryz.prog 95 [.slice a l.length cap, .agg #[st r.1, st r.2], .func (.func 74) #[] #[]] w
      fun u w' => ∃ (k : Nat) (b : Bool), k ≤ l.length ∧ u = .tuple #[.int .i64 (k : Nat), .bool b] ∧ (∀ (q : Nat) (h : q < l.length), q < k → ordR l[q] r < 0) ∧ (∀ (q : Nat) (h : q < l.length), k ≤ q → ¬ ordR l[q] r < 0) ∧
        (b = true ↔ ∃ h : k < l.length, ordR l[k] r = 0) ∧ Hp w w' [] := by
  refine enter Tryz.func95 rfl rfl ⟨rfl, rfl⟩ rfl ?_
  repeat (first | refine WC.seq ?_ | refine WC.reg ?_ | refine WL.pure rfl rfl rfl ?_ | refine WL.nil ?_ | refine WC.skip ?_ | refine WC.block ?_ | refine WC.condT rfl ?_ | refine WC.condF rfl ?_ | refine WL.off rfl rfl rfl ?_ | refine WL.off0 rfl rfl ?_ | refine WC.exit ?_ | refine blk_hit ?_ | refine blk_miss rfl ?_ | refine WC.ret ?_)
  refine WL.box rfl rfl rfl ?_
  intro b4 w1 hb4
  have hp1 : Hp w w1 [Bx b4 r] := (Hp.start w).new hb4
  repeat (first | refine WC.seq ?_ | refine WC.reg ?_ | refine WL.pure rfl rfl rfl ?_ | refine WL.nil ?_ | refine WC.skip ?_ | refine WC.block ?_ | refine WC.condT rfl ?_ | refine WC.condF rfl ?_ | refine WL.off rfl rfl rfl ?_ | refine WL.off0 rfl rfl ?_ | refine WC.exit ?_ | refine blk_hit ?_ | refine blk_miss rfl ?_ | refine WC.ret ?_)
  refine WC.loop (Nat × Nat) (fun (i, j) => [(0, .slice a l.length cap), (2, .func (.func 74) #[] #[]), (4, .pointer (some ⟨b4, 0, none⟩)), (8, .int .i64 (l.length : Nat)), (9, .int .i64 (i : Nat)), (10, .int .i64 (j : Nat))])
    (fun (i, j) w' => i ≤ j ∧ j ≤ l.length ∧ (∀ (q : Nat) (h : q < l.length), q < i → ordR l[q] r < 0) ∧ (∀ (q : Nat) (h : q < l.length), j ≤ q → ¬ ordR l[q] r < 0) ∧ Hp w w' [Bx b4 r]) (fun (i, j) => j - i) (0, l.length) ⟨rfl, rfl, rfl, rfl, rfl, rfl, rfl⟩
    ⟨Nat.zero_le _, Nat.le_refl _, fun q h hq => absurd hq (Nat.not_lt_zero q), fun q h hq => absurd hq (by omega), hp1⟩ ?_
  clear hp1 hb4 w1
  rintro ⟨i, j⟩ w1 ⟨hij, hj, hlo, hhi, hp1⟩
  repeat (first | refine WC.seq ?_ | refine WC.reg ?_ | refine WL.pure rfl rfl rfl ?_ | refine WL.nil ?_ | refine WC.skip ?_ | refine WC.block ?_ | refine WC.condT rfl ?_ | refine WC.condF rfl ?_ | refine WL.off rfl rfl rfl ?_ | refine WL.off0 rfl rfl ?_ | refine WC.exit ?_ | refine blk_hit ?_ | refine blk_miss rfl ?_ | refine WC.ret ?_)
  refine WC.cond rfl (fun hc => ?_) (fun hc => ?_)
  · have hij : i < j := by have := of_decide_eq_true hc; omega
    obtain ⟨ab, ao, rfl⟩ := rcs_some hs (by omega)
    repeat (first | refine WC.seq ?_ | refine WC.reg ?_ | refine WL.pure rfl rfl rfl ?_ | refine WL.nil ?_ | refine WC.skip ?_ | refine WC.block ?_ | refine WC.condT rfl ?_ | refine WC.condF rfl ?_ | refine WL.off rfl rfl rfl ?_ | refine WL.off0 rfl rfl ?_ | refine WC.exit ?_ | refine blk_hit ?_ | refine blk_miss rfl ?_ | refine WC.ret ?_)
    refine WC.known (d := 11) (congrArg (fun z => some (Value.int .i64 z)) (half_eq (i := i) (j := j) (by omega) (by omega))) ?_
    have hh : i ≤ (i + j) / 2 ∧ (i + j) / 2 < j := by omega
    generalize (i + j) / 2 = h at hh ⊢
    refine WC.mid Bool (fun q => [(0, .slice (some ⟨ab, ao, none⟩) l.length cap), (2, .func (.func 74) #[] #[]), (4, .pointer (some ⟨b4, 0, none⟩)), (8, .int .i64 (l.length : Nat)), (9, .int .i64 (i : Nat)), (10, .int .i64 (j : Nat)), (11, .int .i64 (h : Nat)), (31, .bool q)])
      (fun q w' => (q = true ↔ ordR (l[h]'(by omega)) r < 0) ∧ Hp w w' [Bx b4 r]) ?_ ?_
    · refine WC.regQ (fun w' => Hp w w' [Bx b4 r]) mixed (by kernel_rfl) (fun w' hw' => hp1.keep hw') ?_
      repeat (first | refine WQ.pure rfl rfl rfl ?_ | refine WQ.off rfl rfl rfl ?_ | refine WQ.nil ?_)
      refine WQ.ixload2 rfl (fun _ => rfl) rfl rfl rfl rfl rfl rfl rfl (by omega) rfl rfl (fun _ hw => hs.hp hw) (by omega) ?_
      intro pp
      refine WQ.loadN (cs := rc r) rfl rfl rfl rfl rfl rfl (fun _ hw => box_cell hw) ?_
      refine WQ.call rfl rfl rfl rfl rfl ent74 byLeft_q ?_
      repeat (first | refine WQ.pure rfl rfl rfl ?_ | refine WQ.off rfl rfl rfl ?_ | refine WQ.nil ?_)
      intro w' hp'
      exact ⟨_, ⟨rfl, rfl, rfl, rfl, rfl, rfl, rfl, rfl, rfl⟩, ⟨of_decide_eq_true, fun h => decide_eq_true h⟩, hp'⟩
    · rintro q e2 w2 hsub ⟨hq, hp2⟩
      refine WC.sub hsub ?_
      repeat (first | refine WC.seq ?_ | refine WC.reg ?_ | refine WL.pure rfl rfl rfl ?_ | refine WL.nil ?_ | refine WC.skip ?_ | refine WC.block ?_ | refine WC.condT rfl ?_ | refine WC.condF rfl ?_ | refine WL.off rfl rfl rfl ?_ | refine WL.off0 rfl rfl ?_ | refine WC.exit ?_ | refine blk_hit ?_ | refine blk_miss rfl ?_ | refine WC.ret ?_)
      refine WC.cond rfl (fun hc => ?_) (fun hc => ?_)
      · have hh1 := hq.1 hc
        have step := wrap_succ hh.2 (by omega)
        repeat (first | refine WC.seq ?_ | refine WC.reg ?_ | refine WL.pure rfl rfl rfl ?_ | refine WL.nil ?_ | refine WC.skip ?_ | refine WC.block ?_ | refine WC.condT rfl ?_ | refine WC.condF rfl ?_ | refine WL.off rfl rfl rfl ?_ | refine WL.off0 rfl rfl ?_ | refine WC.exit ?_ | refine blk_hit ?_ | refine blk_miss rfl ?_ | refine WC.ret ?_)
        exact ⟨(h + 1, j), (by show j - (h + 1) < j - i; omega), ⟨rfl, rfl, rfl, rfl, congrArg (fun z => some (Value.int .i64 z)) step, rfl, rfl⟩, by omega, hj, fun q hq' hq => hm q h (by omega) hq' (by omega) hh1, hhi, hp2⟩
      · have hh1 : ¬ ordR (l[h]'(by omega)) r < 0 := fun h' => by rw [hq.2 h'] at hc; cases hc
        repeat (first | refine WC.seq ?_ | refine WC.reg ?_ | refine WL.pure rfl rfl rfl ?_ | refine WL.nil ?_ | refine WC.skip ?_ | refine WC.block ?_ | refine WC.condT rfl ?_ | refine WC.condF rfl ?_ | refine WL.off rfl rfl rfl ?_ | refine WL.off0 rfl rfl ?_ | refine WC.exit ?_ | refine blk_hit ?_ | refine blk_miss rfl ?_ | refine WC.ret ?_)
        exact ⟨(i, h), (by show h - i < j - i; omega), ⟨rfl, rfl, rfl, rfl, rfl, rfl, rfl⟩, hh.1, by omega, hlo, fun q hq' hq h' => hh1 (hm h q hq' (by omega) hq h'), hp2⟩
  · obtain rfl : i = j := by have := of_decide_eq_false hc; omega
    repeat (first | refine WC.seq ?_ | refine WC.reg ?_ | refine WL.pure rfl rfl rfl ?_ | refine WL.nil ?_ | refine WC.skip ?_ | refine WC.block ?_ | refine WC.condT rfl ?_ | refine WC.condF rfl ?_ | refine WL.off rfl rfl rfl ?_ | refine WL.off0 rfl rfl ?_ | refine WC.exit ?_ | refine blk_hit ?_ | refine blk_miss rfl ?_ | refine WC.ret ?_)
    refine WC.mid Bool (fun q => [(6, .int .i64 (i : Nat)), (7, .bool q)])
      (fun q w' => (q = true ↔ ∃ h : i < l.length, ordR l[i] r = 0) ∧ Hp w w' [Bx b4 r]) ?_ ?_
    · refine WC.regQ (fun w' => Hp w w' [Bx b4 r]) mixed (by kernel_rfl) (fun w' hw' => hp1.keep hw') ?_
      repeat (first | refine WQ.pure rfl rfl rfl ?_ | refine WQ.off rfl rfl rfl ?_ | refine WQ.nil ?_)
      refine WQ.split 39 rfl (fun h1 => ?_) (fun h1 => ?_)
      · have h1 : i < l.length := by have := of_decide_eq_true h1; omega
        obtain ⟨ab, ao, rfl⟩ := rcs_some hs (by omega)
        repeat (first | refine WQ.pure rfl rfl rfl ?_ | refine WQ.off rfl rfl rfl ?_ | refine WQ.nil ?_)
        refine WQ.ixload2 rfl (fun _ => rfl) rfl rfl rfl rfl rfl rfl rfl (by omega) rfl rfl (fun _ hw => hs.hp hw) (by omega) ?_
        intro pp
        refine WQ.loadN (cs := rc r) rfl rfl rfl rfl rfl rfl (fun _ hw => box_cell hw) ?_
        refine WQ.call rfl rfl rfl rfl rfl ent74 byLeft_q ?_
        repeat (first | refine WQ.pure rfl rfl rfl ?_ | refine WQ.off rfl rfl rfl ?_ | refine WQ.nil ?_)
        intro w' hp'
        exact ⟨_, ⟨rfl, rfl, rfl⟩, ⟨fun h => ⟨h1, by simpa using h⟩, fun h => by simpa using h.2⟩, hp'⟩
      · have h1 : ¬ i < l.length := by have := of_decide_eq_false h1; omega
        repeat (first | refine WQ.pure rfl rfl rfl ?_ | refine WQ.off rfl rfl rfl ?_ | refine WQ.nil ?_)
        intro w' hp'
        exact ⟨false, ⟨rfl, rfl, rfl⟩, ⟨fun h => (by cases h), fun h => absurd h.1 h1⟩, hp'⟩
    · rintro q e2 w2 hsub ⟨hq, hp2⟩
      refine WC.sub hsub ?_
      repeat (first | refine WC.seq ?_ | refine WC.reg ?_ | refine WL.pure rfl rfl rfl ?_ | refine WL.nil ?_ | refine WC.skip ?_ | refine WC.block ?_ | refine WC.condT rfl ?_ | refine WC.condF rfl ?_ | refine WL.off rfl rfl rfl ?_ | refine WL.off0 rfl rfl ?_ | refine WC.exit ?_ | refine blk_hit ?_ | refine blk_miss rfl ?_ | refine WC.ret ?_)
      exact Res.two rfl rfl rfl rfl ⟨i, q, hj, rfl, hlo, hhi, hq, hp2.tail⟩
end Go.Proofs.YtoghnhbjdnjghaaGreat
