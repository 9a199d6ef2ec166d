/- The walks of the reference's System and the law's same. -/
import Derived.Test.YtoghnhbjdnjghaaGreatV23a
namespace Go.Proofs.YtoghnhbjdnjghaaGreat
open Go.W Go.Words Go.RowKit
set_option maxRecDepth 100000
attribute [local irreducible] WC WL WQ WS WH

theorem rSystem_any (a : Option Addr) (cap : Nat) (l : List Rl) (hlen : l.length ≤ 1000000) (hm : Sm 9223372036854775807 l) (w : World) (hs : Sl w a (rcs l)) :
    Ret Tryz.prog 14 [.slice a l.length cap] w fun u w' => u = .bool (sysB l) ∧ Hp w w' [] := by
  have hsys : ∀ {Q : Rl → Bool}, (Q = fun r => eqnB r && decide (0 < ordS r.1 r.2)) → sysB l = (decide (l.length ≤ 64) && l.all Q) := by rintro Q rfl; rfl
  obtain ⟨Q, hQ⟩ : ∃ Q : Rl → Bool, Q = fun r => eqnB r && decide (0 < ordS r.1 r.2) := ⟨_, rfl⟩
  rw [hsys hQ]
  refine enter Tryz.func14 rfl rfl ⟨rfl, rfl⟩ rfl ?_
  repeat (first | refine WC.seq ?_ | refine WC.reg ?_ | refine WL.pure rfl rfl rfl ?_ | refine WL.nil ?_ | refine WC.skip ?_ | refine WC.block ?_ | refine WC.condT rfl ?_ | refine WC.condF rfl ?_ | refine WL.off rfl rfl rfl ?_ | refine WL.off0 rfl rfl ?_ | refine WC.exit ?_ | refine blk_hit ?_ | refine blk_miss rfl ?_ | refine WC.ret ?_)
  refine WC.loop Nat (fun i => [(0, .slice a l.length cap), (3, .int .i64 (i : Nat))]) (fun i w' => i ≤ l.length ∧ (l.take i).all Q = true ∧ Hp w w' []) (fun i => l.length - i) 0 ⟨rfl, rfl, rfl⟩ ⟨Nat.zero_le _, rfl, Hp.start w⟩ ?_
  rintro i w1 ⟨hi, hall, hp1⟩
  repeat (first | refine WC.seq ?_ | refine WC.reg ?_ | refine WL.pure rfl rfl rfl ?_ | refine WL.nil ?_ | refine WC.skip ?_ | refine WC.block ?_ | refine WC.condT rfl ?_ | refine WC.condF rfl ?_ | refine WL.off rfl rfl rfl ?_ | refine WL.off0 rfl rfl ?_ | refine WC.exit ?_ | refine blk_hit ?_ | refine blk_miss rfl ?_ | refine WC.ret ?_)
  refine WC.cond rfl (fun hc => ?_) (fun hc => ?_)
  · have hi : i < l.length := by have := of_decide_eq_true hc; omega
    have step := wrap_succ hi (by omega)
    have hsz := hm.at_ hi
    obtain ⟨b, o, rfl⟩ := rcs_some hs (by omega)
    have hq : Q l[i] = (eqnB l[i] && decide (0 < ordS l[i].1 l[i].2)) := by rw [hQ]
    have hnext : Q l[i] = true → (l.take (i + 1)).all Q = true := fun h => by
      rw [List.take_succ_eq_append_getElem hi, List.all_append, hall, List.all_cons, h]; rfl
    have hbad : Q l[i] = false → l.all Q = false := fun h => by
      rw [List.all_eq_false]
      exact ⟨l[i], List.getElem_mem hi, by rw [h]; decide⟩
    repeat (first | refine WC.seq ?_ | refine WC.reg ?_ | refine WL.pure rfl rfl rfl ?_ | refine WL.nil ?_ | refine WC.skip ?_ | refine WC.block ?_ | refine WC.condT rfl ?_ | refine WC.condF rfl ?_ | refine WL.off rfl rfl rfl ?_ | refine WL.off0 rfl rfl ?_ | refine WC.exit ?_ | refine blk_hit ?_ | refine blk_miss rfl ?_ | refine WC.ret ?_)
    refine WC.mid Bool (fun q => [(0, .slice (some ⟨b, o, none⟩) l.length cap), (3, .int .i64 (i : Nat)), (29, .bool q)]) (fun q w' => q = !Q l[i] ∧ Hp w w' []) ?_ ?_
    · refine WC.regQ (fun w' => Hp w w' []) mixed (by kernel_rfl) (fun w' hw' => hp1.keep hw') ?_
      repeat (first | refine WQ.pure rfl rfl rfl ?_ | refine WQ.off rfl rfl rfl ?_ | refine WQ.nil ?_)
      refine WQ.ixload2 rfl (fun _ => rfl) rfl rfl rfl rfl rfl rfl rfl hi rfl rfl (fun _ hw => hs.hp hw) hi ?_
      intro pp
      refine WQ.call rfl rfl rfl rfl rfl ent36 (fun w' hw' => (rEquation_any l[i] hsz.1 hsz.2 w').mono fun u w'' ⟨h1, h2⟩ => ⟨h1, hw'.over h2⟩) ?_
      repeat (first | refine WQ.pure rfl rfl rfl ?_ | refine WQ.off rfl rfl rfl ?_ | refine WQ.nil ?_)
      refine WQ.split 16 rfl (fun h1 => ?_) (fun h1 => ?_)
      · have h1 : eqnB l[i] = false := by simpa using h1
        repeat (first | refine WQ.pure rfl rfl rfl ?_ | refine WQ.off rfl rfl rfl ?_ | refine WQ.nil ?_)
        intro w' hw'
        exact ⟨true, ⟨rfl, rfl, rfl, rfl⟩, by rw [hq, h1]; rfl, hw'⟩
      · have h1 : eqnB l[i] = true := by simpa using h1
        repeat (first | refine WQ.pure rfl rfl rfl ?_ | refine WQ.off rfl rfl rfl ?_ | refine WQ.nil ?_)
        refine WQ.ix rfl rfl rfl rfl rfl rfl (j := i) hi ?_
        repeat (first | refine WQ.pure rfl rfl rfl ?_ | refine WQ.off rfl rfl rfl ?_ | refine WQ.nil ?_)
        refine WQ.load rfl rfl rfl rfl rfl (fun w' hw' => rcs_cell (hs.hp hw') hi (q := 0) rfl) ?_
        repeat (first | refine WQ.pure rfl rfl rfl ?_ | refine WQ.off rfl rfl rfl ?_ | refine WQ.nil ?_)
        refine WQ.ix rfl rfl rfl rfl rfl rfl (j := i) hi ?_
        repeat (first | refine WQ.pure rfl rfl rfl ?_ | refine WQ.off rfl rfl rfl ?_ | refine WQ.nil ?_)
        refine WQ.load rfl rfl rfl rfl rfl (fun w' hw' => rcs_cell (hs.hp hw') hi (q := 1) rfl) ?_
        refine WQ.call rfl rfl rfl rfl rfl ent37 (fun w' hw' => (rGreater_any l[i].1 l[i].2 w').mono fun u w'' ⟨h1, h2⟩ => ⟨h1, by rw [h2]; exact hw'⟩) ?_
        repeat (first | refine WQ.pure rfl rfl rfl ?_ | refine WQ.off rfl rfl rfl ?_ | refine WQ.nil ?_)
        intro w' hw'
        exact ⟨_, ⟨rfl, rfl, rfl, rfl⟩, by rw [hq, h1]; rfl, hw'⟩
    · rintro q e2 w2 hsub ⟨hqq, hp2⟩
      refine WC.sub hsub ?_
      refine WC.cond rfl (fun h1 => ?_) (fun h1 => ?_)
      · have hb : Q l[i] = false := by rw [h1] at hqq; simpa using hqq.symm
        repeat (first | refine WC.seq ?_ | refine WC.reg ?_ | refine WL.pure rfl rfl rfl ?_ | refine WL.nil ?_ | refine WC.skip ?_ | refine WC.block ?_ | refine WC.condT rfl ?_ | refine WC.condF rfl ?_ | refine WL.off rfl rfl rfl ?_ | refine WL.off0 rfl rfl ?_ | refine WC.exit ?_ | refine blk_hit ?_ | refine blk_miss rfl ?_ | refine WC.ret ?_)
        exact Res.one rfl rfl rfl ⟨by rw [hbad hb, Bool.and_false], hp2⟩
      · have hb : Q l[i] = true := by rw [h1] at hqq; simpa using hqq.symm
        repeat (first | refine WC.seq ?_ | refine WC.reg ?_ | refine WL.pure rfl rfl rfl ?_ | refine WL.nil ?_ | refine WC.skip ?_ | refine WC.block ?_ | refine WC.condT rfl ?_ | refine WC.condF rfl ?_ | refine WL.off rfl rfl rfl ?_ | refine WL.off0 rfl rfl ?_ | refine WC.exit ?_ | refine blk_hit ?_ | refine blk_miss rfl ?_ | refine WC.ret ?_)
        exact ⟨i + 1, by omega, ⟨rfl, congrArg (fun z => some (Value.int .i64 z)) step, rfl⟩, by omega, hnext hb, hp2⟩
  · have hi : l.length ≤ i := by have := of_decide_eq_false hc; omega
    rw [List.take_of_length_le hi] at hall
    repeat (first | refine WC.seq ?_ | refine WC.reg ?_ | refine WL.pure rfl rfl rfl ?_ | refine WL.nil ?_ | refine WC.skip ?_ | refine WC.block ?_ | refine WC.condT rfl ?_ | refine WC.condF rfl ?_ | refine WL.off rfl rfl rfl ?_ | refine WL.off0 rfl rfl ?_ | refine WC.exit ?_ | refine blk_hit ?_ | refine blk_miss rfl ?_ | refine WC.ret ?_)
    refine Res.one rfl rfl rfl ⟨?_, hp1⟩
    rw [hall, Bool.and_true]
    congr 1
    rw [Bool.eq_iff_iff, decide_eq_true_iff, decide_eq_true_iff]
    omega
theorem same_any (a a2 : Option Addr) (cap cap2 : Nat) (l m : List Rl) (hl : l.length ≤ 1000000) (w : World) (hs : Sl w a (rcs l)) (hs2 : Sl w a2 (rcs m)) :
    Ret Tryz.prog 13 [.slice a l.length cap, .slice a2 m.length cap2] w fun u w' => u = .bool (decide (l = m)) ∧ Hp w w' [] := by
  refine enter Tryz.func13 rfl rfl ⟨rfl, rfl⟩ rfl ?_
  repeat (first | refine WC.seq ?_ | refine WC.reg ?_ | refine WL.pure rfl rfl rfl ?_ | refine WL.nil ?_ | refine WC.skip ?_ | refine WC.block ?_ | refine WC.condT rfl ?_ | refine WC.condF rfl ?_ | refine WL.off rfl rfl rfl ?_ | refine WL.off0 rfl rfl ?_ | refine WC.exit ?_ | refine blk_hit ?_ | refine blk_miss rfl ?_ | refine WC.ret ?_)
  refine WC.cond rfl (fun h1 => ?_) (fun h1 => ?_)
  · have h1 : l ≠ m := fun h => by
      have h1 : (((l.length : Nat) : Int) != ((m.length : Nat) : Int)) = true := h1
      rw [h] at h1
      simp at h1
    repeat (first | refine WC.seq ?_ | refine WC.reg ?_ | refine WL.pure rfl rfl rfl ?_ | refine WL.nil ?_ | refine WC.skip ?_ | refine WC.block ?_ | refine WC.condT rfl ?_ | refine WC.condF rfl ?_ | refine WL.off rfl rfl rfl ?_ | refine WL.off0 rfl rfl ?_ | refine WC.exit ?_ | refine blk_hit ?_ | refine blk_miss rfl ?_ | refine WC.ret ?_)
    exact Res.one rfl rfl rfl ⟨by rw [decide_eq_false h1], Hp.start w⟩
  · have h1 : l.length = m.length := by
      have h1 : (((l.length : Nat) : Int) != ((m.length : Nat) : Int)) = false := h1
      simp at h1
      omega
    repeat (first | refine WC.seq ?_ | refine WC.reg ?_ | refine WL.pure rfl rfl rfl ?_ | refine WL.nil ?_ | refine WC.skip ?_ | refine WC.block ?_ | refine WC.condT rfl ?_ | refine WC.condF rfl ?_ | refine WL.off rfl rfl rfl ?_ | refine WL.off0 rfl rfl ?_ | refine WC.exit ?_ | refine blk_hit ?_ | refine blk_miss rfl ?_ | refine WC.ret ?_)
    refine WC.loop Nat (fun i => [(0, .slice a l.length cap), (1, .slice a2 m.length cap2), (5, .int .i64 (i : Nat))]) (fun i w' => i ≤ l.length ∧ l.take i = m.take i ∧ Hp w w' []) (fun i => l.length - i) 0 ⟨rfl, rfl, rfl, rfl⟩ ⟨Nat.zero_le _, rfl, Hp.start w⟩ ?_
    rintro i w1 ⟨hi, hT, hp1⟩
    repeat (first | refine WC.seq ?_ | refine WC.reg ?_ | refine WL.pure rfl rfl rfl ?_ | refine WL.nil ?_ | refine WC.skip ?_ | refine WC.block ?_ | refine WC.condT rfl ?_ | refine WC.condF rfl ?_ | refine WL.off rfl rfl rfl ?_ | refine WL.off0 rfl rfl ?_ | refine WC.exit ?_ | refine blk_hit ?_ | refine blk_miss rfl ?_ | refine WC.ret ?_)
    refine WC.cond rfl (fun hc => ?_) (fun hc => ?_)
    · have hi : i < l.length := by have := of_decide_eq_true hc; omega
      have hi2 : i < m.length := by omega
      have step := wrap_succ hi (by omega)
      obtain ⟨b, o, rfl⟩ := rcs_some hs (by omega)
      obtain ⟨b2, o2, rfl⟩ := rcs_some hs2 (by omega)
      repeat (first | refine WC.seq ?_ | refine WC.reg ?_ | refine WL.pure rfl rfl rfl ?_ | refine WL.nil ?_ | refine WC.skip ?_ | refine WC.block ?_ | refine WC.condT rfl ?_ | refine WC.condF rfl ?_ | refine WL.off rfl rfl rfl ?_ | refine WL.off0 rfl rfl ?_ | refine WC.exit ?_ | refine blk_hit ?_ | refine blk_miss rfl ?_ | refine WC.ret ?_)
      refine WC.mid Bool (fun q => [(0, .slice (some ⟨b, o, none⟩) l.length cap), (1, .slice (some ⟨b2, o2, none⟩) m.length cap2), (5, .int .i64 (i : Nat)), (25, .bool q)]) (fun q w' => q = !decide (l[i] = m[i]) ∧ Hp w w' []) ?_ ?_
      · refine WC.regQ (fun w' => Hp w w' []) mixed (by kernel_rfl) (fun w' hw' => hp1.keep hw') ?_
        repeat (first | refine WQ.pure rfl rfl rfl ?_ | refine WQ.off rfl rfl rfl ?_ | refine WQ.nil ?_)
        refine WQ.ixload2 rfl (fun _ => rfl) rfl rfl rfl rfl rfl rfl rfl hi rfl rfl (fun _ hw => hs.hp hw) hi ?_
        intro pp
        repeat (first | refine WQ.pure rfl rfl rfl ?_ | refine WQ.off rfl rfl rfl ?_ | refine WQ.nil ?_)
        refine WQ.ixload2 rfl (fun _ => rfl) rfl rfl rfl rfl rfl rfl rfl hi2 rfl rfl (fun _ hw => hs2.hp hw) hi2 ?_
        intro pp2
        refine WQ.sEqR rfl rfl rfl rfl rfl rfl (by decide) (by decide) rfl rfl (by kernel_rfl) (by kernel_rfl) rfl rfl (.inr ⟨rfl, rfl⟩) ?_
        repeat (first | refine WQ.pure rfl rfl rfl ?_ | refine WQ.off rfl rfl rfl ?_ | refine WQ.nil ?_)
        intro w' hp'
        exact ⟨_, ⟨rfl, rfl, rfl, rfl, rfl⟩, by rw [eq2], hp'⟩
      · rintro q e2 w2 hsub ⟨hqq, hp2⟩
        refine WC.sub hsub ?_
        refine WC.cond rfl (fun h2 => ?_) (fun h2 => ?_)
        · have hne : l[i] ≠ m[i] := fun h => by rw [h2, decide_eq_true h] at hqq; cases hqq
          have hlm : l ≠ m := fun h => by subst h; exact hne rfl
          repeat (first | refine WC.seq ?_ | refine WC.reg ?_ | refine WL.pure rfl rfl rfl ?_ | refine WL.nil ?_ | refine WC.skip ?_ | refine WC.block ?_ | refine WC.condT rfl ?_ | refine WC.condF rfl ?_ | refine WL.off rfl rfl rfl ?_ | refine WL.off0 rfl rfl ?_ | refine WC.exit ?_ | refine blk_hit ?_ | refine blk_miss rfl ?_ | refine WC.ret ?_)
          exact Res.one rfl rfl rfl ⟨by rw [decide_eq_false hlm], hp2⟩
        · have heq : l[i] = m[i] := by
            by_cases h : l[i] = m[i]
            · exact h
            · rw [h2, decide_eq_false h] at hqq; cases hqq
          repeat (first | refine WC.seq ?_ | refine WC.reg ?_ | refine WL.pure rfl rfl rfl ?_ | refine WL.nil ?_ | refine WC.skip ?_ | refine WC.block ?_ | refine WC.condT rfl ?_ | refine WC.condF rfl ?_ | refine WL.off rfl rfl rfl ?_ | refine WL.off0 rfl rfl ?_ | refine WC.exit ?_ | refine blk_hit ?_ | refine blk_miss rfl ?_ | refine WC.ret ?_)
          exact ⟨i + 1, by omega, ⟨rfl, rfl, congrArg (fun z => some (Value.int .i64 z)) step, rfl⟩, by omega, by rw [List.take_succ_eq_append_getElem hi, List.take_succ_eq_append_getElem hi2, hT, heq], hp2⟩
    · have hi : l.length ≤ i := by have := of_decide_eq_false hc; omega
      rw [List.take_of_length_le hi, List.take_of_length_le (by omega)] at hT
      repeat (first | refine WC.seq ?_ | refine WC.reg ?_ | refine WL.pure rfl rfl rfl ?_ | refine WL.nil ?_ | refine WC.skip ?_ | refine WC.block ?_ | refine WC.condT rfl ?_ | refine WC.condF rfl ?_ | refine WL.off rfl rfl rfl ?_ | refine WL.off0 rfl rfl ?_ | refine WC.exit ?_ | refine blk_hit ?_ | refine blk_miss rfl ?_ | refine WC.ret ?_)
      exact Res.one rfl rfl rfl ⟨by rw [decide_eq_true hT], hp1⟩
end Go.Proofs.YtoghnhbjdnjghaaGreat
