/- The law's mod and replaced. -/
import Derived.Test.YtoghnhbjdnjghaaV38a
namespace Go.Words
open Go.W
def modN (x : Int) (n : Nat) : Nat := (x % 18446744073709551616).toNat % n
theorem modN_lt {n : Nat} (h : 0 < n) (x : Int) : modN x n < n := Nat.mod_lt _ h
/-- What the occurrences at a place may become. -/
def occM (l : List Rl) (s : Str) (i : Nat) : List Str := l.flatMap fun r => if r.1.isPrefixOf (s.drop i) then [replM s i r] else []
def allM (l : List Rl) (s : Str) (m : Nat) : List Str := (List.range m).flatMap (occM l s)
theorem occM_succ {l : List Rl} {s : Str} {i k : Nat} (hk : k < l.length) : occM (l.take (k + 1)) s i = occM (l.take k) s i ++ (if l[k].1.isPrefixOf (s.drop i) then [replM s i l[k]] else []) := by
  unfold occM
  rw [List.take_succ_eq_append_getElem hk, List.flatMap_append, List.flatMap_singleton]
theorem allM_succ {l : List Rl} {s : Str} {i : Nat} : allM l s (i + 1) = allM l s i ++ occM l s i := by
  unfold allM
  rw [List.range_succ, List.flatMap_append, List.flatMap_singleton]
theorem occM_len (l : List Rl) (s : Str) (i : Nat) : (occM l s i).length ≤ l.length := by
  unfold occM
  induction l with
  | nil => exact Nat.le_refl _
  | cons r l ih =>
    have h1 : (if r.1.isPrefixOf (s.drop i) then [replM s i r] else [] : List Str).length ≤ 1 := by
      split
      · exact Nat.le_refl _
      · exact Nat.zero_le _
    rw [List.flatMap_cons, List.length_append, List.length_cons]
    exact Nat.le_trans (Nat.add_le_add h1 ih) (by omega)
theorem allM_len (l : List Rl) (s : Str) (m : Nat) : (allM l s m).length ≤ m * l.length := by
  induction m with
  | zero => exact Nat.zero_le _
  | succ m ih =>
    rw [allM_succ, List.length_append, Nat.add_mul, Nat.one_mul]
    have := occM_len l s m
    omega
theorem allM_stp {l : List Rl} {s t : Str} (h : t ∈ allM l s s.length) : Stp l s t := by
  unfold allM at h
  obtain ⟨i, hi, h⟩ := List.mem_flatMap.1 h
  unfold occM at h
  obtain ⟨r, hr, h⟩ := List.mem_flatMap.1 h
  split at h
  · rename_i hp
    obtain rfl := List.mem_singleton.1 h
    obtain ⟨y, hy⟩ := List.isPrefixOf_iff_prefix.1 hp
    refine ⟨s.take i, r, y, hr, by rw [hy, List.take_append_drop], ?_⟩
    unfold replM
    rw [← List.drop_drop, ← hy, List.drop_left]
  · cases h
theorem allM_nil {l : List Rl} {s : Str} : allM l s s.length = [] ↔ firstM l s = none := by
  constructor
  · intro h
    cases hf : firstM l s with
    | none => rfl
    | some p =>
      obtain ⟨i, r⟩ := p
      obtain ⟨h1, h2, h3⟩ := firstM_some hf
      have : replM s i r ∈ allM l s s.length := by
        unfold allM
        rw [List.mem_flatMap]
        refine ⟨i, List.mem_range.2 h2, ?_⟩
        unfold occM
        rw [List.mem_flatMap]
        exact ⟨r, h1, by rw [if_pos (List.isPrefixOf_iff_prefix.2 h3)]; exact List.mem_singleton.2 rfl⟩
      rw [h] at this
      cases this
  · intro h
    have h1 := firstM_nohit h
    unfold allM
    rw [List.flatMap_eq_nil_iff]
    intro i hi
    unfold occM
    rw [List.flatMap_eq_nil_iff]
    intro r hr
    have := hit_nopre (h1 i (List.mem_range.1 hi)) hr
    rw [if_neg (fun h2 => this (List.isPrefixOf_iff_prefix.1 h2))]
/-- What the law's replaced says. -/
def ReplP (l : List Rl) (s : Str) (w : World) (u : Value) (w' : World) : Prop := Hp w w' [] ∧ ((firstM l s = none ∧ u = .tuple #[st s, .bool false]) ∨ ∃ t, firstM l s ≠ none ∧ Stp l s t ∧ u = .tuple #[st t, .bool true])
end Go.Words
namespace Go.Proofs.Ytoghnhbjdnjghaa
open Go.W Go.Words Go.RowKit
set_option maxRecDepth 100000
attribute [local irreducible] WC WL WQ WS WH

theorem modO_any (x : Int) (n : Nat) (h0 : 0 < n) (hn : n < 100000000) : Pur Try.prog 15 [.int .i64 x, .int .i64 (n : Nat)] (.int .i64 (modN x n : Nat)) := by
  intro w
  refine enter Try.func15 rfl rfl ⟨rfl, rfl⟩ rfl ?_
  have e1 : IntKind.u64.wrap x = (((x % 18446744073709551616).toNat : Nat) : Int) := by rw [IntKind.wrap_u64]; omega
  have e2 : IntKind.u64.wrap (n : Int) = ((n : Nat) : Int) := by rw [IntKind.wrap_u64]; omega
  repeat (first | refine WC.seq ?_ | refine WC.reg ?_ | refine WL.pure rfl rfl rfl ?_ | refine WL.nil ?_ | refine WC.skip ?_ | refine WC.block ?_ | refine WC.condT rfl ?_ | refine WC.condF rfl ?_ | refine WL.off rfl rfl rfl ?_ | refine WL.off0 rfl rfl ?_ | refine WC.exit ?_ | refine blk_hit ?_ | refine blk_miss rfl ?_ | refine WC.ret ?_)
  refine WL.known (d := 6) (congrArg (fun z => some (Value.int .u64 z)) e1) ?_
  refine WL.known (d := 8) (congrArg (fun z => some (Value.int .u64 z)) e2) ?_
  refine WL.rem rfl rfl rfl rfl (by omega) ?_
  repeat (first | refine WC.seq ?_ | refine WC.reg ?_ | refine WL.pure rfl rfl rfl ?_ | refine WL.nil ?_ | refine WC.skip ?_ | refine WC.block ?_ | refine WC.condT rfl ?_ | refine WC.condF rfl ?_ | refine WL.off rfl rfl rfl ?_ | refine WL.off0 rfl rfl ?_ | refine WC.exit ?_ | refine blk_hit ?_ | refine blk_miss rfl ?_ | refine WC.ret ?_)
  refine Res.one rfl rfl rfl ⟨?_, rfl⟩
  have h1 : (((x % 18446744073709551616).toNat : Nat) : Int).tmod (n : Int) = ((modN x n : Nat) : Int) := (Int.ofNat_tmod _ _).symm
  have h2 := modN_lt h0 x
  rw [h1, wrap_i64_in (by omega) (by omega)]

set_option maxHeartbeats 1000000 in
theorem replacedO_any (a : Option Addr) (cap : Nat) (l : List Rl) (s : Str) (z : Int) (hl : l.length ≤ 1000) (hm : Sm 1000 l) (hsl : s.length ≤ 1000) (w : World) (hs : Sl w a (rcs l)) :
    Ret Try.prog 14 [.slice a l.length cap, st s, .int .i64 z] w (ReplP l s w) := by
  refine enter Try.func14 rfl rfl ⟨rfl, rfl⟩ rfl ?_
  repeat (first | refine WC.seq ?_ | refine WC.reg ?_ | refine WL.pure rfl rfl rfl ?_ | refine WL.nil ?_ | refine WC.skip ?_ | refine WC.block ?_ | refine WC.condT rfl ?_ | refine WC.condF rfl ?_ | refine WL.off rfl rfl rfl ?_ | refine WL.off0 rfl rfl ?_ | refine WC.exit ?_ | refine blk_hit ?_ | refine blk_miss rfl ?_ | refine WC.ret ?_)
  refine WC.loop (Nat × Option Addr × Nat × List Str) (fun (i, va, vc, P) => [(0, .slice a l.length cap), (1, st s), (2, .int .i64 z), (8, .slice va P.length vc), (9, .int .i64 (i : Nat))])
    (fun (i, va, vc, P) w' => i ≤ s.length ∧ P = allM l s i ∧ Hp w w' [Rs (.slice va P.length vc) P]) (fun (i, _) => s.length - i) (0, none, 0, []) ⟨rfl, rfl, rfl, rfl, rfl, rfl⟩ ⟨Nat.zero_le _, rfl, (Hp.start w).nilrow _ _⟩ ?_
  rintro ⟨i, va, vc, P⟩ w1 ⟨hi, hP, hp1⟩
  repeat (first | refine WC.seq ?_ | refine WC.reg ?_ | refine WL.pure rfl rfl rfl ?_ | refine WL.nil ?_ | refine WC.skip ?_ | refine WC.block ?_ | refine WC.condT rfl ?_ | refine WC.condF rfl ?_ | refine WL.off rfl rfl rfl ?_ | refine WL.off0 rfl rfl ?_ | refine WC.exit ?_ | refine blk_hit ?_ | refine blk_miss rfl ?_ | refine WC.ret ?_)
  refine WC.cond rfl (fun hc => ?_) (fun hc => ?_)
  · have hi : i < s.length := by have := of_decide_eq_true hc; rw [sb_size] at this; omega
    have stepi := wrap_succ hi (by omega)
    repeat (first | refine WC.seq ?_ | refine WC.reg ?_ | refine WL.pure rfl rfl rfl ?_ | refine WL.nil ?_ | refine WC.skip ?_ | refine WC.block ?_ | refine WC.condT rfl ?_ | refine WC.condF rfl ?_ | refine WL.off rfl rfl rfl ?_ | refine WL.off0 rfl rfl ?_ | refine WC.exit ?_ | refine blk_hit ?_ | refine blk_miss rfl ?_ | refine WC.ret ?_)
    refine WC.loop (Nat × Option Addr × Nat × List Str) (fun (k, va, vc, P) => [(0, .slice a l.length cap), (1, st s), (2, .int .i64 z), (8, .slice va P.length vc), (9, .int .i64 (i : Nat)), (10, .int .i64 (k : Nat))])
      (fun (k, va, vc, P) w' => k ≤ l.length ∧ P = allM l s i ++ occM (l.take k) s i ∧ Hp w w' [Rs (.slice va P.length vc) P]) (fun (k, _) => l.length - k) (0, va, vc, P) ⟨rfl, rfl, rfl, rfl, rfl, rfl, rfl⟩ ⟨Nat.zero_le _, by rw [hP]; exact (List.append_nil _).symm, hp1⟩ ?_
    clear hP hp1
    rintro ⟨k, va, vc, P⟩ w2 ⟨hk, hP, hp2⟩
    repeat (first | refine WC.seq ?_ | refine WC.reg ?_ | refine WL.pure rfl rfl rfl ?_ | refine WL.nil ?_ | refine WC.skip ?_ | refine WC.block ?_ | refine WC.condT rfl ?_ | refine WC.condF rfl ?_ | refine WL.off rfl rfl rfl ?_ | refine WL.off0 rfl rfl ?_ | refine WC.exit ?_ | refine blk_hit ?_ | refine blk_miss rfl ?_ | refine WC.ret ?_)
    refine WC.cond rfl (fun hc2 => ?_) (fun hc2 => ?_)
    · have hk : k < l.length := by have := of_decide_eq_true hc2; omega
      have stepk := wrap_succ hk (by omega)
      have hsz := hm.at_ hk
      have hsucc := occM_succ (s := s) (i := i) hk
      have hPl : P.length ≤ 2000000 := by
        rw [hP, List.length_append]
        have h1 := allM_len l s i
        have h2 := occM_len (l.take k) s i
        rw [List.length_take] at h2
        have h3 : i * l.length ≤ 1000 * 1000 := Nat.mul_le_mul (by omega) hl
        omega
      obtain ⟨b, o, rfl⟩ := rcs_some hs (by omega)
      have hs2 := hs.hp hp2
      have hadd : IntKind.i64.wrap (((i : Nat) : Int) + ((l[k].1.length : Nat) : Int)) = ((i + l[k].1.length : Nat) : Int) := by rw [wrap_i64_in (by omega) (by omega)]; omega
      have hpre := pre_take (t := l[k].1) (s := s.drop i)
      repeat (first | refine WC.seq ?_ | refine WC.reg ?_ | refine WL.pure rfl rfl rfl ?_ | refine WL.nil ?_ | refine WC.skip ?_ | refine WC.block ?_ | refine WC.condT rfl ?_ | refine WC.condF rfl ?_ | refine WL.off rfl rfl rfl ?_ | refine WL.off0 rfl rfl ?_ | refine WC.exit ?_ | refine blk_hit ?_ | refine blk_miss rfl ?_ | refine WC.ret ?_)
      refine WL.ix rfl rfl rfl rfl rfl (j := k) hk rfl ?_
      repeat (first | refine WC.seq ?_ | refine WC.reg ?_ | refine WL.pure rfl rfl rfl ?_ | refine WL.nil ?_ | refine WC.skip ?_ | refine WC.block ?_ | refine WC.condT rfl ?_ | refine WC.condF rfl ?_ | refine WL.off rfl rfl rfl ?_ | refine WL.off0 rfl rfl ?_ | refine WC.exit ?_ | refine blk_hit ?_ | refine blk_miss rfl ?_ | refine WC.ret ?_)
      refine WL.load rfl rfl rfl rfl rfl (rcs_cell hs2 hk (q := 0) rfl) ?_
      repeat (first | refine WC.seq ?_ | refine WC.reg ?_ | refine WL.pure rfl rfl rfl ?_ | refine WL.nil ?_ | refine WC.skip ?_ | refine WC.block ?_ | refine WC.condT rfl ?_ | refine WC.condF rfl ?_ | refine WL.off rfl rfl rfl ?_ | refine WL.off0 rfl rfl ?_ | refine WC.exit ?_ | refine blk_hit ?_ | refine blk_miss rfl ?_ | refine WC.ret ?_)
      refine WC.mid Bool (fun q => [(0, .slice (some ⟨b, o, none⟩) l.length cap), (1, st s), (2, .int .i64 z), (8, .slice va P.length vc), (9, .int .i64 (i : Nat)), (10, .int .i64 (k : Nat)), (11, .int .i64 (l[k].1.length : Nat)), (49, .bool q)])
        (fun q w' => q = l[k].1.isPrefixOf (s.drop i) ∧ (q = true → i + l[k].1.length ≤ s.length) ∧ Hp w w' [Rs (.slice va P.length vc) P]) ?_ ?_
      · refine WC.regQ (fun w' => Hp w w' [Rs (.slice va P.length vc) P]) mixed (by kernel_rfl) (fun w' hw' => hp2.keep hw') ?_
        repeat (first | refine WQ.pure rfl rfl rfl ?_ | refine WQ.off rfl rfl rfl ?_ | refine WQ.nil ?_)
        refine WQ.split 36 rfl (fun h1 => ?_) (fun h1 => ?_)
        · have h1 : i + l[k].1.length ≤ s.length := by
            have h2 := of_decide_eq_true h1
            rw [sb_size, sb_size, hadd] at h2
            omega
          repeat (first | refine WQ.pure rfl rfl rfl ?_ | refine WQ.off rfl rfl rfl ?_ | refine WQ.nil ?_)
          refine WQ.known (d := 41) (congrArg (fun z => some (Value.int .i64 z)) hadd) ?_
          refine WQ.sSl (a := i) (b := i + l[k].1.length) rfl rfl rfl rfl rfl rfl (by omega) h1 ?_
          repeat (first | refine WQ.pure rfl rfl rfl ?_ | refine WQ.off rfl rfl rfl ?_ | refine WQ.nil ?_)
          refine WQ.ix rfl rfl rfl rfl rfl rfl (j := k) hk ?_
          repeat (first | refine WQ.pure rfl rfl rfl ?_ | refine WQ.off rfl rfl rfl ?_ | refine WQ.nil ?_)
          refine WQ.load rfl rfl rfl rfl rfl (fun w' hw' => rcs_cell (hs.hp hw') hk (q := 0) rfl) ?_
          refine WQ.sCmp rfl rfl rfl rfl rfl ?_
          repeat (first | refine WQ.pure rfl rfl rfl ?_ | refine WQ.off rfl rfl rfl ?_ | refine WQ.nil ?_)
          intro w' hw'
          refine ⟨_, ⟨rfl, rfl, rfl, rfl, rfl, rfl, rfl, rfl, rfl⟩, ?_, fun _ => h1, hw'⟩
          rw [hpre, Bool.eq_iff_iff, decide_eq_true_iff, decide_eq_true_iff, Nat.add_sub_cancel_left]
          exact eq_comm
        · have h1 : ¬ i + l[k].1.length ≤ s.length := by
            have h2 := of_decide_eq_false h1
            rw [sb_size, sb_size, hadd] at h2
            omega
          repeat (first | refine WQ.pure rfl rfl rfl ?_ | refine WQ.off rfl rfl rfl ?_ | refine WQ.nil ?_)
          intro w' hw'
          refine ⟨false, ⟨rfl, rfl, rfl, rfl, rfl, rfl, rfl, rfl, rfl⟩, ?_, fun h => (by cases h), hw'⟩
          symm
          rw [← Bool.not_eq_true]
          intro h
          have := (List.isPrefixOf_iff_prefix.1 h).length_le
          rw [List.length_drop] at this
          omega
      rintro q e3 w3 hsub ⟨hq, hqi, hp3⟩
      refine WC.sub hsub ?_
      clear hsub
      refine WC.cond rfl (fun h4 => ?_) (fun h4 => ?_)
      · have hqi := hqi h4
        rw [h4] at hq
        rw [← hq, if_pos rfl] at hsucc
        have hrl := replM_le (s := s) (i := i) (r := l[k])
        have hdef : replM s i l[k] = s.take i ++ l[k].2 ++ (s.drop (i + l[k].1.length)).take (s.length - (i + l[k].1.length)) := by
          unfold replM
          rw [List.take_of_length_le (i := s.length - (i + l[k].1.length)) (by rw [List.length_drop]; omega), List.append_assoc]
        have e1 : (P ++ [replM s i l[k]]).length = P.length + 1 := by rw [List.length_append]; rfl
        have hT : ∀ w', Hp w w' [Rs (.slice va P.length vc) P] → Hp w w' [] := fun w' h => h.nil'
        repeat (first | refine WC.seq ?_ | refine WC.skip ?_ | refine WC.block ?_)
        refine WC.mid (Option Addr × Nat) (fun (ra, rc1) => [(0, .slice (some ⟨b, o, none⟩) l.length cap), (1, st s), (2, .int .i64 z), (8, .slice ra (P ++ [replM s i l[k]]).length rc1), (9, .int .i64 (i : Nat)), (10, .int .i64 (k : Nat))]) (fun (ra, rc1) w' => Hp w w' [Rs (.slice ra (P ++ [replM s i l[k]]).length rc1) (P ++ [replM s i l[k]])]) ?_ ?_
        · refine WC.regH (fun w' => Hp w w' []) mixed (by kernel_rfl) (fun w3' hw3 hh3 => ?_)
          have hp3 := hp3.keep hw3
          refine WH.pure 0 (by kernel_rfl) rfl (by kernel_rfl) rfl rfl rfl (hT _ hp3) ?_
          refine WH.pure 1 (by kernel_rfl) rfl (by kernel_rfl) rfl rfl rfl (hT _ hp3) ?_
          refine WH.pure 2 (by kernel_rfl) rfl (by kernel_rfl) rfl rfl rfl (hT _ hp3) ?_
          refine WH.sSl (a := 0) (b := i) 3 (by kernel_rfl) rfl (by kernel_rfl) rfl rfl rfl rfl rfl rfl (Nat.zero_le _) (by omega) (hT _ hp3) ?_
          refine WH.pure 4 (by kernel_rfl) rfl (by kernel_rfl) rfl rfl rfl (hT _ hp3) ?_
          refine WH.pure 5 (by kernel_rfl) rfl (by kernel_rfl) rfl rfl rfl (hT _ hp3) ?_
          refine WH.ixS 6 (by kernel_rfl) rfl (by kernel_rfl) rfl rfl rfl rfl rfl rfl hk (hT _ hp3) ?_
          refine WH.pure 7 (by kernel_rfl) rfl (by kernel_rfl) rfl rfl rfl (hT _ hp3) ?_
          refine WH.load 8 (by kernel_rfl) rfl (by kernel_rfl) rfl rfl rfl rfl rfl (fun w' h => rcs_cell (hs.hp h) hk (q := 1) rfl) (hT _ hp3) ?_
          refine WH.sCat 9 (by kernel_rfl) rfl (by kernel_rfl) rfl rfl rfl rfl (by rw [List.length_take]; omega) (hT _ hp3) ?_
          refine WH.pure 10 (by kernel_rfl) rfl (by kernel_rfl) rfl rfl rfl (hT _ hp3) ?_
          refine WH.pure 11 (by kernel_rfl) rfl (by kernel_rfl) rfl rfl rfl (hT _ hp3) ?_
          refine WH.pure 12 (by kernel_rfl) rfl (by kernel_rfl) rfl rfl rfl (hT _ hp3) ?_
          refine WH.pure 13 (by kernel_rfl) rfl (by kernel_rfl) rfl rfl rfl (hT _ hp3) ?_
          refine WH.known (d := 63) (congrArg (fun z => some (Value.int .i64 z)) hadd) ?_
          refine WH.sSl (a := i + l[k].1.length) (b := s.length) 14 (by kernel_rfl) rfl (by kernel_rfl) rfl rfl rfl rfl rfl rfl hqi (Nat.le_refl _) (hT _ hp3) ?_
          refine WH.sCat 15 (by kernel_rfl) rfl (by kernel_rfl) rfl rfl rfl rfl (by simp only [List.length_append, List.length_take, List.length_drop]; omega) (hT _ hp3) ?_
          rw [List.drop_zero, Nat.sub_zero, ← hdef]
          generalize replM s i l[k] = x at *
          refine WH.one 16 rfl (by kernel_rfl) ?_
          refine WL.buildS (cs := [st x]) rfl rfl rfl rfl rfl rfl rfl rfl rfl ?_
          intro b6 w5 hb6
          have hp5 := hp3.new hb6
          refine WL.nil ⟨hp5.nil', ?_⟩
          refine WH.one 17 rfl (by kernel_rfl) ?_
          refine WL.append 1 hp5 rfl rfl rfl rfl rfl (by decide) rfl rfl rfl (news := [st x]) (Sl.of_obj (hp5.obj 0 rfl) (fun q u hq => by simpa using hq)) rfl (st_cells [x]) (by unfold maxLen; omega) (by show (P.length + 1) * 16 ≤ _; omega) ?_
          intro ra rc1 w6 hp6 hg6
          refine WL.nil ⟨hp6.nil', ?_⟩
          refine WH.pure 18 (by kernel_rfl) rfl (by kernel_rfl) rfl rfl rfl (hp6.nil') ?_
          refine WH.done (by kernel_rfl) ?_
          refine ⟨(ra, rc1), ⟨rfl, rfl, rfl, congrArg (fun z : Nat => some (Value.slice ra z rc1)) e1.symm, rfl, rfl, rfl⟩, ?_⟩
          show Hp w w6 [Rs _ _]
          unfold Rs
          rw [e1, List.map_append]
          exact hp6.tail
        rintro ⟨ra, rc1⟩ e4 w4 hsub4 hp4
        refine WC.sub hsub4 ?_
        repeat (first | refine WC.seq ?_ | refine WC.reg ?_ | refine WL.pure rfl rfl rfl ?_ | refine WL.nil ?_ | refine WC.skip ?_ | refine WC.block ?_ | refine WC.condT rfl ?_ | refine WC.condF rfl ?_ | refine WL.off rfl rfl rfl ?_ | refine WL.off0 rfl rfl ?_ | refine WC.exit ?_ | refine blk_hit ?_ | refine blk_miss rfl ?_ | refine WC.ret ?_)
        exact ⟨(k + 1, ra, rc1, P ++ [replM s i l[k]]), (by show l.length - (k + 1) < l.length - k; omega), ⟨rfl, rfl, rfl, rfl, rfl, congrArg (fun z => some (Value.int .i64 z)) stepk, rfl⟩, by omega, (by rw [hsucc, ← List.append_assoc, ← hP]), hp4⟩
      · rw [h4] at hq
        rw [← hq, if_neg (by decide), List.append_nil] at hsucc
        repeat (first | refine WC.seq ?_ | refine WC.reg ?_ | refine WL.pure rfl rfl rfl ?_ | refine WL.nil ?_ | refine WC.skip ?_ | refine WC.block ?_ | refine WC.condT rfl ?_ | refine WC.condF rfl ?_ | refine WL.off rfl rfl rfl ?_ | refine WL.off0 rfl rfl ?_ | refine WC.exit ?_ | refine blk_hit ?_ | refine blk_miss rfl ?_ | refine WC.ret ?_)
        exact ⟨(k + 1, va, vc, P), (by show l.length - (k + 1) < l.length - k; omega), ⟨rfl, rfl, rfl, rfl, rfl, congrArg (fun z => some (Value.int .i64 z)) stepk, rfl⟩, by omega, (by rw [hsucc]; exact hP), hp3⟩
    · have hk : l.length ≤ k := by have := of_decide_eq_false hc2; omega
      rw [List.take_of_length_le hk, ← allM_succ] at hP
      repeat (first | refine WC.seq ?_ | refine WC.reg ?_ | refine WL.pure rfl rfl rfl ?_ | refine WL.nil ?_ | refine WC.skip ?_ | refine WC.block ?_ | refine WC.condT rfl ?_ | refine WC.condF rfl ?_ | refine WL.off rfl rfl rfl ?_ | refine WL.off0 rfl rfl ?_ | refine WC.exit ?_ | refine blk_hit ?_ | refine blk_miss rfl ?_ | refine WC.ret ?_)
      exact ⟨(i + 1, va, vc, P), (by show s.length - (i + 1) < s.length - i; omega), ⟨rfl, rfl, rfl, rfl, congrArg (fun z => some (Value.int .i64 z)) stepi, rfl⟩, by omega, hP, hp2⟩
  · have hi : i = s.length := by have := of_decide_eq_false hc; rw [sb_size] at this; omega
    subst hi
    repeat (first | refine WC.seq ?_ | refine WC.reg ?_ | refine WL.pure rfl rfl rfl ?_ | refine WL.nil ?_ | refine WC.skip ?_ | refine WC.block ?_ | refine WC.condT rfl ?_ | refine WC.condF rfl ?_ | refine WL.off rfl rfl rfl ?_ | refine WL.off0 rfl rfl ?_ | refine WC.exit ?_ | refine blk_hit ?_ | refine blk_miss rfl ?_ | refine WC.ret ?_)
    refine WC.cond rfl (fun h1 => ?_) (fun h1 => ?_)
    · have h1 : P.length = 0 := by have := eq_of_beq h1; omega
      have hnil : P = [] := List.eq_nil_of_length_eq_zero h1
      rw [hnil] at hP
      repeat (first | refine WC.seq ?_ | refine WC.reg ?_ | refine WL.pure rfl rfl rfl ?_ | refine WL.nil ?_ | refine WC.skip ?_ | refine WC.block ?_ | refine WC.condT rfl ?_ | refine WC.condF rfl ?_ | refine WL.off rfl rfl rfl ?_ | refine WL.off0 rfl rfl ?_ | refine WC.exit ?_ | refine blk_hit ?_ | refine blk_miss rfl ?_ | refine WC.ret ?_)
      exact Res.two rfl rfl rfl rfl ⟨hp1.nil', .inl ⟨allM_nil.1 hP.symm, rfl⟩⟩
    · have h1 : P.length ≠ 0 := fun h => by rw [h] at h1; simp at h1
      have hPl := allM_len l s s.length
      rw [← hP] at hPl
      have h3 : s.length * l.length ≤ 1000 * 1000 := Nat.mul_le_mul hsl hl
      have hlt := modN_lt (n := P.length) (by omega) z
      obtain ⟨pb, po, hpa⟩ : ∃ pb po, va = some ⟨pb, po, none⟩ := by
        obtain ⟨b, o, hva, _⟩ := (Sl.of_row (hp1.at 0 rfl) : Sl w1 va (P.map st)) 0 _ (by rw [List.getElem?_map, List.getElem?_eq_getElem (show 0 < P.length by omega)]; rfl)
        exact ⟨b, o, hva⟩
      subst hpa
      have hsr : Sl w1 (some ⟨pb, po, none⟩) (P.map st) := Sl.of_row (hp1.at 0 rfl)
      have hcell : w1.cell? ⟨pb, po + modN z P.length, none⟩ = some (st P[modN z P.length]) := by
        obtain ⟨b', o', he', hcell⟩ := hsr (modN z P.length) (st P[modN z P.length]) (by rw [List.getElem?_map, List.getElem?_eq_getElem hlt]; rfl)
        simp only [Option.some.injEq, Addr.mk.injEq] at he'
        obtain ⟨rfl, rfl, _⟩ := he'
        exact hcell
      have hmem : P[modN z P.length] ∈ allM l s s.length := by rw [← hP]; exact List.getElem_mem hlt
      have hne : firstM l s ≠ none := fun h => by
        have := allM_nil.2 h
        rw [this] at hmem
        cases hmem
      repeat (first | refine WC.seq ?_ | refine WC.reg ?_ | refine WL.pure rfl rfl rfl ?_ | refine WL.nil ?_ | refine WC.skip ?_ | refine WC.block ?_ | refine WC.condT rfl ?_ | refine WC.condF rfl ?_ | refine WL.off rfl rfl rfl ?_ | refine WL.off0 rfl rfl ?_ | refine WC.exit ?_ | refine blk_hit ?_ | refine blk_miss rfl ?_ | refine WC.ret ?_)
      refine WL.callP rfl rfl rfl rfl rfl ent15 (modO_any z P.length (by omega) (by omega) w1) ?_
      refine WL.ix1 rfl rfl rfl rfl rfl rfl rfl hlt ?_
      refine WL.load rfl rfl rfl rfl rfl hcell ?_
      repeat (first | refine WC.seq ?_ | refine WC.reg ?_ | refine WL.pure rfl rfl rfl ?_ | refine WL.nil ?_ | refine WC.skip ?_ | refine WC.block ?_ | refine WC.condT rfl ?_ | refine WC.condF rfl ?_ | refine WL.off rfl rfl rfl ?_ | refine WL.off0 rfl rfl ?_ | refine WC.exit ?_ | refine blk_hit ?_ | refine blk_miss rfl ?_ | refine WC.ret ?_)
      exact Res.two rfl rfl rfl rfl ⟨hp1.nil', .inr ⟨_, hne, allM_stp hmem, rfl⟩⟩
end Go.Proofs.Ytoghnhbjdnjghaa
