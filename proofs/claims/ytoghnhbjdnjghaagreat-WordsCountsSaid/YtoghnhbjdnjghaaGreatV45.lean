/- The reference's find and ends. -/
import Derived.Test.YtoghnhbjdnjghaaGreatV24
import Derived.Test.YtoghnhbjdnjghaaGreatXi
namespace Go.Words
open Go.W Go.Proofs.YtoghnhbjdnjghaaGreat
/-- What find says. -/
def fndZ (L : List Str) (s : Str) : Int := match fnd L s 0 with
  | some q => (q : Nat)
  | none => -1
theorem fnd_drop {L : List Str} {s : Str} {i : Nat} (hi : i < L.length) (h : fnd L s 0 = fnd (L.drop i) s i) : (s = L[i] → fnd L s 0 = some i) ∧ (s ≠ L[i] → fnd L s 0 = fnd (L.drop (i + 1)) s (i + 1)) := by
  rw [List.drop_eq_getElem_cons hi, fnd] at h
  constructor
  · intro hs; rw [h, if_pos hs]
  · intro hs; rw [h, if_neg hs]
theorem suf_drop {t s : Str} (h : t.length ≤ s.length) : t.isSuffixOf s = decide (s.drop (s.length - t.length) = t) := by
  rw [Bool.eq_iff_iff, List.isSuffixOf_iff_suffix, decide_eq_true_iff, List.suffix_iff_eq_drop]
  exact eq_comm
end Go.Words
namespace Go.Proofs.YtoghnhbjdnjghaaGreat
open Go.W Go.Words Go.RowKit
set_option maxRecDepth 100000
attribute [local irreducible] WC WL WQ WS WH

theorem find_any (a : Option Addr) (cap : Nat) (L : List Str) (s : Str) (hl : L.length ≤ 1000000) (w : World) (hs : Sl w a (L.map st)) :
    Ret Tryz.prog 82 [.slice a L.length cap, st s] w fun u w' => u = .int .i64 (fndZ L s) ∧ w' = w := by
  refine enter Tryz.func82 rfl rfl ⟨rfl, rfl⟩ rfl ?_
  repeat (first | refine WC.seq ?_ | refine WC.reg ?_ | refine WL.pure rfl rfl rfl ?_ | refine WL.nil ?_ | refine WC.skip ?_ | refine WC.block ?_ | refine WC.condT rfl ?_ | refine WC.condF rfl ?_ | refine WL.off rfl rfl rfl ?_ | refine WL.off0 rfl rfl ?_ | refine WC.exit ?_ | refine blk_hit ?_ | refine blk_miss rfl ?_ | refine WC.ret ?_)
  refine WC.loop Nat (fun i => [(0, .slice a L.length cap), (1, st s), (5, .int .i64 (i : Nat))]) (fun i w' => i ≤ L.length ∧ fnd L s 0 = fnd (L.drop i) s i ∧ w' = w) (fun i => L.length - i) 0 ⟨rfl, rfl, rfl, rfl⟩ ⟨Nat.zero_le _, rfl, rfl⟩ ?_
  rintro i w1 ⟨hi, hF, hw1⟩
  obtain rfl := hw1.symm
  repeat (first | refine WC.seq ?_ | refine WC.reg ?_ | refine WL.pure rfl rfl rfl ?_ | refine WL.nil ?_ | refine WC.skip ?_ | refine WC.block ?_ | refine WC.condT rfl ?_ | refine WC.condF rfl ?_ | refine WL.off rfl rfl rfl ?_ | refine WL.off0 rfl rfl ?_ | refine WC.exit ?_ | refine blk_hit ?_ | refine blk_miss rfl ?_ | refine WC.ret ?_)
  refine WC.cond rfl (fun hc => ?_) (fun hc => ?_)
  · have hi : i < L.length := by have := of_decide_eq_true hc; omega
    have step := wrap_succ hi (by omega)
    obtain ⟨h1, h2⟩ := fnd_drop hi hF
    obtain ⟨b, o, rfl, hcell⟩ : ∃ b o, a = some ⟨b, o, none⟩ ∧ w.cell? ⟨b, o + i, none⟩ = some (st L[i]) := hs i _ (by rw [List.getElem?_map, List.getElem?_eq_getElem hi]; rfl)
    repeat (first | refine WC.seq ?_ | refine WC.reg ?_ | refine WL.pure rfl rfl rfl ?_ | refine WL.nil ?_ | refine WC.skip ?_ | refine WC.block ?_ | refine WC.condT rfl ?_ | refine WC.condF rfl ?_ | refine WL.off rfl rfl rfl ?_ | refine WL.off0 rfl rfl ?_ | refine WC.exit ?_ | refine blk_hit ?_ | refine blk_miss rfl ?_ | refine WC.ret ?_)
    refine WL.ix1 rfl rfl rfl rfl rfl rfl rfl hi ?_
    refine WL.load rfl rfl rfl rfl rfl hcell ?_
    repeat (first | refine WC.seq ?_ | refine WC.reg ?_ | refine WL.pure rfl rfl rfl ?_ | refine WL.nil ?_ | refine WC.skip ?_ | refine WC.block ?_ | refine WC.condT rfl ?_ | refine WC.condF rfl ?_ | refine WL.off rfl rfl rfl ?_ | refine WL.off0 rfl rfl ?_ | refine WC.exit ?_ | refine blk_hit ?_ | refine blk_miss rfl ?_ | refine WC.ret ?_)
    refine WL.sCmp rfl rfl rfl rfl rfl ?_
    repeat (first | refine WC.seq ?_ | refine WC.reg ?_ | refine WL.pure rfl rfl rfl ?_ | refine WL.nil ?_ | refine WC.skip ?_ | refine WC.block ?_ | refine WC.condT rfl ?_ | refine WC.condF rfl ?_ | refine WL.off rfl rfl rfl ?_ | refine WL.off0 rfl rfl ?_ | refine WC.exit ?_ | refine blk_hit ?_ | refine blk_miss rfl ?_ | refine WC.ret ?_)
    refine WC.cond rfl (fun hb => ?_) (fun hb => ?_)
    · have hb : L[i] = s := of_decide_eq_true hb
      repeat (first | refine WC.seq ?_ | refine WC.reg ?_ | refine WL.pure rfl rfl rfl ?_ | refine WL.nil ?_ | refine WC.skip ?_ | refine WC.block ?_ | refine WC.condT rfl ?_ | refine WC.condF rfl ?_ | refine WL.off rfl rfl rfl ?_ | refine WL.off0 rfl rfl ?_ | refine WC.exit ?_ | refine blk_hit ?_ | refine blk_miss rfl ?_ | refine WC.ret ?_)
      exact Res.one rfl rfl rfl ⟨by unfold fndZ; rw [h1 hb.symm], rfl⟩
    · have hb : ¬ L[i] = s := of_decide_eq_false hb
      repeat (first | refine WC.seq ?_ | refine WC.reg ?_ | refine WL.pure rfl rfl rfl ?_ | refine WL.nil ?_ | refine WC.skip ?_ | refine WC.block ?_ | refine WC.condT rfl ?_ | refine WC.condF rfl ?_ | refine WL.off rfl rfl rfl ?_ | refine WL.off0 rfl rfl ?_ | refine WC.exit ?_ | refine blk_hit ?_ | refine blk_miss rfl ?_ | refine WC.ret ?_)
      exact ⟨i + 1, by omega, ⟨rfl, rfl, congrArg (fun z => some (Value.int .i64 z)) step, rfl⟩, by omega, h2 (fun h => hb h.symm), rfl⟩
  · have hi : L.length ≤ i := by have := of_decide_eq_false hc; omega
    rw [List.drop_of_length_le hi] at hF
    have hF : fnd L s 0 = none := hF
    repeat (first | refine WC.seq ?_ | refine WC.reg ?_ | refine WL.pure rfl rfl rfl ?_ | refine WL.nil ?_ | refine WC.skip ?_ | refine WC.block ?_ | refine WC.condT rfl ?_ | refine WC.condF rfl ?_ | refine WL.off rfl rfl rfl ?_ | refine WL.off0 rfl rfl ?_ | refine WC.exit ?_ | refine blk_hit ?_ | refine blk_miss rfl ?_ | refine WC.ret ?_)
    exact Res.one rfl rfl rfl ⟨by unfold fndZ; rw [hF], rfl⟩

theorem ends_any (a : Option Addr) (cap : Nat) (l : List Rl) (s : Str) (hl : l.length ≤ 1000000) (hm : Sm 1000000 l) (hsl : s.length ≤ 1000000) (w : World) (hs : Sl w a (rcs l)) :
    Ret Tryz.prog 83 [.slice a l.length cap, st s] w fun u w' => u = .bool (endB l s) ∧ Hp w w' [] := by
  refine enter Tryz.func83 rfl rfl ⟨rfl, rfl⟩ rfl ?_
  repeat (first | refine WC.seq ?_ | refine WC.reg ?_ | refine WL.pure rfl rfl rfl ?_ | refine WL.nil ?_ | refine WC.skip ?_ | refine WC.block ?_ | refine WC.condT rfl ?_ | refine WC.condF rfl ?_ | refine WL.off rfl rfl rfl ?_ | refine WL.off0 rfl rfl ?_ | refine WC.exit ?_ | refine blk_hit ?_ | refine blk_miss rfl ?_ | refine WC.ret ?_)
  refine WC.loop Nat (fun i => [(0, .slice a l.length cap), (1, st s), (5, .int .i64 (i : Nat))]) (fun i w' => i ≤ l.length ∧ endB (l.take i) s = false ∧ Hp w w' []) (fun i => l.length - i) 0 ⟨rfl, rfl, rfl, rfl⟩ ⟨Nat.zero_le _, rfl, Hp.start w⟩ ?_
  rintro i w1 ⟨hi, hall, hp1⟩
  repeat (first | refine WC.seq ?_ | refine WC.reg ?_ | refine WL.pure rfl rfl rfl ?_ | refine WL.nil ?_ | refine WC.skip ?_ | refine WC.block ?_ | refine WC.condT rfl ?_ | refine WC.condF rfl ?_ | refine WL.off rfl rfl rfl ?_ | refine WL.off0 rfl rfl ?_ | refine WC.exit ?_ | refine blk_hit ?_ | refine blk_miss rfl ?_ | refine WC.ret ?_)
  refine WC.cond rfl (fun hc => ?_) (fun hc => ?_)
  · have hi : i < l.length := by have := of_decide_eq_true hc; omega
    have step := wrap_succ hi (by omega)
    have hsz := hm.at_ hi
    obtain ⟨b, o, rfl⟩ := rcs_some hs (by omega)
    have hnext : l[i].1.isSuffixOf s = false → endB (l.take (i + 1)) s = false := fun h => by
      unfold endB at hall ⊢
      rw [List.take_succ_eq_append_getElem hi, List.any_append, hall, List.any_cons, h]; rfl
    have hgot : l[i].1.isSuffixOf s = true → endB l s = true := fun h => by
      unfold endB
      rw [List.any_eq_true]
      exact ⟨l[i], List.getElem_mem hi, h⟩
    have hsd := suf_drop (t := l[i].1) (s := s)
    have hsub : l[i].1.length ≤ s.length → IntKind.i64.wrap (((s.length : Nat) : Int) - ((l[i].1.length : Nat) : Int)) = ((s.length - l[i].1.length : Nat) : Int) := fun h => by rw [wrap_i64_in (by omega) (by omega)]; omega
    repeat (first | refine WC.seq ?_ | refine WC.reg ?_ | refine WL.pure rfl rfl rfl ?_ | refine WL.nil ?_ | refine WC.skip ?_ | refine WC.block ?_ | refine WC.condT rfl ?_ | refine WC.condF rfl ?_ | refine WL.off rfl rfl rfl ?_ | refine WL.off0 rfl rfl ?_ | refine WC.exit ?_ | refine blk_hit ?_ | refine blk_miss rfl ?_ | refine WC.ret ?_)
    refine WC.mid Bool (fun q => [(0, .slice (some ⟨b, o, none⟩) l.length cap), (1, st s), (5, .int .i64 (i : Nat)), (39, .bool q)]) (fun q w' => q = l[i].1.isSuffixOf s ∧ Hp w w' []) ?_ ?_
    · refine WC.regQ (fun w' => Hp w w' []) mixed (by kernel_rfl) (fun w' hw' => hp1.keep hw') ?_
      repeat (first | refine WQ.pure rfl rfl rfl ?_ | refine WQ.off rfl rfl rfl ?_ | refine WQ.nil ?_)
      refine WQ.ix rfl rfl rfl rfl rfl rfl (j := i) hi ?_
      repeat (first | refine WQ.pure rfl rfl rfl ?_ | refine WQ.off rfl rfl rfl ?_ | refine WQ.nil ?_)
      refine WQ.load rfl rfl rfl rfl rfl (fun w' hw' => rcs_cell (hs.hp hw') hi (q := 0) rfl) ?_
      repeat (first | refine WQ.pure rfl rfl rfl ?_ | refine WQ.off rfl rfl rfl ?_ | refine WQ.nil ?_)
      refine WQ.split 21 rfl (fun h1 => ?_) (fun h1 => ?_)
      · have h1 : l[i].1.length ≤ s.length := by
          have h2 := of_decide_eq_true h1
          rw [sb_size, sb_size] at h2
          omega
        repeat (first | refine WQ.pure rfl rfl rfl ?_ | refine WQ.off rfl rfl rfl ?_ | refine WQ.nil ?_)
        refine WQ.ix rfl rfl rfl rfl rfl rfl (j := i) hi ?_
        repeat (first | refine WQ.pure rfl rfl rfl ?_ | refine WQ.off rfl rfl rfl ?_ | refine WQ.nil ?_)
        refine WQ.load rfl rfl rfl rfl rfl (fun w' hw' => rcs_cell (hs.hp hw') hi (q := 0) rfl) ?_
        repeat (first | refine WQ.pure rfl rfl rfl ?_ | refine WQ.off rfl rfl rfl ?_ | refine WQ.nil ?_)
        refine WQ.known (d := 31) (congrArg (fun z => some (Value.int .i64 z)) (hsub h1)) ?_
        refine WQ.sSl (a := s.length - l[i].1.length) (b := s.length) rfl rfl rfl rfl rfl rfl (by omega) (Nat.le_refl _) ?_
        repeat (first | refine WQ.pure rfl rfl rfl ?_ | refine WQ.off rfl rfl rfl ?_ | refine WQ.nil ?_)
        refine WQ.ix rfl rfl rfl rfl rfl rfl (j := i) hi ?_
        repeat (first | refine WQ.pure rfl rfl rfl ?_ | refine WQ.off rfl rfl rfl ?_ | refine WQ.nil ?_)
        refine WQ.load rfl rfl rfl rfl rfl (fun w' hw' => rcs_cell (hs.hp hw') hi (q := 0) rfl) ?_
        refine WQ.sCmp rfl rfl rfl rfl rfl ?_
        repeat (first | refine WQ.pure rfl rfl rfl ?_ | refine WQ.off rfl rfl rfl ?_ | refine WQ.nil ?_)
        intro w' hw'
        refine ⟨_, ⟨rfl, rfl, rfl, rfl, rfl⟩, ?_, hw'⟩
        rw [hsd h1, List.take_of_length_le (by rw [List.length_drop]; omega)]
      · have h1 : ¬ l[i].1.length ≤ s.length := by
          have h2 := of_decide_eq_false h1
          rw [sb_size, sb_size] at h2
          omega
        repeat (first | refine WQ.pure rfl rfl rfl ?_ | refine WQ.off rfl rfl rfl ?_ | refine WQ.nil ?_)
        intro w' hw'
        refine ⟨false, ⟨rfl, rfl, rfl, rfl, rfl⟩, ?_, hw'⟩
        symm
        rw [← Bool.not_eq_true]
        intro h
        exact h1 (List.isSuffixOf_iff_suffix.1 h).length_le
    rintro q e2 w2 hsub2 ⟨hq, hp2⟩
    refine WC.sub hsub2 ?_
    refine WC.cond rfl (fun h1 => ?_) (fun h1 => ?_)
    · rw [h1] at hq
      repeat (first | refine WC.seq ?_ | refine WC.reg ?_ | refine WL.pure rfl rfl rfl ?_ | refine WL.nil ?_ | refine WC.skip ?_ | refine WC.block ?_ | refine WC.condT rfl ?_ | refine WC.condF rfl ?_ | refine WL.off rfl rfl rfl ?_ | refine WL.off0 rfl rfl ?_ | refine WC.exit ?_ | refine blk_hit ?_ | refine blk_miss rfl ?_ | refine WC.ret ?_)
      exact Res.one rfl rfl rfl ⟨by rw [hgot hq.symm], hp2⟩
    · rw [h1] at hq
      repeat (first | refine WC.seq ?_ | refine WC.reg ?_ | refine WL.pure rfl rfl rfl ?_ | refine WL.nil ?_ | refine WC.skip ?_ | refine WC.block ?_ | refine WC.condT rfl ?_ | refine WC.condF rfl ?_ | refine WL.off rfl rfl rfl ?_ | refine WL.off0 rfl rfl ?_ | refine WC.exit ?_ | refine blk_hit ?_ | refine blk_miss rfl ?_ | refine WC.ret ?_)
      exact ⟨i + 1, by omega, ⟨rfl, rfl, congrArg (fun z => some (Value.int .i64 z)) step, rfl⟩, by omega, hnext hq.symm, hp2⟩
  · have hi : l.length ≤ i := by have := of_decide_eq_false hc; omega
    rw [List.take_of_length_le hi] at hall
    repeat (first | refine WC.seq ?_ | refine WC.reg ?_ | refine WL.pure rfl rfl rfl ?_ | refine WL.nil ?_ | refine WC.skip ?_ | refine WC.block ?_ | refine WC.condT rfl ?_ | refine WC.condF rfl ?_ | refine WL.off rfl rfl rfl ?_ | refine WL.off0 rfl rfl ?_ | refine WC.exit ?_ | refine blk_hit ?_ | refine blk_miss rfl ?_ | refine WC.ret ?_)
    exact Res.one rfl rfl rfl ⟨by rw [hall], hp1⟩
/-- The sum of two counts, or one more than the limit. -/
def satN (n : Nat) : Nat := min n 4611686018427387905
theorem plus_any (a b : Nat) (hb : b ≤ 4611686018427387904) : Pur Tryz.prog 58 [.int .i64 (satN a : Nat), .int .i64 (b : Nat)] (.int .i64 (satN (a + b) : Nat)) := by
  intro w
  have e1 : IntKind.i64.wrap (4611686018427387904 - ((satN a : Nat) : Int)) = 4611686018427387904 - ((satN a : Nat) : Int) := by unfold satN; rw [wrap_mid (by omega) (by omega)]
  refine enter Tryz.func58 rfl rfl ⟨rfl, rfl⟩ rfl ?_
  repeat (first | refine WC.seq ?_ | refine WC.reg ?_ | refine WL.pure rfl rfl rfl ?_ | refine WL.nil ?_ | refine WC.skip ?_ | refine WC.block ?_ | refine WC.condT rfl ?_ | refine WC.condF rfl ?_ | refine WL.off rfl rfl rfl ?_ | refine WL.off0 rfl rfl ?_ | refine WC.exit ?_ | refine blk_hit ?_ | refine blk_miss rfl ?_ | refine WC.ret ?_)
  refine WC.cond rfl (fun h => ?_) (fun h => ?_)
  · have h := of_decide_eq_true h
    rw [e1] at h
    have h2 : satN (a + b) = 4611686018427387905 := by unfold satN at h ⊢; omega
    repeat (first | refine WC.seq ?_ | refine WC.reg ?_ | refine WL.pure rfl rfl rfl ?_ | refine WL.nil ?_ | refine WC.skip ?_ | refine WC.block ?_ | refine WC.condT rfl ?_ | refine WC.condF rfl ?_ | refine WL.off rfl rfl rfl ?_ | refine WL.off0 rfl rfl ?_ | refine WC.exit ?_ | refine blk_hit ?_ | refine blk_miss rfl ?_ | refine WC.ret ?_)
    exact Res.one rfl rfl rfl ⟨by rw [h2]; rfl, rfl⟩
  · have h := of_decide_eq_false h
    rw [e1] at h
    have e2 : IntKind.i64.wrap (((satN a : Nat) : Int) + ((b : Nat) : Int)) = ((satN (a + b) : Nat) : Int) := by
      unfold satN at h ⊢
      rw [wrap_mid (by omega) (by omega)]
      omega
    repeat (first | refine WC.seq ?_ | refine WC.reg ?_ | refine WL.pure rfl rfl rfl ?_ | refine WL.nil ?_ | refine WC.skip ?_ | refine WC.block ?_ | refine WC.condT rfl ?_ | refine WC.condF rfl ?_ | refine WL.off rfl rfl rfl ?_ | refine WL.off0 rfl rfl ?_ | refine WC.exit ?_ | refine blk_hit ?_ | refine blk_miss rfl ?_ | refine WC.ret ?_)
    exact Res.one rfl rfl rfl ⟨by rw [e2], rfl⟩
end Go.Proofs.YtoghnhbjdnjghaaGreat
