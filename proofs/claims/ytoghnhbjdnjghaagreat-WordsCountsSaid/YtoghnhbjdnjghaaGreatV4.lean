/- The walks of pairs. -/
import Derived.Test.YtoghnhbjdnjghaaGreatV3
namespace Go.Words
open Go.W
theorem overA_len (a b : Rl) (same : Bool) (k : Nat) : (overA a b same k).length ≤ 1 := by unfold overA; split <;> simp
theorem overC_len (a b : Rl) (k : Nat) : (overC a b k).length ≤ 1 := by unfold overC; split <;> simp
theorem fm_len {α : Type} (f : Nat → List α) {c : Nat} (h : ∀ k, (f k).length ≤ c) : ∀ n, ((List.range n).flatMap f).length ≤ n * c := by
  intro n
  induction n with
  | zero => simp
  | succ n ih =>
    rw [List.range_succ, List.flatMap_append, List.length_append, List.flatMap_cons, List.flatMap_nil, List.append_nil, Nat.succ_mul]
    have := h n
    omega
theorem fm_succ {α : Type} (f : Nat → List α) (n : Nat) : (List.range (n + 1)).flatMap f = (List.range n).flatMap f ++ f n := by
  rw [List.range_succ, List.flatMap_append, List.flatMap_cons, List.flatMap_nil, List.append_nil]
theorem overM_len (a b : Rl) (same : Bool) : (overM a b same).length ≤ a.1.length + a.1.length := by
  unfold overM
  rw [List.length_append]
  have h1 := fm_len (overA a b same) (overA_len a b same) (min a.1.length b.1.length)
  have h2 := fm_len (overC a b) (overC_len a b) (a.1.length - b.1.length - 1)
  split
  · simp only [List.length_nil]; omega
  · omega
end Go.Words
namespace Go.Proofs.YtoghnhbjdnjghaaGreat
open Go.W Go.Words Go.RowKit
set_option maxRecDepth 100000
attribute [local irreducible] WC WL WQ WS WH

/-- A row of pairs, and one of rules. -/
abbrev Rr (v : Value) (l : List Rl) : Ent := .row 46 2 v l.length (rcs l)
abbrev Ru (v : Value) (l : List Rl) : Ent := .row 56 2 v l.length (rcs l)
abbrev Bx (b : Nat) (r : Rl) : Ent := .blk b (.cells #[st r.1, st r.2] 56 (0, 0))
theorem Bx.all {w0 w : World} {L : List Ent} {b : Nat} {r : Rl} (h : Hp w0 w L) (i : Nat) (hi : nth L i = some (Bx b r)) : ∀ q v, [st r.1, st r.2][q]? = some v → w.cell? ⟨b, 0 + q, none⟩ = some v := by
  intro q v hq
  rw [Nat.zero_add]
  exact cell_of_obj (h.obj i hi) (by simpa using hq)

set_option maxHeartbeats 1000000 in
theorem overlaps_any (a b : Rl) (same : Bool) (ha : a.1.length ≤ 1000000 ∧ a.2.length ≤ 1000000) (hb : b.1.length ≤ 1000000 ∧ b.2.length ≤ 1000000) (w : World) :
    Ret Tryz.prog 71 [.agg #[st a.1, st a.2], .agg #[st b.1, st b.2], .bool same] w fun u w' => ∃ pa pc, u = .slice pa (overM a b same).length pc ∧ Hp w w' [Rr u (overM a b same)] := by
  refine enter Tryz.func71 rfl rfl ⟨rfl, rfl⟩ rfl ?_
  repeat (first | refine WC.seq ?_ | refine WC.reg ?_ | refine WL.pure rfl rfl rfl ?_ | refine WL.nil ?_ | refine WC.skip ?_ | refine WC.block ?_ | refine WC.condT rfl ?_ | refine WC.condF rfl ?_ | refine WL.off rfl rfl rfl ?_ | refine WL.off0 rfl rfl ?_ | refine WC.exit ?_ | refine blk_hit ?_ | refine blk_miss rfl ?_ | refine WC.ret ?_)
  refine WL.box rfl rfl rfl ?_
  intro b3 w1 hb3
  have hp1 := (Hp.start w).new hb3
  refine WL.box rfl rfl rfl ?_
  intro b4 w2 hb4
  have hp2 : Hp w w2 [Rr (.slice none 0 0) [], Bx b4 b, Bx b3 a] := (hp1.new hb4).nilrow _ _
  clear hp1
  repeat (first | refine WC.seq ?_ | refine WC.reg ?_ | refine WL.pure rfl rfl rfl ?_ | refine WL.nil ?_ | refine WC.skip ?_ | refine WC.block ?_ | refine WC.condT rfl ?_ | refine WC.condF rfl ?_ | refine WL.off rfl rfl rfl ?_ | refine WL.off0 rfl rfl ?_ | refine WC.exit ?_ | refine blk_hit ?_ | refine blk_miss rfl ?_ | refine WC.ret ?_)
  refine WC.loop (Nat × Option Addr × Nat) (fun (k, pa, pc) => [(2, .bool same), (3, .pointer (some ⟨b3, 0, none⟩)), (4, .pointer (some ⟨b4, 0, none⟩)), (7, .slice pa ((List.range k).flatMap (overA a b same)).length pc), (8, .int .i64 (k + 1 : Nat))])
    (fun (k, pa, pc) w' => k ≤ min a.1.length b.1.length ∧ Hp w w' [Rr (.slice pa ((List.range k).flatMap (overA a b same)).length pc) ((List.range k).flatMap (overA a b same)), Bx b4 b, Bx b3 a]) (fun (k, _, _) => min a.1.length b.1.length - k) (0, none, 0) ⟨rfl, rfl, rfl, rfl, rfl, rfl⟩ ⟨Nat.zero_le _, hp2⟩ ?_
  clear hp2 hb3 hb4 w1 w2
  rintro ⟨k, pa, pc⟩ w2 ⟨hk, hp2⟩
  have hol := fm_len (overA a b same) (overA_len a b same) k
  repeat (first | refine WC.seq ?_ | refine WC.reg ?_ | refine WL.pure rfl rfl rfl ?_ | refine WL.nil ?_ | refine WC.skip ?_ | refine WC.block ?_ | refine WC.condT rfl ?_ | refine WC.condF rfl ?_ | refine WL.off rfl rfl rfl ?_ | refine WL.off0 rfl rfl ?_ | refine WC.exit ?_ | refine blk_hit ?_ | refine blk_miss rfl ?_ | refine WC.ret ?_)
  refine WL.loadB rfl rfl rfl rfl rfl (hp2.obj 2 rfl) rfl ?_
  repeat (first | refine WC.seq ?_ | refine WC.reg ?_ | refine WL.pure rfl rfl rfl ?_ | refine WL.nil ?_ | refine WC.skip ?_ | refine WC.block ?_ | refine WC.condT rfl ?_ | refine WC.condF rfl ?_ | refine WL.off rfl rfl rfl ?_ | refine WL.off0 rfl rfl ?_ | refine WC.exit ?_ | refine blk_hit ?_ | refine blk_miss rfl ?_ | refine WC.ret ?_)
  refine WL.loadB rfl rfl rfl rfl rfl (hp2.obj 1 rfl) rfl ?_
  repeat (first | refine WC.seq ?_ | refine WC.reg ?_ | refine WL.pure rfl rfl rfl ?_ | refine WL.nil ?_ | refine WC.skip ?_ | refine WC.block ?_ | refine WC.condT rfl ?_ | refine WC.condF rfl ?_ | refine WL.off rfl rfl rfl ?_ | refine WL.off0 rfl rfl ?_ | refine WC.exit ?_ | refine blk_hit ?_ | refine blk_miss rfl ?_ | refine WC.ret ?_)
  refine WC.cond rfl (fun hc => ?_) (fun hc => ?_)
  · have hk : k < min a.1.length b.1.length := by
      have h1 : ((k + 1 : Nat) : Int) ≤ min ((a.1.length : Nat) : Int) ((b.1.length : Nat) : Int) := of_decide_eq_true hc
      omega
    have hka : k + 1 ≤ a.1.length := by omega
    have hkb : k + 1 ≤ b.1.length := by omega
    have step := wrap_succ (i := k + 1) (n := 2000000) (by omega) (by omega)
    have e16 : IntKind.i64.wrap (((a.1.length : Nat) : Int) - ((k + 1 : Nat) : Int)) = ((a.1.length - (k + 1) : Nat) : Int) := by rw [wrap_mid (by omega) (by omega)]; omega
    have skip : ∀ w', Hp w w' [Rr (.slice pa ((List.range k).flatMap (overA a b same)).length pc) ((List.range k).flatMap (overA a b same)), Bx b4 b, Bx b3 a] → overA a b same k = [] →
        Hp w w' [Rr (.slice pa ((List.range (k + 1)).flatMap (overA a b same)).length pc) ((List.range (k + 1)).flatMap (overA a b same)), Bx b4 b, Bx b3 a] := by
      intro w' h h0
      rw [fm_succ, h0, List.append_nil]; exact h
    refine WC.skip ?_
    refine WC.seq ?_
    refine WC.block ?_
    refine WC.seq ?_
    refine WC.mid Unit (fun _ => [(2, .bool same), (3, .pointer (some ⟨b3, 0, none⟩)), (4, .pointer (some ⟨b4, 0, none⟩)), (7, .slice pa ((List.range k).flatMap (overA a b same)).length pc), (8, .int .i64 (k + 1 : Nat))])
      (fun _ w' => overA a b same k = [(replM (a.1 ++ b.1.drop (k + 1)) 0 a, replM (a.1 ++ b.1.drop (k + 1)) (a.1.length - (k + 1)) b)] ∧ (b.1.take (k + 1)).isSuffixOf a.1 = true ∧ Hp w w' [Rr (.slice pa ((List.range k).flatMap (overA a b same)).length pc) ((List.range k).flatMap (overA a b same)), Bx b4 b, Bx b3 a]) ?_ ?_
    · repeat (first | refine WC.seq ?_ | refine WC.reg ?_ | refine WL.pure rfl rfl rfl ?_ | refine WL.nil ?_ | refine WC.skip ?_ | refine WC.block ?_ | refine WC.condT rfl ?_ | refine WC.condF rfl ?_ | refine WL.off rfl rfl rfl ?_ | refine WL.off0 rfl rfl ?_ | refine WC.exit ?_ | refine blk_hit ?_ | refine blk_miss rfl ?_ | refine WC.ret ?_)
      refine WC.regQ (fun w' => Hp w w' [Rr (.slice pa ((List.range k).flatMap (overA a b same)).length pc) ((List.range k).flatMap (overA a b same)), Bx b4 b, Bx b3 a]) mixed (by kernel_rfl) (fun w' hw' => hp2.keep hw') ?_
      repeat (first | refine WQ.pure rfl rfl rfl ?_ | refine WQ.off rfl rfl rfl ?_ | refine WQ.nil ?_)
      refine WQ.load rfl rfl rfl rfl rfl (fun w' h => cell_of_obj (j := 0) (h.obj 2 rfl) rfl) ?_
      repeat (first | refine WQ.pure rfl rfl rfl ?_ | refine WQ.off rfl rfl rfl ?_ | refine WQ.nil ?_)
      refine WQ.load rfl rfl rfl rfl rfl (fun w' h => cell_of_obj (j := 0) (h.obj 1 rfl) rfl) ?_
      repeat (first | refine WQ.pure rfl rfl rfl ?_ | refine WQ.off rfl rfl rfl ?_ | refine WQ.nil ?_)
      refine WQ.sSl (a := 0) (b := k + 1) rfl rfl rfl rfl rfl rfl (by omega) hkb ?_
      rw [List.drop_zero, Nat.sub_zero]
      refine WQ.call rfl rfl rfl rfl rfl ent91 (fun w' h => (HasSuffix_any a.1 (b.1.take (k + 1)) (by omega) w').mono fun u w'' ⟨h1, h2⟩ => ⟨h1, by rw [h2]; exact h⟩) ?_
      repeat (first | refine WQ.pure rfl rfl rfl ?_ | refine WQ.off rfl rfl rfl ?_ | refine WQ.nil ?_)
      have fin : ∀ w', Hp w w' [Rr (.slice pa ((List.range k).flatMap (overA a b same)).length pc) ((List.range k).flatMap (overA a b same)), Bx b4 b, Bx b3 a] → overA a b same k = [] → ∃ s' : Nat × Option Addr × Nat, (min a.1.length b.1.length - s'.1 < min a.1.length b.1.length - k) ∧ s' = (k + 1, pa, pc) ∧ k + 1 ≤ min a.1.length b.1.length ∧ ((List.range (k + 1)).flatMap (overA a b same)).length = ((List.range k).flatMap (overA a b same)).length ∧
          Hp w w' [Rr (.slice pa ((List.range (k + 1)).flatMap (overA a b same)).length pc) ((List.range (k + 1)).flatMap (overA a b same)), Bx b4 b, Bx b3 a] :=
        fun w' h h0 => ⟨_, by show min a.1.length b.1.length - (k + 1) < _; omega, rfl, hk, by rw [fm_succ, h0, List.append_nil], skip w' h h0⟩
      refine WQ.split 30 rfl (fun h1 => ?_) (fun h1 => ?_)
      · have h0 : overA a b same k = [] := by
          unfold overA
          rw [if_neg (by simp at h1; simp [h1])]
        repeat (first | refine WQ.pure rfl rfl rfl ?_ | refine WQ.off rfl rfl rfl ?_ | refine WQ.nil ?_)
        intro w2 hp2
        repeat (first | refine WC.seq ?_ | refine WC.reg ?_ | refine WL.pure rfl rfl rfl ?_ | refine WL.nil ?_ | refine WC.skip ?_ | refine WC.block ?_ | refine WC.condT rfl ?_ | refine WC.condF rfl ?_ | refine WL.off rfl rfl rfl ?_ | refine WL.off0 rfl rfl ?_ | refine WC.exit ?_ | refine blk_hit ?_ | refine blk_miss rfl ?_ | refine WC.ret ?_)
        obtain ⟨_, f1, rfl, f2, f3, f4⟩ := fin w2 hp2 h0
        exact ⟨(k + 1, pa, pc), f1, ⟨rfl, rfl, rfl, congrArg (fun z => some (Value.slice pa z pc)) f3.symm, congrArg (fun z => some (Value.int .i64 z)) step, rfl⟩, f2, f4⟩
      · have hS : (b.1.take (k + 1)).isSuffixOf a.1 = true := by simpa using h1
        repeat (first | refine WQ.pure rfl rfl rfl ?_ | refine WQ.off rfl rfl rfl ?_ | refine WQ.nil ?_)
        refine WQ.split 32 rfl (fun h2 => ?_) (fun h2 => ?_)
        · subst h2
          repeat (first | refine WQ.pure rfl rfl rfl ?_ | refine WQ.off rfl rfl rfl ?_ | refine WQ.nil ?_)
          refine WQ.load rfl rfl rfl rfl rfl (fun w' h => cell_of_obj (j := 0) (h.obj 2 rfl) rfl) ?_
          repeat (first | refine WQ.pure rfl rfl rfl ?_ | refine WQ.off rfl rfl rfl ?_ | refine WQ.nil ?_)
          intro w2 hp2
          repeat (first | refine WC.seq ?_ | refine WC.reg ?_ | refine WL.pure rfl rfl rfl ?_ | refine WL.nil ?_ | refine WC.skip ?_ | refine WC.block ?_ | refine WC.condT rfl ?_ | refine WC.condF rfl ?_ | refine WL.off rfl rfl rfl ?_ | refine WL.off0 rfl rfl ?_ | refine WC.exit ?_ | refine blk_hit ?_ | refine blk_miss rfl ?_ | refine WC.ret ?_)
          refine WC.cond rfl (fun h3 => ?_) (fun h3 => ?_)
          · have h3 : k + 1 = a.1.length := by
              have : ((k + 1 : Nat) : Int) = ((a.1.length : Nat) : Int) := by simpa [sb_size] using h3
              omega
            have h0 : overA a b true k = [] := by
              unfold overA
              rw [if_neg (by simp [h3])]
            repeat (first | refine WC.seq ?_ | refine WC.reg ?_ | refine WL.pure rfl rfl rfl ?_ | refine WL.nil ?_ | refine WC.skip ?_ | refine WC.block ?_ | refine WC.condT rfl ?_ | refine WC.condF rfl ?_ | refine WL.off rfl rfl rfl ?_ | refine WL.off0 rfl rfl ?_ | refine WC.exit ?_ | refine blk_hit ?_ | refine blk_miss rfl ?_ | refine WC.ret ?_)
            obtain ⟨_, f1, rfl, f2, f3, f4⟩ := fin w2 hp2 h0
            exact ⟨(k + 1, pa, pc), f1, ⟨rfl, rfl, rfl, congrArg (fun z => some (Value.slice pa z pc)) f3.symm, congrArg (fun z => some (Value.int .i64 z)) step, rfl⟩, f2, f4⟩
          · have h3 : k + 1 ≠ a.1.length := by
              have : ¬ ((k + 1 : Nat) : Int) = ((a.1.length : Nat) : Int) := by simpa [sb_size] using h3
              omega
            repeat (first | refine WC.seq ?_ | refine WC.reg ?_ | refine WL.pure rfl rfl rfl ?_ | refine WL.nil ?_ | refine WC.skip ?_ | refine WC.block ?_ | refine WC.condT rfl ?_ | refine WC.condF rfl ?_ | refine WL.off rfl rfl rfl ?_ | refine WL.off0 rfl rfl ?_ | refine WC.exit ?_ | refine blk_hit ?_ | refine blk_miss rfl ?_ | refine WC.ret ?_)
            exact ⟨(), ⟨rfl, rfl, rfl, rfl, rfl, rfl⟩, by unfold overA; rw [if_pos (by simp [hS, h3])], hS, hp2⟩
        · subst h2
          repeat (first | refine WQ.pure rfl rfl rfl ?_ | refine WQ.off rfl rfl rfl ?_ | refine WQ.nil ?_)
          intro w2 hp2
          repeat (first | refine WC.seq ?_ | refine WC.reg ?_ | refine WL.pure rfl rfl rfl ?_ | refine WL.nil ?_ | refine WC.skip ?_ | refine WC.block ?_ | refine WC.condT rfl ?_ | refine WC.condF rfl ?_ | refine WL.off rfl rfl rfl ?_ | refine WL.off0 rfl rfl ?_ | refine WC.exit ?_ | refine blk_hit ?_ | refine blk_miss rfl ?_ | refine WC.ret ?_)
          exact ⟨(), ⟨rfl, rfl, rfl, rfl, rfl, rfl⟩, by unfold overA; rw [if_pos (by simp [hS])], hS, hp2⟩
    clear hp2 w2
    rintro ⟨⟩ e2 w2 hsub ⟨hO, hS, hp2⟩
    refine WC.sub hsub ?_
    clear hsub e2
    have hsl : k + 1 ≤ a.1.length := hka
    have l9 : (a.1 ++ b.1.drop (k + 1)).length = a.1.length + (b.1.length - (k + 1)) := by rw [List.length_append, List.length_drop]
    repeat (first | refine WC.seq ?_ | refine WC.reg ?_ | refine WL.pure rfl rfl rfl ?_ | refine WL.nil ?_ | refine WC.skip ?_ | refine WC.block ?_ | refine WC.condT rfl ?_ | refine WC.condF rfl ?_ | refine WL.off rfl rfl rfl ?_ | refine WL.off0 rfl rfl ?_ | refine WC.exit ?_ | refine blk_hit ?_ | refine blk_miss rfl ?_ | refine WC.ret ?_)
    refine WC.regQ (fun w' => Hp w w' [Rr (.slice pa ((List.range k).flatMap (overA a b same)).length pc) ((List.range k).flatMap (overA a b same)), Bx b4 b, Bx b3 a]) mixed (by kernel_rfl) (fun w' hw' => hp2.keep hw') ?_
    repeat (first | refine WQ.pure rfl rfl rfl ?_ | refine WQ.off rfl rfl rfl ?_ | refine WQ.nil ?_)
    refine WQ.load rfl rfl rfl rfl rfl (fun w' h => cell_of_obj (j := 0) (h.obj 2 rfl) rfl) ?_
    repeat (first | refine WQ.pure rfl rfl rfl ?_ | refine WQ.off rfl rfl rfl ?_ | refine WQ.nil ?_)
    refine WQ.load rfl rfl rfl rfl rfl (fun w' h => cell_of_obj (j := 0) (h.obj 1 rfl) rfl) ?_
    repeat (first | refine WQ.pure rfl rfl rfl ?_ | refine WQ.off rfl rfl rfl ?_ | refine WQ.nil ?_)
    refine WQ.sSl (a := k + 1) (b := b.1.length) rfl rfl rfl rfl rfl rfl hkb (Nat.le_refl _) ?_
    rw [List.take_of_length_le (i := b.1.length - (k + 1)) (by rw [List.length_drop]; omega)]
    refine WQ.sCat rfl rfl rfl rfl (by rw [List.length_drop]; omega) ?_
    repeat (first | refine WQ.pure rfl rfl rfl ?_ | refine WQ.off rfl rfl rfl ?_ | refine WQ.nil ?_)
    clear hp2 w2
    intro w2 hp2
    generalize hs9 : a.1 ++ b.1.drop (k + 1) = s9 at *
    repeat (first | refine WC.seq ?_ | refine WC.reg ?_ | refine WL.pure rfl rfl rfl ?_ | refine WL.nil ?_ | refine WC.skip ?_ | refine WC.block ?_ | refine WC.condT rfl ?_ | refine WC.condF rfl ?_ | refine WL.off rfl rfl rfl ?_ | refine WL.off0 rfl rfl ?_ | refine WC.exit ?_ | refine blk_hit ?_ | refine blk_miss rfl ?_ | refine WC.ret ?_)
    refine WC.regH (fun w' => Hp w w' [Bx b4 b, Bx b3 a]) mixed (by kernel_rfl) (fun w3 hw3 hh3 => ?_)
    have hp3 := hp2.keep hw3
    refine WH.pure 0 (by kernel_rfl) rfl (by kernel_rfl) rfl rfl rfl (hp3.tail) ?_
    refine WH.pure 1 (by kernel_rfl) rfl (by kernel_rfl) rfl rfl rfl (hp3.tail) ?_
    refine WH.take 2 (by kernel_rfl) rfl (by kernel_rfl) rfl rfl (fun w' h => run_loadN (cs := [st a.1, st a.2]) rfl rfl rfl rfl (fun q v hq => by rw [Addr.add_lit]; exact Bx.all h 1 rfl q v hq)) hp3.tail ?_
    refine WH.pure 4 (by kernel_rfl) rfl (by kernel_rfl) rfl rfl rfl (hp3.tail) ?_
    refine WH.pure 5 (by kernel_rfl) rfl (by kernel_rfl) rfl rfl rfl (hp3.tail) ?_
    refine WH.load 6 (by kernel_rfl) rfl (by kernel_rfl) rfl rfl rfl rfl rfl (fun w' h => cell_of_obj (j := 0) (h.obj 1 rfl) rfl) hp3.tail ?_
    refine WH.pure 7 (by kernel_rfl) rfl (by kernel_rfl) rfl rfl rfl (hp3.tail) ?_
    refine WH.pure 8 (by kernel_rfl) rfl (by kernel_rfl) rfl rfl rfl (hp3.tail) ?_
    refine WH.pure 9 (by kernel_rfl) rfl (by kernel_rfl) rfl rfl rfl (hp3.tail) ?_
    refine WH.known (d := 56) (congrArg (fun z => some (Value.int .i64 z)) e16) ?_
    refine WH.take 10 (by kernel_rfl) rfl (by kernel_rfl) rfl rfl (fun w' h => run_loadN (cs := [st b.1, st b.2]) rfl rfl rfl rfl (fun q v hq => by rw [Addr.add_lit]; exact Bx.all h 0 rfl q v hq)) hp3.tail ?_
    refine WH.one 3 rfl (by kernel_rfl) ?_
    refine WL.call rfl rfl rfl rfl rfl ent65 (replaced_any s9 0 a (by omega) (by omega) w3) ?_
    rintro _ w4 ⟨rfl, hp4⟩
    have hp4 := hp3.comb hp4
    refine WL.nil ⟨hp4.tail, ?_⟩
    refine WH.one 11 rfl (by kernel_rfl) ?_
    refine WL.call rfl rfl rfl rfl rfl ent65 (replaced_any s9 (a.1.length - (k + 1)) b (by omega) (by omega) w4) ?_
    rintro _ w5 ⟨rfl, hp5⟩
    have hp5 := hp4.comb hp5
    refine WL.nil ⟨hp5.tail, ?_⟩
    refine WH.one 12 rfl (by kernel_rfl) ?_
    refine WL.buildA (cs := [st (replM s9 0 a), st (replM s9 (a.1.length - (k + 1)) b)]) rfl rfl rfl rfl rfl rfl ?_
    refine WL.nil ⟨hp5.tail, ?_⟩
    refine WH.one 13 rfl (by kernel_rfl) ?_
    refine WL.buildS (cs := [st (replM s9 0 a), st (replM s9 (a.1.length - (k + 1)) b)]) rfl rfl rfl rfl rfl rfl rfl rfl rfl ?_
    intro bs w6 hbs
    have hp6 := hp5.new hbs
    refine WL.nil ⟨hp6.tail.tail, ?_⟩
    refine WH.one 14 rfl (by kernel_rfl) ?_
    refine WL.append 1 hp6 rfl rfl rfl rfl rfl (by decide) rfl rfl rfl (news := [st (replM s9 0 a), st (replM s9 (a.1.length - (k + 1)) b)]) (Sl.of_obj (hp6.obj 0 rfl) (fun q u hq => by simpa using hq)) rfl (Cells.cons rfl (Cells.cons rfl Cells.nil)) (by unfold maxLen; omega) (by show (((List.range k).flatMap (overA a b same)).length + 1) * 32 ≤ _; omega) ?_
    intro pa' pc' w7 hp7 hg7
    have hsucc := fm_succ (overA a b same) k
    rw [hO] at hsucc
    have hlen : ((List.range (k + 1)).flatMap (overA a b same)).length = ((List.range k).flatMap (overA a b same)).length + 1 := by rw [hsucc, List.length_append]; rfl
    have hp7 : Hp w w7 [.blk bs (.cells #[st (replM s9 0 a), st (replM s9 (a.1.length - (k + 1)) b)] 46 (0, 0)), Rr (.slice pa' ((List.range (k + 1)).flatMap (overA a b same)).length pc') ((List.range (k + 1)).flatMap (overA a b same)), Bx b4 b, Bx b3 a] := by
      show Hp w w7 [_, .row _ 2 _ _ _, _, _]
      rw [hlen, hsucc, rcs_app]
      exact hp7
    refine WL.nil ⟨hp7.tail.tail, ?_⟩
    refine WH.pure 15 (by kernel_rfl) rfl (by kernel_rfl) rfl rfl rfl hp7.tail.tail ?_
    refine WH.done (by kernel_rfl) ?_
    repeat (first | refine WC.seq ?_ | refine WC.reg ?_ | refine WL.pure rfl rfl rfl ?_ | refine WL.nil ?_ | refine WC.skip ?_ | refine WC.block ?_ | refine WC.condT rfl ?_ | refine WC.condF rfl ?_ | refine WL.off rfl rfl rfl ?_ | refine WL.off0 rfl rfl ?_ | refine WC.exit ?_ | refine blk_hit ?_ | refine blk_miss rfl ?_ | refine WC.ret ?_)
    exact ⟨(k + 1, pa', pc'), by show min a.1.length b.1.length - (k + 1) < min a.1.length b.1.length - k; omega, ⟨rfl, rfl, rfl, congrArg (fun z => some (Value.slice pa' z pc')) hlen.symm, congrArg (fun z => some (Value.int .i64 z)) step, rfl⟩, hk, hp7.tail⟩
  · have hk : k = min a.1.length b.1.length := by
      have h1 : ¬ ((k + 1 : Nat) : Int) ≤ min ((a.1.length : Nat) : Int) ((b.1.length : Nat) : Int) := of_decide_eq_false hc
      omega
    subst hk
    obtain ⟨O, hO⟩ : ∃ O, (List.range (min a.1.length b.1.length)).flatMap (overA a b same) = O := ⟨_, rfl⟩
    have hO2 := congrArg List.length hO
    rw [hO] at hp2 hol
    repeat (first | refine WC.seq ?_ | refine WC.reg ?_ | refine WL.pure rfl rfl rfl ?_ | refine WL.nil ?_ | refine WC.skip ?_ | refine WC.block ?_ | refine WC.condT rfl ?_ | refine WC.condF rfl ?_ | refine WL.off rfl rfl rfl ?_ | refine WL.off0 rfl rfl ?_ | refine WC.exit ?_ | refine blk_hit ?_ | refine blk_miss rfl ?_ | refine WC.ret ?_)
    refine WC.loop (Nat × Option Addr × Nat) (fun (j, pa, pc) => [(2, .bool same), (3, .pointer (some ⟨b3, 0, none⟩)), (4, .pointer (some ⟨b4, 0, none⟩)), (7, .slice pa (O ++ (List.range j).flatMap (overC a b)).length pc), (10, .int .i64 (j + 1 : Nat))])
      (fun (j, pa, pc) w' => j ≤ a.1.length - b.1.length - 1 ∧ (0 < j → same = false) ∧ Hp w w' [Rr (.slice pa (O ++ (List.range j).flatMap (overC a b)).length pc) (O ++ (List.range j).flatMap (overC a b)), Bx b4 b, Bx b3 a]) (fun (j, _, _) => a.1.length - j) (0, pa, pc) ⟨rfl, rfl, rfl, congrArg (fun z => some (Value.slice pa z pc)) (hO2.trans (by simp)), rfl, rfl⟩ ⟨Nat.zero_le _, fun h => absurd h (by omega), by simpa using hp2⟩ ?_
    clear hp2 w2 pa pc
    rintro ⟨j, pa, pc⟩ w2 ⟨hj, hsame, hp2⟩
    have hol2 := fm_len (overC a b) (overC_len a b) j
    have fin : j = a.1.length - b.1.length - 1 ∨ same = true → overM a b same = O ++ (List.range j).flatMap (overC a b) := by
      intro h
      unfold overM
      rw [hO]
      cases same with
      | true =>
        have : j = 0 := Nat.le_zero.1 (Nat.not_lt.1 fun h0 => by cases hsame h0)
        subst this
        rfl
      | false =>
        rcases h with h | h
        · rw [h]; rfl
        · cases h
    have hOl : (O ++ (List.range j).flatMap (overC a b)).length ≤ 3000000 := by rw [List.length_append]; omega
    repeat (first | refine WC.seq ?_ | refine WC.reg ?_ | refine WL.pure rfl rfl rfl ?_ | refine WL.nil ?_ | refine WC.skip ?_ | refine WC.block ?_ | refine WC.condT rfl ?_ | refine WC.condF rfl ?_ | refine WL.off rfl rfl rfl ?_ | refine WL.off0 rfl rfl ?_ | refine WC.exit ?_ | refine blk_hit ?_ | refine blk_miss rfl ?_ | refine WC.ret ?_)
    refine WL.split 64 rfl (fun h1 => ?_) (fun h1 => ?_)
    · have h1 : same = false := by simpa using h1
      subst h1
      repeat (first | refine WC.seq ?_ | refine WC.reg ?_ | refine WL.pure rfl rfl rfl ?_ | refine WL.nil ?_ | refine WC.skip ?_ | refine WC.block ?_ | refine WC.condT rfl ?_ | refine WC.condF rfl ?_ | refine WL.off rfl rfl rfl ?_ | refine WL.off0 rfl rfl ?_ | refine WC.exit ?_ | refine blk_hit ?_ | refine blk_miss rfl ?_ | refine WC.ret ?_)
      refine WL.loadB rfl rfl rfl rfl rfl (hp2.obj 1 rfl) rfl ?_
      have e69 : IntKind.i64.wrap (((j + 1 : Nat) : Int) + ((b.1.length : Nat) : Int)) = ((j + 1 + b.1.length : Nat) : Int) := by rw [wrap_i64_in (by omega) (by omega)]; omega
      repeat (first | refine WC.seq ?_ | refine WC.reg ?_ | refine WL.pure rfl rfl rfl ?_ | refine WL.nil ?_ | refine WC.skip ?_ | refine WC.block ?_ | refine WC.condT rfl ?_ | refine WC.condF rfl ?_ | refine WL.off rfl rfl rfl ?_ | refine WL.off0 rfl rfl ?_ | refine WC.exit ?_ | refine blk_hit ?_ | refine blk_miss rfl ?_ | refine WC.ret ?_)
      refine WL.known (d := 69) (congrArg (fun z => some (Value.int .i64 z)) e69) ?_
      repeat (first | refine WC.seq ?_ | refine WC.reg ?_ | refine WL.pure rfl rfl rfl ?_ | refine WL.nil ?_ | refine WC.skip ?_ | refine WC.block ?_ | refine WC.condT rfl ?_ | refine WC.condF rfl ?_ | refine WL.off rfl rfl rfl ?_ | refine WL.off0 rfl rfl ?_ | refine WC.exit ?_ | refine blk_hit ?_ | refine blk_miss rfl ?_ | refine WC.ret ?_)
      refine WL.loadB rfl rfl rfl rfl rfl (hp2.obj 2 rfl) rfl ?_
      repeat (first | refine WC.seq ?_ | refine WC.reg ?_ | refine WL.pure rfl rfl rfl ?_ | refine WL.nil ?_ | refine WC.skip ?_ | refine WC.block ?_ | refine WC.condT rfl ?_ | refine WC.condF rfl ?_ | refine WL.off rfl rfl rfl ?_ | refine WL.off0 rfl rfl ?_ | refine WC.exit ?_ | refine blk_hit ?_ | refine blk_miss rfl ?_ | refine WC.ret ?_)
      refine WC.cond rfl (fun hc => ?_) (fun hc => ?_)
      · have hlt : j + 1 + b.1.length < a.1.length := by
          have h1 : ((j + 1 + b.1.length : Nat) : Int) < ((a.1.length : Nat) : Int) := of_decide_eq_true hc
          omega
        have step := wrap_succ (i := j + 1) (n := 2000000) (by omega) (by omega)
        have hsucc := fm_succ (overC a b) j
        repeat (first | refine WC.seq ?_ | refine WC.reg ?_ | refine WL.pure rfl rfl rfl ?_ | refine WL.nil ?_ | refine WC.skip ?_ | refine WC.block ?_ | refine WC.condT rfl ?_ | refine WC.condF rfl ?_ | refine WL.off rfl rfl rfl ?_ | refine WL.off0 rfl rfl ?_ | refine WC.exit ?_ | refine blk_hit ?_ | refine blk_miss rfl ?_ | refine WC.ret ?_)
        refine WC.regQ (fun w' => Hp w w' [Rr (.slice pa (O ++ (List.range j).flatMap (overC a b)).length pc) (O ++ (List.range j).flatMap (overC a b)), Bx b4 b, Bx b3 a]) mixed (by kernel_rfl) (fun w' hw' => hp2.keep hw') ?_
        repeat (first | refine WQ.pure rfl rfl rfl ?_ | refine WQ.off rfl rfl rfl ?_ | refine WQ.nil ?_)
        refine WQ.load rfl rfl rfl rfl rfl (fun w' h => cell_of_obj (j := 0) (h.obj 2 rfl) rfl) ?_
        repeat (first | refine WQ.pure rfl rfl rfl ?_ | refine WQ.off rfl rfl rfl ?_ | refine WQ.nil ?_)
        refine WQ.sSl (a := j + 1) (b := a.1.length) rfl rfl rfl rfl rfl rfl (by omega) (Nat.le_refl _) ?_
        rw [List.take_of_length_le (i := a.1.length - (j + 1)) (by rw [List.length_drop]; omega)]
        repeat (first | refine WQ.pure rfl rfl rfl ?_ | refine WQ.off rfl rfl rfl ?_ | refine WQ.nil ?_)
        refine WQ.load rfl rfl rfl rfl rfl (fun w' h => cell_of_obj (j := 0) (h.obj 1 rfl) rfl) ?_
        refine WQ.call rfl rfl rfl rfl rfl ent89 (fun w' h => (HasPrefix_any (a.1.drop (j + 1)) b.1 (by rw [List.length_drop]; omega) w').mono fun u w'' ⟨h1, h2⟩ => ⟨h1, by rw [h2]; exact h⟩) ?_
        repeat (first | refine WQ.pure rfl rfl rfl ?_ | refine WQ.off rfl rfl rfl ?_ | refine WQ.nil ?_)
        clear hp2 w2
        intro w2 hp2
        refine WC.cond rfl (fun h2 => ?_) (fun h2 => ?_)
        · have hC : overC a b j = [(a.2, replM a.1 (j + 1) b)] := by unfold overC; rw [if_pos h2]
          rw [hC] at hsucc
          repeat (first | refine WC.seq ?_ | refine WC.reg ?_ | refine WL.pure rfl rfl rfl ?_ | refine WL.nil ?_ | refine WC.skip ?_ | refine WC.block ?_ | refine WC.condT rfl ?_ | refine WC.condF rfl ?_ | refine WL.off rfl rfl rfl ?_ | refine WL.off0 rfl rfl ?_ | refine WC.exit ?_ | refine blk_hit ?_ | refine blk_miss rfl ?_ | refine WC.ret ?_)
          refine WC.regH (fun w' => Hp w w' [Bx b4 b, Bx b3 a]) mixed (by kernel_rfl) (fun w3 hw3 hh3 => ?_)
          have hp3 := hp2.keep hw3
          refine WH.pure 0 (by kernel_rfl) rfl (by kernel_rfl) rfl rfl rfl (hp3.tail) ?_
          refine WH.pure 1 (by kernel_rfl) rfl (by kernel_rfl) rfl rfl rfl (hp3.tail) ?_
          refine WH.load 2 (by kernel_rfl) rfl (by kernel_rfl) rfl rfl rfl rfl rfl (fun w' h => cell_of_obj (j := 1) (h.obj 1 rfl) rfl) hp3.tail ?_
          refine WH.pure 3 (by kernel_rfl) rfl (by kernel_rfl) rfl rfl rfl (hp3.tail) ?_
          refine WH.load 4 (by kernel_rfl) rfl (by kernel_rfl) rfl rfl rfl rfl rfl (fun w' h => cell_of_obj (j := 0) (h.obj 1 rfl) rfl) hp3.tail ?_
          refine WH.pure 5 (by kernel_rfl) rfl (by kernel_rfl) rfl rfl rfl (hp3.tail) ?_
          refine WH.take 6 (by kernel_rfl) rfl (by kernel_rfl) rfl rfl (fun w' h => run_loadN (cs := [st b.1, st b.2]) rfl rfl rfl rfl (fun q v hq => by rw [Addr.add_lit]; exact Bx.all h 0 rfl q v hq)) hp3.tail ?_
          refine WH.one 7 rfl (by kernel_rfl) ?_
          refine WL.call rfl rfl rfl rfl rfl ent65 (replaced_any a.1 (j + 1) b (by omega) (by omega) w3) ?_
          rintro _ w4 ⟨rfl, hp4⟩
          have hp4 := hp3.comb hp4
          refine WL.nil ⟨hp4.tail, ?_⟩
          refine WH.one 8 rfl (by kernel_rfl) ?_
          refine WL.buildA (cs := [st a.2, st (replM a.1 (j + 1) b)]) rfl rfl rfl rfl rfl rfl ?_
          refine WL.nil ⟨hp4.tail, ?_⟩
          refine WH.one 9 rfl (by kernel_rfl) ?_
          refine WL.buildS (cs := [st a.2, st (replM a.1 (j + 1) b)]) rfl rfl rfl rfl rfl rfl rfl rfl rfl ?_
          intro bs w6 hbs
          have hp6 := hp4.new hbs
          refine WL.nil ⟨hp6.tail.tail, ?_⟩
          refine WH.one 10 rfl (by kernel_rfl) ?_
          refine WL.append 1 hp6 rfl rfl rfl rfl rfl (by decide) rfl rfl rfl (news := [st a.2, st (replM a.1 (j + 1) b)]) (Sl.of_obj (hp6.obj 0 rfl) (fun q u hq => by simpa using hq)) rfl (Cells.cons rfl (Cells.cons rfl Cells.nil)) (by unfold maxLen; omega) (by show ((O ++ (List.range j).flatMap (overC a b)).length + 1) * 32 ≤ _; omega) ?_
          intro pa' pc' w7 hp7 hg7
          have hlen : (O ++ (List.range (j + 1)).flatMap (overC a b)).length = (O ++ (List.range j).flatMap (overC a b)).length + 1 := by rw [hsucc, ← List.append_assoc, List.length_append]; rfl
          have hp7 : Hp w w7 [.blk bs (.cells #[st a.2, st (replM a.1 (j + 1) b)] 46 (0, 0)), Rr (.slice pa' (O ++ (List.range (j + 1)).flatMap (overC a b)).length pc') (O ++ (List.range (j + 1)).flatMap (overC a b)), Bx b4 b, Bx b3 a] := by
            show Hp w w7 [_, .row _ 2 _ _ _, _, _]
            rw [hlen, hsucc, ← List.append_assoc, rcs_app (O ++ _)]
            exact hp7
          refine WL.nil ⟨hp7.tail.tail, ?_⟩
          refine WH.pure 11 (by kernel_rfl) rfl (by kernel_rfl) rfl rfl rfl hp7.tail.tail ?_
          refine WH.done (by kernel_rfl) ?_
          repeat (first | refine WC.seq ?_ | refine WC.reg ?_ | refine WL.pure rfl rfl rfl ?_ | refine WL.nil ?_ | refine WC.skip ?_ | refine WC.block ?_ | refine WC.condT rfl ?_ | refine WC.condF rfl ?_ | refine WL.off rfl rfl rfl ?_ | refine WL.off0 rfl rfl ?_ | refine WC.exit ?_ | refine blk_hit ?_ | refine blk_miss rfl ?_ | refine WC.ret ?_)
          exact ⟨(j + 1, pa', pc'), by show a.1.length - (j + 1) < a.1.length - j; omega, ⟨rfl, rfl, rfl, congrArg (fun z => some (Value.slice pa' z pc')) hlen.symm, congrArg (fun z => some (Value.int .i64 z)) step, rfl⟩, by omega, fun _ => rfl, hp7.tail⟩
        · have hC : overC a b j = [] := by unfold overC; rw [if_neg (by rw [h2]; decide)]
          rw [hC, List.append_nil] at hsucc
          rw [← hsucc] at hp2
          repeat (first | refine WC.seq ?_ | refine WC.reg ?_ | refine WL.pure rfl rfl rfl ?_ | refine WL.nil ?_ | refine WC.skip ?_ | refine WC.block ?_ | refine WC.condT rfl ?_ | refine WC.condF rfl ?_ | refine WL.off rfl rfl rfl ?_ | refine WL.off0 rfl rfl ?_ | refine WC.exit ?_ | refine blk_hit ?_ | refine blk_miss rfl ?_ | refine WC.ret ?_)
          exact ⟨(j + 1, pa, pc), by show a.1.length - (j + 1) < a.1.length - j; omega, ⟨rfl, rfl, rfl, congrArg (fun z => some (Value.slice pa (O ++ z).length pc)) hsucc.symm, congrArg (fun z => some (Value.int .i64 z)) step, rfl⟩, by omega, fun _ => rfl, hp2⟩
      · have hlt : ¬ j + 1 + b.1.length < a.1.length := by
          have h1 : ¬ ((j + 1 + b.1.length : Nat) : Int) < ((a.1.length : Nat) : Int) := of_decide_eq_false hc
          omega
        have hf := fin (.inl (by omega))
        repeat (first | refine WC.seq ?_ | refine WC.reg ?_ | refine WL.pure rfl rfl rfl ?_ | refine WL.nil ?_ | refine WC.skip ?_ | refine WC.block ?_ | refine WC.condT rfl ?_ | refine WC.condF rfl ?_ | refine WL.off rfl rfl rfl ?_ | refine WL.off0 rfl rfl ?_ | refine WC.exit ?_ | refine blk_hit ?_ | refine blk_miss rfl ?_ | refine WC.ret ?_)
        refine Res.one rfl rfl rfl ⟨pa, pc, by rw [hf], ?_⟩
        rw [hf]
        exact hp2.pick [0] (by decide)
    · have h1 : same = true := by simpa using h1
      have hf := fin (.inr h1)
      repeat (first | refine WC.seq ?_ | refine WC.reg ?_ | refine WL.pure rfl rfl rfl ?_ | refine WL.nil ?_ | refine WC.skip ?_ | refine WC.block ?_ | refine WC.condT rfl ?_ | refine WC.condF rfl ?_ | refine WL.off rfl rfl rfl ?_ | refine WL.off0 rfl rfl ?_ | refine WC.exit ?_ | refine blk_hit ?_ | refine blk_miss rfl ?_ | refine WC.ret ?_)
      refine Res.one rfl rfl rfl ⟨pa, pc, by rw [hf], ?_⟩
      rw [hf]
      exact hp2.pick [0] (by decide)
end Go.Proofs.YtoghnhbjdnjghaaGreat
