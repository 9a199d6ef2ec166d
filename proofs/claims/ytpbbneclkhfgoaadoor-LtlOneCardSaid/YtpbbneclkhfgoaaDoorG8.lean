/- Texts on the way to LtlOne, one behind the other: U43 ClL ClLw. -/
import Derived.Test.YtpbbneclkhfgoaaDoorG7
import Derived.Test.YtpbbneclkhfgoaaDoorCards
import Derived.Test.YtpbbneclkhfgoaaDoorTie
import Derived.WalkKit
import Derived.ProofKit
import Derived.OpenShut
import Derived.Carry
import Derived.Deep.Slices
import Derived.Deep.DeepHandedRow
import Derived.Lib.LaidTab
import Derived.Lib.LaidU8
import Derived.Stop.LaidErr
import Derived.WideKeyElems2
import Derived.Deep.DeepWitnessRowRef
section
/- ltl, forty-third: LtlOne. -/
namespace Go.Ltl
open Go.W
/-- The rows of a circle. -/
def circR (n back : Nat) : List (List Int) := (List.range n).map fun k => [((aft n back k : Nat) : Int)]
theorem circ_pos {n back : Nat} {nx : List (List Nat)} (hn : 0 < n) (hb : back < n) (hnx : nx = (List.range n).map fun k => [aft n back k]) (τ : Nat → Nat) : RunS nx 1 τ ↔ ∀ i, τ i = pos n back i := by
  have hg : ∀ k, k < n → nx.getD k [] = [aft n back k] := fun k hk => by
    rw [hnx, List.getD_eq_getElem?_getD, List.getElem?_map, List.getElem?_range hk]; rfl
  constructor
  · rintro ⟨h0, h1⟩ i
    induction i with
    | zero => show τ 0 = 0; omega
    | succ i ih =>
      have := h1 i
      rw [ih, hg _ (pos_lt hb i), List.mem_singleton] at this
      exact this
  · intro h
    refine ⟨by rw [h 0]; exact Nat.lt_succ_self 0, fun i => ?_⟩
    rw [h i, h (i + 1), hg _ (pos_lt hb i), List.mem_singleton]
    rfl
end Go.Ltl
namespace Go.Proofs.YtpbbneclkhfgoaaDoor
open Go.W Go.Ltl Go.RowKit
set_option maxRecDepth 100000
attribute [local irreducible] WC WL WQ WS WH

theorem circ_holds {vs : Vs} {ms : List Int} {n back : Nat} (hn : 0 < n) (hb : back < n) (hm : ms.length = n) (hv : vs.map (fun x => x.2.2) = circR n back) (f : Fm) : HoldsA vs ms f ↔ satS (seqL ms back) f 0 := by
  have hnx : nxOf vs = (List.range n).map fun k => [aft n back k] := by
    have : nxOf vs = (vs.map (fun x => x.2.2)).map (fun l => l.map Int.toNat) := by rw [List.map_map]; rfl
    rw [this, hv, circR, List.map_map]
    apply List.map_congr_left
    intro k _
    show [Int.toNat _] = _
    rw [Int.toNat_natCast]
  have hs : ∀ τ : Nat → Nat, (∀ i, τ i = pos n back i) → (satS (fun i => ms.getD (τ i) 0) f 0 ↔ satS (seqL ms back) f 0) := fun τ hτ =>
    satS_congr (a := 0) (b := 0) (fun k => by rw [Nat.zero_add, hτ]; unfold seqL; rw [hm]) f 0
  constructor
  · intro h
    exact (hs _ (fun _ => rfl)).1 (h (pos n back) ((circ_pos hn hb hnx _).2 fun _ => rfl))
  · intro h τ hτ
    exact (hs τ ((circ_pos hn hb hnx τ).1 hτ)).2 h
theorem circ_str {vs : Vs} {ms : List Int} {n back : Nat} (hn : 0 < n) (hn2 : n ≤ 8) (hb : back < n) (hm : ms.length = n) (hmk : ∀ m ∈ ms, 0 ≤ m ∧ m ≤ 15) (hv : vs.map (fun x => x.2.2) = circR n back) : strB vs ms = true := by
  have hl : vs.length = n := by have := congrArg List.length hv; simpa [circR] using this
  simp only [strB, Bool.and_eq_true, decide_eq_true_eq, List.all_eq_true]
  refine ⟨⟨⟨⟨by omega, by omega⟩, by omega⟩, fun m h => ?_⟩, fun x hx => ?_⟩
  · simp only [markB, Bool.and_eq_true, decide_eq_true_eq]; exact hmk m h
  · have h1 : x.2.2 ∈ circR n back := by rw [← hv]; exact List.mem_map_of_mem (f := fun x : Option Addr × Nat × List Int => x.2.2) hx
    unfold circR at h1
    obtain ⟨k, hk, hk2⟩ := List.mem_map.1 h1
    rw [← hk2, hl]
    have h2 := aft_lt (i := k) hb
    simp only [rowB, Bool.and_eq_true, decide_eq_true_eq, List.all_eq_true, List.mem_range]
    refine ⟨by simp, fun i hi => ?_⟩
    simp only [List.length_cons, List.length_nil] at hi
    obtain rfl : i = 0 := by omega
    simp [sucB]; omega
/-- The marks of a circle. -/
def circM (l : List Int) (n : Nat) : List Int := (List.range n).map fun i => if i < l.length then mod16 (l.getD i 0) else 0
theorem circM_len (l : List Int) (n : Nat) : (circM l n).length = n := by simp [circM]
theorem circM_ok (l : List Int) (n : Nat) : ∀ m ∈ circM l n, 0 ≤ m ∧ m ≤ 15 := by
  intro m hm
  obtain ⟨i, _, rfl⟩ := List.mem_map.1 hm
  split
  · exact mod16_ok _
  · omega
theorem circM_succ (l : List Int) (n : Nat) : circM l (n + 1) = circM l n ++ [if n < l.length then mod16 (l.getD n 0) else 0] := by
  unfold circM; rw [List.range_succ, List.map_append]; rfl
theorem bool_cases {α : Prop} {a b : Bool} (h : a = b) (k : (Value.bool true = .bool true → α)) : α := k rfl
theorem LtlOne_any (a0 : Option Addr) (c0 : Nat) (l : List Int) (hl : l.length ≤ 9223372036854775807) (back0 : Int) (s : Str) (hsl : s.length ≤ 9223372036854775807) (w : World) (hG : Gl w) (hs0 : Sl w a0 (zs l)) :
    Ret Tryd.prog 6 [.slice a0 l.length c0, .int .i64 back0, st s] w fun u w' => u = .bool true ∧ Hp w w' [] := by
  refine enter Tryd.func6 rfl rfl ⟨rfl, rfl⟩ rfl ?_
  repeat (first | refine WC.seq ?_ | refine WC.reg ?_ | refine WL.pure rfl rfl rfl ?_ | refine WL.nil ?_ | refine WC.skip ?_ | refine WC.block ?_ | refine WC.condT rfl ?_ | refine WC.condF rfl ?_ | refine WL.off rfl rfl rfl ?_ | refine WL.off0 rfl rfl ?_ | refine WC.exit ?_ | refine blk_hit ?_ | refine blk_miss rfl ?_ | refine WC.ret ?_)
  refine WL.call rfl rfl rfl rfl rfl ent29 (mod_any (IntKind.i64.wrap ((l.length : Nat) - 1)) 8 (by decide) (by decide) w) ?_
  rintro _ w1 ⟨rfl, hw1⟩
  obtain rfl := hw1.symm
  have hm8 := modN_lt (n := 8) (by decide) (IntKind.i64.wrap ((l.length : Nat) - 1))
  generalize modN (IntKind.i64.wrap ((l.length : Nat) - 1)) 8 = m8 at *
  have e7 : IntKind.i64.wrap (1 + ((m8 : Nat) : Int)) = ((1 + m8 : Nat) : Int) := by rw [wrap_mid (by omega) (by omega)]; omega
  refine WL.pure rfl rfl rfl ?_
  refine WL.known (d := 21) (congrArg (fun z => some (Value.int .i64 z)) e7) ?_
  obtain ⟨n, hn⟩ : ∃ n, n = 1 + m8 := ⟨_, rfl⟩
  rw [← hn]
  have hn0 : 0 < n := by omega
  have hn8 : n ≤ 8 := by omega
  clear e7 hn hm8
  repeat (first | refine WC.seq ?_ | refine WC.reg ?_ | refine WL.pure rfl rfl rfl ?_ | refine WL.nil ?_ | refine WC.skip ?_ | refine WC.block ?_ | refine WC.condT rfl ?_ | refine WC.condF rfl ?_ | refine WL.off rfl rfl rfl ?_ | refine WL.off0 rfl rfl ?_ | refine WC.exit ?_ | refine blk_hit ?_ | refine blk_miss rfl ?_ | refine WC.ret ?_)
  refine WL.call rfl rfl rfl rfl rfl ent16 (short_any s hsl w) ?_
  rintro _ w2 ⟨rfl, hw2⟩
  obtain rfl := hw2.symm
  have hq := shortM_len s
  generalize shortM s = t at *
  repeat (first | refine WC.seq ?_ | refine WC.reg ?_ | refine WL.pure rfl rfl rfl ?_ | refine WL.nil ?_ | refine WC.skip ?_ | refine WC.block ?_ | refine WC.condT rfl ?_ | refine WC.condF rfl ?_ | refine WL.off rfl rfl rfl ?_ | refine WL.off0 rfl rfl ?_ | refine WC.exit ?_ | refine blk_hit ?_ | refine blk_miss rfl ?_ | refine WC.ret ?_)
  refine WL.alloc rfl rfl rfl (fun b8 w3 hb8 => ?_)
  have hp3 := (Hp.start w).new hb8
  repeat (first | refine WC.seq ?_ | refine WC.reg ?_ | refine WL.pure rfl rfl rfl ?_ | refine WL.nil ?_ | refine WC.skip ?_ | refine WC.block ?_ | refine WC.condT rfl ?_ | refine WC.condF rfl ?_ | refine WL.off rfl rfl rfl ?_ | refine WL.off0 rfl rfl ?_ | refine WC.exit ?_ | refine blk_hit ?_ | refine blk_miss rfl ?_ | refine WC.ret ?_)
  refine WL.call rfl rfl rfl rfl rfl ent29 (mod_any back0 n hn0 (by omega) w3) ?_
  rintro _ w4 ⟨rfl, hw4⟩
  obtain rfl := hw4.symm
  have hbk := modN_lt hn0 back0
  generalize modN back0 n = back at *
  repeat (first | refine WC.seq ?_ | refine WC.reg ?_ | refine WL.pure rfl rfl rfl ?_ | refine WL.nil ?_ | refine WC.skip ?_ | refine WC.block ?_ | refine WC.condT rfl ?_ | refine WC.condF rfl ?_ | refine WL.off rfl rfl rfl ?_ | refine WL.off0 rfl rfl ?_ | refine WC.exit ?_ | refine blk_hit ?_ | refine blk_miss rfl ?_ | refine WC.ret ?_)
  refine WC.loop (Nat × Option Addr × Nat × Option Addr × Nat × Vs) (fun (i, na, nc, ma, mc, vs) => [(0, .slice a0 l.length c0), (1, .int .i64 (back : Nat)), (2, st t), (7, .int .i64 (n : Nat)), (8, ptr b8), (9, .int .i64 (i : Nat))])
    (fun (i, na, nc, ma, mc, vs) w' => i ≤ n ∧ vs.map (fun x => x.2.2) = (List.range i).map (fun k => [((aft n back k : Nat) : Int)]) ∧ Hp w w' (Stb b8 na i nc ma i mc :: .row 22 1 (.slice na i nc) i (catV vs) :: .row 3 1 (.slice ma i mc) i (zs (circM l i)) :: vsE vs)) (fun (i, _) => n - i) (0, none, 0, none, 0, []) ⟨rfl, rfl, rfl, rfl, rfl, rfl, rfl⟩
    ⟨Nat.zero_le _, rfl, ((hp3.nilrow 3 1).nilrow 22 1).pick [2, 0, 1] (by decide)⟩ ?_
  clear hp3 hb8
  rintro ⟨i, na, nc, ma, mc, vs⟩ w5 ⟨hi, hvs, hp5⟩
  replace hi : i ≤ n := hi
  replace hvs : vs.map (fun x => x.2.2) = (List.range i).map (fun k => [((aft n back k : Nat) : Int)]) := hvs
  replace hp5 : Hp w w5 (Stb b8 na i nc ma i mc :: .row 22 1 (.slice na i nc) i (catV vs) :: .row 3 1 (.slice ma i mc) i (zs (circM l i)) :: vsE vs) := hp5
  have hvl : vs.length = i := by have := congrArg List.length hvs; simpa using this
  repeat (first | refine WC.seq ?_ | refine WC.reg ?_ | refine WL.pure rfl rfl rfl ?_ | refine WL.nil ?_ | refine WC.skip ?_ | refine WC.block ?_ | refine WC.condT rfl ?_ | refine WC.condF rfl ?_ | refine WL.off rfl rfl rfl ?_ | refine WL.off0 rfl rfl ?_ | refine WC.exit ?_ | refine blk_hit ?_ | refine blk_miss rfl ?_ | refine WC.ret ?_)
  refine WC.cond rfl (fun g1 => ?_) (fun g1 => ?_)
  · have hin : i < n := by have := of_decide_eq_true g1; omega
    have step := wrap_succ (i := i) (n := i + 1) (by omega) (by omega)
    repeat (first | refine WC.seq ?_ | refine WC.reg ?_ | refine WL.pure rfl rfl rfl ?_ | refine WL.nil ?_ | refine WC.skip ?_ | refine WC.block ?_ | refine WC.condT rfl ?_ | refine WC.condF rfl ?_ | refine WL.off rfl rfl rfl ?_ | refine WL.off0 rfl rfl ?_ | refine WC.exit ?_ | refine blk_hit ?_ | refine blk_miss rfl ?_ | refine WC.ret ?_)
    refine WC.mid Unit (fun _ => [(0, .slice a0 l.length c0), (1, .int .i64 (back : Nat)), (2, st t), (7, .int .i64 (n : Nat)), (8, ptr b8), (9, .int .i64 (i : Nat)), (10, .int .i64 ((aft n back i : Nat) : Int))])
      (fun _ w' => w' = w5) ?_ ?_
    · refine WC.known (d := 33) (congrArg (fun z => some (Value.int .i64 z)) step) ?_
      refine WC.known (d := 10) (congrArg (fun z => some (Value.int .i64 z)) step) ?_
      repeat (first | refine WC.seq ?_ | refine WC.reg ?_ | refine WL.pure rfl rfl rfl ?_ | refine WL.nil ?_ | refine WC.skip ?_ | refine WC.block ?_ | refine WC.condT rfl ?_ | refine WC.condF rfl ?_ | refine WL.off rfl rfl rfl ?_ | refine WL.off0 rfl rfl ?_ | refine WC.exit ?_ | refine blk_hit ?_ | refine blk_miss rfl ?_ | refine WC.ret ?_)
      refine WC.cond rfl (fun g2 => ?_) (fun g2 => ?_)
      · have e : aft n back i = back := if_neg (by
          have h2 : (IntKind.i64.wrap ((i : Int) + 1) == ((n : Nat) : Int)) = true := g2
          rw [step] at h2
          rw [beq_iff_eq] at h2
          omega)
        repeat (first | refine WC.seq ?_ | refine WC.reg ?_ | refine WL.pure rfl rfl rfl ?_ | refine WL.nil ?_ | refine WC.skip ?_ | refine WC.block ?_ | refine WC.condT rfl ?_ | refine WC.condF rfl ?_ | refine WL.off rfl rfl rfl ?_ | refine WL.off0 rfl rfl ?_ | refine WC.exit ?_ | refine blk_hit ?_ | refine blk_miss rfl ?_ | refine WC.ret ?_)
        exact ⟨(), ⟨rfl, rfl, rfl, rfl, rfl, rfl, by rw [e]; rfl, rfl⟩, rfl⟩
      · have e : aft n back i = i + 1 := if_pos (by
          have h2 : (IntKind.i64.wrap ((i : Int) + 1) == ((n : Nat) : Int)) = false := g2
          rw [step] at h2
          rw [beq_eq_false_iff_ne] at h2
          omega)
        repeat (first | refine WC.seq ?_ | refine WC.reg ?_ | refine WL.pure rfl rfl rfl ?_ | refine WL.nil ?_ | refine WC.skip ?_ | refine WC.block ?_ | refine WC.condT rfl ?_ | refine WC.condF rfl ?_ | refine WL.off rfl rfl rfl ?_ | refine WL.off0 rfl rfl ?_ | refine WC.exit ?_ | refine blk_hit ?_ | refine blk_miss rfl ?_ | refine WC.ret ?_)
        exact ⟨(), ⟨rfl, rfl, rfl, rfl, rfl, rfl, by rw [e]; rfl, rfl⟩, rfl⟩
    rintro _ e5 w6 hsub hw6
    obtain rfl := hw6.symm
    refine WC.sub hsub ?_
    clear hsub e5
    generalize hto : aft n back i = to at *
    repeat (first | refine WC.seq ?_ | refine WC.reg ?_ | refine WL.pure rfl rfl rfl ?_ | refine WL.nil ?_ | refine WC.skip ?_ | refine WC.block ?_ | refine WC.condT rfl ?_ | refine WC.condF rfl ?_ | refine WL.off rfl rfl rfl ?_ | refine WL.off0 rfl rfl ?_ | refine WC.exit ?_ | refine blk_hit ?_ | refine blk_miss rfl ?_ | refine WC.ret ?_)
    refine WL.loadB rfl rfl rfl rfl rfl (hp5.obj 0 rfl) (j := 0) rfl ?_
    repeat (first | refine WC.seq ?_ | refine WC.reg ?_ | refine WL.pure rfl rfl rfl ?_ | refine WL.nil ?_ | refine WC.skip ?_ | refine WC.block ?_ | refine WC.condT rfl ?_ | refine WC.condF rfl ?_ | refine WL.off rfl rfl rfl ?_ | refine WL.off0 rfl rfl ?_ | refine WC.exit ?_ | refine blk_hit ?_ | refine blk_miss rfl ?_ | refine WC.ret ?_)
    refine WL.buildS (cs := [.int .i64 (to : Nat)]) rfl rfl rfl rfl rfl rfl rfl rfl rfl (fun b41 w6 h6 => ?_)
    have hp6 : Hp w w6 (Ri (.slice (some ⟨b41, 0, none⟩) 1 1) [((to : Nat) : Int)] :: _) := (hp5.new h6).toRow (m := 1) (s := 1) rfl (by decide)
    refine WL.buildS (cs := [.slice (some ⟨b41, 0, none⟩) 1 1]) rfl rfl rfl rfl rfl rfl rfl rfl rfl (fun b42 w7 h7 => ?_)
    have hp7 := hp6.new h7
    refine WL.append 3 hp7 rfl rfl rfl rfl rfl (by decide) rfl rfl rfl (news := [.slice (some ⟨b41, 0, none⟩) 1 1]) (Sl.of_obj (hp7.obj 0 rfl) (fun q u hq => by simpa using hq)) rfl (Cells.cons rfl Cells.nil) (by unfold maxLen; omega) (by show (i + 1) * 24 ≤ _; omega) ?_
    intro pb pd w8 hp8 _
    replace hp8 : Hp w w8 (_ :: Ri (.slice (some ⟨b41, 0, none⟩) 1 1) [((to : Nat) : Int)] :: Stb b8 na i nc ma i mc :: .row 22 1 (.slice pb (i + 1) pd) (i + 1) (catV vs ++ [.slice (some ⟨b41, 0, none⟩) 1 1]) :: .row 3 1 (.slice ma i mc) i (zs (circM l i)) :: vsE vs) := hp8
    repeat (first | refine WC.seq ?_ | refine WC.reg ?_ | refine WL.pure rfl rfl rfl ?_ | refine WL.nil ?_ | refine WC.skip ?_ | refine WC.block ?_ | refine WC.condT rfl ?_ | refine WC.condF rfl ?_ | refine WL.off rfl rfl rfl ?_ | refine WL.off0 rfl rfl ?_ | refine WC.exit ?_ | refine blk_hit ?_ | refine blk_miss rfl ?_ | refine WC.ret ?_)
    refine WL.store rfl rfl rfl rfl rfl rfl (hp8.obj 2 rfl) (Nat.succ_pos 1) (fun w9 h9 => ?_)
    have hp9 : Hp w w9 (Stb b8 pb (i + 1) pd ma i mc :: .row 3 1 (.slice ma i mc) i (zs (circM l i)) :: Rvs (.slice pb (vs ++ [((some ⟨b41, 0, none⟩ : Option Addr), 1, [((to : Nat) : Int)])]).length pd) (vs ++ [((some ⟨b41, 0, none⟩ : Option Addr), 1, [((to : Nat) : Int)])]) :: vsE (vs ++ [((some ⟨b41, 0, none⟩ : Option Addr), 1, [((to : Nat) : Int)])])) := by
      have h := hp8.set 2 rfl rfl h9
      subst hvl
      have h2 := Hp.pickT (T := vsE vs) [_, _, _, _, _] [3, 1, 2, 4] h (by decide)
      have h3 := Hp.rowIn (X := [Stb b8 pb (vs.length + 1) pd ma vs.length mc, .row 3 1 (.slice ma vs.length mc) vs.length (zs (circM l vs.length))]) (x := ((some ⟨b41, 0, none⟩ : Option Addr), 1, [((to : Nat) : Int)])) h2
      exact Hp.pickT [_, _, _] [1, 2, 0] h3 (by decide)
    clear hp5 hp6 hp7 hp8 h6 h7 h9
    have hvs2 : (vs ++ [((some ⟨b41, 0, none⟩ : Option Addr), 1, [((to : Nat) : Int)])]).map (fun x : Option Addr × Nat × List Int => x.2.2) = (List.range (i + 1)).map (fun k => [((aft n back k : Nat) : Int)]) := by
      rw [List.map_append, hvs, List.range_succ, List.map_append, ← hto]; rfl
    have hvl2 : (vs ++ [((some ⟨b41, 0, none⟩ : Option Addr), 1, [((to : Nat) : Int)])]).length = i + 1 := by rw [List.length_append, hvl]; rfl
    unfold Rvs at hp9
    rw [hvl2] at hp9
    generalize vs ++ [((some ⟨b41, 0, none⟩ : Option Addr), 1, [((to : Nat) : Int)])] = vs2 at *
    repeat (first | refine WC.seq ?_ | refine WC.reg ?_ | refine WL.pure rfl rfl rfl ?_ | refine WL.nil ?_ | refine WC.skip ?_ | refine WC.block ?_ | refine WC.condT rfl ?_ | refine WC.condF rfl ?_ | refine WL.off rfl rfl rfl ?_ | refine WL.off0 rfl rfl ?_ | refine WC.exit ?_ | refine blk_hit ?_ | refine blk_miss rfl ?_ | refine WC.ret ?_)
    obtain ⟨mk, hmk⟩ : ∃ mk, mk = if i < l.length then mod16 (l.getD i 0) else 0 := ⟨_, rfl⟩
    refine WC.mid Unit (fun _ => [(0, .slice a0 l.length c0), (1, .int .i64 (back : Nat)), (2, st t), (7, .int .i64 (n : Nat)), (8, ptr b8), (9, .int .i64 (i : Nat)), (11, .int .i64 mk)])
      (fun _ w' => w' = w9) ?_ ?_
    · refine WC.cond rfl (fun g2 => ?_) (fun g2 => ?_)
      · have c1 : i < l.length := by have := of_decide_eq_true g2; omega
        repeat (first | refine WC.seq ?_ | refine WC.reg ?_ | refine WL.pure rfl rfl rfl ?_ | refine WL.nil ?_ | refine WC.skip ?_ | refine WC.block ?_ | refine WC.condT rfl ?_ | refine WC.condF rfl ?_ | refine WL.off rfl rfl rfl ?_ | refine WL.off0 rfl rfl ?_ | refine WC.exit ?_ | refine blk_hit ?_ | refine blk_miss rfl ?_ | refine WC.ret ?_)
        refine WL.ixload rfl (fun _ => rfl) rfl rfl rfl rfl rfl rfl rfl c1 rfl rfl (hs0.hp hp9) (zs_getD c1) ?_
        intro q0
        refine WL.call rfl rfl rfl rfl rfl ent29 (mod_any (l.getD i 0) 16 (by decide) (by decide) w9) ?_
        rintro _ w10 ⟨rfl, hw10⟩
        obtain rfl := hw10.symm
        repeat (first | refine WC.seq ?_ | refine WC.reg ?_ | refine WL.pure rfl rfl rfl ?_ | refine WL.nil ?_ | refine WC.skip ?_ | refine WC.block ?_ | refine WC.condT rfl ?_ | refine WC.condF rfl ?_ | refine WL.off rfl rfl rfl ?_ | refine WL.off0 rfl rfl ?_ | refine WC.exit ?_ | refine blk_hit ?_ | refine blk_miss rfl ?_ | refine WC.ret ?_)
        exact ⟨(), ⟨rfl, rfl, rfl, rfl, rfl, rfl, by rw [hmk, if_pos c1]; rfl, rfl⟩, rfl⟩
      · have c1 : ¬ i < l.length := by have := of_decide_eq_false g2; omega
        repeat (first | refine WC.seq ?_ | refine WC.reg ?_ | refine WL.pure rfl rfl rfl ?_ | refine WL.nil ?_ | refine WC.skip ?_ | refine WC.block ?_ | refine WC.condT rfl ?_ | refine WC.condF rfl ?_ | refine WL.off rfl rfl rfl ?_ | refine WL.off0 rfl rfl ?_ | refine WC.exit ?_ | refine blk_hit ?_ | refine blk_miss rfl ?_ | refine WC.ret ?_)
        exact ⟨(), ⟨rfl, rfl, rfl, rfl, rfl, rfl, by rw [hmk, if_neg c1]; rfl, rfl⟩, rfl⟩
    rintro _ e5 w10 hsub hw10
    obtain rfl := hw10.symm
    refine WC.sub hsub ?_
    clear hsub e5
    repeat (first | refine WC.seq ?_ | refine WC.reg ?_ | refine WL.pure rfl rfl rfl ?_ | refine WL.nil ?_ | refine WC.skip ?_ | refine WC.block ?_ | refine WC.condT rfl ?_ | refine WC.condF rfl ?_ | refine WL.off rfl rfl rfl ?_ | refine WL.off0 rfl rfl ?_ | refine WC.exit ?_ | refine blk_hit ?_ | refine blk_miss rfl ?_ | refine WC.ret ?_)
    refine WL.loadB rfl rfl rfl rfl rfl (hp9.obj 0 rfl) (j := 1) rfl ?_
    repeat (first | refine WC.seq ?_ | refine WC.reg ?_ | refine WL.pure rfl rfl rfl ?_ | refine WL.nil ?_ | refine WC.skip ?_ | refine WC.block ?_ | refine WC.condT rfl ?_ | refine WC.condF rfl ?_ | refine WL.off rfl rfl rfl ?_ | refine WL.off0 rfl rfl ?_ | refine WC.exit ?_ | refine blk_hit ?_ | refine blk_miss rfl ?_ | refine WC.ret ?_)
    refine WL.buildS (cs := [.int .i64 mk]) rfl rfl rfl rfl rfl rfl rfl rfl rfl (fun b57 w10 h10 => ?_)
    have hp10 := hp9.new h10
    refine WL.append 2 hp10 rfl rfl rfl rfl rfl (by decide) rfl rfl rfl (news := [.int .i64 mk]) (Sl.of_obj (hp10.obj 0 rfl) (fun q u hq => by simpa using hq)) rfl (zs_cells [mk]) (by unfold maxLen; omega) (by show (i + 1) * 8 ≤ _; omega) ?_
    intro pe pf w11 hp11 _
    replace hp11 : Hp w w11 (_ :: Stb b8 pb (i + 1) pd ma i mc :: .row 3 1 (.slice pe (i + 1) pf) (i + 1) (zs (circM l i) ++ [.int .i64 mk]) :: .row 22 1 (.slice pb (i + 1) pd) (i + 1) (catV vs2) :: vsE vs2) := hp11
    repeat (first | refine WC.seq ?_ | refine WC.reg ?_ | refine WL.pure rfl rfl rfl ?_ | refine WL.nil ?_ | refine WC.skip ?_ | refine WC.block ?_ | refine WC.condT rfl ?_ | refine WC.condF rfl ?_ | refine WL.off rfl rfl rfl ?_ | refine WL.off0 rfl rfl ?_ | refine WC.exit ?_ | refine blk_hit ?_ | refine blk_miss rfl ?_ | refine WC.ret ?_)
    refine WL.store rfl rfl rfl rfl rfl rfl (hp11.obj 1 rfl) (Nat.lt_succ_self 1) (fun w12 h12 => ?_)
    have hp12 := Hp.pickT (T := vsE vs2) [_, _, _, _] [1, 3, 2] (hp11.set 1 rfl rfl h12) (by decide)
    have hms : zs (circM l i) ++ [.int .i64 mk] = zs (circM l (i + 1)) := by rw [circM_succ, ← hmk, zs_app]; rfl
    rw [hms] at hp12
    repeat (first | refine WC.seq ?_ | refine WC.reg ?_ | refine WL.pure rfl rfl rfl ?_ | refine WL.nil ?_ | refine WC.skip ?_ | refine WC.block ?_ | refine WC.condT rfl ?_ | refine WC.condF rfl ?_ | refine WL.off rfl rfl rfl ?_ | refine WL.off0 rfl rfl ?_ | refine WC.exit ?_ | refine blk_hit ?_ | refine blk_miss rfl ?_ | refine WC.ret ?_)
    exact ⟨(i + 1, pb, pd, pe, pf, vs2), (by show n - (i + 1) < n - i; omega), ⟨rfl, rfl, rfl, rfl, rfl, congrArg (fun z => some (Value.int .i64 z)) step, rfl⟩, hin, hvs2, hp12⟩
  have hin : i = n := by have := of_decide_eq_false g1; omega
  subst hin
  have hml := circM_len l i
  have hmo := circM_ok l i
  generalize circM l i = ms at *
  have hst : Stc w5 na ma vs ms := Stc.own (n := i) (nc := nc) (m := i) (mc := mc) hp5 (by simp) (by simp) (fun x hx => by simp [hx])
  repeat (first | refine WC.seq ?_ | refine WC.reg ?_ | refine WL.pure rfl rfl rfl ?_ | refine WL.nil ?_ | refine WC.skip ?_ | refine WC.block ?_ | refine WC.condT rfl ?_ | refine WC.condF rfl ?_ | refine WL.off rfl rfl rfl ?_ | refine WL.off0 rfl rfl ?_ | refine WC.exit ?_ | refine blk_hit ?_ | refine blk_miss rfl ?_ | refine WC.ret ?_)
  refine WL.loadB rfl rfl rfl rfl rfl (hp5.obj 0 rfl) (j := 1) rfl ?_
  refine WL.append 0 (hp5.nilrow 3 1) rfl rfl rfl rfl rfl (by decide) rfl rfl rfl (news := zs ms) hst.mks (by rw [zs_len, hml]; exact (Nat.mul_one _).symm) (zs_cells _) (by unfold maxLen; omega) (by show (0 + i) * 8 ≤ _; omega) ?_
  intro pa pc w6 hp6 _
  rw [Nat.zero_add] at hp6 ⊢
  replace hp6 : Hp w w6 (.row 3 1 (.slice pa i pc) i (zs ms) :: Stb b8 na i nc ma i mc :: .row 22 1 (.slice na i nc) i (catV vs) :: .row 3 1 (.slice ma i mc) i (zs ms) :: vsE vs) := hp6
  clear hp5 hst
  have hst : Stc w6 na ma vs ms := Stc.own (n := i) (nc := nc) (m := i) (mc := mc) hp6 (by simp) (by simp) (fun x hx => by simp [hx])
  repeat (first | refine WC.seq ?_ | refine WC.reg ?_ | refine WL.pure rfl rfl rfl ?_ | refine WL.nil ?_ | refine WC.skip ?_ | refine WC.block ?_ | refine WC.condT rfl ?_ | refine WC.condF rfl ?_ | refine WL.off rfl rfl rfl ?_ | refine WL.off0 rfl rfl ?_ | refine WC.exit ?_ | refine blk_hit ?_ | refine blk_miss rfl ?_ | refine WC.ret ?_)
  refine WL.loadN rfl rfl rfl rfl rfl (cs := [.slice na i nc, .slice ma i mc]) rfl (fun q v hq => cell_of_obj (hp6.obj 1 rfl) (by rw [Nat.zero_add]; simpa using hq)) ?_
  repeat (first | refine WC.seq ?_ | refine WC.reg ?_ | refine WL.pure rfl rfl rfl ?_ | refine WL.nil ?_ | refine WC.skip ?_ | refine WC.block ?_ | refine WC.condT rfl ?_ | refine WC.condF rfl ?_ | refine WL.off rfl rfl rfl ?_ | refine WL.off0 rfl rfl ?_ | refine WC.exit ?_ | refine blk_hit ?_ | refine blk_miss rfl ?_ | refine WC.ret ?_)
  have harg : (Value.agg #[.slice na i nc, .slice ma i mc]) = stV na nc ma mc vs ms := by rw [stV, hvl, hml]
  have hsb := circ_str (vs := vs) (ms := ms) hn0 hn8 hbk hml hmo hvs
  have hHo := HoldsT_any na nc ma mc vs ms (by omega) (fun x hx => by have := (strB_ok hsb).len x hx; omega) t (by omega) w6 (hG.hp hp6) hst
  rw [← harg] at hHo
  refine WL.call rfl rfl rfl rfl rfl ent26 hHo ?_
  intro hv w7 hHW
  obtain ⟨hb, s1, s2, ec, rfl, hp7, hcase⟩ : ∃ (hb : Bool) (s1 s2 : Option Addr × Nat × Nat) (ec : Int), hv = .tuple #[.agg #[.bool hb, .slice s1.1 s1.2.1 s1.2.2, .slice s2.1 s2.2.1 s2.2.2], .int .i64 ec] ∧ Hp w w7 (.row 3 1 (.slice pa i pc) i (zs ms) :: Stb b8 na i nc ma i mc :: .row 22 1 (.slice na i nc) i (catV vs) :: .row 3 1 (.slice ma i mc) i (zs ms) :: vsE vs) ∧
      ((parseM t = none ∧ ec = 4) ∨ ∃ f, parseM t = some f ∧ ec = 0 ∧ (hb = true ↔ satS (seqL ms back) f 0)) := by
    unfold HoldsW at hHW
    rw [if_pos hsb] at hHW
    cases hf : parseM t with
    | none =>
      rw [hf] at hHW
      obtain ⟨rfl, hp7⟩ := hHW
      exact ⟨false, (none, 0, 0), (none, 0, 0), 4, rfl, hp6.call hp7.below, .inl ⟨rfl, rfl⟩⟩
    | some f =>
      rw [hf] at hHW
      rcases hHW with ⟨hA, rfl, hp7⟩ | ⟨stem, loop, sa, sc, pb, pd, hA, rfl, hp7⟩
      · exact ⟨true, (none, 0, 0), (none, 0, 0), 0, rfl, hp6.call hp7.below, .inr ⟨f, rfl, rfl, fun _ => (circ_holds hn0 hbk hml hvs f).1 hA, fun _ => rfl⟩⟩
      · exact ⟨false, (sa, stem.length, sc), (pb, loop.length, pd), 0, rfl, hp6.call hp7.below, .inr ⟨f, rfl, rfl, fun h => Bool.noConfusion h, fun h => absurd ((circ_holds hn0 hbk hml hvs f).2 h) hA.not⟩⟩
  clear hHW hHo harg
  obtain ⟨s1a, s1l, s1c⟩ := s1
  obtain ⟨s2a, s2l, s2c⟩ := s2
  repeat (first | refine WC.seq ?_ | refine WC.reg ?_ | refine WL.pure rfl rfl rfl ?_ | refine WL.nil ?_ | refine WC.skip ?_ | refine WC.block ?_ | refine WC.condT rfl ?_ | refine WC.condF rfl ?_ | refine WL.off rfl rfl rfl ?_ | refine WL.off0 rfl rfl ?_ | refine WC.exit ?_ | refine blk_hit ?_ | refine blk_miss rfl ?_ | refine WC.ret ?_)
  refine WL.alloc rfl rfl rfl (fun b13 w8 h8 => ?_)
  have hp8 := hp7.new h8
  refine WL.storeN rfl rfl rfl rfl rfl (by simp [Value.oneCell']) (hp8.obj 0 rfl) (Nat.le_refl _) rfl (fun w9 h9 => ?_)
  replace hp9 : Hp w w9 (.blk b13 (.cells #[.bool hb, .slice s1a s1l s1c, .slice s2a s2l s2c] 48 (0, 0)) :: .row 3 1 (.slice pa i pc) i (zs ms) :: _) := hp8.set 0 rfl rfl h9
  clear hp6 hp7 hp8 h8 h9
  have hcap := hp9.capR 1 rfl
  have l1 : (ms.take back).length = back := by rw [List.length_take]; omega
  have l2 : (ms.drop back).length = i - back := by rw [List.length_drop]; omega
  repeat (first | refine WC.seq ?_ | refine WC.reg ?_ | refine WL.pure rfl rfl rfl ?_ | refine WL.nil ?_ | refine WC.skip ?_ | refine WC.block ?_ | refine WC.condT rfl ?_ | refine WC.condF rfl ?_ | refine WL.off rfl rfl rfl ?_ | refine WL.off0 rfl rfl ?_ | refine WC.exit ?_ | refine blk_hit ?_ | refine blk_miss rfl ?_ | refine WC.ret ?_)
  refine WC.mid Unit (fun _ => [(13, ptr b13), (14, .int .i64 ec), (15, .bool (ValueM (ms.take back) (ms.drop back) t).1), (16, .int .i64 (ValueM (ms.take back) (ms.drop back) t).2)])
    (fun _ w' => Hp w w' [.blk b13 (.cells #[.bool hb, .slice s1a s1l s1c, .slice s2a s2l s2c] 48 (0, 0))]) ?_ ?_
  · refine WC.regH (fun w' => Hp w w' [.row 3 1 (.slice pa i pc) i (zs ms)]) mixed (by kernel_rfl) (fun w10 hw10 hh10 => ?_)
    have hp10 := Hp.frontT (L := [_, _]) (Hp.pickT (T := vsE vs) [_, _, _, _, _] [0, 1] (hp9.keep hw10) (by decide))
    have hS := hp10.pick [1] (by decide)
    refine WH.pure 0 (by kernel_rfl) rfl (by kernel_rfl) rfl rfl rfl (hS) ?_
    refine WH.pure 1 (by kernel_rfl) rfl (by kernel_rfl) rfl rfl rfl (hS) ?_
    refine WH.take 2 (by kernel_rfl) rfl (by kernel_rfl) rfl rfl (fun w' h => ySlHi (h := back) rfl rfl rfl rfl (by omega)) hS ?_
    refine WH.pure 3 (by kernel_rfl) rfl (by kernel_rfl) rfl rfl rfl (hS) ?_
    refine WH.pure 4 (by kernel_rfl) rfl (by kernel_rfl) rfl rfl rfl (hS) ?_
    refine WH.take 5 (by kernel_rfl) rfl (by kernel_rfl) rfl rfl (fun w' h => ySlLo (l := back) rfl rfl rfl rfl (by omega) hcap) hS ?_
    refine WH.pure 6 (by kernel_rfl) rfl (by kernel_rfl) rfl rfl rfl (hS) ?_
    have hsl1 : Sl w10 pa (zs (ms.take back)) := by
      have := (Hp.sl hp10 1 rfl).take back
      rwa [show (zs ms).take back = zs (ms.take back) from by simp [zs, List.map_take]] at this
    have hsl2 : Sl w10 (Go.W.ofs pa pc back 1) (zs (ms.drop back)) := by
      have := Sl.ofs (len := i) (cap := pc) (l := back) (size := 1) (Hp.sl hp10 1 rfl) (by omega) hcap (by rw [zs_len, Nat.mul_one]; omega)
      rwa [Nat.mul_one, show (zs ms).drop back = zs (ms.drop back) from by simp [zs, List.map_drop]] at this
    have hV := Value_any pa (Go.W.ofs pa pc back 1) pc (pc - back) (ms.take back) (ms.drop back) t (by omega) (by omega) w10 (hG.hp hp10) hsl1 hsl2
    rw [l1, l2] at hV
    refine WH.one 7 rfl (by kernel_rfl) ?_
    refine WL.call rfl rfl rfl rfl rfl ent17 hV ?_
    rintro _ w11 ⟨rfl, hp11⟩
    have hp12 := hp10.call hp11.below
    have hS := hp12.pick [1] (by decide)
    refine WL.nil ⟨hS, ?_⟩
    refine WH.pure 8 (by kernel_rfl) rfl (by kernel_rfl) rfl rfl rfl (hS) ?_
    refine WH.pure 9 (by kernel_rfl) rfl (by kernel_rfl) rfl rfl rfl (hS) ?_
    refine WH.pure 10 (by kernel_rfl) rfl (by kernel_rfl) rfl rfl rfl (hS) ?_
    refine WH.pure 11 (by kernel_rfl) rfl (by kernel_rfl) rfl rfl rfl (hS) ?_
    refine WH.pure 12 (by kernel_rfl) rfl (by kernel_rfl) rfl rfl rfl (hS) ?_
    refine WH.done (by kernel_rfl) ?_
    exact ⟨(), ⟨rfl, rfl, rfl, rfl, rfl⟩, hp12.pick [0] (by decide)⟩
  rintro _ e9 w10 hsub hp10
  refine WC.sub hsub ?_
  clear hsub e9 hp9
  have hmo1 : ∀ m ∈ ms.take back ++ ms.drop back, 0 ≤ m ∧ m ≤ 15 := by rw [List.take_append_drop]; exact hmo
  rcases hcase with ⟨hf, rfl⟩ | ⟨f, hf, rfl, hbs⟩
  · rw [ValueM_none hf (by omega) (by omega) (by omega) hmo1]
    repeat (first | refine WC.seq ?_ | refine WC.reg ?_ | refine WL.pure rfl rfl rfl ?_ | refine WL.nil ?_ | refine WC.skip ?_ | refine WC.block ?_ | refine WC.condT rfl ?_ | refine WC.condF rfl ?_ | refine WL.off rfl rfl rfl ?_ | refine WL.off0 rfl rfl ?_ | refine WC.exit ?_ | refine blk_hit ?_ | refine blk_miss rfl ?_ | refine WC.ret ?_)
    refine WL.call rfl rfl rfl rfl rfl ent20 (awake_any w10 (hG.hp hp10)) ?_
    rintro _ w11 ⟨rfl, hp11⟩
    repeat (first | refine WC.seq ?_ | refine WC.reg ?_ | refine WL.pure rfl rfl rfl ?_ | refine WL.nil ?_ | refine WC.skip ?_ | refine WC.block ?_ | refine WC.condT rfl ?_ | refine WC.condF rfl ?_ | refine WL.off rfl rfl rfl ?_ | refine WL.off0 rfl rfl ?_ | refine WC.exit ?_ | refine blk_hit ?_ | refine blk_miss rfl ?_ | refine WC.ret ?_)
    exact Res.one rfl rfl rfl ⟨rfl, (hp10.call hp11.below).nil'⟩
  · obtain ⟨b, hV, hbv⟩ := ValueM_ok hf (l1 := ms.take back) (l2 := ms.drop back) (by omega) (by omega) (by omega) hmo1
    rw [List.take_append_drop, l1] at hbv
    obtain rfl : b = hb := bool_iff hbv hbs
    rw [hV]
    repeat (first | refine WC.seq ?_ | refine WC.reg ?_ | refine WL.pure rfl rfl rfl ?_ | refine WL.nil ?_ | refine WC.skip ?_ | refine WC.block ?_ | refine WC.condT rfl ?_ | refine WC.condF rfl ?_ | refine WL.off rfl rfl rfl ?_ | refine WL.off0 rfl rfl ?_ | refine WC.exit ?_ | refine blk_hit ?_ | refine blk_miss rfl ?_ | refine WC.ret ?_)
    refine WL.loadB rfl rfl rfl rfl rfl (hp10.obj 0 rfl) (j := 0) rfl ?_
    cases b <;>
    · repeat (first | refine WC.seq ?_ | refine WC.reg ?_ | refine WL.pure rfl rfl rfl ?_ | refine WL.nil ?_ | refine WC.skip ?_ | refine WC.block ?_ | refine WC.condT rfl ?_ | refine WC.condF rfl ?_ | refine WL.off rfl rfl rfl ?_ | refine WL.off0 rfl rfl ?_ | refine WC.exit ?_ | refine blk_hit ?_ | refine blk_miss rfl ?_ | refine WC.ret ?_)
      refine WL.call rfl rfl rfl rfl rfl ent20 (awake_any w10 (hG.hp hp10)) ?_
      rintro _ w11 ⟨rfl, hp11⟩
      repeat (first | refine WC.seq ?_ | refine WC.reg ?_ | refine WL.pure rfl rfl rfl ?_ | refine WL.nil ?_ | refine WC.skip ?_ | refine WC.block ?_ | refine WC.condT rfl ?_ | refine WC.condF rfl ?_ | refine WL.off rfl rfl rfl ?_ | refine WL.off0 rfl rfl ?_ | refine WC.exit ?_ | refine blk_hit ?_ | refine blk_miss rfl ?_ | refine WC.ret ?_)
      exact Res.one rfl rfl rfl ⟨rfl, (hp10.call hp11.below).nil'⟩
end Go.Proofs.YtpbbneclkhfgoaaDoor
end
section
/- The arguments of the laws on formulas, opened; what the package's variables hold. -/
namespace Go.Proofs.YtpbbneclkhfgoaaDoor
set_option maxRecDepth 100000
open Go.W Go.Ltl Go.RowKit Go.ChangeShapes Go.WideShapes Go.Deep

theorem own : ownKnob Tryd.prog.godebug = none := by kernel_rfl
theorem laidOut : laidOutB Tryd.prog = true := by kernel_rfl
theorem cellsStr : Tryd.prog.cellsOf 9 = 1 := by kernel_rfl
theorem cellsInt : Tryd.prog.cellsOf 3 = 1 := by kernel_rfl
theorem cellsInts : Tryd.prog.cellsOf 22 = 1 := by kernel_rfl
section
variable {H : Type} {enc : TypeId × Value → H} {w : World}
theorem sl_of_cells {a : Addr} {cs : List Value} (h : ∀ (i : Nat) (u : Value), cs[i]? = some u → w.cell? (a.add i) = some u) : Sl w (some a) cs := by
  intro i u hi
  have hc := h i u hi
  obtain ⟨b, o, s⟩ := a
  cases s with
  | none => exact ⟨b, o, rfl, by rw [Addr.add_lit] at hc; exact hc⟩
  | some q =>
    exfalso
    obtain ⟨hlt, _⟩ := List.getElem?_eq_some_iff.1 hi
    have h0 := h 0 cs[0] (by simp)
    have e0 : (⟨b, o, some q⟩ : Addr).add 0 = ⟨b, o, some q⟩ := by simp [Addr.add]
    rw [e0] at h0
    unfold World.cell? at h0
    simp at h0
    split at h0 <;> cases h0
/-- A string. -/
theorem open_str {fuel : Nat} {cs : List Value} {x : DataW H × List MemPlace} (h : DataW.trod enc Tryd.prog w 0 (fun _ => true) true fuel 9 cs = some x) : ∃ s : Str, cs = [st s] ∧ s.length ≤ 9223372036854775807 := by
  obtain ⟨s, hc, _, hl⟩ := DataW.trod_string Tryd.underlying9 h
  obtain ⟨l, rfl⟩ := sb_ex s
  unfold maxLen at hl
  rw [sb_size] at hl
  exact ⟨l, hc, hl⟩
theorem open_ints {fuel : Nat} {cs : List Value} {x : DataW H × List MemPlace} (h : DataW.trod enc Tryd.prog w 0 (fun _ => true) true fuel 22 cs = some x) :
    ∃ (a : Option Addr) (xs : List Int) (cap : Nat), cs = [.slice a xs.length cap] ∧ Sl w a (zs xs) ∧ xs.length ≤ cap ∧ xs.length ≤ 9223372036854775807 := by
  rcases open_slice1 Tryd.underlying22 cellsInt h with ⟨rfl, _⟩ | ⟨a, len, cap, m, n, V, D, Pl, rfl, _, hl, hm, hmm, _, hx⟩
  · exact ⟨none, [], 0, rfl, (fun i u hi => by cases hi), Nat.le_refl _, Nat.zero_le _⟩
  · have hlm : len ≤ m := by rw [hmm]; split <;> omega
    have each : ∀ i, i < len → ∃ e : Int, w.cell? (a.add i) = some (.int .i64 e) := by
      intro i hi
      obtain ⟨h1, h2⟩ := hx i (by omega)
      obtain ⟨n0, e0, _, _⟩ := DataW.trod_int Tryd.underlying3 h2
      simp only [List.cons.injEq, and_true] at e0
      exact ⟨n0, by rw [h1, e0]⟩
    obtain ⟨e, he⟩ := choose_lt each
    refine ⟨some a, (List.range len).map e, cap, by simp, ?_, by simpa using hl, by simp; unfold maxLen at hm; omega⟩
    refine sl_of_cells ?_
    intro i u hi
    have hlt : i < len := by
      have := (List.getElem?_eq_some_iff.1 hi).1
      simpa [zs] using this
    rw [he i hlt]
    rw [← hi]
    simp [zs, hlt]
/-- A lasso of marks. -/
theorem open_marks {fuel : Nat} {cs : List Value} {x : DataW H × List MemPlace} (h : DataW.trod enc Tryd.prog w 0 (fun _ => true) true fuel 24 cs = some x) :
    ∃ (a1 : Option Addr) (l1 : List Int) (k1 : Nat) (a2 : Option Addr) (l2 : List Int) (k2 : Nat), cs = [.slice a1 l1.length k1, .slice a2 l2.length k2] ∧ Sl w a1 (zs l1) ∧ l1.length ≤ k1 ∧ l1.length ≤ 9223372036854775807 ∧ Sl w a2 (zs l2) ∧ l2.length ≤ k2 ∧ l2.length ≤ 9223372036854775807 := by
  obtain ⟨xs, k, _, _, hcl, hxl, hf⟩ := DataW.trod_struct Tryd.underlying24 h
  have hcl' : cs.length = 2 := hcl
  match xs, hxl, cs, hcl' with
  | [y0, y1], _, [v0, v1], _ =>
    have g0 : DataW.trod enc Tryd.prog w 0 (fun _ => true) true k 22 (List.take (Tryd.prog.cellsOf 22) (List.drop 0 [v0, v1])) = some y0 := hf 0 _ rfl
    have g1 : DataW.trod enc Tryd.prog w 0 (fun _ => true) true k 22 (List.take (Tryd.prog.cellsOf 22) (List.drop 1 [v0, v1])) = some y1 := hf 1 _ rfl
    rw [cellsInts] at g0 g1
    obtain ⟨a1, l1, k1, e0, p1, p2, p3⟩ := open_ints (show DataW.trod enc Tryd.prog w 0 (fun _ => true) true k 22 [v0] = some y0 from g0)
    obtain ⟨a2, l2, k2, e1, q1, q2, q3⟩ := open_ints (show DataW.trod enc Tryd.prog w 0 (fun _ => true) true k 22 [v1] = some y1 from g1)
    simp only [List.cons.injEq, and_true] at e0 e1
    subst e0; subst e1
    exact ⟨a1, l1, k1, a2, l2, k2, rfl, p1, p2, p3, q1, q2, q3⟩
end

/-! ### The package's variables -/
theorem var_cell {w : World} {n : String} {g : Nat} {cs : Array Value} {v : Value} (hg : Tryd.prog.globalNamed n = some g) (h : w.var? Tryd.prog n = some cs) (hv : cs[0]? = some v) : w.cell? ⟨g, 0, none⟩ = some v := by
  unfold World.var? at h
  rw [hg] at h
  simp only [Option.bind_some] at h
  split at h
  · rename_i cs' t fr hh
    simp only [Option.some.injEq] at h
    subst h
    exact cell_of_obj hh hv
  · cases h
/-- A variable that is a list of strings. -/
theorem laid_strs {w : World} {n : String} {g : Nat} (L : List Str) (hg : Tryd.prog.globalNamed n = some g) (ht : (Tryd.prog.globals[g]?).map (·.type) = some 92) (h : Lib.VarReads Tryd.prog w n (.slice (L.map fun s => .lit (.string s)) [])) (hL : 0 < L.length) :
    ∃ a c, w.cell? ⟨g, 0, none⟩ = some (.slice a L.length c) ∧ Sl w a (L.map st) := by
  obtain ⟨g', t', cs, fuel, p, h1, h2, h3, h4⟩ := h
  rw [hg] at h1
  simp only [Option.some.injEq] at h1
  subst h1
  rw [ht] at h2
  simp only [Option.some.injEq] at h2
  subst h2
  rcases open_slice1 Tryd.underlying92 cellsStr h4 with ⟨_, hx⟩ | ⟨a, len, cap, m, k, V, D, Pl, hcs, _, hl, hm, hmm, hx, hcell⟩
  · simp only [Prod.mk.injEq] at hx
    cases hx.1
  · simp only [Prod.mk.injEq, DataW.slice.injEq] at hx
    obtain ⟨⟨hD, hrest⟩, _⟩ := hx
    have hlen : len = L.length := by have := congrArg List.length hD; simpa using this.symm
    subst hlen
    have hv : cs[0]? = some (.slice (some a) L.length cap) := by
      have := congrArg (fun l : List Value => l[0]?) hcs
      simpa using this
    refine ⟨some a, cap, var_cell hg h3 hv, ?_⟩
    refine sl_of_cells ?_
    intro i u hi
    have hlt : i < L.length := by
      have := (List.getElem?_eq_some_iff.1 hi).1
      simpa using this
    have hlm : L.length ≤ m := by rw [hmm]; split <;> omega
    obtain ⟨c1, c2⟩ := hcell i (by omega)
    obtain ⟨s, e1, e2, _⟩ := DataW.trod_string Tryd.underlying9 c2
    obtain ⟨l, rfl⟩ := sb_ex s
    have hDi : D i = .lit (.string L[i]) := by
      have := congrArg (fun l => l[i]?) hD
      simpa [hlt] using this.symm
    simp only [Prod.mk.injEq] at e2
    rw [hDi] at e2
    have hll : L[i] = l := by
      have := e2.1
      simp only [DataW.lit.injEq, Lit.string.injEq] at this
      rw [this]; rfl
    simp only [List.cons.injEq, and_true] at e1
    rw [c1, e1, ← hi]
    simp [hlt, hll, st]
def dualS : List (Str × Str) := [(wAlways, wFinally), (wAnd, wOr), (wFalse, wTrue), (wFinally, wAlways), (wNext, wNext), (wOr, wAnd), (wRelease, wUntil), (wTrue, wFalse), (wUntil, wRelease)]
theorem laid_dual_is : (Rows.laid_olivette_ltl_dual : DataW Unit) = .map (dualS.map fun p => (.string p.1, .lit (.string p.2))) := rfl
theorem dualS_iff : ∀ p, p ∈ dualS ↔ p ∈ dualL := by
  intro p
  simp only [dualS, dualL, List.mem_cons, List.not_mem_nil, or_false]
  constructor <;> (intro h; rcases h with h | h | h | h | h | h | h | h | h <;> simp [h])
theorem dualL_key : ∀ p ∈ dualL, ∀ q ∈ dualL, p.1 = q.1 → p = q := by decide
theorem fndS_dual {P : List (Str × Str)} (h : ∀ p, p ∈ P ↔ p ∈ dualL) (s : Str) : fndS P s = dualM s := by
  unfold fndS dualM
  cases h1 : P.find? (fun p => decide (p.1 = s)) with
  | none =>
    cases h2 : dualL.find? (fun p => decide (p.1 = s)) with
    | none => rfl
    | some q =>
      exfalso
      have hq := List.mem_of_find?_eq_some h2
      have hs := List.find?_some h2
      exact absurd hs (List.find?_eq_none.1 h1 q ((h q).2 hq))
  | some p =>
    have hp := (h p).1 (List.mem_of_find?_eq_some h1)
    have hs : p.1 = s := by simpa using List.find?_some h1
    cases h2 : dualL.find? (fun p => decide (p.1 = s)) with
    | none => exact absurd (by simpa using hs) (List.find?_eq_none.1 h2 p hp)
    | some q =>
      have hq := List.mem_of_find?_eq_some h2
      have hs2 : q.1 = s := by simpa using List.find?_some h2
      rw [dualL_key p hp q hq (hs.trans hs2.symm)]
theorem se_of {es : List MapEntry} {rgf : MapEntry → Lit × DataW Unit} (h : ∀ y ∈ es, ∃ s t : Str, y.key = st s ∧ y.val = st t ∧ rgf y = (.string s, .lit (.string t))) : ∃ P, SE es P ∧ es.map rgf = P.map fun p => (.string p.1, .lit (.string p.2)) := by
  induction es with
  | nil => exact ⟨[], trivial, rfl⟩
  | cons y es ih =>
    obtain ⟨P, h1, h2⟩ := ih (fun z hz => h z (List.mem_cons_of_mem _ hz))
    obtain ⟨s, t, k1, k2, k3⟩ := h y (by simp)
    exact ⟨(s, t) :: P, ⟨k1, k2, h1⟩, by rw [List.map_cons, List.map_cons, k3, h2]⟩
theorem laid_map {w : World} {n : String} {g : Nat} (hg : Tryd.prog.globalNamed n = some g) (ht : (Tryd.prog.globals[g]?).map (·.type) = some 136) (h : Lib.VarReads Tryd.prog w n Rows.laid_olivette_ltl_dual) :
    ∃ mb es c P, w.cell? ⟨g, 0, none⟩ = some (.map (some mb)) ∧ mb < w.heap.size ∧ w.heap[mb]? = some (.map es c) ∧ SE es.toList P ∧ ∀ s, fndS P s = dualM s := by
  obtain ⟨g', t', cs, fuel, p, h1, h2, h3, h4⟩ := h
  rw [hg] at h1
  simp only [Option.some.injEq] at h1
  subst h1
  rw [ht] at h2
  simp only [Option.some.injEq] at h2
  subst h2
  rw [laid_dual_is] at h4
  rcases WideElems.open_map Tryd.underlying136 h4 with ⟨_, hx⟩ | ⟨b, es, clock, m, _, hcs, hb, _, hfit, hx⟩
  · simp only [Prod.mk.injEq] at hx
    cases hx.1
  · have hv : cs[0]? = some (.map (some b)) := by
      have := congrArg (fun l : List Value => l[0]?) hcs
      simpa using this
    have hread : ∀ y ∈ es.toList, ∃ s t : Str, y.key = st s ∧ y.val = st t ∧ WideElems.rg Tryd.prog 9 (WideElems.elemAt (fun _ => ()) Tryd.prog w 0 (fun _ => true) false m 9) y = (.string s, .lit (.string t)) := by
      intro y hy
      obtain ⟨z, hz⟩ := hfit.reads y hy
      have hk := WideElems.rd_key hz
      obtain ⟨q, hq, hq2⟩ := WideElems.rd_val hz
      have hk2 : ∃ s : Str, y.key = st s ∧ z.1 = .string s := by
        unfold keyOf at hk
        rw [Tryd.underlying9] at hk
        simp only at hk
        cases hkey : y.key <;> rw [hkey] at hk <;> simp only [mapKey, Tryd.underlying9] at hk <;> try (cases hk; done)
        rename_i s
        split at hk
        · obtain ⟨l, rfl⟩ := sb_ex s
          simp only [Option.some.injEq] at hk
          exact ⟨l, rfl, hk.symm⟩
        · cases hk
      obtain ⟨s, ks, zs1⟩ := hk2
      have hv2 : ∃ t : Str, y.val = st t ∧ z.2 = .lit (.string t) := by
        unfold WideElems.elemAt at hq
        split at hq
        · rename_i hform
          obtain ⟨s2, e1, e2, _⟩ := DataW.trod_string Tryd.underlying9 hq
          obtain ⟨l, rfl⟩ := sb_ex s2
          refine ⟨l, ?_, ?_⟩
          · cases hval : y.val <;> rw [hval] at e1 hform <;> simp [Value.cells] at e1
            · rw [e1]; rfl
            · rename_i vs
              exfalso
              unfold Value.formed at hform
              rw [Tryd.underlying9] at hform
              simp at hform
          · rw [hq2, e2]; rfl
        · cases hq
      obtain ⟨t, kt, zt⟩ := hv2
      exact ⟨s, t, ks, kt, by rw [WideElems.rg_of hz]; exact Prod.ext zs1 zt⟩
    obtain ⟨P, hSE, hP⟩ := se_of hread
    simp only [Prod.mk.injEq, DataW.map.injEq] at hx
    rw [hP] at hx
    have hperm := (sorted_perm (P.map fun p => ((Lit.string p.1, DataW.lit (Lit.string p.2)) : Lit × DataW Unit)))
    rw [← hx.1] at hperm
    have hmem : ∀ q, q ∈ P ↔ q ∈ dualL := by
      intro q
      rw [← dualS_iff]
      have h1 : ∀ (L : List (Str × Str)), q ∈ L ↔ ((Lit.string q.1, DataW.lit (Lit.string q.2)) : Lit × DataW Unit) ∈ L.map fun p => (Lit.string p.1, DataW.lit (Lit.string p.2)) := by
        intro L
        constructor
        · intro h; exact List.mem_map.2 ⟨q, h, rfl⟩
        · intro h
          obtain ⟨q2, h3, h4⟩ := List.mem_map.1 h
          simp only [Prod.mk.injEq, Lit.string.injEq, DataW.lit.injEq] at h4
          have : q2 = q := Prod.ext h4.1 h4.2
          rw [← this]; exact h3
      rw [h1 P, h1 dualS]
      exact hperm.mem_iff.symm
    exact ⟨b, es, clock, P, var_cell hg h3 hv, (Array.getElem?_eq_some_iff.1 hb).1, hb, hSE, fndS_dual hmem⟩
def laidAll : List (String × DataW Unit) := [("olivette/ltl.atoms", Rows.laid_olivette_ltl_atoms), ("olivette/ltl.ones", Rows.laid_olivette_ltl_ones), ("olivette/ltl.twos", Rows.laid_olivette_ltl_twos), ("olivette/ltl.dual", Rows.laid_olivette_ltl_dual)]
theorem gl_of {w : World} (h : laidMetH Tryd.prog laidAll w) : Gl w := by
  have h1 : laidMet Tryd.prog laidAll w := h
  refine ⟨?_, ?_, ?_, ?_⟩
  · exact laid_strs atomsL (n := "olivette/ltl.atoms") (by kernel_rfl) (by kernel_rfl) (Lib.laidMet.reads h1 (by simp [laidAll]; rfl)) (by decide)
  · exact laid_strs onesL (n := "olivette/ltl.ones") (by kernel_rfl) (by kernel_rfl) (Lib.laidMet.reads h1 (by simp [laidAll]; rfl)) (by decide)
  · exact laid_strs twosL (n := "olivette/ltl.twos") (by kernel_rfl) (by kernel_rfl) (Lib.laidMet.reads h1 (by simp [laidAll]; rfl)) (by decide)
  · exact laid_map (n := "olivette/ltl.dual") (by kernel_rfl) (by kernel_rfl) (Lib.laidMet.reads h1 (by simp [laidAll]))
end Go.Proofs.YtpbbneclkhfgoaaDoor
end
section
/- A world in which the package's variables hold what its text lays. -/
namespace Go.Proofs.YtpbbneclkhfgoaaDoor
set_option maxRecDepth 100000
open Go.W Go.Ltl Go.RowKit Go.ChangeShapes Go.WideShapes Go.Deep
def putV (v : Value) : Obj → Obj
  | .cells _ t fr => .cells #[v] t fr
  | o => o
def strBlk (l : List Str) : Obj := .cells (l.map st).toArray 9
def dualEs : List (Str × Str) → Nat → List MapEntry
  | [], _ => []
  | p :: r, i => { key := st p.1, val := st p.2, born := i } :: dualEs r (i + 1)
noncomputable def laidWorld (os : Os) : World :=
  { World.holding Tryd.prog os ⟨#[], #[], []⟩ with heap := (((((World.holding Tryd.prog os ⟨#[], #[], []⟩).heap.modify 0 (putV (.map (some 9)))).modify 1 (putV (.slice (some ⟨10, 0, none⟩) 6 6))).modify 2 (putV (.slice (some ⟨11, 0, none⟩) 4 4))).modify 3 (putV (.slice (some ⟨12, 0, none⟩) 4 4))) ++ #[.map (dualEs dualL 0).toArray 9, strBlk atomsL, strBlk onesL, strBlk twosL] }
theorem size_is (os : Os) : (World.holding Tryd.prog os ⟨#[], #[], []⟩).heap.size = 9 := by kernel_rfl
theorem laid_met0 (os : Os) (args : Array Value) : laidMet Tryd.prog laidAll ((laidWorld os).forCall (fun _ _ => 0) ⟨#[], args, []⟩).memory :=
  laidMet_of_run' 8 (by kernel_rfl) (by kernel_rfl)
end Go.Proofs.YtpbbneclkhfgoaaDoor
end
