/- ltl, twelfth: the values of operations of two formulas (printed by genu12.py). -/
import Derived.Test.YtpbbneclkhfgoaaDoorU11
namespace Go.Proofs.YtpbbneclkhfgoaaDoor
open Go.W Go.Ltl Go.RowKit
set_option maxRecDepth 100000
attribute [local irreducible] WC WL WQ WS WH

section
variable (a : Option Addr) (c : Nat) (ms : List Int) (lp : Nat) (hn : ms.length ≤ 1000000) (hlp : lp < ms.length)
include hn hlp in
theorem values_tw (s : Str) (f g : Fm) (hs : s ∈ twosL) (w : World) (hsl : Sl w a (zs ms)) (A B : List Bool) (hAl : A.length = ms.length) (hBl : B.length = ms.length)
  (ihf : ∀ w, Sl w a (zs ms) → Ret Tryd.prog 49 [lsV a ms.length c lp, fmV f] w (VaQ ms.length A w)) (ihg : ∀ w, Sl w a (zs ms) → Ret Tryd.prog 49 [lsV a ms.length c lp, fmV g] w (VaQ ms.length B w)) :
  Ret Tryd.prog 49 [lsV a ms.length c lp, fmV (.tw_ s f g)] w (VaQ ms.length (twM s A B ms.length lp) w) := by
  refine enter Tryd.func49 rfl rfl ⟨rfl, rfl⟩ rfl ?_
  repeat (first | refine WC.seq ?_ | refine WC.reg ?_ | refine WL.pure rfl rfl rfl ?_ | refine WL.nil ?_ | refine WC.skip ?_ | refine WC.block ?_ | refine WC.condT rfl ?_ | refine WC.condF rfl ?_ | refine WL.off rfl rfl rfl ?_ | refine WL.off0 rfl rfl ?_ | refine WC.exit ?_ | refine blk_hit ?_ | refine blk_miss rfl ?_ | refine WC.ret ?_)
  refine WL.box rfl rfl rfl (fun bx w1 h1 => ?_)
  have hp1 : Hp w w1 [Lx bx a ms.length c lp] := (Hp.start w).new h1
  repeat (first | refine WC.seq ?_ | refine WC.reg ?_ | refine WL.pure rfl rfl rfl ?_ | refine WL.nil ?_ | refine WC.skip ?_ | refine WC.block ?_ | refine WC.condT rfl ?_ | refine WC.condF rfl ?_ | refine WL.off rfl rfl rfl ?_ | refine WL.off0 rfl rfl ?_ | refine WC.exit ?_ | refine blk_hit ?_ | refine blk_miss rfl ?_ | refine WC.ret ?_)
  refine WL.loadB rfl rfl rfl rfl rfl (hp1.obj 0 rfl) (j := 0) rfl ?_
  repeat (first | refine WC.seq ?_ | refine WC.reg ?_ | refine WL.pure rfl rfl rfl ?_ | refine WL.nil ?_ | refine WC.skip ?_ | refine WC.block ?_ | refine WC.condT rfl ?_ | refine WC.condF rfl ?_ | refine WL.off rfl rfl rfl ?_ | refine WL.off0 rfl rfl ?_ | refine WC.exit ?_ | refine blk_hit ?_ | refine blk_miss rfl ?_ | refine WC.ret ?_)
  refine WL.make rfl rfl rfl rfl rfl rfl rfl rfl (by show 1 * ms.length ≤ _; omega) (by unfold maxLen; omega) ?_
  intro ob w2 hob
  have hp2 : Hp w w2 [Lb ob (List.replicate ms.length false), Lx bx a ms.length c lp] := by
    have := hp1.new hob
    unfold Lb bl
    rw [List.map_replicate]
    exact this
  repeat (first | refine WC.seq ?_ | refine WC.reg ?_ | refine WL.pure rfl rfl rfl ?_ | refine WL.nil ?_ | refine WC.skip ?_ | refine WC.block ?_ | refine WC.condT rfl ?_ | refine WC.condF rfl ?_ | refine WL.off rfl rfl rfl ?_ | refine WL.off0 rfl rfl ?_ | refine WC.exit ?_ | refine blk_hit ?_ | refine blk_miss rfl ?_ | refine WC.ret ?_)
  refine WL.val rfl rfl rfl (yAsT rfl rfl rfl) ?_
  repeat (first | refine WC.seq ?_ | refine WC.reg ?_ | refine WL.pure rfl rfl rfl ?_ | refine WL.nil ?_ | refine WC.skip ?_ | refine WC.block ?_ | refine WC.condT rfl ?_ | refine WC.condF rfl ?_ | refine WL.off rfl rfl rfl ?_ | refine WL.off0 rfl rfl ?_ | refine WC.exit ?_ | refine blk_hit ?_ | refine blk_miss rfl ?_ | refine WC.ret ?_)
  refine WL.val rfl rfl rfl (yAsT rfl rfl rfl) ?_
  repeat (first | refine WC.seq ?_ | refine WC.reg ?_ | refine WL.pure rfl rfl rfl ?_ | refine WL.nil ?_ | refine WC.skip ?_ | refine WC.block ?_ | refine WC.condT rfl ?_ | refine WC.condF rfl ?_ | refine WL.off rfl rfl rfl ?_ | refine WL.off0 rfl rfl ?_ | refine WC.exit ?_ | refine blk_hit ?_ | refine blk_miss rfl ?_ | refine WC.ret ?_)
  refine WL.val rfl rfl rfl (yAsT rfl rfl rfl) ?_
  repeat (first | refine WC.seq ?_ | refine WC.reg ?_ | refine WL.pure rfl rfl rfl ?_ | refine WL.nil ?_ | refine WC.skip ?_ | refine WC.block ?_ | refine WC.condT rfl ?_ | refine WC.condF rfl ?_ | refine WL.off rfl rfl rfl ?_ | refine WL.off0 rfl rfl ?_ | refine WC.exit ?_ | refine blk_hit ?_ | refine blk_miss rfl ?_ | refine WC.ret ?_)
  refine WL.alloc rfl rfl rfl (fun b2 w3 h3 => ?_)
  have hp3 := hp2.new h3
  refine WL.storeN rfl rfl rfl rfl rfl (by simp [Value.oneCell', st]; exact ⟨fm_one f, fm_one g⟩) (hp3.obj 0 rfl) (Nat.le_refl _) rfl (fun w4 h4 => ?_)
  have hp4 : Hp w w4 [Lb ob (List.replicate ms.length false), Q2b b2 s f g, Lx bx a ms.length c lp] := (hp3.set 0 rfl rfl h4).pick [1, 0, 2] (by decide)
  refine WL.nil ?_
  refine WC.seq ?_
  refine WC.mid (Nat × Nat × Nat × Nat) (fun (v14, v15, ab, bb) => [(2, ptr bx), (5, .slice (some ⟨ob, 0, none⟩) ms.length ms.length), (13, ptr b2), (14, ptr v14), (15, ptr v15)]) (fun (v14, v15, ab, bb) w' => Hp w w' [Lb ob (List.replicate ms.length false), Va v14 (.slice (some ⟨ab, 0, none⟩) ms.length ms.length), Va v15 (.slice (some ⟨bb, 0, none⟩) ms.length ms.length), Lb ab A, Lb bb B, Q2b b2 s f g, Lx bx a ms.length c lp]) ?_ ?_
  · refine WC.regH (fun w' => Hp w w' [Q2b b2 s f g, Lx bx a ms.length c lp]) mixed (by kernel_rfl) (fun wq0 hwq hhq => ?_)
    have hq0 := hp4.keep hwq
    have hS : Hp w wq0 [Q2b b2 s f g, Lx bx a ms.length c lp] := hq0.pick [1, 2] (by decide)
    refine WH.take 0 (by kernel_rfl) rfl (by kernel_rfl) rfl rfl (fun w' h => run_loadN rfl rfl (cs := [.slice a ms.length c, .int .i64 (lp : Nat)]) rfl rfl (fun q v hq => by rw [Addr.add_lit]; exact cell_of_obj (h.obj 1 rfl) (by rw [Nat.zero_add]; simpa using hq))) hS ?_
    refine WH.pure 1 (by kernel_rfl) rfl (by kernel_rfl) rfl rfl rfl (hS) ?_
    refine WH.load 2 (by kernel_rfl) rfl (by kernel_rfl) rfl rfl rfl rfl rfl (fun w' h => cell_of_obj (h.obj 0 rfl) (j := 1) rfl) hS ?_
    refine WH.take 4 (by kernel_rfl) rfl (by kernel_rfl) rfl rfl (fun w' h => run_loadN rfl rfl (cs := [.slice a ms.length c, .int .i64 (lp : Nat)]) rfl rfl (fun q v hq => by rw [Addr.add_lit]; exact cell_of_obj (h.obj 1 rfl) (by rw [Nat.zero_add]; simpa using hq))) hS ?_
    refine WH.pure 5 (by kernel_rfl) rfl (by kernel_rfl) rfl rfl rfl (hS) ?_
    refine WH.load 6 (by kernel_rfl) rfl (by kernel_rfl) rfl rfl rfl rfl rfl (fun w' h => cell_of_obj (h.obj 0 rfl) (j := 2) rfl) hS ?_
    refine WH.many [3, 8, 9] (by kernel_rfl) (by decide) ?_
    intro i hi
    simp only [List.mem_cons, List.not_mem_nil, or_false] at hi
    rcases hi with rfl | rfl | rfl
    · refine ⟨_, rfl, ?_⟩
      refine WL.call rfl rfl rfl rfl rfl ent49 (ihf wq0 (hsl.hp hq0)) ?_
      rintro v wq1 ⟨ab, rfl, hr0⟩
      have hq1 := hq0.comb hr0
      refine WL.nil ⟨hq1.pick [2, 3] (by decide), ?_⟩
      refine WH.many [7, 8, 9] (by kernel_rfl) (by decide) ?_
      intro i hi
      simp only [List.mem_cons, List.not_mem_nil, or_false] at hi
      rcases hi with rfl | rfl | rfl
      · refine ⟨_, rfl, ?_⟩
        refine WL.call rfl rfl rfl rfl rfl ent49 (ihg wq1 (hsl.hp hq1)) ?_
        rintro v wq2 ⟨bb, rfl, hr1⟩
        have hq2 := hq1.comb hr1
        refine WL.nil ⟨hq2.pick [3, 4] (by decide), ?_⟩
        refine WH.many [8, 9] (by kernel_rfl) (by decide) ?_
        intro i hi
        simp only [List.mem_cons, List.not_mem_nil, or_false] at hi
        rcases hi with rfl | rfl
        · refine ⟨_, rfl, ?_⟩
          refine WL.alloc rfl rfl rfl (fun v14 wq3 hr2 => ?_)
          have hq3 := hq2.new hr2
          refine WL.nil ⟨hq3.pick [4, 5] (by decide), ?_⟩
          refine WH.one 9 rfl (by kernel_rfl) ?_
          refine WL.alloc rfl rfl rfl (fun v15 wq4 hr3 => ?_)
          have hq4 := hq3.new hr3
          refine WL.nil ⟨hq4.pick [5, 6] (by decide), ?_⟩
          refine WH.one 10 rfl (by kernel_rfl) ?_
          refine WL.store rfl rfl rfl rfl rfl rfl (hq4.obj 1 rfl) (Nat.lt_succ_self 0) (fun wq5 hr4 => ?_)
          have hq5 := hq4.set 1 rfl rfl hr4
          refine WL.nil ⟨hq5.pick [5, 6] (by decide), ?_⟩
          refine WH.one 11 rfl (by kernel_rfl) ?_
          refine WL.store rfl rfl rfl rfl rfl rfl (hq5.obj 0 rfl) (Nat.lt_succ_self 0) (fun wq6 hr5 => ?_)
          have hq6 := hq5.set 0 rfl rfl hr5
          refine WL.nil ⟨hq6.pick [5, 6] (by decide), ?_⟩
          refine WH.done (by kernel_rfl) ?_
          exact ⟨(v14, v15, ab, bb), ⟨rfl, rfl, rfl, rfl, rfl, rfl⟩, hq6.pick [4, 1, 0, 3, 2, 5, 6] (by decide)⟩
        · refine ⟨_, rfl, ?_⟩
          refine WL.alloc rfl rfl rfl (fun v15 wq3 hr2 => ?_)
          have hq3 := hq2.new hr2
          refine WL.nil ⟨hq3.pick [4, 5] (by decide), ?_⟩
          refine WH.one 8 rfl (by kernel_rfl) ?_
          refine WL.alloc rfl rfl rfl (fun v14 wq4 hr3 => ?_)
          have hq4 := hq3.new hr3
          refine WL.nil ⟨hq4.pick [5, 6] (by decide), ?_⟩
          refine WH.one 10 rfl (by kernel_rfl) ?_
          refine WL.store rfl rfl rfl rfl rfl rfl (hq4.obj 0 rfl) (Nat.lt_succ_self 0) (fun wq5 hr4 => ?_)
          have hq5 := hq4.set 0 rfl rfl hr4
          refine WL.nil ⟨hq5.pick [5, 6] (by decide), ?_⟩
          refine WH.one 11 rfl (by kernel_rfl) ?_
          refine WL.store rfl rfl rfl rfl rfl rfl (hq5.obj 1 rfl) (Nat.lt_succ_self 0) (fun wq6 hr5 => ?_)
          have hq6 := hq5.set 1 rfl rfl hr5
          refine WL.nil ⟨hq6.pick [5, 6] (by decide), ?_⟩
          refine WH.done (by kernel_rfl) ?_
          exact ⟨(v14, v15, ab, bb), ⟨rfl, rfl, rfl, rfl, rfl, rfl⟩, hq6.pick [4, 0, 1, 3, 2, 5, 6] (by decide)⟩
      · refine ⟨_, rfl, ?_⟩
        refine WL.alloc rfl rfl rfl (fun v14 wq2 hr1 => ?_)
        have hq2 := hq1.new hr1
        refine WL.nil ⟨hq2.pick [3, 4] (by decide), ?_⟩
        refine WH.many [7, 9] (by kernel_rfl) (by decide) ?_
        intro i hi
        simp only [List.mem_cons, List.not_mem_nil, or_false] at hi
        rcases hi with rfl | rfl
        · refine ⟨_, rfl, ?_⟩
          refine WL.call rfl rfl rfl rfl rfl ent49 (ihg wq2 (hsl.hp hq2)) ?_
          rintro v wq3 ⟨bb, rfl, hr2⟩
          have hq3 := hq2.comb hr2
          refine WL.nil ⟨hq3.pick [4, 5] (by decide), ?_⟩
          refine WH.one 9 rfl (by kernel_rfl) ?_
          refine WL.alloc rfl rfl rfl (fun v15 wq4 hr3 => ?_)
          have hq4 := hq3.new hr3
          refine WL.nil ⟨hq4.pick [5, 6] (by decide), ?_⟩
          refine WH.one 10 rfl (by kernel_rfl) ?_
          refine WL.store rfl rfl rfl rfl rfl rfl (hq4.obj 2 rfl) (Nat.lt_succ_self 0) (fun wq5 hr4 => ?_)
          have hq5 := hq4.set 2 rfl rfl hr4
          refine WL.nil ⟨hq5.pick [5, 6] (by decide), ?_⟩
          refine WH.one 11 rfl (by kernel_rfl) ?_
          refine WL.store rfl rfl rfl rfl rfl rfl (hq5.obj 0 rfl) (Nat.lt_succ_self 0) (fun wq6 hr5 => ?_)
          have hq6 := hq5.set 0 rfl rfl hr5
          refine WL.nil ⟨hq6.pick [5, 6] (by decide), ?_⟩
          refine WH.done (by kernel_rfl) ?_
          exact ⟨(v14, v15, ab, bb), ⟨rfl, rfl, rfl, rfl, rfl, rfl⟩, hq6.pick [4, 2, 0, 3, 1, 5, 6] (by decide)⟩
        · refine ⟨_, rfl, ?_⟩
          refine WL.alloc rfl rfl rfl (fun v15 wq3 hr2 => ?_)
          have hq3 := hq2.new hr2
          refine WL.nil ⟨hq3.pick [4, 5] (by decide), ?_⟩
          refine WH.one 7 rfl (by kernel_rfl) ?_
          refine WL.call rfl rfl rfl rfl rfl ent49 (ihg wq3 (hsl.hp hq3)) ?_
          rintro v wq4 ⟨bb, rfl, hr3⟩
          have hq4 := hq3.comb hr3
          refine WL.nil ⟨hq4.pick [5, 6] (by decide), ?_⟩
          refine WH.one 10 rfl (by kernel_rfl) ?_
          refine WL.store rfl rfl rfl rfl rfl rfl (hq4.obj 2 rfl) (Nat.lt_succ_self 0) (fun wq5 hr4 => ?_)
          have hq5 := hq4.set 2 rfl rfl hr4
          refine WL.nil ⟨hq5.pick [5, 6] (by decide), ?_⟩
          refine WH.one 11 rfl (by kernel_rfl) ?_
          refine WL.store rfl rfl rfl rfl rfl rfl (hq5.obj 1 rfl) (Nat.lt_succ_self 0) (fun wq6 hr5 => ?_)
          have hq6 := hq5.set 1 rfl rfl hr5
          refine WL.nil ⟨hq6.pick [5, 6] (by decide), ?_⟩
          refine WH.done (by kernel_rfl) ?_
          exact ⟨(v14, v15, ab, bb), ⟨rfl, rfl, rfl, rfl, rfl, rfl⟩, hq6.pick [4, 2, 1, 3, 0, 5, 6] (by decide)⟩
      · refine ⟨_, rfl, ?_⟩
        refine WL.alloc rfl rfl rfl (fun v15 wq2 hr1 => ?_)
        have hq2 := hq1.new hr1
        refine WL.nil ⟨hq2.pick [3, 4] (by decide), ?_⟩
        refine WH.many [7, 8] (by kernel_rfl) (by decide) ?_
        intro i hi
        simp only [List.mem_cons, List.not_mem_nil, or_false] at hi
        rcases hi with rfl | rfl
        · refine ⟨_, rfl, ?_⟩
          refine WL.call rfl rfl rfl rfl rfl ent49 (ihg wq2 (hsl.hp hq2)) ?_
          rintro v wq3 ⟨bb, rfl, hr2⟩
          have hq3 := hq2.comb hr2
          refine WL.nil ⟨hq3.pick [4, 5] (by decide), ?_⟩
          refine WH.one 8 rfl (by kernel_rfl) ?_
          refine WL.alloc rfl rfl rfl (fun v14 wq4 hr3 => ?_)
          have hq4 := hq3.new hr3
          refine WL.nil ⟨hq4.pick [5, 6] (by decide), ?_⟩
          refine WH.one 10 rfl (by kernel_rfl) ?_
          refine WL.store rfl rfl rfl rfl rfl rfl (hq4.obj 0 rfl) (Nat.lt_succ_self 0) (fun wq5 hr4 => ?_)
          have hq5 := hq4.set 0 rfl rfl hr4
          refine WL.nil ⟨hq5.pick [5, 6] (by decide), ?_⟩
          refine WH.one 11 rfl (by kernel_rfl) ?_
          refine WL.store rfl rfl rfl rfl rfl rfl (hq5.obj 2 rfl) (Nat.lt_succ_self 0) (fun wq6 hr5 => ?_)
          have hq6 := hq5.set 2 rfl rfl hr5
          refine WL.nil ⟨hq6.pick [5, 6] (by decide), ?_⟩
          refine WH.done (by kernel_rfl) ?_
          exact ⟨(v14, v15, ab, bb), ⟨rfl, rfl, rfl, rfl, rfl, rfl⟩, hq6.pick [4, 0, 2, 3, 1, 5, 6] (by decide)⟩
        · refine ⟨_, rfl, ?_⟩
          refine WL.alloc rfl rfl rfl (fun v14 wq3 hr2 => ?_)
          have hq3 := hq2.new hr2
          refine WL.nil ⟨hq3.pick [4, 5] (by decide), ?_⟩
          refine WH.one 7 rfl (by kernel_rfl) ?_
          refine WL.call rfl rfl rfl rfl rfl ent49 (ihg wq3 (hsl.hp hq3)) ?_
          rintro v wq4 ⟨bb, rfl, hr3⟩
          have hq4 := hq3.comb hr3
          refine WL.nil ⟨hq4.pick [5, 6] (by decide), ?_⟩
          refine WH.one 10 rfl (by kernel_rfl) ?_
          refine WL.store rfl rfl rfl rfl rfl rfl (hq4.obj 1 rfl) (Nat.lt_succ_self 0) (fun wq5 hr4 => ?_)
          have hq5 := hq4.set 1 rfl rfl hr4
          refine WL.nil ⟨hq5.pick [5, 6] (by decide), ?_⟩
          refine WH.one 11 rfl (by kernel_rfl) ?_
          refine WL.store rfl rfl rfl rfl rfl rfl (hq5.obj 2 rfl) (Nat.lt_succ_self 0) (fun wq6 hr5 => ?_)
          have hq6 := hq5.set 2 rfl rfl hr5
          refine WL.nil ⟨hq6.pick [5, 6] (by decide), ?_⟩
          refine WH.done (by kernel_rfl) ?_
          exact ⟨(v14, v15, ab, bb), ⟨rfl, rfl, rfl, rfl, rfl, rfl⟩, hq6.pick [4, 1, 2, 3, 0, 5, 6] (by decide)⟩
    · refine ⟨_, rfl, ?_⟩
      refine WL.alloc rfl rfl rfl (fun v14 wq1 hr0 => ?_)
      have hq1 := hq0.new hr0
      refine WL.nil ⟨hq1.pick [2, 3] (by decide), ?_⟩
      refine WH.many [3, 9] (by kernel_rfl) (by decide) ?_
      intro i hi
      simp only [List.mem_cons, List.not_mem_nil, or_false] at hi
      rcases hi with rfl | rfl
      · refine ⟨_, rfl, ?_⟩
        refine WL.call rfl rfl rfl rfl rfl ent49 (ihf wq1 (hsl.hp hq1)) ?_
        rintro v wq2 ⟨ab, rfl, hr1⟩
        have hq2 := hq1.comb hr1
        refine WL.nil ⟨hq2.pick [3, 4] (by decide), ?_⟩
        refine WH.many [7, 9] (by kernel_rfl) (by decide) ?_
        intro i hi
        simp only [List.mem_cons, List.not_mem_nil, or_false] at hi
        rcases hi with rfl | rfl
        · refine ⟨_, rfl, ?_⟩
          refine WL.call rfl rfl rfl rfl rfl ent49 (ihg wq2 (hsl.hp hq2)) ?_
          rintro v wq3 ⟨bb, rfl, hr2⟩
          have hq3 := hq2.comb hr2
          refine WL.nil ⟨hq3.pick [4, 5] (by decide), ?_⟩
          refine WH.one 9 rfl (by kernel_rfl) ?_
          refine WL.alloc rfl rfl rfl (fun v15 wq4 hr3 => ?_)
          have hq4 := hq3.new hr3
          refine WL.nil ⟨hq4.pick [5, 6] (by decide), ?_⟩
          refine WH.one 10 rfl (by kernel_rfl) ?_
          refine WL.store rfl rfl rfl rfl rfl rfl (hq4.obj 3 rfl) (Nat.lt_succ_self 0) (fun wq5 hr4 => ?_)
          have hq5 := hq4.set 3 rfl rfl hr4
          refine WL.nil ⟨hq5.pick [5, 6] (by decide), ?_⟩
          refine WH.one 11 rfl (by kernel_rfl) ?_
          refine WL.store rfl rfl rfl rfl rfl rfl (hq5.obj 0 rfl) (Nat.lt_succ_self 0) (fun wq6 hr5 => ?_)
          have hq6 := hq5.set 0 rfl rfl hr5
          refine WL.nil ⟨hq6.pick [5, 6] (by decide), ?_⟩
          refine WH.done (by kernel_rfl) ?_
          exact ⟨(v14, v15, ab, bb), ⟨rfl, rfl, rfl, rfl, rfl, rfl⟩, hq6.pick [4, 3, 0, 2, 1, 5, 6] (by decide)⟩
        · refine ⟨_, rfl, ?_⟩
          refine WL.alloc rfl rfl rfl (fun v15 wq3 hr2 => ?_)
          have hq3 := hq2.new hr2
          refine WL.nil ⟨hq3.pick [4, 5] (by decide), ?_⟩
          refine WH.one 7 rfl (by kernel_rfl) ?_
          refine WL.call rfl rfl rfl rfl rfl ent49 (ihg wq3 (hsl.hp hq3)) ?_
          rintro v wq4 ⟨bb, rfl, hr3⟩
          have hq4 := hq3.comb hr3
          refine WL.nil ⟨hq4.pick [5, 6] (by decide), ?_⟩
          refine WH.one 10 rfl (by kernel_rfl) ?_
          refine WL.store rfl rfl rfl rfl rfl rfl (hq4.obj 3 rfl) (Nat.lt_succ_self 0) (fun wq5 hr4 => ?_)
          have hq5 := hq4.set 3 rfl rfl hr4
          refine WL.nil ⟨hq5.pick [5, 6] (by decide), ?_⟩
          refine WH.one 11 rfl (by kernel_rfl) ?_
          refine WL.store rfl rfl rfl rfl rfl rfl (hq5.obj 1 rfl) (Nat.lt_succ_self 0) (fun wq6 hr5 => ?_)
          have hq6 := hq5.set 1 rfl rfl hr5
          refine WL.nil ⟨hq6.pick [5, 6] (by decide), ?_⟩
          refine WH.done (by kernel_rfl) ?_
          exact ⟨(v14, v15, ab, bb), ⟨rfl, rfl, rfl, rfl, rfl, rfl⟩, hq6.pick [4, 3, 1, 2, 0, 5, 6] (by decide)⟩
      · refine ⟨_, rfl, ?_⟩
        refine WL.alloc rfl rfl rfl (fun v15 wq2 hr1 => ?_)
        have hq2 := hq1.new hr1
        refine WL.nil ⟨hq2.pick [3, 4] (by decide), ?_⟩
        refine WH.one 3 rfl (by kernel_rfl) ?_
        refine WL.call rfl rfl rfl rfl rfl ent49 (ihf wq2 (hsl.hp hq2)) ?_
        rintro v wq3 ⟨ab, rfl, hr2⟩
        have hq3 := hq2.comb hr2
        refine WL.nil ⟨hq3.pick [4, 5] (by decide), ?_⟩
        refine WH.one 7 rfl (by kernel_rfl) ?_
        refine WL.call rfl rfl rfl rfl rfl ent49 (ihg wq3 (hsl.hp hq3)) ?_
        rintro v wq4 ⟨bb, rfl, hr3⟩
        have hq4 := hq3.comb hr3
        refine WL.nil ⟨hq4.pick [5, 6] (by decide), ?_⟩
        refine WH.one 10 rfl (by kernel_rfl) ?_
        refine WL.store rfl rfl rfl rfl rfl rfl (hq4.obj 3 rfl) (Nat.lt_succ_self 0) (fun wq5 hr4 => ?_)
        have hq5 := hq4.set 3 rfl rfl hr4
        refine WL.nil ⟨hq5.pick [5, 6] (by decide), ?_⟩
        refine WH.one 11 rfl (by kernel_rfl) ?_
        refine WL.store rfl rfl rfl rfl rfl rfl (hq5.obj 2 rfl) (Nat.lt_succ_self 0) (fun wq6 hr5 => ?_)
        have hq6 := hq5.set 2 rfl rfl hr5
        refine WL.nil ⟨hq6.pick [5, 6] (by decide), ?_⟩
        refine WH.done (by kernel_rfl) ?_
        exact ⟨(v14, v15, ab, bb), ⟨rfl, rfl, rfl, rfl, rfl, rfl⟩, hq6.pick [4, 3, 2, 1, 0, 5, 6] (by decide)⟩
    · refine ⟨_, rfl, ?_⟩
      refine WL.alloc rfl rfl rfl (fun v15 wq1 hr0 => ?_)
      have hq1 := hq0.new hr0
      refine WL.nil ⟨hq1.pick [2, 3] (by decide), ?_⟩
      refine WH.many [3, 8] (by kernel_rfl) (by decide) ?_
      intro i hi
      simp only [List.mem_cons, List.not_mem_nil, or_false] at hi
      rcases hi with rfl | rfl
      · refine ⟨_, rfl, ?_⟩
        refine WL.call rfl rfl rfl rfl rfl ent49 (ihf wq1 (hsl.hp hq1)) ?_
        rintro v wq2 ⟨ab, rfl, hr1⟩
        have hq2 := hq1.comb hr1
        refine WL.nil ⟨hq2.pick [3, 4] (by decide), ?_⟩
        refine WH.many [7, 8] (by kernel_rfl) (by decide) ?_
        intro i hi
        simp only [List.mem_cons, List.not_mem_nil, or_false] at hi
        rcases hi with rfl | rfl
        · refine ⟨_, rfl, ?_⟩
          refine WL.call rfl rfl rfl rfl rfl ent49 (ihg wq2 (hsl.hp hq2)) ?_
          rintro v wq3 ⟨bb, rfl, hr2⟩
          have hq3 := hq2.comb hr2
          refine WL.nil ⟨hq3.pick [4, 5] (by decide), ?_⟩
          refine WH.one 8 rfl (by kernel_rfl) ?_
          refine WL.alloc rfl rfl rfl (fun v14 wq4 hr3 => ?_)
          have hq4 := hq3.new hr3
          refine WL.nil ⟨hq4.pick [5, 6] (by decide), ?_⟩
          refine WH.one 10 rfl (by kernel_rfl) ?_
          refine WL.store rfl rfl rfl rfl rfl rfl (hq4.obj 0 rfl) (Nat.lt_succ_self 0) (fun wq5 hr4 => ?_)
          have hq5 := hq4.set 0 rfl rfl hr4
          refine WL.nil ⟨hq5.pick [5, 6] (by decide), ?_⟩
          refine WH.one 11 rfl (by kernel_rfl) ?_
          refine WL.store rfl rfl rfl rfl rfl rfl (hq5.obj 3 rfl) (Nat.lt_succ_self 0) (fun wq6 hr5 => ?_)
          have hq6 := hq5.set 3 rfl rfl hr5
          refine WL.nil ⟨hq6.pick [5, 6] (by decide), ?_⟩
          refine WH.done (by kernel_rfl) ?_
          exact ⟨(v14, v15, ab, bb), ⟨rfl, rfl, rfl, rfl, rfl, rfl⟩, hq6.pick [4, 0, 3, 2, 1, 5, 6] (by decide)⟩
        · refine ⟨_, rfl, ?_⟩
          refine WL.alloc rfl rfl rfl (fun v14 wq3 hr2 => ?_)
          have hq3 := hq2.new hr2
          refine WL.nil ⟨hq3.pick [4, 5] (by decide), ?_⟩
          refine WH.one 7 rfl (by kernel_rfl) ?_
          refine WL.call rfl rfl rfl rfl rfl ent49 (ihg wq3 (hsl.hp hq3)) ?_
          rintro v wq4 ⟨bb, rfl, hr3⟩
          have hq4 := hq3.comb hr3
          refine WL.nil ⟨hq4.pick [5, 6] (by decide), ?_⟩
          refine WH.one 10 rfl (by kernel_rfl) ?_
          refine WL.store rfl rfl rfl rfl rfl rfl (hq4.obj 1 rfl) (Nat.lt_succ_self 0) (fun wq5 hr4 => ?_)
          have hq5 := hq4.set 1 rfl rfl hr4
          refine WL.nil ⟨hq5.pick [5, 6] (by decide), ?_⟩
          refine WH.one 11 rfl (by kernel_rfl) ?_
          refine WL.store rfl rfl rfl rfl rfl rfl (hq5.obj 3 rfl) (Nat.lt_succ_self 0) (fun wq6 hr5 => ?_)
          have hq6 := hq5.set 3 rfl rfl hr5
          refine WL.nil ⟨hq6.pick [5, 6] (by decide), ?_⟩
          refine WH.done (by kernel_rfl) ?_
          exact ⟨(v14, v15, ab, bb), ⟨rfl, rfl, rfl, rfl, rfl, rfl⟩, hq6.pick [4, 1, 3, 2, 0, 5, 6] (by decide)⟩
      · refine ⟨_, rfl, ?_⟩
        refine WL.alloc rfl rfl rfl (fun v14 wq2 hr1 => ?_)
        have hq2 := hq1.new hr1
        refine WL.nil ⟨hq2.pick [3, 4] (by decide), ?_⟩
        refine WH.one 3 rfl (by kernel_rfl) ?_
        refine WL.call rfl rfl rfl rfl rfl ent49 (ihf wq2 (hsl.hp hq2)) ?_
        rintro v wq3 ⟨ab, rfl, hr2⟩
        have hq3 := hq2.comb hr2
        refine WL.nil ⟨hq3.pick [4, 5] (by decide), ?_⟩
        refine WH.one 7 rfl (by kernel_rfl) ?_
        refine WL.call rfl rfl rfl rfl rfl ent49 (ihg wq3 (hsl.hp hq3)) ?_
        rintro v wq4 ⟨bb, rfl, hr3⟩
        have hq4 := hq3.comb hr3
        refine WL.nil ⟨hq4.pick [5, 6] (by decide), ?_⟩
        refine WH.one 10 rfl (by kernel_rfl) ?_
        refine WL.store rfl rfl rfl rfl rfl rfl (hq4.obj 2 rfl) (Nat.lt_succ_self 0) (fun wq5 hr4 => ?_)
        have hq5 := hq4.set 2 rfl rfl hr4
        refine WL.nil ⟨hq5.pick [5, 6] (by decide), ?_⟩
        refine WH.one 11 rfl (by kernel_rfl) ?_
        refine WL.store rfl rfl rfl rfl rfl rfl (hq5.obj 3 rfl) (Nat.lt_succ_self 0) (fun wq6 hr5 => ?_)
        have hq6 := hq5.set 3 rfl rfl hr5
        refine WL.nil ⟨hq6.pick [5, 6] (by decide), ?_⟩
        refine WH.done (by kernel_rfl) ?_
        exact ⟨(v14, v15, ab, bb), ⟨rfl, rfl, rfl, rfl, rfl, rfl⟩, hq6.pick [4, 2, 3, 1, 0, 5, 6] (by decide)⟩
  · rintro ⟨v14, v15, ab, bb⟩ e8 w8 hsub hp8
    replace hp8 : Hp w w8 [Lb ob (List.replicate ms.length false), Va v14 (.slice (some ⟨ab, 0, none⟩) ms.length ms.length), Va v15 (.slice (some ⟨bb, 0, none⟩) ms.length ms.length), Lb ab A, Lb bb B, Q2b b2 s f g, Lx bx a ms.length c lp] := hp8
    refine WC.sub hsub ?_
    clear hsub e8
    repeat (first | refine WC.seq ?_ | refine WC.reg ?_ | refine WL.pure rfl rfl rfl ?_ | refine WL.nil ?_ | refine WC.skip ?_ | refine WC.block ?_ | refine WC.condT rfl ?_ | refine WC.condF rfl ?_ | refine WL.off rfl rfl rfl ?_ | refine WL.off0 rfl rfl ?_ | refine WC.exit ?_ | refine blk_hit ?_ | refine blk_miss rfl ?_ | refine WC.ret ?_)
    refine WL.loadB rfl rfl rfl rfl rfl (hp8.obj 5 rfl) (j := 0) rfl ?_
    repeat (first | refine WC.seq ?_ | refine WC.reg ?_ | refine WL.pure rfl rfl rfl ?_ | refine WL.nil ?_ | refine WC.skip ?_ | refine WC.block ?_ | refine WC.condT rfl ?_ | refine WC.condF rfl ?_ | refine WL.off rfl rfl rfl ?_ | refine WL.off0 rfl rfl ?_ | refine WC.exit ?_ | refine blk_hit ?_ | refine blk_miss rfl ?_ | refine WC.ret ?_)
    have hBo : Bo w8 v14 ab ms.length A := ⟨cell_of_obj (hp8.obj 1 rfl) rfl, fun i hi => lb_obj (hp8.pick [3] (by decide)) (by omega)⟩
    have hBb : Bo w8 v15 bb ms.length B := ⟨cell_of_obj (hp8.obj 2 rfl) rfl, fun i hi => lb_obj (hp8.pick [4] (by decide)) (by omega)⟩
    have hs2 : s = wAnd ∨ s = wOr ∨ s = wUntil ∨ s = wRelease := by simpa [twosL] using hs
    rcases hs2 with rfl | rfl | rfl | rfl
    · refine WL.sCmp (a := wAnd) (b := wAnd) rfl rfl rfl rfl rfl ?_
      repeat (first | refine WC.seq ?_ | refine WC.reg ?_ | refine WL.pure rfl rfl rfl ?_ | refine WL.nil ?_ | refine WC.skip ?_ | refine WC.block ?_ | refine WC.condT rfl ?_ | refine WC.condF rfl ?_ | refine WL.off rfl rfl rfl ?_ | refine WL.off0 rfl rfl ?_ | refine WC.exit ?_ | refine blk_hit ?_ | refine blk_miss rfl ?_ | refine WC.ret ?_)
      refine WC.loop Nat (fun i => [(5, .slice (some ⟨ob, 0, none⟩) ms.length ms.length), (14, ptr v14), (15, ptr v15), (110, .int .i64 (ms.length : Nat)), (111, .int .i64 (i : Nat))])
        (fun i w' => i ≤ ms.length ∧ Hp w w' [Lb ob ((List.range i).map (fun i => A.getD i false && B.getD i false) ++ List.replicate (ms.length - i) false), Va v14 (.slice (some ⟨ab, 0, none⟩) ms.length ms.length), Va v15 (.slice (some ⟨bb, 0, none⟩) ms.length ms.length), Lb ab A, Lb bb B, Q2b b2 wAnd f g, Lx bx a ms.length c lp]) (fun i => ms.length - i) 0 ⟨rfl, rfl, rfl, rfl, rfl, rfl⟩ ⟨Nat.zero_le _, hp8⟩ ?_
      clear hp8 hBo hBb
      rintro i w9 ⟨hi, hp9⟩
      repeat (first | refine WC.seq ?_ | refine WC.reg ?_ | refine WL.pure rfl rfl rfl ?_ | refine WL.nil ?_ | refine WC.skip ?_ | refine WC.block ?_ | refine WC.condT rfl ?_ | refine WC.condF rfl ?_ | refine WL.off rfl rfl rfl ?_ | refine WL.off0 rfl rfl ?_ | refine WC.exit ?_ | refine blk_hit ?_ | refine blk_miss rfl ?_ | refine WC.ret ?_)
      refine WC.cond rfl (fun h2 => ?_) (fun h2 => ?_)
      · have hi : i < ms.length := by have := of_decide_eq_true h2; omega
        have step := wrap_succ (i := i) (n := i + 1) (by omega) (by omega)
        repeat (first | refine WC.seq ?_ | refine WC.reg ?_ | refine WL.pure rfl rfl rfl ?_ | refine WL.nil ?_ | refine WC.skip ?_ | refine WC.block ?_ | refine WC.condT rfl ?_ | refine WC.condF rfl ?_ | refine WL.off rfl rfl rfl ?_ | refine WL.off0 rfl rfl ?_ | refine WC.exit ?_ | refine blk_hit ?_ | refine blk_miss rfl ?_ | refine WC.ret ?_)
        refine WL.loadB rfl rfl rfl rfl rfl (hp9.obj 1 rfl) (j := 0) rfl ?_
        repeat (first | refine WC.seq ?_ | refine WC.reg ?_ | refine WL.pure rfl rfl rfl ?_ | refine WL.nil ?_ | refine WC.skip ?_ | refine WC.block ?_ | refine WC.condT rfl ?_ | refine WC.condF rfl ?_ | refine WL.off rfl rfl rfl ?_ | refine WL.off0 rfl rfl ?_ | refine WC.exit ?_ | refine blk_hit ?_ | refine blk_miss rfl ?_ | refine WC.ret ?_)
        refine WL.ix1 rfl rfl rfl rfl rfl rfl rfl hi ?_
        refine WL.load rfl rfl rfl rfl rfl (lb_obj (hp9.pick [3] (by decide)) (by omega)) ?_
        have hfs := fill_set (fun i => A.getD i false && B.getD i false) false ms.length i hi
        cases hA : A.getD i false with
        | true =>
          simp only [hA, Bool.true_and, Bool.false_and, Bool.true_or, Bool.false_or] at hfs
          repeat (first | refine WC.seq ?_ | refine WC.reg ?_ | refine WL.pure rfl rfl rfl ?_ | refine WL.nil ?_ | refine WC.skip ?_ | refine WC.block ?_ | refine WC.condT rfl ?_ | refine WC.condF rfl ?_ | refine WL.off rfl rfl rfl ?_ | refine WL.off0 rfl rfl ?_ | refine WC.exit ?_ | refine blk_hit ?_ | refine blk_miss rfl ?_ | refine WC.ret ?_)
          refine WL.loadB rfl rfl rfl rfl rfl (hp9.obj 2 rfl) (j := 0) rfl ?_
          repeat (first | refine WC.seq ?_ | refine WC.reg ?_ | refine WL.pure rfl rfl rfl ?_ | refine WL.nil ?_ | refine WC.skip ?_ | refine WC.block ?_ | refine WC.condT rfl ?_ | refine WC.condF rfl ?_ | refine WL.off rfl rfl rfl ?_ | refine WL.off0 rfl rfl ?_ | refine WC.exit ?_ | refine blk_hit ?_ | refine blk_miss rfl ?_ | refine WC.ret ?_)
          refine WL.ix1 rfl rfl rfl rfl rfl rfl rfl hi ?_
          refine WL.load rfl rfl rfl rfl rfl (lb_obj (hp9.pick [4] (by decide)) (by omega)) ?_
          repeat (first | refine WC.seq ?_ | refine WC.reg ?_ | refine WL.pure rfl rfl rfl ?_ | refine WL.nil ?_ | refine WC.skip ?_ | refine WC.block ?_ | refine WC.condT rfl ?_ | refine WC.condF rfl ?_ | refine WL.off rfl rfl rfl ?_ | refine WL.off0 rfl rfl ?_ | refine WC.exit ?_ | refine blk_hit ?_ | refine blk_miss rfl ?_ | refine WC.ret ?_)
          refine WL.ix1 rfl rfl rfl rfl rfl rfl rfl hi ?_
          refine WL.store rfl rfl rfl rfl rfl rfl (hp9.obj 0 rfl) (by rw [List.size_toArray, bl_len, fill_len _ _ _ _ (by omega)]; omega) (fun w10 h10 => ?_)
          rw [Nat.zero_add, bl_set, hfs] at h10
          have hp10 := hp9.set 0 rfl rfl h10
          repeat (first | refine WC.seq ?_ | refine WC.reg ?_ | refine WL.pure rfl rfl rfl ?_ | refine WL.nil ?_ | refine WC.skip ?_ | refine WC.block ?_ | refine WC.condT rfl ?_ | refine WC.condF rfl ?_ | refine WL.off rfl rfl rfl ?_ | refine WL.off0 rfl rfl ?_ | refine WC.exit ?_ | refine blk_hit ?_ | refine blk_miss rfl ?_ | refine WC.ret ?_)
          exact ⟨i + 1, (by omega), ⟨rfl, rfl, rfl, rfl, congrArg (fun z => some (Value.int .i64 z)) step, rfl⟩, hi, hp10⟩
        | false =>
          simp only [hA, Bool.true_and, Bool.false_and, Bool.true_or, Bool.false_or] at hfs
          repeat (first | refine WC.seq ?_ | refine WC.reg ?_ | refine WL.pure rfl rfl rfl ?_ | refine WL.nil ?_ | refine WC.skip ?_ | refine WC.block ?_ | refine WC.condT rfl ?_ | refine WC.condF rfl ?_ | refine WL.off rfl rfl rfl ?_ | refine WL.off0 rfl rfl ?_ | refine WC.exit ?_ | refine blk_hit ?_ | refine blk_miss rfl ?_ | refine WC.ret ?_)
          refine WL.ix1 rfl rfl rfl rfl rfl rfl rfl hi ?_
          refine WL.store rfl rfl rfl rfl rfl rfl (hp9.obj 0 rfl) (by rw [List.size_toArray, bl_len, fill_len _ _ _ _ (by omega)]; omega) (fun w10 h10 => ?_)
          rw [Nat.zero_add, bl_set, hfs] at h10
          have hp10 := hp9.set 0 rfl rfl h10
          repeat (first | refine WC.seq ?_ | refine WC.reg ?_ | refine WL.pure rfl rfl rfl ?_ | refine WL.nil ?_ | refine WC.skip ?_ | refine WC.block ?_ | refine WC.condT rfl ?_ | refine WC.condF rfl ?_ | refine WL.off rfl rfl rfl ?_ | refine WL.off0 rfl rfl ?_ | refine WC.exit ?_ | refine blk_hit ?_ | refine blk_miss rfl ?_ | refine WC.ret ?_)
          exact ⟨i + 1, (by omega), ⟨rfl, rfl, rfl, rfl, congrArg (fun z => some (Value.int .i64 z)) step, rfl⟩, hi, hp10⟩
      · have hi : i = ms.length := by have := of_decide_eq_false h2; omega
        subst hi
        repeat (first | refine WC.seq ?_ | refine WC.reg ?_ | refine WL.pure rfl rfl rfl ?_ | refine WL.nil ?_ | refine WC.skip ?_ | refine WC.block ?_ | refine WC.condT rfl ?_ | refine WC.condF rfl ?_ | refine WL.off rfl rfl rfl ?_ | refine WL.off0 rfl rfl ?_ | refine WC.exit ?_ | refine blk_hit ?_ | refine blk_miss rfl ?_ | refine WC.ret ?_)
        refine Res.one rfl rfl rfl ⟨ob, rfl, ?_⟩
        rw [Nat.sub_self, List.replicate_zero, List.append_nil] at hp9
        exact hp9.pick [0] (by decide)
    · refine WL.sCmp (a := wOr) (b := wAnd) rfl rfl rfl rfl rfl ?_
      repeat (first | refine WC.seq ?_ | refine WC.reg ?_ | refine WL.pure rfl rfl rfl ?_ | refine WL.nil ?_ | refine WC.skip ?_ | refine WC.block ?_ | refine WC.condT rfl ?_ | refine WC.condF rfl ?_ | refine WL.off rfl rfl rfl ?_ | refine WL.off0 rfl rfl ?_ | refine WC.exit ?_ | refine blk_hit ?_ | refine blk_miss rfl ?_ | refine WC.ret ?_)
      refine WL.sCmp (a := wOr) (b := wOr) rfl rfl rfl rfl rfl ?_
      repeat (first | refine WC.seq ?_ | refine WC.reg ?_ | refine WL.pure rfl rfl rfl ?_ | refine WL.nil ?_ | refine WC.skip ?_ | refine WC.block ?_ | refine WC.condT rfl ?_ | refine WC.condF rfl ?_ | refine WL.off rfl rfl rfl ?_ | refine WL.off0 rfl rfl ?_ | refine WC.exit ?_ | refine blk_hit ?_ | refine blk_miss rfl ?_ | refine WC.ret ?_)
      refine WC.loop Nat (fun i => [(5, .slice (some ⟨ob, 0, none⟩) ms.length ms.length), (14, ptr v14), (15, ptr v15), (131, .int .i64 (ms.length : Nat)), (132, .int .i64 (i : Nat))])
        (fun i w' => i ≤ ms.length ∧ Hp w w' [Lb ob ((List.range i).map (fun i => A.getD i false || B.getD i false) ++ List.replicate (ms.length - i) false), Va v14 (.slice (some ⟨ab, 0, none⟩) ms.length ms.length), Va v15 (.slice (some ⟨bb, 0, none⟩) ms.length ms.length), Lb ab A, Lb bb B, Q2b b2 wOr f g, Lx bx a ms.length c lp]) (fun i => ms.length - i) 0 ⟨rfl, rfl, rfl, rfl, rfl, rfl⟩ ⟨Nat.zero_le _, hp8⟩ ?_
      clear hp8 hBo hBb
      rintro i w9 ⟨hi, hp9⟩
      repeat (first | refine WC.seq ?_ | refine WC.reg ?_ | refine WL.pure rfl rfl rfl ?_ | refine WL.nil ?_ | refine WC.skip ?_ | refine WC.block ?_ | refine WC.condT rfl ?_ | refine WC.condF rfl ?_ | refine WL.off rfl rfl rfl ?_ | refine WL.off0 rfl rfl ?_ | refine WC.exit ?_ | refine blk_hit ?_ | refine blk_miss rfl ?_ | refine WC.ret ?_)
      refine WC.cond rfl (fun h2 => ?_) (fun h2 => ?_)
      · have hi : i < ms.length := by have := of_decide_eq_true h2; omega
        have step := wrap_succ (i := i) (n := i + 1) (by omega) (by omega)
        repeat (first | refine WC.seq ?_ | refine WC.reg ?_ | refine WL.pure rfl rfl rfl ?_ | refine WL.nil ?_ | refine WC.skip ?_ | refine WC.block ?_ | refine WC.condT rfl ?_ | refine WC.condF rfl ?_ | refine WL.off rfl rfl rfl ?_ | refine WL.off0 rfl rfl ?_ | refine WC.exit ?_ | refine blk_hit ?_ | refine blk_miss rfl ?_ | refine WC.ret ?_)
        refine WL.loadB rfl rfl rfl rfl rfl (hp9.obj 1 rfl) (j := 0) rfl ?_
        repeat (first | refine WC.seq ?_ | refine WC.reg ?_ | refine WL.pure rfl rfl rfl ?_ | refine WL.nil ?_ | refine WC.skip ?_ | refine WC.block ?_ | refine WC.condT rfl ?_ | refine WC.condF rfl ?_ | refine WL.off rfl rfl rfl ?_ | refine WL.off0 rfl rfl ?_ | refine WC.exit ?_ | refine blk_hit ?_ | refine blk_miss rfl ?_ | refine WC.ret ?_)
        refine WL.ix1 rfl rfl rfl rfl rfl rfl rfl hi ?_
        refine WL.load rfl rfl rfl rfl rfl (lb_obj (hp9.pick [3] (by decide)) (by omega)) ?_
        have hfs := fill_set (fun i => A.getD i false || B.getD i false) false ms.length i hi
        cases hA : A.getD i false with
        | true =>
          simp only [hA, Bool.true_and, Bool.false_and, Bool.true_or, Bool.false_or] at hfs
          repeat (first | refine WC.seq ?_ | refine WC.reg ?_ | refine WL.pure rfl rfl rfl ?_ | refine WL.nil ?_ | refine WC.skip ?_ | refine WC.block ?_ | refine WC.condT rfl ?_ | refine WC.condF rfl ?_ | refine WL.off rfl rfl rfl ?_ | refine WL.off0 rfl rfl ?_ | refine WC.exit ?_ | refine blk_hit ?_ | refine blk_miss rfl ?_ | refine WC.ret ?_)
          refine WL.ix1 rfl rfl rfl rfl rfl rfl rfl hi ?_
          refine WL.store rfl rfl rfl rfl rfl rfl (hp9.obj 0 rfl) (by rw [List.size_toArray, bl_len, fill_len _ _ _ _ (by omega)]; omega) (fun w10 h10 => ?_)
          rw [Nat.zero_add, bl_set, hfs] at h10
          have hp10 := hp9.set 0 rfl rfl h10
          repeat (first | refine WC.seq ?_ | refine WC.reg ?_ | refine WL.pure rfl rfl rfl ?_ | refine WL.nil ?_ | refine WC.skip ?_ | refine WC.block ?_ | refine WC.condT rfl ?_ | refine WC.condF rfl ?_ | refine WL.off rfl rfl rfl ?_ | refine WL.off0 rfl rfl ?_ | refine WC.exit ?_ | refine blk_hit ?_ | refine blk_miss rfl ?_ | refine WC.ret ?_)
          exact ⟨i + 1, (by omega), ⟨rfl, rfl, rfl, rfl, congrArg (fun z => some (Value.int .i64 z)) step, rfl⟩, hi, hp10⟩
        | false =>
          simp only [hA, Bool.true_and, Bool.false_and, Bool.true_or, Bool.false_or] at hfs
          repeat (first | refine WC.seq ?_ | refine WC.reg ?_ | refine WL.pure rfl rfl rfl ?_ | refine WL.nil ?_ | refine WC.skip ?_ | refine WC.block ?_ | refine WC.condT rfl ?_ | refine WC.condF rfl ?_ | refine WL.off rfl rfl rfl ?_ | refine WL.off0 rfl rfl ?_ | refine WC.exit ?_ | refine blk_hit ?_ | refine blk_miss rfl ?_ | refine WC.ret ?_)
          refine WL.loadB rfl rfl rfl rfl rfl (hp9.obj 2 rfl) (j := 0) rfl ?_
          repeat (first | refine WC.seq ?_ | refine WC.reg ?_ | refine WL.pure rfl rfl rfl ?_ | refine WL.nil ?_ | refine WC.skip ?_ | refine WC.block ?_ | refine WC.condT rfl ?_ | refine WC.condF rfl ?_ | refine WL.off rfl rfl rfl ?_ | refine WL.off0 rfl rfl ?_ | refine WC.exit ?_ | refine blk_hit ?_ | refine blk_miss rfl ?_ | refine WC.ret ?_)
          refine WL.ix1 rfl rfl rfl rfl rfl rfl rfl hi ?_
          refine WL.load rfl rfl rfl rfl rfl (lb_obj (hp9.pick [4] (by decide)) (by omega)) ?_
          repeat (first | refine WC.seq ?_ | refine WC.reg ?_ | refine WL.pure rfl rfl rfl ?_ | refine WL.nil ?_ | refine WC.skip ?_ | refine WC.block ?_ | refine WC.condT rfl ?_ | refine WC.condF rfl ?_ | refine WL.off rfl rfl rfl ?_ | refine WL.off0 rfl rfl ?_ | refine WC.exit ?_ | refine blk_hit ?_ | refine blk_miss rfl ?_ | refine WC.ret ?_)
          refine WL.ix1 rfl rfl rfl rfl rfl rfl rfl hi ?_
          refine WL.store rfl rfl rfl rfl rfl rfl (hp9.obj 0 rfl) (by rw [List.size_toArray, bl_len, fill_len _ _ _ _ (by omega)]; omega) (fun w10 h10 => ?_)
          rw [Nat.zero_add, bl_set, hfs] at h10
          have hp10 := hp9.set 0 rfl rfl h10
          repeat (first | refine WC.seq ?_ | refine WC.reg ?_ | refine WL.pure rfl rfl rfl ?_ | refine WL.nil ?_ | refine WC.skip ?_ | refine WC.block ?_ | refine WC.condT rfl ?_ | refine WC.condF rfl ?_ | refine WL.off rfl rfl rfl ?_ | refine WL.off0 rfl rfl ?_ | refine WC.exit ?_ | refine blk_hit ?_ | refine blk_miss rfl ?_ | refine WC.ret ?_)
          exact ⟨i + 1, (by omega), ⟨rfl, rfl, rfl, rfl, congrArg (fun z => some (Value.int .i64 z)) step, rfl⟩, hi, hp10⟩
      · have hi : i = ms.length := by have := of_decide_eq_false h2; omega
        subst hi
        repeat (first | refine WC.seq ?_ | refine WC.reg ?_ | refine WL.pure rfl rfl rfl ?_ | refine WL.nil ?_ | refine WC.skip ?_ | refine WC.block ?_ | refine WC.condT rfl ?_ | refine WC.condF rfl ?_ | refine WL.off rfl rfl rfl ?_ | refine WL.off0 rfl rfl ?_ | refine WC.exit ?_ | refine blk_hit ?_ | refine blk_miss rfl ?_ | refine WC.ret ?_)
        refine Res.one rfl rfl rfl ⟨ob, rfl, ?_⟩
        rw [Nat.sub_self, List.replicate_zero, List.append_nil] at hp9
        exact hp9.pick [0] (by decide)
    · refine WL.sCmp (a := wUntil) (b := wAnd) rfl rfl rfl rfl rfl ?_
      repeat (first | refine WC.seq ?_ | refine WC.reg ?_ | refine WL.pure rfl rfl rfl ?_ | refine WL.nil ?_ | refine WC.skip ?_ | refine WC.block ?_ | refine WC.condT rfl ?_ | refine WC.condF rfl ?_ | refine WL.off rfl rfl rfl ?_ | refine WL.off0 rfl rfl ?_ | refine WC.exit ?_ | refine blk_hit ?_ | refine blk_miss rfl ?_ | refine WC.ret ?_)
      refine WL.sCmp (a := wUntil) (b := wOr) rfl rfl rfl rfl rfl ?_
      repeat (first | refine WC.seq ?_ | refine WC.reg ?_ | refine WL.pure rfl rfl rfl ?_ | refine WL.nil ?_ | refine WC.skip ?_ | refine WC.block ?_ | refine WC.condT rfl ?_ | refine WC.condF rfl ?_ | refine WL.off rfl rfl rfl ?_ | refine WL.off0 rfl rfl ?_ | refine WC.exit ?_ | refine blk_hit ?_ | refine blk_miss rfl ?_ | refine WC.ret ?_)
      refine WL.sCmp (a := wUntil) (b := wUntil) rfl rfl rfl rfl rfl ?_
      repeat (first | refine WC.seq ?_ | refine WC.reg ?_ | refine WL.pure rfl rfl rfl ?_ | refine WL.nil ?_ | refine WC.skip ?_ | refine WC.block ?_ | refine WC.condT rfl ?_ | refine WC.condF rfl ?_ | refine WL.off rfl rfl rfl ?_ | refine WL.off0 rfl rfl ?_ | refine WC.exit ?_ | refine blk_hit ?_ | refine blk_miss rfl ?_ | refine WC.ret ?_)
      refine WL.loadN rfl rfl rfl rfl rfl (cs := [.slice a ms.length c, .int .i64 (lp : Nat)]) rfl (fun q v hq => cell_of_obj (hp8.obj 6 rfl) (by rw [Nat.zero_add]; simpa using hq)) ?_
      repeat (first | refine WC.seq ?_ | refine WC.reg ?_ | refine WL.pure rfl rfl rfl ?_ | refine WL.nil ?_ | refine WC.skip ?_ | refine WC.block ?_ | refine WC.condT rfl ?_ | refine WC.condF rfl ?_ | refine WL.off rfl rfl rfl ?_ | refine WL.off0 rfl rfl ?_ | refine WC.exit ?_ | refine blk_hit ?_ | refine blk_miss rfl ?_ | refine WC.ret ?_)
      refine WL.call rfl rfl rfl rfl rfl ent78 (repeat_any a ms.length c lp hn hlp false (fi := []) (ca := [ptr v15, ptr v14]) ent81 (fun i x => B.getD i false || (A.getD i false && x)) w8 (fun i x w' hi h' => c3_any (hBo.below h'.below) (hBb.below h'.below) i hi x)) ?_
      rintro v w9 ⟨rb, rfl, hp9⟩
      repeat (first | refine WC.seq ?_ | refine WC.reg ?_ | refine WL.pure rfl rfl rfl ?_ | refine WL.nil ?_ | refine WC.skip ?_ | refine WC.block ?_ | refine WC.condT rfl ?_ | refine WC.condF rfl ?_ | refine WL.off rfl rfl rfl ?_ | refine WL.off0 rfl rfl ?_ | refine WC.exit ?_ | refine blk_hit ?_ | refine blk_miss rfl ?_ | refine WC.ret ?_)
      exact Res.one rfl rfl rfl ⟨rb, rfl, (hp8.comb hp9).pick [0] (by decide)⟩
    · refine WL.sCmp (a := wRelease) (b := wAnd) rfl rfl rfl rfl rfl ?_
      repeat (first | refine WC.seq ?_ | refine WC.reg ?_ | refine WL.pure rfl rfl rfl ?_ | refine WL.nil ?_ | refine WC.skip ?_ | refine WC.block ?_ | refine WC.condT rfl ?_ | refine WC.condF rfl ?_ | refine WL.off rfl rfl rfl ?_ | refine WL.off0 rfl rfl ?_ | refine WC.exit ?_ | refine blk_hit ?_ | refine blk_miss rfl ?_ | refine WC.ret ?_)
      refine WL.sCmp (a := wRelease) (b := wOr) rfl rfl rfl rfl rfl ?_
      repeat (first | refine WC.seq ?_ | refine WC.reg ?_ | refine WL.pure rfl rfl rfl ?_ | refine WL.nil ?_ | refine WC.skip ?_ | refine WC.block ?_ | refine WC.condT rfl ?_ | refine WC.condF rfl ?_ | refine WL.off rfl rfl rfl ?_ | refine WL.off0 rfl rfl ?_ | refine WC.exit ?_ | refine blk_hit ?_ | refine blk_miss rfl ?_ | refine WC.ret ?_)
      refine WL.sCmp (a := wRelease) (b := wUntil) rfl rfl rfl rfl rfl ?_
      repeat (first | refine WC.seq ?_ | refine WC.reg ?_ | refine WL.pure rfl rfl rfl ?_ | refine WL.nil ?_ | refine WC.skip ?_ | refine WC.block ?_ | refine WC.condT rfl ?_ | refine WC.condF rfl ?_ | refine WL.off rfl rfl rfl ?_ | refine WL.off0 rfl rfl ?_ | refine WC.exit ?_ | refine blk_hit ?_ | refine blk_miss rfl ?_ | refine WC.ret ?_)
      refine WL.sCmp (a := wRelease) (b := wRelease) rfl rfl rfl rfl rfl ?_
      repeat (first | refine WC.seq ?_ | refine WC.reg ?_ | refine WL.pure rfl rfl rfl ?_ | refine WL.nil ?_ | refine WC.skip ?_ | refine WC.block ?_ | refine WC.condT rfl ?_ | refine WC.condF rfl ?_ | refine WL.off rfl rfl rfl ?_ | refine WL.off0 rfl rfl ?_ | refine WC.exit ?_ | refine blk_hit ?_ | refine blk_miss rfl ?_ | refine WC.ret ?_)
      refine WL.loadN rfl rfl rfl rfl rfl (cs := [.slice a ms.length c, .int .i64 (lp : Nat)]) rfl (fun q v hq => cell_of_obj (hp8.obj 6 rfl) (by rw [Nat.zero_add]; simpa using hq)) ?_
      repeat (first | refine WC.seq ?_ | refine WC.reg ?_ | refine WL.pure rfl rfl rfl ?_ | refine WL.nil ?_ | refine WC.skip ?_ | refine WC.block ?_ | refine WC.condT rfl ?_ | refine WC.condF rfl ?_ | refine WL.off rfl rfl rfl ?_ | refine WL.off0 rfl rfl ?_ | refine WC.exit ?_ | refine blk_hit ?_ | refine blk_miss rfl ?_ | refine WC.ret ?_)
      refine WL.call rfl rfl rfl rfl rfl ent78 (repeat_any a ms.length c lp hn hlp true (fi := []) (ca := [ptr v15, ptr v14]) ent82 (fun i x => B.getD i false && (A.getD i false || x)) w8 (fun i x w' hi h' => c4_any (hBo.below h'.below) (hBb.below h'.below) i hi x)) ?_
      rintro v w9 ⟨rb, rfl, hp9⟩
      repeat (first | refine WC.seq ?_ | refine WC.reg ?_ | refine WL.pure rfl rfl rfl ?_ | refine WL.nil ?_ | refine WC.skip ?_ | refine WC.block ?_ | refine WC.condT rfl ?_ | refine WC.condF rfl ?_ | refine WL.off rfl rfl rfl ?_ | refine WL.off0 rfl rfl ?_ | refine WC.exit ?_ | refine blk_hit ?_ | refine blk_miss rfl ?_ | refine WC.ret ?_)
      exact Res.one rfl rfl rfl ⟨rb, rfl, (hp8.comb hp9).pick [0] (by decide)⟩
end
theorem values_any (a : Option Addr) (c : Nat) (ms : List Int) (lp : Nat) (hn : ms.length ≤ 1000000) (hlp : lp < ms.length) (hm : ∀ m ∈ ms, 0 ≤ m ∧ m ≤ 15) : ∀ (f : Fm), wfF f → ∀ (w : World), Sl w a (zs ms) →
    Ret Tryd.prog 49 [lsV a ms.length c lp, fmV f] w (VaQ ms.length (valsM ms lp f) w) := by
  intro f
  induction f with
  | at_ s => intro h w hsl; exact values_at a c ms lp hn hm s h w hsl
  | on_ s f ih => intro h w hsl; exact values_on a c ms lp hn hlp s f h.1 w hsl (valsM ms lp f) (valsM_len ms lp f) (ih h.2)
  | tw_ s f g ihf ihg => intro h w hsl; exact values_tw a c ms lp hn hlp s f g h.1 w hsl (valsM ms lp f) (valsM ms lp g) (valsM_len ms lp f) (valsM_len ms lp g) (ihf h.2.1) (ihg h.2.2)
end Go.Proofs.YtpbbneclkhfgoaaDoor
