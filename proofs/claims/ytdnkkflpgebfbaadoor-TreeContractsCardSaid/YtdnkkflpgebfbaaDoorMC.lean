/- The walks of the laws on orders, and of the reference. -/
import Derived.Test.YtdnkkflpgebfbaaDoorMB
/- The walk of 'TreeOrders'. -/
namespace Go.Proofs.YtdnkkflpgebfbaaDoor
open Go.W Go.Tree
set_option maxRecDepth 100000
attribute [local irreducible] WC WL WQ WS WH

theorem zs_cells (xs : List Int) : Cells (zs xs) := by
  intro u hu
  simp only [zs, List.mem_map] at hu
  obtain ⟨x, _, rfl⟩ := hu
  rfl
theorem zs_take (xs : List Int) (m : Nat) : (zs xs).take m = zs (xs.take m) := by simp [zs, List.map_take]

theorem TreeOrders_any (ea oa : Option Addr) (ce co : Nat) (n : Int) (es : List Ed) (o : List Int) (w : World) (hs : Sl w ea (prs es)) (hce : es.length ≤ ce) (ho : Sl w oa (zs o)) (hco : o.length ≤ co) (hT : Tb w) :
    Ret Tryd.prog 9 [.agg #[.int .i64 n, .slice ea es.length ce], .slice oa o.length co] w fun v w' => v = .bool true ∧ Hp w w' [] := by
  generalize hfs : es.take 101 = fs
  have hfl : fs.length ≤ 101 := by rw [← hfs, List.length_take]; omega
  have hf62 : fs.length ≤ 4611686018427387904 := by omega
  generalize hls : o.take 20 = ls
  have hll : ls.length = min o.length 20 := by rw [← hls, List.length_take]; omega
  refine enter Tryd.func9 rfl rfl ⟨rfl, rfl⟩ rfl ?_
  repeat (first | refine WC.seq ?_ | refine WC.reg ?_ | refine WL.pure rfl rfl rfl ?_ | refine WL.nil ?_ | refine WC.skip ?_ | refine WC.block ?_ | refine WC.condT rfl ?_ | refine WC.condF rfl ?_ | refine WL.off rfl rfl rfl ?_ | refine WL.off0 rfl rfl ?_ | refine WC.exit ?_ | refine blk_hit ?_ | refine blk_miss rfl ?_ | refine WC.ret ?_)
  refine WL.box rfl rfl rfl ?_
  intro b2 w1 hb2
  have hp1 := (Hp.start w).new hb2
  repeat (first | refine WC.seq ?_ | refine WC.reg ?_ | refine WL.pure rfl rfl rfl ?_ | refine WL.nil ?_ | refine WC.skip ?_ | refine WC.block ?_ | refine WC.condT rfl ?_ | refine WC.condF rfl ?_ | refine WL.off rfl rfl rfl ?_ | refine WL.off0 rfl rfl ?_ | refine WC.exit ?_ | refine blk_hit ?_ | refine blk_miss rfl ?_ | refine WC.ret ?_)
  refine WC.mid ((Option Addr × Nat) × (Option Addr × Nat)) (fun ((ao, ca), (ag, cg)) => [(1, .slice oa o.length co), (2, .pointer (some ⟨b2, 0, none⟩)), (5, .slice ao fs.length ca), (6, .slice ag fs.length cg)])
    (fun ((ao, ca), (ag, cg)) w' => Hp w w' [.row 50 2 (.slice ao fs.length ca) fs.length (prs fs), .row 50 2 (.slice ag fs.length cg) fs.length (prs fs), .blk b2 (.cells #[.int .i64 n, .slice ea es.length ce] 24 (0, 0))]) ?_ ?_
  · refine WC.regH (fun w2 => Hp w w2 [.blk b2 (.cells #[.int .i64 n, .slice ea es.length ce] 24 (0, 0))]) mixed (by kernel_rfl) (fun w2 hw2 hh2 => ?_)
    have hp2 := hp1.keep hw2
    refine WH.pure 0 (by kernel_rfl) rfl (by kernel_rfl) rfl rfl rfl hp2 ?_
    refine WH.load 1 (by kernel_rfl) rfl (by kernel_rfl) rfl rfl rfl rfl rfl (fun w3 h3 => cell_of_obj (h3.obj 0 rfl) rfl) hp2 ?_
    refine WH.pure 3 (by kernel_rfl) rfl (by kernel_rfl) rfl rfl rfl hp2 ?_
    refine WH.load 4 (by kernel_rfl) rfl (by kernel_rfl) rfl rfl rfl rfl rfl (fun w3 h3 => cell_of_obj (h3.obj 0 rfl) rfl) hp2 ?_
    refine WH.one 2 rfl (by kernel_rfl) ?_
    refine WL.call rfl rfl rfl rfl rfl ent13 (lines_any ea ce es w2 (hs.hp hp2) hce) ?_
    rintro _ w3 ⟨a3, c3, hp3, rfl⟩
    rw [hfs] at hp3 ⊢
    refine WL.nil ⟨hp2.call hp3.below, ?_⟩
    have hp3 := hp2.comb hp3
    refine WH.one 5 rfl (by kernel_rfl) ?_
    refine WL.call rfl rfl rfl rfl rfl ent13 (lines_any ea ce es w3 (hs.hp hp3) hce) ?_
    rintro _ w4 ⟨a4, c4, hp4, rfl⟩
    rw [hfs] at hp4 ⊢
    refine WL.nil ⟨(hp3.call hp4.below).tail, ?_⟩
    have hp4 := hp3.comb hp4
    refine WH.one 6 rfl (by kernel_rfl) (WL.pure rfl rfl rfl (WL.nil ⟨hp4.tail.tail, ?_⟩))
    refine WH.one 7 rfl (by kernel_rfl) (WL.pure rfl rfl rfl (WL.nil ⟨hp4.tail.tail, ?_⟩))
    refine WH.done (by kernel_rfl) ?_
    exact ⟨((a3, c3), (a4, c4)), ⟨rfl, rfl, rfl, rfl, rfl⟩, hp4.swap⟩
  · rintro ⟨⟨ao, ca⟩, ag, cg⟩ e1 w2 hsub hp2
    refine WC.sub hsub ?_
    have hm : min ((o.length : Nat) : Int) 20 = ((min o.length 20 : Nat) : Int) := by omega
    repeat (first | refine WC.seq ?_ | refine WC.reg ?_ | refine WL.pure rfl rfl rfl ?_ | refine WL.nil ?_ | refine WC.skip ?_ | refine WC.block ?_ | refine WC.condT rfl ?_ | refine WC.condF rfl ?_ | refine WL.off rfl rfl rfl ?_ | refine WL.off0 rfl rfl ?_ | refine WC.exit ?_ | refine blk_hit ?_ | refine blk_miss rfl ?_ | refine WC.ret ?_)
    refine WL.known (d := 25) (congrArg (fun z => some (Value.int .i64 z)) hm) ?_
    refine WL.sliceHi rfl rfl rfl rfl rfl rfl (by omega) ?_
    refine WL.append 0 (hp2.nilrow 3 1) rfl rfl rfl rfl rfl Nat.zero_lt_one rfl rfl rfl (news := zs ls) (by rw [← hls, ← zs_take]; exact (ho.hp hp2).take 20) (by rw [zs_len, hll]; exact (Nat.mul_one _).symm) (zs_cells _) (by unfold maxLen; omega) (by show (0 + min o.length 20) * 8 ≤ _; omega) ?_
    intro a7 c7 w3 hp3 hg3
    rw [Nat.zero_add, ← hll] at hp3 ⊢
    rw [List.nil_append] at hp3
    repeat (first | refine WC.seq ?_ | refine WC.reg ?_ | refine WL.pure rfl rfl rfl ?_ | refine WL.nil ?_ | refine WC.skip ?_ | refine WC.block ?_ | refine WC.condT rfl ?_ | refine WC.condF rfl ?_ | refine WL.off rfl rfl rfl ?_ | refine WL.off0 rfl rfl ?_ | refine WC.exit ?_ | refine blk_hit ?_ | refine blk_miss rfl ?_ | refine WC.ret ?_)
    refine WL.append 0 (hp3.nilrow 3 1) rfl rfl rfl rfl rfl Nat.zero_lt_one rfl rfl rfl (news := zs ls) (Sl.of_row (hp3.at 0 rfl)) (by rw [zs_len]; exact (Nat.mul_one _).symm) (zs_cells _) (by unfold maxLen; omega) (by show (0 + ls.length) * 8 ≤ _; omega) ?_
    intro a8 c8 w4 hp4 hg4
    rw [Nat.zero_add] at hp4 ⊢
    rw [List.nil_append] at hp4
    have hp4' : Hp w w4 [.row 3 1 (.slice a8 ls.length c8) ls.length (zs ls), .row 3 1 (.slice a7 ls.length c7) ls.length (zs ls), .row 50 2 (.slice ao fs.length ca) fs.length (prs fs), .row 50 2 (.slice ag fs.length cg) fs.length (prs fs), .blk b2 (.cells #[.int .i64 n, .slice ea es.length ce] 24 (0, 0))] := hp4
    clear hp4
    have L0 : ∀ w' L, Hp w w' ([.row 3 1 (.slice a8 ls.length c8) ls.length (zs ls), .row 3 1 (.slice a7 ls.length c7) ls.length (zs ls), .row 50 2 (.slice ao fs.length ca) fs.length (prs fs), .row 50 2 (.slice ag fs.length cg) fs.length (prs fs), .blk b2 (.cells #[.int .i64 n, .slice ea es.length ce] 24 (0, 0))] ++ L) →
        Sl w' a8 (zs ls) ∧ Sl w' a7 (zs ls) ∧ Sl w' ao (prs fs) ∧ Sl w' ag (prs fs) ∧ Tb w' ∧ w'.heap[b2]? = some (.cells #[.int .i64 n, .slice ea es.length ce] 24 (0, 0)) := fun w' L h =>
      ⟨Sl.of_row (h.at 0 rfl), Sl.of_row (h.at 1 rfl), Sl.of_row (h.at 2 rfl), Sl.of_row (h.at 3 rfl), hT.below h.below, h.obj 4 rfl⟩
    obtain ⟨s8, s7, sO, sG, hT4, hB4⟩ := L0 w4 [] hp4'
    repeat (first | refine WC.seq ?_ | refine WC.reg ?_ | refine WL.pure rfl rfl rfl ?_ | refine WL.nil ?_ | refine WC.skip ?_ | refine WC.block ?_ | refine WC.condT rfl ?_ | refine WC.condF rfl ?_ | refine WL.off rfl rfl rfl ?_ | refine WL.off0 rfl rfl ?_ | refine WC.exit ?_ | refine blk_hit ?_ | refine blk_miss rfl ?_ | refine WC.ret ?_)
    refine WL.loadB rfl rfl rfl rfl rfl hB4 rfl ?_
    repeat (first | refine WC.seq ?_ | refine WC.reg ?_ | refine WL.pure rfl rfl rfl ?_ | refine WL.nil ?_ | refine WC.skip ?_ | refine WC.block ?_ | refine WC.condT rfl ?_ | refine WC.condF rfl ?_ | refine WL.off rfl rfl rfl ?_ | refine WL.off0 rfl rfl ?_ | refine WC.exit ?_ | refine blk_hit ?_ | refine blk_miss rfl ?_ | refine WC.ret ?_)
    refine WL.call rfl rfl rfl rfl rfl ent31 (Order_any ag a8 cg c8 n fs ls w4 sG hf62 s8 (by omega) hT4) ?_
    rintro _ w5 ⟨hp5, rfl⟩
    have hp5 := hp4'.call hp5.below
    obtain ⟨s8, s7, sO, sG, hT5, hB5⟩ := L0 w5 [] hp5
    obtain ⟨k9, e9, hov⟩ : ∃ k e, ordV n fs ls = .tuple #[.int .i64 k, .int .i64 e] := by
      unfold ordV
      split
      · exact ⟨_, _, rfl⟩
      · split
        · exact ⟨_, _, rfl⟩
        · split
          · exact ⟨_, _, rfl⟩
          · exact ⟨_, _, rfl⟩
    rw [hov]
    repeat (first | refine WC.seq ?_ | refine WC.reg ?_ | refine WL.pure rfl rfl rfl ?_ | refine WL.nil ?_ | refine WC.skip ?_ | refine WC.block ?_ | refine WC.condT rfl ?_ | refine WC.condF rfl ?_ | refine WL.off rfl rfl rfl ?_ | refine WL.off0 rfl rfl ?_ | refine WC.exit ?_ | refine blk_hit ?_ | refine blk_miss rfl ?_ | refine WC.ret ?_)
    refine WL.call rfl rfl rfl rfl rfl ent15 (edges_any ag ao cg ca fs fs w5 sG sO hf62) ?_
    rintro _ w6 ⟨hp6, rfl⟩
    rw [decide_eq_true rfl]
    have hp6 := hp5.call hp6.below
    obtain ⟨s8, s7, sO, sG, hT6, hB6⟩ := L0 w6 [] hp6
    repeat (first | refine WC.seq ?_ | refine WC.reg ?_ | refine WL.pure rfl rfl rfl ?_ | refine WL.nil ?_ | refine WC.skip ?_ | refine WC.block ?_ | refine WC.condT rfl ?_ | refine WC.condF rfl ?_ | refine WL.off rfl rfl rfl ?_ | refine WL.off0 rfl rfl ?_ | refine WC.exit ?_ | refine blk_hit ?_ | refine blk_miss rfl ?_ | refine WC.ret ?_)
    refine WL.call rfl rfl rfl rfl rfl ent21 (ints_any a8 a7 c8 c7 ls ls w6 s8 s7 (by omega)) ?_
    rintro _ w7 ⟨hp7, rfl⟩
    rw [decide_eq_true rfl]
    have hp7 := hp6.call hp7.below
    obtain ⟨s8, s7, sO, sG, hT7, hB7⟩ := L0 w7 [] hp7
    repeat (first | refine WC.seq ?_ | refine WC.reg ?_ | refine WL.pure rfl rfl rfl ?_ | refine WL.nil ?_ | refine WC.skip ?_ | refine WC.block ?_ | refine WC.condT rfl ?_ | refine WC.condF rfl ?_ | refine WL.off rfl rfl rfl ?_ | refine WL.off0 rfl rfl ?_ | refine WC.exit ?_ | refine blk_hit ?_ | refine blk_miss rfl ?_ | refine WC.ret ?_)
    refine WL.loadB rfl rfl rfl rfl rfl hB7 rfl ?_
    repeat (first | refine WC.seq ?_ | refine WC.reg ?_ | refine WL.pure rfl rfl rfl ?_ | refine WL.nil ?_ | refine WC.skip ?_ | refine WC.block ?_ | refine WC.condT rfl ?_ | refine WC.condF rfl ?_ | refine WL.off rfl rfl rfl ?_ | refine WL.off0 rfl rfl ?_ | refine WC.exit ?_ | refine blk_hit ?_ | refine blk_miss rfl ?_ | refine WC.ret ?_)
    refine WL.call rfl rfl rfl rfl rfl ent28 (Best_any ag cg n fs w7 sG hf62 hT7) ?_
    intro v8 w8 hBI
    unfold BestIs at hBI
    have fin : ∀ w', Tb w' → (∀ w'', Hp w' w'' [] → Hp w w'' []) → Ret Tryd.prog 19 [] w' fun v w'' => v = .bool true ∧ Hp w w'' [] := fun w' hTw hh => (awake_any w' hTw).mono fun v w'' ⟨h1, h2⟩ => ⟨h1, hh w'' h2⟩
    cases hmk : mkG n fs with
    | none =>
      rw [hmk] at hBI
      obtain ⟨hp8, rfl⟩ := hBI
      have hp8 := hp7.call hp8.below
      obtain ⟨s8, s7, sO, sG, hT8, hB8⟩ := L0 w8 [] hp8
      have he : k9 = 0 ∧ e9 = 2 := by
        unfold ordV at hov
        rw [hmk] at hov
        simp at hov
        exact ⟨hov.1.symm, hov.2.symm⟩
      obtain ⟨rfl, rfl⟩ := he
      repeat (first | refine WC.seq ?_ | refine WC.reg ?_ | refine WL.pure rfl rfl rfl ?_ | refine WL.nil ?_ | refine WC.skip ?_ | refine WC.block ?_ | refine WC.condT rfl ?_ | refine WC.condF rfl ?_ | refine WL.off rfl rfl rfl ?_ | refine WL.off0 rfl rfl ?_ | refine WC.exit ?_ | refine blk_hit ?_ | refine blk_miss rfl ?_ | refine WC.ret ?_)
      refine WL.call rfl rfl rfl rfl rfl ent15 (edges_any ag ao cg ca fs fs w8 sG sO hf62) ?_
      rintro _ w9 ⟨hp9, rfl⟩
      rw [decide_eq_true rfl]
      have hp9 := hp8.call hp9.below
      obtain ⟨s8, s7, sO, sG, hT9, hB9⟩ := L0 w9 [] hp9
      repeat (first | refine WC.seq ?_ | refine WC.reg ?_ | refine WL.pure rfl rfl rfl ?_ | refine WL.nil ?_ | refine WC.skip ?_ | refine WC.block ?_ | refine WC.condT rfl ?_ | refine WC.condF rfl ?_ | refine WL.off rfl rfl rfl ?_ | refine WL.off0 rfl rfl ?_ | refine WC.exit ?_ | refine blk_hit ?_ | refine blk_miss rfl ?_ | refine WC.ret ?_)
      refine WL.loadB rfl rfl rfl rfl rfl hB9 rfl ?_
      repeat (first | refine WC.seq ?_ | refine WC.reg ?_ | refine WL.pure rfl rfl rfl ?_ | refine WL.nil ?_ | refine WC.skip ?_ | refine WC.block ?_ | refine WC.condT rfl ?_ | refine WC.condF rfl ?_ | refine WL.off rfl rfl rfl ?_ | refine WL.off0 rfl rfl ?_ | refine WC.exit ?_ | refine blk_hit ?_ | refine blk_miss rfl ?_ | refine WC.ret ?_)
      refine WL.call rfl rfl rfl rfl rfl ent18 (Graph_any ao ca n fs w9 sO hf62) ?_
      rintro _ wA ⟨hpA, rfl⟩
      rw [hmk]
      have hpA := hp9.call hpA.below
      repeat (first | refine WC.seq ?_ | refine WC.reg ?_ | refine WL.pure rfl rfl rfl ?_ | refine WL.nil ?_ | refine WC.skip ?_ | refine WC.block ?_ | refine WC.condT rfl ?_ | refine WC.condF rfl ?_ | refine WL.off rfl rfl rfl ?_ | refine WL.off0 rfl rfl ?_ | refine WC.exit ?_ | refine blk_hit ?_ | refine blk_miss rfl ?_ | refine WC.ret ?_)
      refine WL.call rfl rfl rfl rfl rfl ent19 (fin wA (hT.below hpA.below) (fun w'' h => (hpA.call h.below).nil')) ?_
      rintro _ wB ⟨rfl, hpB⟩
      repeat (first | refine WC.seq ?_ | refine WC.reg ?_ | refine WL.pure rfl rfl rfl ?_ | refine WL.nil ?_ | refine WC.skip ?_ | refine WC.block ?_ | refine WC.condT rfl ?_ | refine WC.condF rfl ?_ | refine WL.off rfl rfl rfl ?_ | refine WL.off0 rfl rfl ?_ | refine WC.exit ?_ | refine blk_hit ?_ | refine blk_miss rfl ?_ | refine WC.ret ?_)
      exact Res.one rfl rfl rfl ⟨rfl, hpB⟩
    | some g =>
      rw [hmk] at hBI
      obtain ⟨hg, hgn, hn0, _, _⟩ := mkG_gr hmk
      obtain ⟨m, rfl⟩ := Int.eq_ofNat_of_zero_le hn0
      have hgn : g.length = m := by simpa using hgn
      subst hgn
      obtain ⟨aB, cB, hp8, rfl⟩ := hBI
      have hrowB : Hp w w8 ([.row 3 1 (.slice a8 ls.length c8) ls.length (zs ls), .row 3 1 (.slice a7 ls.length c7) ls.length (zs ls), .row 50 2 (.slice ao fs.length ca) fs.length (prs fs), .row 50 2 (.slice ag fs.length cg) fs.length (prs fs), .blk b2 (.cells #[.int .i64 (g.length : Nat), .slice ea es.length ce] 24 (0, 0))] ++ [.row 3 1 (.slice aB g.length cB) g.length (ints (bestO g))]) :=
        (hp7.comb hp8).pick [1, 2, 3, 4, 5, 0] (by decide)
      obtain ⟨s8, s7, sO, sG, hT8, hB8⟩ := L0 w8 _ hrowB
      repeat (first | refine WC.seq ?_ | refine WC.reg ?_ | refine WL.pure rfl rfl rfl ?_ | refine WL.nil ?_ | refine WC.skip ?_ | refine WC.block ?_ | refine WC.condT rfl ?_ | refine WC.condF rfl ?_ | refine WL.off rfl rfl rfl ?_ | refine WL.off0 rfl rfl ?_ | refine WC.exit ?_ | refine blk_hit ?_ | refine blk_miss rfl ?_ | refine WC.ret ?_)
      refine WL.call rfl rfl rfl rfl rfl ent15 (edges_any ag ao cg ca fs fs w8 sG sO hf62) ?_
      rintro _ w9 ⟨hp9, rfl⟩
      rw [decide_eq_true rfl]
      have hp9 := hrowB.call hp9.below
      obtain ⟨s8, s7, sO, sG, hT9, hB9⟩ := L0 w9 _ hp9
      repeat (first | refine WC.seq ?_ | refine WC.reg ?_ | refine WL.pure rfl rfl rfl ?_ | refine WL.nil ?_ | refine WC.skip ?_ | refine WC.block ?_ | refine WC.condT rfl ?_ | refine WC.condF rfl ?_ | refine WL.off rfl rfl rfl ?_ | refine WL.off0 rfl rfl ?_ | refine WC.exit ?_ | refine blk_hit ?_ | refine blk_miss rfl ?_ | refine WC.ret ?_)
      refine WL.loadB rfl rfl rfl rfl rfl hB9 rfl ?_
      repeat (first | refine WC.seq ?_ | refine WC.reg ?_ | refine WL.pure rfl rfl rfl ?_ | refine WL.nil ?_ | refine WC.skip ?_ | refine WC.block ?_ | refine WC.condT rfl ?_ | refine WC.condF rfl ?_ | refine WL.off rfl rfl rfl ?_ | refine WL.off0 rfl rfl ?_ | refine WC.exit ?_ | refine blk_hit ?_ | refine blk_miss rfl ?_ | refine WC.ret ?_)
      refine WL.call rfl rfl rfl rfl rfl ent18 (Graph_any ao ca _ fs w9 sO hf62) ?_
      rintro _ wA ⟨hpA, rfl⟩
      rw [hmk]
      have hpA := hp9.call hpA.below
      obtain ⟨s8, s7, sO, sG, hTA, hBA⟩ := L0 wA _ hpA
      repeat (first | refine WC.seq ?_ | refine WC.reg ?_ | refine WL.pure rfl rfl rfl ?_ | refine WL.nil ?_ | refine WC.skip ?_ | refine WC.block ?_ | refine WC.condT rfl ?_ | refine WC.condF rfl ?_ | refine WL.off rfl rfl rfl ?_ | refine WL.off0 rfl rfl ?_ | refine WC.exit ?_ | refine blk_hit ?_ | refine blk_miss rfl ?_ | refine WC.ret ?_)
      refine WL.loadB rfl rfl rfl rfl rfl hBA rfl ?_
      repeat (first | refine WC.seq ?_ | refine WC.reg ?_ | refine WL.pure rfl rfl rfl ?_ | refine WL.nil ?_ | refine WC.skip ?_ | refine WC.block ?_ | refine WC.condT rfl ?_ | refine WC.condF rfl ?_ | refine WL.off rfl rfl rfl ?_ | refine WL.off0 rfl rfl ?_ | refine WC.exit ?_ | refine blk_hit ?_ | refine blk_miss rfl ?_ | refine WC.ret ?_)
      refine WL.call rfl rfl rfl rfl rfl ent30 (RBest_any ao ca g fs wA sO hf62 hmk) ?_
      rintro _ wB ⟨aC, cC, hpB, rfl⟩
      have hpB := hpA.comb hpB
      have hbz : ∀ x : List Nat, ints x = zs (x.map fun (q : Nat) => (q : Int)) := fun x => by simp [ints, zs]
      have hbl : ((bestO g).map fun (q : Nat) => (q : Int)).length = g.length := by rw [List.length_map, bestO_len hg]
      have hints := ints_any aB aC cB cC ((bestO g).map fun (q : Nat) => (q : Int)) ((bestO g).map fun (q : Nat) => (q : Int)) wB (by rw [← hbz]; exact Sl.of_row (hpB.at 6 rfl)) (by rw [← hbz]; exact Sl.of_row (hpB.at 0 rfl)) (by rw [hbl]; have := hg.len; omega)
      rw [hbl] at hints
      refine WL.call rfl rfl rfl rfl rfl ent21 hints ?_
      rintro _ wC ⟨hpC, rfl⟩
      rw [decide_eq_true rfl]
      have hpC := (hpB.call hpC.below).tail
      obtain ⟨s8, s7, sO, sG, hTC, hBC⟩ := L0 wC _ hpC
      repeat (first | refine WC.seq ?_ | refine WC.reg ?_ | refine WL.pure rfl rfl rfl ?_ | refine WL.nil ?_ | refine WC.skip ?_ | refine WC.block ?_ | refine WC.condT rfl ?_ | refine WC.condF rfl ?_ | refine WL.off rfl rfl rfl ?_ | refine WL.off0 rfl rfl ?_ | refine WC.exit ?_ | refine blk_hit ?_ | refine blk_miss rfl ?_ | refine WC.ret ?_)
      refine WL.loadB rfl rfl rfl rfl rfl hBC rfl ?_
      repeat (first | refine WC.seq ?_ | refine WC.reg ?_ | refine WL.pure rfl rfl rfl ?_ | refine WL.nil ?_ | refine WC.skip ?_ | refine WC.block ?_ | refine WC.condT rfl ?_ | refine WC.condF rfl ?_ | refine WL.off rfl rfl rfl ?_ | refine WL.off0 rfl rfl ?_ | refine WC.exit ?_ | refine blk_hit ?_ | refine blk_miss rfl ?_ | refine WC.ret ?_)
      refine WL.call rfl rfl rfl rfl rfl ent32 (ROrder_any ao a7 ca c7 g fs ls wC sO hf62 s7 hmk) ?_
      rintro _ wD ⟨hpD, rfl⟩
      have hpD := hpC.call hpD.below
      have hTD := hT.below hpD.below
      have cases3 : (k9 = 0 ∧ e9 = 2 ∧ rordV g ls = .tuple #[.int .i64 0, .bool false]) ∨ (e9 = 0 ∧ rordV g ls = .tuple #[.int .i64 k9, .bool true]) := by
        unfold ordV at hov
        rw [hmk] at hov
        simp only at hov
        unfold rordV
        by_cases hl : ls.length = g.length
        · rw [if_neg (by omega)] at hov
          rw [if_neg (by omega)]
          cases hq : ordL g ls 0 (-1) with
          | none =>
            rw [hq] at hov
            simp at hov
            exact .inl ⟨hov.1.symm, hov.2.symm, rfl⟩
          | some K =>
            rw [hq] at hov
            simp at hov
            exact .inr ⟨hov.2.symm, by rw [hov.1]⟩
        · rw [if_pos (by omega)] at hov
          rw [if_pos (by omega)]
          simp at hov
          exact .inl ⟨hov.1.symm, hov.2.symm, rfl⟩
      rcases cases3 with ⟨rfl, rfl, hr⟩ | ⟨rfl, hr⟩
      · rw [hr]
        repeat (first | refine WC.seq ?_ | refine WC.reg ?_ | refine WL.pure rfl rfl rfl ?_ | refine WL.nil ?_ | refine WC.skip ?_ | refine WC.block ?_ | refine WC.condT rfl ?_ | refine WC.condF rfl ?_ | refine WL.off rfl rfl rfl ?_ | refine WL.off0 rfl rfl ?_ | refine WC.exit ?_ | refine blk_hit ?_ | refine blk_miss rfl ?_ | refine WC.ret ?_)
        refine WL.call rfl rfl rfl rfl rfl ent19 (fin wD hTD (fun w'' h => (hpD.call h.below).nil')) ?_
        rintro _ wE ⟨rfl, hpE⟩
        repeat (first | refine WC.seq ?_ | refine WC.reg ?_ | refine WL.pure rfl rfl rfl ?_ | refine WL.nil ?_ | refine WC.skip ?_ | refine WC.block ?_ | refine WC.condT rfl ?_ | refine WC.condF rfl ?_ | refine WL.off rfl rfl rfl ?_ | refine WL.off0 rfl rfl ?_ | refine WC.exit ?_ | refine blk_hit ?_ | refine blk_miss rfl ?_ | refine WC.ret ?_)
        exact Res.one rfl rfl rfl ⟨rfl, hpE⟩
      · rw [hr]
        repeat (first | refine WC.seq ?_ | refine WC.reg ?_ | refine WL.pure rfl rfl rfl ?_ | refine WL.nil ?_ | refine WC.skip ?_ | refine WC.block ?_ | refine WC.condT rfl ?_ | refine WC.condF rfl ?_ | refine WL.off rfl rfl rfl ?_ | refine WL.off0 rfl rfl ?_ | refine WC.exit ?_ | refine blk_hit ?_ | refine blk_miss rfl ?_ | refine WC.ret ?_)
        refine WL.split 116 (b := true) (by simp [W.look]) (fun _ => ?_) (fun h => by cases h)
        repeat (first | refine WC.seq ?_ | refine WC.reg ?_ | refine WL.pure rfl rfl rfl ?_ | refine WL.nil ?_ | refine WC.skip ?_ | refine WC.block ?_ | refine WC.condT rfl ?_ | refine WC.condF rfl ?_ | refine WL.off rfl rfl rfl ?_ | refine WL.off0 rfl rfl ?_ | refine WC.exit ?_ | refine blk_hit ?_ | refine blk_miss rfl ?_ | refine WC.ret ?_)
        refine WL.call rfl rfl rfl rfl rfl ent19 (fin wD hTD (fun w'' h => (hpD.call h.below).nil')) ?_
        rintro _ wE ⟨rfl, hpE⟩
        repeat (first | refine WC.seq ?_ | refine WC.reg ?_ | refine WL.pure rfl rfl rfl ?_ | refine WL.nil ?_ | refine WC.skip ?_ | refine WC.block ?_ | refine WC.condT rfl ?_ | refine WC.condF rfl ?_ | refine WL.off rfl rfl rfl ?_ | refine WL.off0 rfl rfl ?_ | refine WC.exit ?_ | refine blk_hit ?_ | refine blk_miss rfl ?_ | refine WC.ret ?_)
        exact Res.one rfl rfl rfl ⟨rfl, hpE⟩
end Go.Proofs.YtdnkkflpgebfbaaDoor

/- The walks of the own laws' helpers: mod, key, tame. -/
namespace Go.W
open Go.RowKit
section
variable {P : Program} [T : TT P] {n : Nat} {l0 : List Oper} {S : World → Prop} {N : Nor} {Z : Pan} {e : Env} {w : World} {fuel : Nat} {listed : Array Bool}
theorem WH.ix {d : Nat} {t ty E : TypeId} {pos : String} {aft : Array Edge} {g : Option (Nat × Bool)} {ti : TI} {x ix : Operand} {b o len cap j : Nat} {k : IntKind} {z : Value} {s b2 : Nat} (i : Nat) (hs : Region.noSelect l0.toArray = true) (hi : nth l0 i = some ⟨some d, .indexAddr t x ix, ty, pos, aft, g⟩)
    (hB : takeB l0.toArray listed i = true) (hg : grd l0 e g = some true) (hd : Nat.blt d n = true) (ht : T.ti t = some ⟨.slice E, z, s, b2⟩) (hE : T.ti E = some ti)
    (hx : opv e x = some (.slice (some ⟨b, o, none⟩) len cap)) (hix : opv e ix = some (.int k (j : Nat))) (hj : j < len) (hS : S w)
    (h : WH P n l0 S N Z fuel (listed.setIfInBounds i true) ((d, .pointer (some ⟨b, o + j * ti.size, none⟩)) :: e) w) : WH P n l0 S N Z (fuel + 1) listed e w := by
  refine WH.take i hs hi hB hg hd (fun w _ => ?_) hS h
  have hu : P.underlying t = some (.slice E) := (T.ok t _ ht).k
  intro ρ hρ d' pos' aft' g'
  have hsz := (T.ok E ti hE).sizeOf w
  have c1 : (0 : Int) ≤ (j : Int) ∧ (j : Int) < (len : Int) := ⟨by omega, by omega⟩
  simp only [execOp, hρ _ _ hx, hρ _ _ hix, Instr.indexAt, asIntOf, Sem.run_bind, Sem.run_pure, Result.andThen_ok, run_underlying hu]
  rw [if_pos c1]
  simp [hsz, Addr.add_lit]
end
end Go.W
namespace Go.Proofs.YtdnkkflpgebfbaaDoor
open Go.W Go.Tree
set_option maxRecDepth 100000
attribute [local irreducible] WC WL WQ WS WH

def modN (x : Int) (n : Nat) : Nat := (x % 18446744073709551616).toNat % n
theorem modN_lt {n : Nat} (h : 0 < n) (x : Int) : modN x n < n := Nat.mod_lt _ h
theorem mod_any (x : Int) (n : Nat) (h0 : 0 < n) (hn : n < 1000) : Pur Tryd.prog 26 [.int .i64 x, .int .i64 n] (.int .i64 (modN x n)) := by
  intro w
  refine enter Tryd.func26 rfl rfl ⟨rfl, rfl⟩ rfl ?_
  have e1 : IntKind.u64.wrap x = (((x % 18446744073709551616).toNat : Nat) : Int) := by rw [IntKind.wrap_u64]; omega
  have e2 : IntKind.u64.wrap (n : Int) = ((n : Nat) : Int) := by rw [IntKind.wrap_u64]; omega
  repeat (first | refine WC.seq ?_ | refine WC.reg ?_ | refine WL.pure rfl rfl rfl ?_ | refine WL.nil ?_ | refine WC.skip ?_ | refine WC.block ?_ | refine WC.condT rfl ?_ | refine WC.condF rfl ?_ | refine WL.off rfl rfl rfl ?_ | refine WL.off0 rfl rfl ?_ | refine WC.exit ?_ | refine blk_hit ?_ | refine blk_miss rfl ?_ | refine WC.ret ?_)
  refine WL.known (d := 6) (congrArg (fun z => some (Value.int .u64 z)) e1) ?_
  refine WL.known (d := 8) (congrArg (fun z => some (Value.int .u64 z)) e2) ?_
  refine WL.rem rfl rfl rfl rfl (by omega) ?_
  repeat (first | refine WC.seq ?_ | refine WC.reg ?_ | refine WL.pure rfl rfl rfl ?_ | refine WL.nil ?_ | refine WC.skip ?_ | refine WC.block ?_ | refine WC.condT rfl ?_ | refine WC.condF rfl ?_ | refine WL.off rfl rfl rfl ?_ | refine WL.off0 rfl rfl ?_ | refine WC.exit ?_ | refine blk_hit ?_ | refine blk_miss rfl ?_ | refine WC.ret ?_)
  refine Res.one rfl rfl rfl ⟨?_, rfl⟩
  have h1 : (((x % 18446744073709551616).toNat : Nat) : Int).tmod (n : Int) = ((modN x n : Nat) : Int) := (Int.ofNat_tmod _ _).symm
  have h2 := modN_lt h0 x
  rw [h1, wrap_i64_in (by omega) (by omega)]

def keyN (o : List Int) (v : Nat) : Int := o.getD v 0
theorem key_any (oa : Option Addr) (oc : Nat) (o : List Int) (v : Nat) (w : World) (ho : Sl w oa (zs o)) :
    Ret Tryd.prog 33 [.slice oa o.length oc, .int .i64 v] w fun u w' => u = .int .i64 (keyN o v) ∧ w' = w := by
  refine enter Tryd.func33 rfl rfl ⟨rfl, rfl⟩ rfl ?_
  repeat (first | refine WC.seq ?_ | refine WC.reg ?_ | refine WL.pure rfl rfl rfl ?_ | refine WL.nil ?_ | refine WC.skip ?_ | refine WC.block ?_ | refine WC.condT rfl ?_ | refine WC.condF rfl ?_ | refine WL.off rfl rfl rfl ?_ | refine WL.off0 rfl rfl ?_ | refine WC.exit ?_ | refine blk_hit ?_ | refine blk_miss rfl ?_ | refine WC.ret ?_)
  refine WC.cond rfl (fun h => ?_) (fun h => ?_)
  · have h : v < o.length := by have := of_decide_eq_true h; omega
    repeat (first | refine WC.seq ?_ | refine WC.reg ?_ | refine WL.pure rfl rfl rfl ?_ | refine WL.nil ?_ | refine WC.skip ?_ | refine WC.block ?_ | refine WC.condT rfl ?_ | refine WC.condF rfl ?_ | refine WL.off rfl rfl rfl ?_ | refine WL.off0 rfl rfl ?_ | refine WC.exit ?_ | refine blk_hit ?_ | refine blk_miss rfl ?_ | refine WC.ret ?_)
    refine WL.ixload rfl (fun _ => rfl) rfl rfl rfl rfl rfl rfl rfl h rfl rfl ho (by simp [zs, h] : (zs o)[v]? = some (.int .i64 (o.getD v 0))) ?_
    intro p
    repeat (first | refine WC.seq ?_ | refine WC.reg ?_ | refine WL.pure rfl rfl rfl ?_ | refine WL.nil ?_ | refine WC.skip ?_ | refine WC.block ?_ | refine WC.condT rfl ?_ | refine WC.condF rfl ?_ | refine WL.off rfl rfl rfl ?_ | refine WL.off0 rfl rfl ?_ | refine WC.exit ?_ | refine blk_hit ?_ | refine blk_miss rfl ?_ | refine WC.ret ?_)
    exact Res.one rfl rfl rfl ⟨rfl, rfl⟩
  · have h : ¬ v < o.length := by have := of_decide_eq_false h; omega
    repeat (first | refine WC.seq ?_ | refine WC.reg ?_ | refine WL.pure rfl rfl rfl ?_ | refine WL.nil ?_ | refine WC.skip ?_ | refine WC.block ?_ | refine WC.condT rfl ?_ | refine WC.condF rfl ?_ | refine WL.off rfl rfl rfl ?_ | refine WL.off0 rfl rfl ?_ | refine WC.exit ?_ | refine blk_hit ?_ | refine blk_miss rfl ?_ | refine WC.ret ?_)
    refine Res.one rfl rfl rfl ⟨?_, rfl⟩
    simp [keyN, List.getD_eq_getElem?_getD, List.getElem?_eq_none (Nat.le_of_not_lt h)]

/-- What tame hands back: a graph. -/
def TameIs (w : World) (most : Nat) (v : Value) (w' : World) : Prop :=
  ∃ (N : Nat) (es : List Ed) (g : List Nat) (a : Option Addr) (c : Nat), N ≤ most ∧ mkG (N : Nat) es = some g ∧ v = .agg #[.int .i64 (N : Nat), .slice a es.length c] ∧ Hp w w' [.row 50 2 (.slice a es.length c) es.length (prs es)]

theorem tame_any (ea : Option Addr) (ce : Nat) (n : Int) (es : List Ed) (most : Nat) (hmost : most ≤ 14) (w : World) (hs : Sl w ea (prs es)) :
    Ret Tryd.prog 24 [.agg #[.int .i64 n, .slice ea es.length ce], .int .i64 (most : Nat)] w (TameIs w most) := by
  refine enter Tryd.func24 rfl rfl ⟨rfl, rfl⟩ rfl ?_
  repeat (first | refine WC.seq ?_ | refine WC.reg ?_ | refine WL.pure rfl rfl rfl ?_ | refine WL.nil ?_ | refine WC.skip ?_ | refine WC.block ?_ | refine WC.condT rfl ?_ | refine WC.condF rfl ?_ | refine WL.off rfl rfl rfl ?_ | refine WL.off0 rfl rfl ?_ | refine WC.exit ?_ | refine blk_hit ?_ | refine blk_miss rfl ?_ | refine WC.ret ?_)
  refine WL.box rfl rfl rfl ?_
  intro b2 w1 hb2
  have hp1 := (Hp.start w).new hb2
  refine WL.alloc rfl rfl rfl ?_
  intro b4 w2 hb4
  have hp2 := hp1.new hb4
  repeat (first | refine WC.seq ?_ | refine WC.reg ?_ | refine WL.pure rfl rfl rfl ?_ | refine WL.nil ?_ | refine WC.skip ?_ | refine WC.block ?_ | refine WC.condT rfl ?_ | refine WC.condF rfl ?_ | refine WL.off rfl rfl rfl ?_ | refine WL.off0 rfl rfl ?_ | refine WC.exit ?_ | refine blk_hit ?_ | refine blk_miss rfl ?_ | refine WC.ret ?_)
  refine WL.loadB rfl rfl rfl rfl rfl (hp2.obj 1 rfl) rfl ?_
  refine WL.buildT rfl rfl rfl rfl rfl rfl ?_
  refine WL.var rfl rfl rfl (fun _ => rfl) rfl rfl (show ∀ u ∈ [Value.int .i64 n, .slice none 0 0], u.oneCell' = true from Cells.cons rfl (Cells.cons rfl Cells.nil)) ?_
  intro b5 w3 hb5
  have hp3 := hp2.new hb5
  refine WL.nil ?_
  refine WC.seq ?_
  refine WC.mid Nat (fun _ => [(2, .pointer (some ⟨b2, 0, none⟩)), (4, .pointer (some ⟨b4, 0, none⟩)), (5, .pointer (some ⟨b5, 0, none⟩))])
    (fun N w' => N ≤ most ∧ Hp w w' [.blk b5 (.cells #[.int .i64 (N : Nat), .slice none 0 0] 24 (0, 0)), .blk b4 (.cells ti24.zero.cells 24 (0, 0)), .blk b2 (.cells #[.int .i64 n, .slice ea es.length ce] 24 (0, 0))]) ?_ ?_
  · have hm1 : IntKind.i64.wrap ((most : Int) + 1) = ((most + 1 : Nat) : Int) := by rw [wrap_i64_in (by omega) (by omega)]; omega
    have hlt := modN_lt (n := most + 1) (by omega) n
    repeat (first | refine WC.seq ?_ | refine WC.reg ?_ | refine WL.pure rfl rfl rfl ?_ | refine WL.nil ?_ | refine WC.skip ?_ | refine WC.block ?_ | refine WC.condT rfl ?_ | refine WC.condF rfl ?_ | refine WL.off rfl rfl rfl ?_ | refine WL.off0 rfl rfl ?_ | refine WC.exit ?_ | refine blk_hit ?_ | refine blk_miss rfl ?_ | refine WC.ret ?_)
    refine WL.loadB rfl rfl rfl rfl rfl (hp3.obj 0 rfl) rfl ?_
    repeat (first | refine WC.seq ?_ | refine WC.reg ?_ | refine WL.pure rfl rfl rfl ?_ | refine WL.nil ?_ | refine WC.skip ?_ | refine WC.block ?_ | refine WC.condT rfl ?_ | refine WC.condF rfl ?_ | refine WL.off rfl rfl rfl ?_ | refine WL.off0 rfl rfl ?_ | refine WC.exit ?_ | refine blk_hit ?_ | refine blk_miss rfl ?_ | refine WC.ret ?_)
    refine WL.split 14 rfl (fun h1 => ?_) (fun h1 => ?_)
    · repeat (first | refine WC.seq ?_ | refine WC.reg ?_ | refine WL.pure rfl rfl rfl ?_ | refine WL.nil ?_ | refine WC.skip ?_ | refine WC.block ?_ | refine WC.condT rfl ?_ | refine WC.condF rfl ?_ | refine WL.off rfl rfl rfl ?_ | refine WL.off0 rfl rfl ?_ | refine WC.exit ?_ | refine blk_hit ?_ | refine blk_miss rfl ?_ | refine WC.ret ?_)
      refine WL.loadB rfl rfl rfl rfl rfl (hp3.obj 2 rfl) rfl ?_
      repeat (first | refine WC.seq ?_ | refine WC.reg ?_ | refine WL.pure rfl rfl rfl ?_ | refine WL.nil ?_ | refine WC.skip ?_ | refine WC.block ?_ | refine WC.condT rfl ?_ | refine WC.condF rfl ?_ | refine WL.off rfl rfl rfl ?_ | refine WL.off0 rfl rfl ?_ | refine WC.exit ?_ | refine blk_hit ?_ | refine blk_miss rfl ?_ | refine WC.ret ?_)
      refine WL.known (d := 23) (congrArg (fun z => some (Value.int .i64 z)) hm1) ?_
      refine WL.callP rfl rfl rfl rfl rfl ent26 (mod_any n (most + 1) (by omega) (by omega) _) ?_
      repeat (first | refine WC.seq ?_ | refine WC.reg ?_ | refine WL.pure rfl rfl rfl ?_ | refine WL.nil ?_ | refine WC.skip ?_ | refine WC.block ?_ | refine WC.condT rfl ?_ | refine WC.condF rfl ?_ | refine WL.off rfl rfl rfl ?_ | refine WL.off0 rfl rfl ?_ | refine WC.exit ?_ | refine blk_hit ?_ | refine blk_miss rfl ?_ | refine WC.ret ?_)
      refine WL.store rfl rfl rfl rfl rfl rfl (hp3.obj 0 rfl) (show 0 + 0 < 2 from by decide) (fun w5 hw5 => ?_)
      have hp5 := hp3.set 0 rfl rfl hw5
      repeat (first | refine WC.seq ?_ | refine WC.reg ?_ | refine WL.pure rfl rfl rfl ?_ | refine WL.nil ?_ | refine WC.skip ?_ | refine WC.block ?_ | refine WC.condT rfl ?_ | refine WC.condF rfl ?_ | refine WL.off rfl rfl rfl ?_ | refine WL.off0 rfl rfl ?_ | refine WC.exit ?_ | refine blk_hit ?_ | refine blk_miss rfl ?_ | refine WC.ret ?_)
      exact ⟨modN n (most + 1), ⟨rfl, rfl, rfl, rfl⟩, by omega, hp5⟩
    · have h1 : ¬ n < 0 := of_decide_eq_false h1
      repeat (first | refine WC.seq ?_ | refine WC.reg ?_ | refine WL.pure rfl rfl rfl ?_ | refine WL.nil ?_ | refine WC.skip ?_ | refine WC.block ?_ | refine WC.condT rfl ?_ | refine WC.condF rfl ?_ | refine WL.off rfl rfl rfl ?_ | refine WL.off0 rfl rfl ?_ | refine WC.exit ?_ | refine blk_hit ?_ | refine blk_miss rfl ?_ | refine WC.ret ?_)
      refine WL.loadB rfl rfl rfl rfl rfl (hp3.obj 0 rfl) rfl ?_
      repeat (first | refine WC.seq ?_ | refine WC.reg ?_ | refine WL.pure rfl rfl rfl ?_ | refine WL.nil ?_ | refine WC.skip ?_ | refine WC.block ?_ | refine WC.condT rfl ?_ | refine WC.condF rfl ?_ | refine WL.off rfl rfl rfl ?_ | refine WL.off0 rfl rfl ?_ | refine WC.exit ?_ | refine blk_hit ?_ | refine blk_miss rfl ?_ | refine WC.ret ?_)
      refine WC.cond rfl (fun h2 => ?_) (fun h2 => ?_)
      · repeat (first | refine WC.seq ?_ | refine WC.reg ?_ | refine WL.pure rfl rfl rfl ?_ | refine WL.nil ?_ | refine WC.skip ?_ | refine WC.block ?_ | refine WC.condT rfl ?_ | refine WC.condF rfl ?_ | refine WL.off rfl rfl rfl ?_ | refine WL.off0 rfl rfl ?_ | refine WC.exit ?_ | refine blk_hit ?_ | refine blk_miss rfl ?_ | refine WC.ret ?_)
        refine WL.loadB rfl rfl rfl rfl rfl (hp3.obj 2 rfl) rfl ?_
        repeat (first | refine WC.seq ?_ | refine WC.reg ?_ | refine WL.pure rfl rfl rfl ?_ | refine WL.nil ?_ | refine WC.skip ?_ | refine WC.block ?_ | refine WC.condT rfl ?_ | refine WC.condF rfl ?_ | refine WL.off rfl rfl rfl ?_ | refine WL.off0 rfl rfl ?_ | refine WC.exit ?_ | refine blk_hit ?_ | refine blk_miss rfl ?_ | refine WC.ret ?_)
        refine WL.known (d := 23) (congrArg (fun z => some (Value.int .i64 z)) hm1) ?_
        refine WL.callP rfl rfl rfl rfl rfl ent26 (mod_any n (most + 1) (by omega) (by omega) _) ?_
        repeat (first | refine WC.seq ?_ | refine WC.reg ?_ | refine WL.pure rfl rfl rfl ?_ | refine WL.nil ?_ | refine WC.skip ?_ | refine WC.block ?_ | refine WC.condT rfl ?_ | refine WC.condF rfl ?_ | refine WL.off rfl rfl rfl ?_ | refine WL.off0 rfl rfl ?_ | refine WC.exit ?_ | refine blk_hit ?_ | refine blk_miss rfl ?_ | refine WC.ret ?_)
        refine WL.store rfl rfl rfl rfl rfl rfl (hp3.obj 0 rfl) (show 0 + 0 < 2 from by decide) (fun w5 hw5 => ?_)
        have hp5 := hp3.set 0 rfl rfl hw5
        repeat (first | refine WC.seq ?_ | refine WC.reg ?_ | refine WL.pure rfl rfl rfl ?_ | refine WL.nil ?_ | refine WC.skip ?_ | refine WC.block ?_ | refine WC.condT rfl ?_ | refine WC.condF rfl ?_ | refine WL.off rfl rfl rfl ?_ | refine WL.off0 rfl rfl ?_ | refine WC.exit ?_ | refine blk_hit ?_ | refine blk_miss rfl ?_ | refine WC.ret ?_)
        exact ⟨modN n (most + 1), ⟨rfl, rfl, rfl, rfl⟩, by omega, hp5⟩
      · have h2 : ¬ (most : Int) < n := of_decide_eq_false h2
        obtain ⟨N, rfl⟩ := Int.eq_ofNat_of_zero_le (show 0 ≤ n by omega)
        repeat (first | refine WC.seq ?_ | refine WC.reg ?_ | refine WL.pure rfl rfl rfl ?_ | refine WL.nil ?_ | refine WC.skip ?_ | refine WC.block ?_ | refine WC.condT rfl ?_ | refine WC.condF rfl ?_ | refine WL.off rfl rfl rfl ?_ | refine WL.off0 rfl rfl ?_ | refine WC.exit ?_ | refine blk_hit ?_ | refine blk_miss rfl ?_ | refine WC.ret ?_)
        exact ⟨N, ⟨rfl, rfl, rfl, rfl⟩, by omega, hp3⟩
  · rintro N e2 w5 hsub2 ⟨hN, hp5⟩
    refine WC.sub hsub2 ?_
    have hmk0 : mkG (N : Nat) [] = some (List.replicate N 0) := by rw [mkG, if_neg (by simp; omega)]; rfl
    repeat (first | refine WC.seq ?_ | refine WC.reg ?_ | refine WL.pure rfl rfl rfl ?_ | refine WL.nil ?_ | refine WC.skip ?_ | refine WC.block ?_ | refine WC.condT rfl ?_ | refine WC.condF rfl ?_ | refine WL.off rfl rfl rfl ?_ | refine WL.off0 rfl rfl ?_ | refine WC.exit ?_ | refine blk_hit ?_ | refine blk_miss rfl ?_ | refine WC.ret ?_)
    refine WC.loop (Nat × List Ed × Option Addr × Nat) (fun (i, _) => [(2, .pointer (some ⟨b2, 0, none⟩)), (4, .pointer (some ⟨b4, 0, none⟩)), (5, .pointer (some ⟨b5, 0, none⟩)), (6, .int .i64 (i : Nat))])
      (fun (i, fs, a, c) w' => i ≤ es.length ∧ i ≤ 90 ∧ fs.length ≤ i ∧ (∃ g, mkG (N : Nat) fs = some g) ∧ Hp w w' [.row 50 2 (.slice a fs.length c) fs.length (prs fs), .blk b5 (.cells #[.int .i64 (N : Nat), .slice a fs.length c] 24 (0, 0)),
        .blk b4 (.cells ti24.zero.cells 24 (0, 0)), .blk b2 (.cells #[.int .i64 n, .slice ea es.length ce] 24 (0, 0))]) (fun (i, _) => es.length - i) (0, [], none, 0)
      ⟨rfl, rfl, rfl, rfl, rfl⟩ ⟨Nat.zero_le _, Nat.zero_le _, Nat.le_refl _, ⟨_, hmk0⟩, hp5.nilrow 50 2⟩ ?_
    rintro ⟨i, fs, a, c⟩ w6 ⟨hi, hi90, hfl, ⟨g, hg⟩, hp6⟩
    have hcell : ∀ (w' : World), w'.heap[b5]? = some (.cells #[.int .i64 (N : Nat), .slice a fs.length c] 24 (0, 0)) → ∀ (j : Nat) (v : Value), [Value.int .i64 (N : Nat), .slice a fs.length c][j]? = some v → w'.cell? ⟨b5, 0 + j, none⟩ = some v :=
      fun w' h j v hj => cell_of_obj h (by rw [Nat.zero_add]; simpa using hj)
    repeat (first | refine WC.seq ?_ | refine WC.reg ?_ | refine WL.pure rfl rfl rfl ?_ | refine WL.nil ?_ | refine WC.skip ?_ | refine WC.block ?_ | refine WC.condT rfl ?_ | refine WC.condF rfl ?_ | refine WL.off rfl rfl rfl ?_ | refine WL.off0 rfl rfl ?_ | refine WC.exit ?_ | refine blk_hit ?_ | refine blk_miss rfl ?_ | refine WC.ret ?_)
    refine WL.loadB rfl rfl rfl rfl rfl (hp6.obj 3 rfl) rfl ?_
    repeat (first | refine WC.seq ?_ | refine WC.reg ?_ | refine WL.pure rfl rfl rfl ?_ | refine WL.nil ?_ | refine WC.skip ?_ | refine WC.block ?_ | refine WC.condT rfl ?_ | refine WC.condF rfl ?_ | refine WL.off rfl rfl rfl ?_ | refine WL.off0 rfl rfl ?_ | refine WC.exit ?_ | refine blk_hit ?_ | refine blk_miss rfl ?_ | refine WC.ret ?_)
    refine WL.split 31 rfl (fun q1 => ?_) (fun q1 => ?_)
    rotate_left
    · repeat (first | refine WC.seq ?_ | refine WC.reg ?_ | refine WL.pure rfl rfl rfl ?_ | refine WL.nil ?_ | refine WC.skip ?_ | refine WC.block ?_ | refine WC.condT rfl ?_ | refine WC.condF rfl ?_ | refine WL.off rfl rfl rfl ?_ | refine WL.off0 rfl rfl ?_ | refine WC.exit ?_ | refine blk_hit ?_ | refine blk_miss rfl ?_ | refine WC.ret ?_)
      refine WL.loadN (cs := [.int .i64 (N : Nat), .slice a fs.length c]) rfl rfl rfl rfl rfl rfl (hcell _ (hp6.obj 1 rfl)) ?_
      refine WL.storeN rfl rfl rfl rfl rfl (show ∀ u ∈ [Value.int .i64 (N : Nat), .slice a fs.length c], u.oneCell' = true from Cells.cons rfl (Cells.cons rfl Cells.nil)) (hp6.obj 2 rfl) (Nat.le_refl 2) rfl (fun w7 hw7 => ?_)
      have hp7 := hp6.set 2 rfl rfl hw7
      repeat (first | refine WC.seq ?_ | refine WC.reg ?_ | refine WL.pure rfl rfl rfl ?_ | refine WL.nil ?_ | refine WC.skip ?_ | refine WC.block ?_ | refine WC.condT rfl ?_ | refine WC.condF rfl ?_ | refine WL.off rfl rfl rfl ?_ | refine WL.off0 rfl rfl ?_ | refine WC.exit ?_ | refine blk_hit ?_ | refine blk_miss rfl ?_ | refine WC.ret ?_)
      exact Res.cell rfl rfl rfl rfl rfl rfl (hp7.obj 2 rfl) ⟨N, fs, g, a, c, hN, hg, rfl, hp7.pick [0] (by decide)⟩
    have hi : i < es.length := by have := of_decide_eq_true q1; omega
    repeat (first | refine WC.seq ?_ | refine WC.reg ?_ | refine WL.pure rfl rfl rfl ?_ | refine WL.nil ?_ | refine WC.skip ?_ | refine WC.block ?_ | refine WC.condT rfl ?_ | refine WC.condF rfl ?_ | refine WL.off rfl rfl rfl ?_ | refine WL.off0 rfl rfl ?_ | refine WC.exit ?_ | refine blk_hit ?_ | refine blk_miss rfl ?_ | refine WC.ret ?_)
    refine WL.split 35 rfl (fun q2 => ?_) (fun q2 => ?_)
    rotate_left
    · repeat (first | refine WC.seq ?_ | refine WC.reg ?_ | refine WL.pure rfl rfl rfl ?_ | refine WL.nil ?_ | refine WC.skip ?_ | refine WC.block ?_ | refine WC.condT rfl ?_ | refine WC.condF rfl ?_ | refine WL.off rfl rfl rfl ?_ | refine WL.off0 rfl rfl ?_ | refine WC.exit ?_ | refine blk_hit ?_ | refine blk_miss rfl ?_ | refine WC.ret ?_)
      refine WL.loadN (cs := [.int .i64 (N : Nat), .slice a fs.length c]) rfl rfl rfl rfl rfl rfl (hcell _ (hp6.obj 1 rfl)) ?_
      refine WL.storeN rfl rfl rfl rfl rfl (show ∀ u ∈ [Value.int .i64 (N : Nat), .slice a fs.length c], u.oneCell' = true from Cells.cons rfl (Cells.cons rfl Cells.nil)) (hp6.obj 2 rfl) (Nat.le_refl 2) rfl (fun w7 hw7 => ?_)
      have hp7 := hp6.set 2 rfl rfl hw7
      repeat (first | refine WC.seq ?_ | refine WC.reg ?_ | refine WL.pure rfl rfl rfl ?_ | refine WL.nil ?_ | refine WC.skip ?_ | refine WC.block ?_ | refine WC.condT rfl ?_ | refine WC.condF rfl ?_ | refine WL.off rfl rfl rfl ?_ | refine WL.off0 rfl rfl ?_ | refine WC.exit ?_ | refine blk_hit ?_ | refine blk_miss rfl ?_ | refine WC.ret ?_)
      exact Res.cell rfl rfl rfl rfl rfl rfl (hp7.obj 2 rfl) ⟨N, fs, g, a, c, hN, hg, rfl, hp7.pick [0] (by decide)⟩
    have hi90 : i < 90 := by have := of_decide_eq_true q2; omega
    repeat (first | refine WC.seq ?_ | refine WC.reg ?_ | refine WL.pure rfl rfl rfl ?_ | refine WL.nil ?_ | refine WC.skip ?_ | refine WC.block ?_ | refine WC.condT rfl ?_ | refine WC.condF rfl ?_ | refine WL.off rfl rfl rfl ?_ | refine WL.off0 rfl rfl ?_ | refine WC.exit ?_ | refine blk_hit ?_ | refine blk_miss rfl ?_ | refine WC.ret ?_)
    refine WL.loadB rfl rfl rfl rfl rfl (hp6.obj 1 rfl) rfl ?_
    repeat (first | refine WC.seq ?_ | refine WC.reg ?_ | refine WL.pure rfl rfl rfl ?_ | refine WL.nil ?_ | refine WC.skip ?_ | refine WC.block ?_ | refine WC.condT rfl ?_ | refine WC.condF rfl ?_ | refine WL.off rfl rfl rfl ?_ | refine WL.off0 rfl rfl ?_ | refine WC.exit ?_ | refine blk_hit ?_ | refine blk_miss rfl ?_ | refine WC.ret ?_)
    refine WC.cond rfl (fun q3 => ?_) (fun q3 => ?_)
    rotate_left
    · repeat (first | refine WC.seq ?_ | refine WC.reg ?_ | refine WL.pure rfl rfl rfl ?_ | refine WL.nil ?_ | refine WC.skip ?_ | refine WC.block ?_ | refine WC.condT rfl ?_ | refine WC.condF rfl ?_ | refine WL.off rfl rfl rfl ?_ | refine WL.off0 rfl rfl ?_ | refine WC.exit ?_ | refine blk_hit ?_ | refine blk_miss rfl ?_ | refine WC.ret ?_)
      refine WL.loadN (cs := [.int .i64 (N : Nat), .slice a fs.length c]) rfl rfl rfl rfl rfl rfl (hcell _ (hp6.obj 1 rfl)) ?_
      refine WL.storeN rfl rfl rfl rfl rfl (show ∀ u ∈ [Value.int .i64 (N : Nat), .slice a fs.length c], u.oneCell' = true from Cells.cons rfl (Cells.cons rfl Cells.nil)) (hp6.obj 2 rfl) (Nat.le_refl 2) rfl (fun w7 hw7 => ?_)
      have hp7 := hp6.set 2 rfl rfl hw7
      repeat (first | refine WC.seq ?_ | refine WC.reg ?_ | refine WL.pure rfl rfl rfl ?_ | refine WL.nil ?_ | refine WC.skip ?_ | refine WC.block ?_ | refine WC.condT rfl ?_ | refine WC.condF rfl ?_ | refine WL.off rfl rfl rfl ?_ | refine WL.off0 rfl rfl ?_ | refine WC.exit ?_ | refine blk_hit ?_ | refine blk_miss rfl ?_ | refine WC.ret ?_)
      exact Res.cell rfl rfl rfl rfl rfl rfl (hp7.obj 2 rfl) ⟨N, fs, g, a, c, hN, hg, rfl, hp7.pick [0] (by decide)⟩
    have hN1 : 1 < N := by have := of_decide_eq_true q3; omega
    obtain ⟨be, oe, rfl⟩ := Sl.some hs (prs_get hi).1
    have step : IntKind.i64.wrap ((i : Int) + 1) = ((i + 1 : Nat) : Int) := by rw [wrap_i64_in (by omega) (by omega)]; omega
    have hS : ∀ (w' : World), Hp w w' [.row 50 2 (.slice a fs.length c) fs.length (prs fs), .blk b5 (.cells #[.int .i64 (N : Nat), .slice a fs.length c] 24 (0, 0)),
        .blk b4 (.cells ti24.zero.cells 24 (0, 0)), .blk b2 (.cells #[.int .i64 n, .slice (some ⟨be, oe, none⟩) es.length ce] 24 (0, 0))] →
        w'.cell? ⟨b5, 0 + 1, none⟩ = some (.slice a fs.length c) ∧ w'.cell? ⟨b5, 0 + 0, none⟩ = some (.int .i64 (N : Nat)) ∧ w'.cell? ⟨b2, 0 + 1, none⟩ = some (.slice (some ⟨be, oe, none⟩) es.length ce) ∧
        w'.cell? ⟨be, oe + i * 2 + 0 * 1, none⟩ = some (.int .i64 (es[i]).1) ∧ w'.cell? ⟨be, oe + i * 2 + 1 * 1, none⟩ = some (.int .i64 (es[i]).2) := by
      intro w' h
      refine ⟨cell_of_obj (h.obj 1 rfl) rfl, cell_of_obj (h.obj 1 rfl) rfl, cell_of_obj (h.obj 3 rfl) rfl, ?_, ?_⟩
      · have := Sl.cell (hs.hp h) (prs_get hi).1
        rw [← Nat.add_assoc] at this; exact this
      · have := Sl.cell (hs.hp h) (prs_get hi).2
        rw [← Nat.add_assoc] at this; exact this
    have hm0 := modN_lt (n := N) (by omega) (es[i]).1
    have hm1 := modN_lt (n := N) (by omega) (es[i]).2
    generalize hx : modN (es[i]).1 N = x at *
    generalize hy : modN (es[i]).2 N = y at *
    have htk : fs.take 101 = fs := List.take_of_length_le (by omega)
    have hfc : fs.length ≤ c := by
      obtain ⟨_, ⟨hv, hn⟩ | ⟨_, _, _, hv, _, _, hnc, _⟩⟩ := hp6.at 0 rfl
      · rw [hn]; exact Nat.zero_le _
      · simp only [Value.slice.injEq] at hv; rw [hv.2.2]; exact hnc
    repeat (first | refine WC.seq ?_ | refine WC.reg ?_ | refine WL.pure rfl rfl rfl ?_ | refine WL.nil ?_ | refine WC.skip ?_ | refine WC.block ?_ | refine WC.condT rfl ?_ | refine WC.condF rfl ?_ | refine WL.off rfl rfl rfl ?_ | refine WL.off0 rfl rfl ?_ | refine WC.exit ?_ | refine blk_hit ?_ | refine blk_miss rfl ?_ | refine WC.ret ?_)
    refine WC.mid (Option Addr × Nat) (fun (a7, c7) => [(2, .pointer (some ⟨b2, 0, none⟩)), (4, .pointer (some ⟨b4, 0, none⟩)), (5, .pointer (some ⟨b5, 0, none⟩)), (6, .int .i64 (i : Nat)), (7, .slice a7 (fs.length + 1) c7)])
      (fun (a7, c7) w' => Hp w w' [.row 50 2 (.slice a7 (fs.length + 1) c7) (fs.length + 1) (prs fs ++ pr ((x : Int), (y : Int))), .row 50 2 (.slice a fs.length c) fs.length (prs fs), .blk b5 (.cells #[.int .i64 (N : Nat), .slice a fs.length c] 24 (0, 0)),
        .blk b4 (.cells ti24.zero.cells 24 (0, 0)), .blk b2 (.cells #[.int .i64 n, .slice (some ⟨be, oe, none⟩) es.length ce] 24 (0, 0))]) ?_ ?_
    · refine WC.regH (fun w' => Hp w w' [.row 50 2 (.slice a fs.length c) fs.length (prs fs), .blk b5 (.cells #[.int .i64 (N : Nat), .slice a fs.length c] 24 (0, 0)),
        .blk b4 (.cells ti24.zero.cells 24 (0, 0)), .blk b2 (.cells #[.int .i64 n, .slice (some ⟨be, oe, none⟩) es.length ce] 24 (0, 0))]) mixed (by kernel_rfl) (fun w7 hw7 hh7 => ?_)
      have hp7 := hp6.keep hw7
      have hN2 : 0 < N := by omega
      refine WH.pure 0 (by kernel_rfl) rfl (by kernel_rfl) rfl rfl rfl hp7 ?_
      refine WH.load 1 (by kernel_rfl) rfl (by kernel_rfl) rfl rfl rfl rfl rfl (fun w3 h3 => (hS w3 h3).1) hp7 ?_
      refine WH.pure 3 (by kernel_rfl) rfl (by kernel_rfl) rfl rfl rfl hp7 ?_
      refine WH.load 4 (by kernel_rfl) rfl (by kernel_rfl) rfl rfl rfl rfl rfl (fun w3 h3 => (hS w3 h3).2.2.1) hp7 ?_
      refine WH.pure 5 (by kernel_rfl) rfl (by kernel_rfl) rfl rfl rfl hp7 ?_
      refine WH.ix 6 (by kernel_rfl) rfl (by kernel_rfl) rfl rfl rfl rfl rfl rfl hi hp7 ?_
      refine WH.pure 7 (by kernel_rfl) rfl (by kernel_rfl) rfl rfl rfl hp7 ?_
      refine WH.load 8 (by kernel_rfl) rfl (by kernel_rfl) rfl rfl rfl rfl rfl (fun w3 h3 => (hS w3 h3).2.2.2.1) hp7 ?_
      refine WH.pure 9 (by kernel_rfl) rfl (by kernel_rfl) rfl rfl rfl hp7 ?_
      refine WH.load 10 (by kernel_rfl) rfl (by kernel_rfl) rfl rfl rfl rfl rfl (fun w3 h3 => (hS w3 h3).2.1) hp7 ?_
      refine WH.pure 12 (by kernel_rfl) rfl (by kernel_rfl) rfl rfl rfl hp7 ?_
      refine WH.load 13 (by kernel_rfl) rfl (by kernel_rfl) rfl rfl rfl rfl rfl (fun w3 h3 => (hS w3 h3).2.2.1) hp7 ?_
      refine WH.pure 14 (by kernel_rfl) rfl (by kernel_rfl) rfl rfl rfl hp7 ?_
      refine WH.ix 15 (by kernel_rfl) rfl (by kernel_rfl) rfl rfl rfl rfl rfl rfl hi hp7 ?_
      refine WH.pure 16 (by kernel_rfl) rfl (by kernel_rfl) rfl rfl rfl hp7 ?_
      refine WH.load 17 (by kernel_rfl) rfl (by kernel_rfl) rfl rfl rfl rfl rfl (fun w3 h3 => (hS w3 h3).2.2.2.2) hp7 ?_
      refine WH.pure 18 (by kernel_rfl) rfl (by kernel_rfl) rfl rfl rfl hp7 ?_
      refine WH.load 19 (by kernel_rfl) rfl (by kernel_rfl) rfl rfl rfl rfl rfl (fun w3 h3 => (hS w3 h3).2.1) hp7 ?_
      refine WH.one 2 rfl (by kernel_rfl) ?_
      refine WL.call rfl rfl rfl rfl rfl ent13 (lines_any a c fs w7 (Sl.of_row (hp7.at 0 rfl)) hfc) ?_
      rintro _ w8 ⟨a8, c8, hp8, rfl⟩
      rw [htk] at hp8 ⊢
      have hp8' := hp7.call hp8.below
      have hp8 := hp7.comb hp8
      refine WL.nil ⟨hp8', ?_⟩
      refine WH.one 11 rfl (by kernel_rfl) ?_
      refine WL.callP rfl rfl rfl rfl rfl ent26 (mod_any _ N hN2 (by omega) _) ?_
      rw [hx]
      refine WL.nil ⟨hp8', ?_⟩
      refine WH.one 20 rfl (by kernel_rfl) ?_
      refine WL.callP rfl rfl rfl rfl rfl ent26 (mod_any _ N hN2 (by omega) _) ?_
      rw [hy]
      refine WL.nil ⟨hp8', ?_⟩
      refine WH.one 21 rfl (by kernel_rfl) ?_
      refine WL.buildA (cs := pr ((x : Int), (y : Int))) rfl rfl rfl rfl rfl rfl (WL.nil ⟨hp8', ?_⟩)
      refine WH.one 22 rfl (by kernel_rfl) ?_
      refine WL.buildS (cs := pr ((x : Int), (y : Int))) rfl rfl rfl rfl rfl rfl rfl rfl rfl ?_
      intro bs w9 hbs
      have hp9' := hp8'.call (RowKit.Below.trans (below_of_grownBy hbs.grown (Nat.le_refl _) (fun k e1 => by cases e1)) (RowKit.Below.refl _ _))
      have hp9 := hp8.new hbs
      refine WL.nil ⟨hp9', ?_⟩
      refine WH.one 23 rfl (by kernel_rfl) ?_
      refine WL.append 1 hp9 rfl rfl rfl rfl rfl (by decide) rfl rfl rfl (news := pr ((x : Int), (y : Int))) (Sl.of_obj (hp9.obj 0 rfl) (fun q u hq => by simpa using hq)) rfl (Cells.cons rfl (Cells.cons rfl Cells.nil)) (by unfold maxLen; omega) (by show (fs.length + 1) * 16 ≤ _; omega) ?_
      intro a' cap' wA hpA hgA
      refine WL.nil ⟨hpA.tail.tail, ?_⟩
      refine WH.one 24 rfl (by kernel_rfl) (WL.pure rfl rfl rfl (WL.nil ⟨hpA.tail.tail, ?_⟩))
      refine WH.done (by kernel_rfl) ?_
      exact ⟨(a', cap'), ⟨rfl, rfl, rfl, rfl, rfl, rfl⟩, hpA.tail⟩
    · rintro ⟨a7, c7⟩ e3 w7 hsub3 hp7
      refine WC.sub hsub3 ?_
      have hpe : prs fs ++ pr ((x : Int), (y : Int)) = prs (fs ++ [((x : Int), (y : Int))]) := by simp [prs]
      have hle : (fs ++ [((x : Int), (y : Int))]).length = fs.length + 1 := by simp
      rw [hpe, ← hle] at hp7
      rw [← hle]
      repeat (first | refine WC.seq ?_ | refine WC.reg ?_ | refine WL.pure rfl rfl rfl ?_ | refine WL.nil ?_ | refine WC.skip ?_ | refine WC.block ?_ | refine WC.condT rfl ?_ | refine WC.condF rfl ?_ | refine WL.off rfl rfl rfl ?_ | refine WL.off0 rfl rfl ?_ | refine WC.exit ?_ | refine blk_hit ?_ | refine blk_miss rfl ?_ | refine WC.ret ?_)
      refine WL.loadB rfl rfl rfl rfl rfl (hp7.obj 2 rfl) rfl ?_
      repeat (first | refine WC.seq ?_ | refine WC.reg ?_ | refine WL.pure rfl rfl rfl ?_ | refine WL.nil ?_ | refine WC.skip ?_ | refine WC.block ?_ | refine WC.condT rfl ?_ | refine WC.condF rfl ?_ | refine WL.off rfl rfl rfl ?_ | refine WL.off0 rfl rfl ?_ | refine WC.exit ?_ | refine blk_hit ?_ | refine blk_miss rfl ?_ | refine WC.ret ?_)
      refine WL.call rfl rfl rfl rfl rfl ent18 (Graph_any a7 c7 (N : Nat) (fs ++ [((x : Int), (y : Int))]) w7 (Sl.of_row (hp7.at 0 rfl)) (by rw [hle]; omega)) ?_
      rintro _ w8 ⟨hp8, rfl⟩
      have hp8 := hp7.call hp8.below
      refine WL.nil ?_
      refine WC.cond rfl (fun q4 => ?_) (fun q4 => ?_)
      · obtain ⟨g', hg'⟩ := Option.isSome_iff_exists.1 q4
        repeat (first | refine WC.seq ?_ | refine WC.reg ?_ | refine WL.pure rfl rfl rfl ?_ | refine WL.nil ?_ | refine WC.skip ?_ | refine WC.block ?_ | refine WC.condT rfl ?_ | refine WC.condF rfl ?_ | refine WL.off rfl rfl rfl ?_ | refine WL.off0 rfl rfl ?_ | refine WC.exit ?_ | refine blk_hit ?_ | refine blk_miss rfl ?_ | refine WC.ret ?_)
        refine WL.store rfl rfl rfl rfl rfl rfl (hp8.obj 2 rfl) (show 0 + 1 < 2 from by decide) (fun w9 hw9 => ?_)
        have hp9 := hp8.set 2 rfl rfl hw9
        repeat (first | refine WC.seq ?_ | refine WC.reg ?_ | refine WL.pure rfl rfl rfl ?_ | refine WL.nil ?_ | refine WC.skip ?_ | refine WC.block ?_ | refine WC.condT rfl ?_ | refine WC.condF rfl ?_ | refine WL.off rfl rfl rfl ?_ | refine WL.off0 rfl rfl ?_ | refine WC.exit ?_ | refine blk_hit ?_ | refine blk_miss rfl ?_ | refine WC.ret ?_)
        exact ⟨(i + 1, fs ++ [((x : Int), (y : Int))], a7, c7), by show es.length - (i + 1) < es.length - i; omega, ⟨rfl, rfl, rfl, congrArg (fun z => some (Value.int .i64 z)) step, rfl⟩, hi, hi90, by rw [hle]; omega, ⟨g', hg'⟩, hp9.pick [0, 2, 3, 4] (by decide)⟩
      · repeat (first | refine WC.seq ?_ | refine WC.reg ?_ | refine WL.pure rfl rfl rfl ?_ | refine WL.nil ?_ | refine WC.skip ?_ | refine WC.block ?_ | refine WC.condT rfl ?_ | refine WC.condF rfl ?_ | refine WL.off rfl rfl rfl ?_ | refine WL.off0 rfl rfl ?_ | refine WC.exit ?_ | refine blk_hit ?_ | refine blk_miss rfl ?_ | refine WC.ret ?_)
        exact ⟨(i + 1, fs, a, c), by show es.length - (i + 1) < es.length - i; omega, ⟨rfl, rfl, rfl, congrArg (fun z => some (Value.int .i64 z)) step, rfl⟩, hi, hi90, by omega, ⟨g, hg⟩, hp8.tail⟩
end Go.Proofs.YtdnkkflpgebfbaaDoor

/- The walk of 'TreeBounds'. -/
namespace Go.Proofs.YtdnkkflpgebfbaaDoor
open Go.W Go.Tree
set_option maxRecDepth 100000
attribute [local irreducible] WC WL WQ WS WH

def ups (o : List Nat) : List Int := o.map fun (v : Nat) => (v : Int)
theorem ints_ups (o : List Nat) : ints o = zs (ups o) := by simp [ints, zs, ups]
theorem ups_len (o : List Nat) : (ups o).length = o.length := by simp [ups]

theorem TreeBounds_any (ea oa : Option Addr) (ce co : Nat) (n : Int) (es : List Ed) (o : List Int) (w : World) (hs : Sl w ea (prs es)) (ho : Sl w oa (zs o)) (hT : Tb w) :
    Ret Tryd.prog 10 [.agg #[.int .i64 n, .slice ea es.length ce], .slice oa o.length co] w fun v w' => v = .bool true ∧ Hp w w' [] := by
  refine enter Tryd.func10 rfl rfl ⟨rfl, rfl⟩ rfl ?_
  repeat (first | refine WC.seq ?_ | refine WC.reg ?_ | refine WL.pure rfl rfl rfl ?_ | refine WL.nil ?_ | refine WC.skip ?_ | refine WC.block ?_ | refine WC.condT rfl ?_ | refine WC.condF rfl ?_ | refine WL.off rfl rfl rfl ?_ | refine WL.off0 rfl rfl ?_ | refine WC.exit ?_ | refine blk_hit ?_ | refine blk_miss rfl ?_ | refine WC.ret ?_)
  refine WL.box rfl rfl rfl ?_
  intro b2 w1 hb2
  have hp1 := (Hp.start w).new hb2
  repeat (first | refine WC.seq ?_ | refine WC.reg ?_ | refine WL.pure rfl rfl rfl ?_ | refine WL.nil ?_ | refine WC.skip ?_ | refine WC.block ?_ | refine WC.condT rfl ?_ | refine WC.condF rfl ?_ | refine WL.off rfl rfl rfl ?_ | refine WL.off0 rfl rfl ?_ | refine WC.exit ?_ | refine blk_hit ?_ | refine blk_miss rfl ?_ | refine WC.ret ?_)
  refine WL.loadN (cs := [.int .i64 n, .slice ea es.length ce]) rfl rfl rfl rfl rfl rfl (fun j v hj => cell_of_obj (hp1.obj 0 rfl) (by rw [Nat.zero_add]; simpa [Value.cells] using hj)) ?_
  refine WL.call rfl rfl rfl rfl rfl ent24 (tame_any ea ce n es 12 (by omega) w1 (hs.hp hp1)) ?_
  rintro _ w2 ⟨N, fs, g, a, c, hN, hmk, rfl, hp2⟩
  have hp2 := (hp1.comb hp2).swap.tail
  obtain ⟨hg, hgn, _, _, hf100⟩ := mkG_gr hmk
  have hgn : g.length = N := by simpa using hgn
  subst hgn
  have hn := hg.len
  have hf62 : fs.length ≤ 4611686018427387904 := by omega
  have hbl := bestO_len hg
  refine WL.var rfl rfl rfl (fun _ => rfl) rfl rfl (show ∀ u ∈ [Value.int .i64 (g.length : Nat), .slice a fs.length c], u.oneCell' = true from Cells.cons rfl (Cells.cons rfl Cells.nil)) ?_
  intro b5 w3 hb5
  have hp3 := hp2.new hb5
  have L0 : ∀ w' L, Hp w w' ([.blk b5 (.cells #[.int .i64 (g.length : Nat), .slice a fs.length c] 24 (0, 0)), .row 50 2 (.slice a fs.length c) fs.length (prs fs)] ++ L) →
      w'.heap[b5]? = some (.cells #[.int .i64 (g.length : Nat), .slice a fs.length c] 24 (0, 0)) ∧ Sl w' a (prs fs) ∧ Tb w' := fun w' L h => ⟨h.obj 0 rfl, Sl.of_row (h.at 1 rfl), hT.below h.below⟩
  have hp3 : Hp w w3 ([.blk b5 (.cells #[.int .i64 (g.length : Nat), .slice a fs.length c] 24 (0, 0)), .row 50 2 (.slice a fs.length c) fs.length (prs fs)] ++ []) := hp3
  obtain ⟨hB, sF, hT3⟩ := L0 w3 [] hp3
  repeat (first | refine WC.seq ?_ | refine WC.reg ?_ | refine WL.pure rfl rfl rfl ?_ | refine WL.nil ?_ | refine WC.skip ?_ | refine WC.block ?_ | refine WC.condT rfl ?_ | refine WC.condF rfl ?_ | refine WL.off rfl rfl rfl ?_ | refine WL.off0 rfl rfl ?_ | refine WC.exit ?_ | refine blk_hit ?_ | refine blk_miss rfl ?_ | refine WC.ret ?_)
  refine WL.loadB rfl rfl rfl rfl rfl hB rfl ?_
  repeat (first | refine WC.seq ?_ | refine WC.reg ?_ | refine WL.pure rfl rfl rfl ?_ | refine WL.nil ?_ | refine WC.skip ?_ | refine WC.block ?_ | refine WC.condT rfl ?_ | refine WC.condF rfl ?_ | refine WL.off rfl rfl rfl ?_ | refine WL.off0 rfl rfl ?_ | refine WC.exit ?_ | refine blk_hit ?_ | refine blk_miss rfl ?_ | refine WC.ret ?_)
  refine WL.loadB rfl rfl rfl rfl rfl hB rfl ?_
  refine WL.call rfl rfl rfl rfl rfl ent25 (Decompose_any a c _ fs w3 sF hf62 hT3) ?_
  intro v4 w4 hD
  unfold DecIs at hD
  rw [hmk] at hD
  obtain ⟨bl, ab, cb, al, cl, _, hp4, rfl⟩ := hD
  have hp4 := hp3.call hp4.below
  repeat (first | refine WC.seq ?_ | refine WC.reg ?_ | refine WL.pure rfl rfl rfl ?_ | refine WL.nil ?_ | refine WC.skip ?_ | refine WC.block ?_ | refine WC.condT rfl ?_ | refine WC.condF rfl ?_ | refine WL.off rfl rfl rfl ?_ | refine WL.off0 rfl rfl ?_ | refine WC.exit ?_ | refine blk_hit ?_ | refine blk_miss rfl ?_ | refine WC.ret ?_)
  refine WL.var rfl rfl rfl (fun _ => rfl) rfl rfl (show ∀ u ∈ [Value.slice ab bl.length cb, .slice al (linksOf g).length cl], u.oneCell' = true from Cells.cons rfl (Cells.cons rfl Cells.nil)) ?_
  intro b6 w5 hb6
  have hp5 := (hp4.new hb6).tail
  obtain ⟨hB, sF, hT5⟩ := L0 w5 [] hp5
  repeat (first | refine WC.seq ?_ | refine WC.reg ?_ | refine WL.pure rfl rfl rfl ?_ | refine WL.nil ?_ | refine WC.skip ?_ | refine WC.block ?_ | refine WC.condT rfl ?_ | refine WC.condF rfl ?_ | refine WL.off rfl rfl rfl ?_ | refine WL.off0 rfl rfl ?_ | refine WC.exit ?_ | refine blk_hit ?_ | refine blk_miss rfl ?_ | refine WC.ret ?_)
  refine WL.loadB rfl rfl rfl rfl rfl hB rfl ?_
  repeat (first | refine WC.seq ?_ | refine WC.reg ?_ | refine WL.pure rfl rfl rfl ?_ | refine WL.nil ?_ | refine WC.skip ?_ | refine WC.block ?_ | refine WC.condT rfl ?_ | refine WC.condF rfl ?_ | refine WL.off rfl rfl rfl ?_ | refine WL.off0 rfl rfl ?_ | refine WC.exit ?_ | refine blk_hit ?_ | refine blk_miss rfl ?_ | refine WC.ret ?_)
  refine WL.loadB rfl rfl rfl rfl rfl hB rfl ?_
  refine WL.call rfl rfl rfl rfl rfl ent28 (Best_any a c _ fs w5 sF hf62 hT5) ?_
  intro v6 w6 hBI
  unfold BestIs at hBI
  rw [hmk] at hBI
  obtain ⟨aB, cB, hp6, rfl⟩ := hBI
  have hp6 := Hp.rot [_] [_, _] [] (hp5.comb hp6)
  obtain ⟨hB, sF, hT6⟩ := L0 w6 _ hp6
  have sB : Sl w6 aB (zs (ups (bestO g))) := by rw [← ints_ups]; exact Sl.of_row (hp6.at 2 rfl)
  have hOr := Order_any a aB c cB (g.length : Nat) fs (ups (bestO g)) w6 sF hf62 sB (by rw [ups_len, hbl]; omega) hT6
  rw [ups_len, hbl] at hOr
  have hov : ordV (g.length : Nat) fs (ups (bestO g)) = .tuple #[.int .i64 (wd g 0), .int .i64 0] := by
    simp only [ordV, hmk]
    rw [if_neg (by rw [ups_len, hbl]; simp)]
    have := ord_bestO hg
    unfold ups
    rw [this]
  rw [hov] at hOr
  repeat (first | refine WC.seq ?_ | refine WC.reg ?_ | refine WL.pure rfl rfl rfl ?_ | refine WL.nil ?_ | refine WC.skip ?_ | refine WC.block ?_ | refine WC.condT rfl ?_ | refine WC.condF rfl ?_ | refine WL.off rfl rfl rfl ?_ | refine WL.off0 rfl rfl ?_ | refine WC.exit ?_ | refine blk_hit ?_ | refine blk_miss rfl ?_ | refine WC.ret ?_)
  refine WL.loadB rfl rfl rfl rfl rfl hB rfl ?_
  repeat (first | refine WC.seq ?_ | refine WC.reg ?_ | refine WL.pure rfl rfl rfl ?_ | refine WL.nil ?_ | refine WC.skip ?_ | refine WC.block ?_ | refine WC.condT rfl ?_ | refine WC.condF rfl ?_ | refine WL.off rfl rfl rfl ?_ | refine WL.off0 rfl rfl ?_ | refine WC.exit ?_ | refine blk_hit ?_ | refine blk_miss rfl ?_ | refine WC.ret ?_)
  refine WL.loadB rfl rfl rfl rfl rfl hB rfl ?_
  repeat (first | refine WC.seq ?_ | refine WC.reg ?_ | refine WL.pure rfl rfl rfl ?_ | refine WL.nil ?_ | refine WC.skip ?_ | refine WC.block ?_ | refine WC.condT rfl ?_ | refine WC.condF rfl ?_ | refine WL.off rfl rfl rfl ?_ | refine WL.off0 rfl rfl ?_ | refine WC.exit ?_ | refine blk_hit ?_ | refine blk_miss rfl ?_ | refine WC.ret ?_)
  refine WL.call rfl rfl rfl rfl rfl ent31 hOr ?_
  rintro _ w7 ⟨hp7, rfl⟩
  have hp7 := hp6.call hp7.below
  obtain ⟨hB, sF, hT7⟩ := L0 w7 _ hp7
  repeat (first | refine WC.seq ?_ | refine WC.reg ?_ | refine WL.pure rfl rfl rfl ?_ | refine WL.nil ?_ | refine WC.skip ?_ | refine WC.block ?_ | refine WC.condT rfl ?_ | refine WC.condF rfl ?_ | refine WL.off rfl rfl rfl ?_ | refine WL.off0 rfl rfl ?_ | refine WC.exit ?_ | refine blk_hit ?_ | refine blk_miss rfl ?_ | refine WC.ret ?_)
  refine WL.loadB rfl rfl rfl rfl rfl hB rfl ?_
  repeat (first | refine WC.seq ?_ | refine WC.reg ?_ | refine WL.pure rfl rfl rfl ?_ | refine WL.nil ?_ | refine WC.skip ?_ | refine WC.block ?_ | refine WC.condT rfl ?_ | refine WC.condF rfl ?_ | refine WL.off rfl rfl rfl ?_ | refine WL.off0 rfl rfl ?_ | refine WC.exit ?_ | refine blk_hit ?_ | refine blk_miss rfl ?_ | refine WC.ret ?_)
  refine WL.loadB rfl rfl rfl rfl rfl hB rfl ?_
  refine WL.call rfl rfl rfl rfl rfl ent17 (Clique_any a c _ fs w7 sF hf62 hT7) ?_
  intro v8 w8 hC
  unfold ClIs at hC
  rw [hmk] at hC
  simp only at hC
  obtain ⟨aC, cC, hp8, rfl⟩ := hC
  have hpQ := hp7.call hp8.below
  obtain ⟨hB, sF, hT8⟩ := L0 w8 _ hpQ
  have hclq := wd_clR hmk
  have hcll : (clR (nb g) (2 ^ g.length)).length ≤ 16 := by
    obtain ⟨C, _, h, _⟩ := clR_set (nb g) (2 ^ g.length)
    rw [h]; exact els_le C
  have hwn : wd g 0 ≤ (g.length : Int) - 1 := ord_le hg _ 0 (-1) _ (ord_bestO hg) (by omega)
  generalize (clR (nb g) (2 ^ g.length)).length = cn at *
  repeat (first | refine WC.seq ?_ | refine WC.reg ?_ | refine WL.pure rfl rfl rfl ?_ | refine WL.nil ?_ | refine WC.skip ?_ | refine WC.block ?_ | refine WC.condT rfl ?_ | refine WC.condF rfl ?_ | refine WL.off rfl rfl rfl ?_ | refine WL.off0 rfl rfl ?_ | refine WC.exit ?_ | refine blk_hit ?_ | refine blk_miss rfl ?_ | refine WC.ret ?_)
  refine WL.split 76 rfl (fun h => by simp at h) (fun _ => ?_)
  repeat (first | refine WC.seq ?_ | refine WC.reg ?_ | refine WL.pure rfl rfl rfl ?_ | refine WL.nil ?_ | refine WC.skip ?_ | refine WC.block ?_ | refine WC.condT rfl ?_ | refine WC.condF rfl ?_ | refine WL.off rfl rfl rfl ?_ | refine WL.off0 rfl rfl ?_ | refine WC.exit ?_ | refine blk_hit ?_ | refine blk_miss rfl ?_ | refine WC.ret ?_)
  refine WL.split 83 rfl (fun h => ?_) (fun _ => ?_)
  · have := of_decide_eq_true h
    rw [IntKind.wrap_i64] at this
    omega
  repeat (first | refine WC.seq ?_ | refine WC.reg ?_ | refine WL.pure rfl rfl rfl ?_ | refine WL.nil ?_ | refine WC.skip ?_ | refine WC.block ?_ | refine WC.condT rfl ?_ | refine WC.condF rfl ?_ | refine WL.off rfl rfl rfl ?_ | refine WL.off0 rfl rfl ?_ | refine WC.exit ?_ | refine blk_hit ?_ | refine blk_miss rfl ?_ | refine WC.ret ?_)
  refine WL.loadB rfl rfl rfl rfl rfl hB rfl ?_
  repeat (first | refine WC.seq ?_ | refine WC.reg ?_ | refine WL.pure rfl rfl rfl ?_ | refine WL.nil ?_ | refine WC.skip ?_ | refine WC.block ?_ | refine WC.condT rfl ?_ | refine WC.condF rfl ?_ | refine WL.off rfl rfl rfl ?_ | refine WL.off0 rfl rfl ?_ | refine WC.exit ?_ | refine blk_hit ?_ | refine blk_miss rfl ?_ | refine WC.ret ?_)
  refine WC.cond rfl (fun h => ?_) (fun _ => ?_)
  · have := of_decide_eq_true h
    rw [IntKind.wrap_i64] at this
    omega
  have itake : ∀ (x : List Nat) (m : Nat), ints (x.take m) = (ints x).take m := fun x m => by simp [ints, List.map_take]
  have idrop : ∀ (x : List Nat) (m : Nat), ints (x.drop m) = (ints x).drop m := fun x m => by simp [ints, List.map_drop]
  have ilen : ∀ (x : List Nat), (ints x).length = x.length := fun x => by simp [ints]
  have icells : ∀ (x : List Nat), Cells (ints x) := fun x => by rw [ints_ups]; exact zs_cells _
  have hp9 := (hpQ.pick [0, 1] (by decide)).nilrow 3 1
  have hp9 : Hp w w8 ([.blk b5 (.cells #[.int .i64 (g.length : Nat), .slice a fs.length c] 24 (0, 0)), .row 50 2 (.slice a fs.length c) fs.length (prs fs)] ++ [.row 3 1 (.slice none 0 0) 0 []]) := Hp.rot [_] [_, _] [] hp9
  repeat (first | refine WC.seq ?_ | refine WC.reg ?_ | refine WL.pure rfl rfl rfl ?_ | refine WL.nil ?_ | refine WC.skip ?_ | refine WC.block ?_ | refine WC.condT rfl ?_ | refine WC.condF rfl ?_ | refine WL.off rfl rfl rfl ?_ | refine WL.off0 rfl rfl ?_ | refine WC.exit ?_ | refine blk_hit ?_ | refine blk_miss rfl ?_ | refine WC.ret ?_)
  refine WC.loop (Nat × List Nat × Option Addr × Nat) (fun (v, ot, a', c') => [(1, .slice oa o.length co), (5, .pointer (some ⟨b5, 0, none⟩)), (7, .int .i64 (wd g 0)), (15, .slice a' ot.length c'), (16, .int .i64 (v : Nat))])
    (fun (v, ot, a', c') w' => v ≤ g.length ∧ ot.Perm (List.range v) ∧ Hp w w' ([.blk b5 (.cells #[.int .i64 (g.length : Nat), .slice a fs.length c] 24 (0, 0)), .row 50 2 (.slice a fs.length c) fs.length (prs fs)] ++ [.row 3 1 (.slice a' ot.length c') ot.length (ints ot)]))
    (fun (v, _) => g.length - v) (0, [], none, 0) ⟨rfl, rfl, rfl, rfl, rfl, rfl⟩ ⟨Nat.zero_le _, List.Perm.refl _, hp9⟩ ?_
  rintro ⟨v, ot, a', c'⟩ wA ⟨hv, hpm, hpA⟩
  have hol : ot.length = v := by have := hpm.length_eq; simpa using this
  obtain ⟨hB, sF, hTA⟩ := L0 wA _ hpA
  repeat (first | refine WC.seq ?_ | refine WC.reg ?_ | refine WL.pure rfl rfl rfl ?_ | refine WL.nil ?_ | refine WC.skip ?_ | refine WC.block ?_ | refine WC.condT rfl ?_ | refine WC.condF rfl ?_ | refine WL.off rfl rfl rfl ?_ | refine WL.off0 rfl rfl ?_ | refine WC.exit ?_ | refine blk_hit ?_ | refine blk_miss rfl ?_ | refine WC.ret ?_)
  refine WL.loadB rfl rfl rfl rfl rfl hB rfl ?_
  repeat (first | refine WC.seq ?_ | refine WC.reg ?_ | refine WL.pure rfl rfl rfl ?_ | refine WL.nil ?_ | refine WC.skip ?_ | refine WC.block ?_ | refine WC.condT rfl ?_ | refine WC.condF rfl ?_ | refine WL.off rfl rfl rfl ?_ | refine WL.off0 rfl rfl ?_ | refine WC.exit ?_ | refine blk_hit ?_ | refine blk_miss rfl ?_ | refine WC.ret ?_)
  refine WC.cond rfl (fun hc => ?_) (fun hc => ?_)
  · have hv : v < g.length := by have := of_decide_eq_true hc; omega
    have step : IntKind.i64.wrap ((v : Int) + 1) = ((v + 1 : Nat) : Int) := by rw [wrap_i64_in (by omega) (by omega)]; omega
    have hcap : ot.length ≤ c' := by
      obtain ⟨_, ⟨hv2, hn2⟩ | ⟨_, _, _, hv2, _, _, hnc, _⟩⟩ := hpA.at 2 rfl
      · rw [hn2]; exact Nat.zero_le _
      · simp only [Value.slice.injEq] at hv2; rw [hv2.2.2]; exact hnc
    repeat (first | refine WC.seq ?_ | refine WC.reg ?_ | refine WL.pure rfl rfl rfl ?_ | refine WL.nil ?_ | refine WC.skip ?_ | refine WC.block ?_ | refine WC.condT rfl ?_ | refine WC.condF rfl ?_ | refine WL.off rfl rfl rfl ?_ | refine WL.off0 rfl rfl ?_ | refine WC.exit ?_ | refine blk_hit ?_ | refine blk_miss rfl ?_ | refine WC.ret ?_)
    refine WC.loop Nat (fun at_ => [(1, .slice oa o.length co), (5, .pointer (some ⟨b5, 0, none⟩)), (7, .int .i64 (wd g 0)), (15, .slice a' ot.length c'), (16, .int .i64 (v : Nat)), (17, .int .i64 (at_ : Nat))])
      (fun at_ w' => w' = wA ∧ at_ ≤ ot.length) (fun at_ => ot.length - at_) 0 ⟨rfl, rfl, rfl, rfl, rfl, rfl, rfl⟩ ⟨rfl, Nat.zero_le _⟩ ?_
    rintro at_ wB ⟨rfl, hat⟩
    have hpB := hpA
    have sO : Sl wB a' (ints ot) := Sl.of_row (hpB.at 2 rfl)
    repeat (first | refine WC.seq ?_ | refine WC.reg ?_ | refine WL.pure rfl rfl rfl ?_ | refine WL.nil ?_ | refine WC.skip ?_ | refine WC.block ?_ | refine WC.condT rfl ?_ | refine WC.condF rfl ?_ | refine WL.off rfl rfl rfl ?_ | refine WL.off0 rfl rfl ?_ | refine WC.exit ?_ | refine blk_hit ?_ | refine blk_miss rfl ?_ | refine WC.ret ?_)
    refine WL.split 100 rfl (fun q1 => ?_) (fun q1 => ?_)
    · have q1 : at_ < ot.length := by have := of_decide_eq_true q1; omega
      have step2 : IntKind.i64.wrap ((at_ : Int) + 1) = ((at_ + 1 : Nat) : Int) := by rw [wrap_i64_in (by omega) (by omega)]; omega
      repeat (first | refine WC.seq ?_ | refine WC.reg ?_ | refine WL.pure rfl rfl rfl ?_ | refine WL.nil ?_ | refine WC.skip ?_ | refine WC.block ?_ | refine WC.condT rfl ?_ | refine WC.condF rfl ?_ | refine WL.off rfl rfl rfl ?_ | refine WL.off0 rfl rfl ?_ | refine WC.exit ?_ | refine blk_hit ?_ | refine blk_miss rfl ?_ | refine WC.ret ?_)
      refine WL.ixload rfl (fun _ => rfl) rfl rfl rfl rfl rfl rfl rfl q1 rfl rfl sO (ints_at q1) ?_
      intro p
      refine WL.callP rfl rfl rfl rfl rfl ent33 (key_any oa co o _ wB (ho.hp hpB)) ?_
      repeat (first | refine WC.seq ?_ | refine WC.reg ?_ | refine WL.pure rfl rfl rfl ?_ | refine WL.nil ?_ | refine WC.skip ?_ | refine WC.block ?_ | refine WC.condT rfl ?_ | refine WC.condF rfl ?_ | refine WL.off rfl rfl rfl ?_ | refine WL.off0 rfl rfl ?_ | refine WC.exit ?_ | refine blk_hit ?_ | refine blk_miss rfl ?_ | refine WC.ret ?_)
      refine WL.callP rfl rfl rfl rfl rfl ent33 (key_any oa co o v wB (ho.hp hpB)) ?_
      repeat (first | refine WC.seq ?_ | refine WC.reg ?_ | refine WL.pure rfl rfl rfl ?_ | refine WL.nil ?_ | refine WC.skip ?_ | refine WC.block ?_ | refine WC.condT rfl ?_ | refine WC.condF rfl ?_ | refine WL.off rfl rfl rfl ?_ | refine WL.off0 rfl rfl ?_ | refine WC.exit ?_ | refine blk_hit ?_ | refine blk_miss rfl ?_ | refine WC.ret ?_)
      refine WC.cond rfl (fun q2 => ?_) (fun q2 => ?_)
      · repeat (first | refine WC.seq ?_ | refine WC.reg ?_ | refine WL.pure rfl rfl rfl ?_ | refine WL.nil ?_ | refine WC.skip ?_ | refine WC.block ?_ | refine WC.condT rfl ?_ | refine WC.condF rfl ?_ | refine WL.off rfl rfl rfl ?_ | refine WL.off0 rfl rfl ?_ | refine WC.exit ?_ | refine blk_hit ?_ | refine blk_miss rfl ?_ | refine WC.ret ?_)
        exact ⟨at_ + 1, by show ot.length - (at_ + 1) < ot.length - at_; omega, ⟨rfl, rfl, rfl, rfl, rfl, congrArg (fun z => some (Value.int .i64 z)) step2, rfl⟩, rfl, q1⟩
      · repeat (first | refine WC.seq ?_ | refine WC.reg ?_ | refine WL.pure rfl rfl rfl ?_ | refine WL.nil ?_ | refine WC.skip ?_ | refine WC.block ?_ | refine WC.condT rfl ?_ | refine WC.condF rfl ?_ | refine WL.off rfl rfl rfl ?_ | refine WL.off0 rfl rfl ?_ | refine WC.exit ?_ | refine blk_hit ?_ | refine blk_miss rfl ?_ | refine WC.ret ?_)
        refine WL.sliceHi rfl rfl rfl rfl rfl rfl (by omega) ?_
        refine WL.append 0 (hpB.nilrow 3 1) rfl rfl rfl rfl rfl Nat.zero_lt_one rfl rfl rfl (news := ints (ot.take at_)) (by rw [itake]; exact sO.take _) (by rw [ilen, List.length_take, Nat.min_eq_left hat]; exact (Nat.mul_one _).symm) (icells _) (by unfold maxLen; omega) (by show (0 + at_) * 8 ≤ _; omega) ?_
        intro a1 c1 wC hpC hgC
        rw [Nat.zero_add] at hpC ⊢
        rw [List.nil_append] at hpC
        repeat (first | refine WC.seq ?_ | refine WC.reg ?_ | refine WL.pure rfl rfl rfl ?_ | refine WL.nil ?_ | refine WC.skip ?_ | refine WC.block ?_ | refine WC.condT rfl ?_ | refine WC.condF rfl ?_ | refine WL.off rfl rfl rfl ?_ | refine WL.off0 rfl rfl ?_ | refine WC.exit ?_ | refine blk_hit ?_ | refine blk_miss rfl ?_ | refine WC.ret ?_)
        refine WL.buildS (cs := [.int .i64 (v : Nat)]) rfl rfl rfl rfl rfl rfl rfl rfl rfl ?_
        intro bs wD hbs
        have hpD := hpC.new hbs
        refine WL.append 1 hpD rfl rfl rfl rfl rfl Nat.zero_lt_one rfl rfl rfl (news := [.int .i64 (v : Nat)]) (Sl.of_obj (hpD.obj 0 rfl) (fun q u hq => by simpa using hq)) rfl (Cells.cons rfl Cells.nil) (by unfold maxLen; omega) (by show (at_ + 1) * 8 ≤ _; omega) ?_
        intro a2 c2 wE hpE hgE
        have hpE := hpE.tail
        repeat (first | refine WC.seq ?_ | refine WC.reg ?_ | refine WL.pure rfl rfl rfl ?_ | refine WL.nil ?_ | refine WC.skip ?_ | refine WC.block ?_ | refine WC.condT rfl ?_ | refine WC.condF rfl ?_ | refine WL.off rfl rfl rfl ?_ | refine WL.off0 rfl rfl ?_ | refine WC.exit ?_ | refine blk_hit ?_ | refine blk_miss rfl ?_ | refine WC.ret ?_)
        refine WL.sliceLo rfl rfl rfl rfl rfl rfl hat hcap ?_
        intro a3 ha3
        have sE : Sl wE a3 (ints (ot.drop at_)) := by
          have h1 := ha3 wE (ints ot) (Sl.of_row (hpE.at 3 rfl)) (by rw [ilen]; exact Nat.le_of_eq (Nat.mul_one _).symm)
          rw [idrop]
          have h2 : (ints ot).drop (at_ * 1) = (ints ot).drop at_ := by rw [Nat.mul_one]
          rw [← h2]; exact h1
        refine WL.append 0 hpE rfl rfl rfl rfl rfl Nat.zero_lt_one rfl rfl rfl (news := ints (ot.drop at_)) sE (by rw [ilen, List.length_drop]; exact (Nat.mul_one _).symm) (icells _) (by unfold maxLen; omega) (by show (at_ + 1 + (ot.length - at_)) * 8 ≤ _; omega) ?_
        intro a4 c4 wF hpF hgF
        have hl4 : at_ + 1 + (ot.length - at_) = (ot.take at_ ++ [v] ++ ot.drop at_).length := by
          simp only [List.length_append, List.length_take, List.length_drop, List.length_singleton]; omega
        have hx4 : ints (ot.take at_) ++ [Value.int .i64 (v : Nat)] ++ ints (ot.drop at_) = ints (ot.take at_ ++ [v] ++ ot.drop at_) := by simp [ints]
        rw [hl4, hx4] at hpF
        rw [hl4]
        repeat (first | refine WC.seq ?_ | refine WC.reg ?_ | refine WL.pure rfl rfl rfl ?_ | refine WL.nil ?_ | refine WC.skip ?_ | refine WC.block ?_ | refine WC.condT rfl ?_ | refine WC.condF rfl ?_ | refine WL.off rfl rfl rfl ?_ | refine WL.off0 rfl rfl ?_ | refine WC.exit ?_ | refine blk_hit ?_ | refine blk_miss rfl ?_ | refine WC.ret ?_)
        exact ⟨(v + 1, ot.take at_ ++ [v] ++ ot.drop at_, a4, c4), by show g.length - (v + 1) < g.length - v; omega, ⟨rfl, rfl, rfl, rfl, congrArg (fun z => some (Value.int .i64 z)) step, rfl⟩, hv, put_perm hpm, hpF.pick [1, 2, 0] (by decide)⟩
    · repeat (first | refine WC.seq ?_ | refine WC.reg ?_ | refine WL.pure rfl rfl rfl ?_ | refine WL.nil ?_ | refine WC.skip ?_ | refine WC.block ?_ | refine WC.condT rfl ?_ | refine WC.condF rfl ?_ | refine WL.off rfl rfl rfl ?_ | refine WL.off0 rfl rfl ?_ | refine WC.exit ?_ | refine blk_hit ?_ | refine blk_miss rfl ?_ | refine WC.ret ?_)
      refine WL.sliceHi rfl rfl rfl rfl rfl rfl (by omega) ?_
      refine WL.append 0 (hpB.nilrow 3 1) rfl rfl rfl rfl rfl Nat.zero_lt_one rfl rfl rfl (news := ints (ot.take at_)) (by rw [itake]; exact sO.take _) (by rw [ilen, List.length_take, Nat.min_eq_left hat]; exact (Nat.mul_one _).symm) (icells _) (by unfold maxLen; omega) (by show (0 + at_) * 8 ≤ _; omega) ?_
      intro a1 c1 wC hpC hgC
      rw [Nat.zero_add] at hpC ⊢
      rw [List.nil_append] at hpC
      repeat (first | refine WC.seq ?_ | refine WC.reg ?_ | refine WL.pure rfl rfl rfl ?_ | refine WL.nil ?_ | refine WC.skip ?_ | refine WC.block ?_ | refine WC.condT rfl ?_ | refine WC.condF rfl ?_ | refine WL.off rfl rfl rfl ?_ | refine WL.off0 rfl rfl ?_ | refine WC.exit ?_ | refine blk_hit ?_ | refine blk_miss rfl ?_ | refine WC.ret ?_)
      refine WL.buildS (cs := [.int .i64 (v : Nat)]) rfl rfl rfl rfl rfl rfl rfl rfl rfl ?_
      intro bs wD hbs
      have hpD := hpC.new hbs
      refine WL.append 1 hpD rfl rfl rfl rfl rfl Nat.zero_lt_one rfl rfl rfl (news := [.int .i64 (v : Nat)]) (Sl.of_obj (hpD.obj 0 rfl) (fun q u hq => by simpa using hq)) rfl (Cells.cons rfl Cells.nil) (by unfold maxLen; omega) (by show (at_ + 1) * 8 ≤ _; omega) ?_
      intro a2 c2 wE hpE hgE
      have hpE := hpE.tail
      repeat (first | refine WC.seq ?_ | refine WC.reg ?_ | refine WL.pure rfl rfl rfl ?_ | refine WL.nil ?_ | refine WC.skip ?_ | refine WC.block ?_ | refine WC.condT rfl ?_ | refine WC.condF rfl ?_ | refine WL.off rfl rfl rfl ?_ | refine WL.off0 rfl rfl ?_ | refine WC.exit ?_ | refine blk_hit ?_ | refine blk_miss rfl ?_ | refine WC.ret ?_)
      refine WL.sliceLo rfl rfl rfl rfl rfl rfl hat hcap ?_
      intro a3 ha3
      have sE : Sl wE a3 (ints (ot.drop at_)) := by
        have h1 := ha3 wE (ints ot) (Sl.of_row (hpE.at 3 rfl)) (by rw [ilen]; exact Nat.le_of_eq (Nat.mul_one _).symm)
        rw [idrop]
        have h2 : (ints ot).drop (at_ * 1) = (ints ot).drop at_ := by rw [Nat.mul_one]
        rw [← h2]; exact h1
      refine WL.append 0 hpE rfl rfl rfl rfl rfl Nat.zero_lt_one rfl rfl rfl (news := ints (ot.drop at_)) sE (by rw [ilen, List.length_drop]; exact (Nat.mul_one _).symm) (icells _) (by unfold maxLen; omega) (by show (at_ + 1 + (ot.length - at_)) * 8 ≤ _; omega) ?_
      intro a4 c4 wF hpF hgF
      have hl4 : at_ + 1 + (ot.length - at_) = (ot.take at_ ++ [v] ++ ot.drop at_).length := by
        simp only [List.length_append, List.length_take, List.length_drop, List.length_singleton]; omega
      have hx4 : ints (ot.take at_) ++ [Value.int .i64 (v : Nat)] ++ ints (ot.drop at_) = ints (ot.take at_ ++ [v] ++ ot.drop at_) := by simp [ints]
      rw [hl4, hx4] at hpF
      rw [hl4]
      repeat (first | refine WC.seq ?_ | refine WC.reg ?_ | refine WL.pure rfl rfl rfl ?_ | refine WL.nil ?_ | refine WC.skip ?_ | refine WC.block ?_ | refine WC.condT rfl ?_ | refine WC.condF rfl ?_ | refine WL.off rfl rfl rfl ?_ | refine WL.off0 rfl rfl ?_ | refine WC.exit ?_ | refine blk_hit ?_ | refine blk_miss rfl ?_ | refine WC.ret ?_)
      exact ⟨(v + 1, ot.take at_ ++ [v] ++ ot.drop at_, a4, c4), by show g.length - (v + 1) < g.length - v; omega, ⟨rfl, rfl, rfl, rfl, congrArg (fun z => some (Value.int .i64 z)) step, rfl⟩, hv, put_perm hpm, hpF.pick [1, 2, 0] (by decide)⟩
  have hv : v = g.length := by have := of_decide_eq_false hc; omega
  obtain ⟨K, hK⟩ := perm_ok (g := g) (o := ot) (by rw [← hv]; exact hpm)
  have hKge := (ord_ge hn _ 0 (-1) K hK (Nat.two_pow_pos _) (by rw [card_zero, List.length_map]; omega) (Int.le_refl _)).2
  have hKle := ord_le hg _ 0 (-1) K hK (by omega)
  have sO : Sl wA a' (zs (ups ot)) := by rw [← ints_ups]; exact Sl.of_row (hpA.at 2 rfl)
  have hOr := Order_any a a' c c' (g.length : Nat) fs (ups ot) wA sF hf62 sO (by rw [ups_len]; omega) hTA
  rw [ups_len] at hOr
  have hov : ordV (g.length : Nat) fs (ups ot) = .tuple #[.int .i64 K, .int .i64 0] := by
    simp only [ordV, hmk]
    rw [if_neg (by rw [ups_len, hol, hv]; simp)]
    unfold ups
    rw [hK]
  rw [hov] at hOr
  repeat (first | refine WC.seq ?_ | refine WC.reg ?_ | refine WL.pure rfl rfl rfl ?_ | refine WL.nil ?_ | refine WC.skip ?_ | refine WC.block ?_ | refine WC.condT rfl ?_ | refine WC.condF rfl ?_ | refine WL.off rfl rfl rfl ?_ | refine WL.off0 rfl rfl ?_ | refine WC.exit ?_ | refine blk_hit ?_ | refine blk_miss rfl ?_ | refine WC.ret ?_)
  refine WL.loadB rfl rfl rfl rfl rfl hB rfl ?_
  repeat (first | refine WC.seq ?_ | refine WC.reg ?_ | refine WL.pure rfl rfl rfl ?_ | refine WL.nil ?_ | refine WC.skip ?_ | refine WC.block ?_ | refine WC.condT rfl ?_ | refine WC.condF rfl ?_ | refine WL.off rfl rfl rfl ?_ | refine WL.off0 rfl rfl ?_ | refine WC.exit ?_ | refine blk_hit ?_ | refine blk_miss rfl ?_ | refine WC.ret ?_)
  refine WL.loadB rfl rfl rfl rfl rfl hB rfl ?_
  repeat (first | refine WC.seq ?_ | refine WC.reg ?_ | refine WL.pure rfl rfl rfl ?_ | refine WL.nil ?_ | refine WC.skip ?_ | refine WC.block ?_ | refine WC.condT rfl ?_ | refine WC.condF rfl ?_ | refine WL.off rfl rfl rfl ?_ | refine WL.off0 rfl rfl ?_ | refine WC.exit ?_ | refine blk_hit ?_ | refine blk_miss rfl ?_ | refine WC.ret ?_)
  refine WL.call rfl rfl rfl rfl rfl ent31 hOr ?_
  rintro _ wB ⟨hpB, rfl⟩
  have hpB := hpA.call hpB.below
  obtain ⟨hB, sF, hTB⟩ := L0 wB _ hpB
  repeat (first | refine WC.seq ?_ | refine WC.reg ?_ | refine WL.pure rfl rfl rfl ?_ | refine WL.nil ?_ | refine WC.skip ?_ | refine WC.block ?_ | refine WC.condT rfl ?_ | refine WC.condF rfl ?_ | refine WL.off rfl rfl rfl ?_ | refine WL.off0 rfl rfl ?_ | refine WC.exit ?_ | refine blk_hit ?_ | refine blk_miss rfl ?_ | refine WC.ret ?_)
  refine WL.split 144 rfl (fun _ => ?_) (fun h => by have := of_decide_eq_false h; omega)
  repeat (first | refine WC.seq ?_ | refine WC.reg ?_ | refine WL.pure rfl rfl rfl ?_ | refine WL.nil ?_ | refine WC.skip ?_ | refine WC.block ?_ | refine WC.condT rfl ?_ | refine WC.condF rfl ?_ | refine WL.off rfl rfl rfl ?_ | refine WL.off0 rfl rfl ?_ | refine WC.exit ?_ | refine blk_hit ?_ | refine blk_miss rfl ?_ | refine WC.ret ?_)
  refine WL.loadB rfl rfl rfl rfl rfl hB rfl ?_
  repeat (first | refine WC.seq ?_ | refine WC.reg ?_ | refine WL.pure rfl rfl rfl ?_ | refine WL.nil ?_ | refine WC.skip ?_ | refine WC.block ?_ | refine WC.condT rfl ?_ | refine WC.condF rfl ?_ | refine WL.off rfl rfl rfl ?_ | refine WL.off0 rfl rfl ?_ | refine WC.exit ?_ | refine blk_hit ?_ | refine blk_miss rfl ?_ | refine WC.ret ?_)
  refine WL.split 151 rfl (fun _ => ?_) (fun h => ?_)
  · repeat (first | refine WC.seq ?_ | refine WC.reg ?_ | refine WL.pure rfl rfl rfl ?_ | refine WL.nil ?_ | refine WC.skip ?_ | refine WC.block ?_ | refine WC.condT rfl ?_ | refine WC.condF rfl ?_ | refine WL.off rfl rfl rfl ?_ | refine WL.off0 rfl rfl ?_ | refine WC.exit ?_ | refine blk_hit ?_ | refine blk_miss rfl ?_ | refine WC.ret ?_)
    refine WL.call rfl rfl rfl rfl rfl ent19 (awake_any wB hTB) ?_
    rintro _ wC ⟨rfl, hpC⟩
    repeat (first | refine WC.seq ?_ | refine WC.reg ?_ | refine WL.pure rfl rfl rfl ?_ | refine WL.nil ?_ | refine WC.skip ?_ | refine WC.block ?_ | refine WC.condT rfl ?_ | refine WC.condF rfl ?_ | refine WL.off rfl rfl rfl ?_ | refine WL.off0 rfl rfl ?_ | refine WC.exit ?_ | refine blk_hit ?_ | refine blk_miss rfl ?_ | refine WC.ret ?_)
    exact Res.one rfl rfl rfl ⟨rfl, (hpB.call hpC.below).nil'⟩
  · have := of_decide_eq_false h
    rw [IntKind.wrap_i64] at this
    omega
end Go.Proofs.YtdnkkflpgebfbaaDoor

/- The walks of the reference's counts: size, lessList, Independent, Apart. -/
namespace Go.Proofs.YtdnkkflpgebfbaaDoor
open Go.W Go.Tree
set_option maxRecDepth 100000
attribute [local irreducible] WC WL WQ WS WH

theorem pcN_more : ∀ (f s : Nat), s < 2 ^ f → pcN (f + 1) s = pcN f s := by
  intro f
  induction f with
  | zero => intro s hs; have : s = 0 := by simpa using hs
            subst this; rfl
  | succ f ih =>
    intro s hs
    have h := ih (s / 2) (by rw [Nat.pow_succ] at hs; omega)
    rw [pcN, h, pcN]
theorem pc_half {s : Nat} (h : s < 65536) : pc s = s % 2 + pc (s / 2) := by
  have h1 := pcN_more 15 (s / 2) (by omega)
  unfold pc
  rw [h1, pcN]

theorem rsize_any (s : Nat) (hs : s < 16384) : Pur Tryd.prog 49 [.int .i64 s] (.int .i64 (pc s)) := by
  intro w
  refine enter Tryd.func49 rfl rfl ⟨rfl, rfl⟩ rfl ?_
  repeat (first | refine WC.seq ?_ | refine WC.reg ?_ | refine WL.pure rfl rfl rfl ?_ | refine WL.nil ?_ | refine WC.skip ?_ | refine WC.block ?_ | refine WC.condT rfl ?_ | refine WC.condF rfl ?_ | refine WL.off rfl rfl rfl ?_ | refine WL.off0 rfl rfl ?_ | refine WC.exit ?_ | refine blk_hit ?_ | refine blk_miss rfl ?_ | refine WC.ret ?_)
  refine WC.loop (Nat × Nat) (fun (r, k) => [(0, .int .i64 (r : Nat)), (3, .int .i64 (k : Nat))]) (fun (r, k) w' => w' = w ∧ r < 16384 ∧ k + pc r = pc s) (fun (r, _) => r) (s, 0) ⟨rfl, rfl, rfl⟩ ⟨rfl, hs, by simp⟩ ?_
  rintro ⟨r, k⟩ w' ⟨rfl, hr, hk⟩
  have hps : pc s ≤ 16 := by rw [pc_card]; exact card_le (by decide) (show s < 2 ^ 16 by omega)
  repeat (first | refine WC.seq ?_ | refine WC.reg ?_ | refine WL.pure rfl rfl rfl ?_ | refine WL.nil ?_ | refine WC.skip ?_ | refine WC.block ?_ | refine WC.condT rfl ?_ | refine WC.condF rfl ?_ | refine WL.off rfl rfl rfl ?_ | refine WL.off0 rfl rfl ?_ | refine WC.exit ?_ | refine blk_hit ?_ | refine blk_miss rfl ?_ | refine WC.ret ?_)
  refine WC.cond rfl (fun h => ?_) (fun h => ?_)
  · have h0 : 0 < r := by have := of_decide_eq_true h; omega
    have hh := pc_half (s := r) (by omega)
    have e1 : ((r : Nat) : Int).tmod 2 = ((r % 2 : Nat) : Int) := (Int.ofNat_tmod r 2).symm
    have e2 : ((r : Nat) : Int).tdiv 2 = ((r / 2 : Nat) : Int) := (Int.ofNat_tdiv r 2).symm
    repeat (first | refine WC.seq ?_ | refine WC.reg ?_ | refine WL.pure rfl rfl rfl ?_ | refine WL.nil ?_ | refine WC.skip ?_ | refine WC.block ?_ | refine WC.condT rfl ?_ | refine WC.condF rfl ?_ | refine WL.off rfl rfl rfl ?_ | refine WL.off0 rfl rfl ?_ | refine WC.exit ?_ | refine blk_hit ?_ | refine blk_miss rfl ?_ | refine WC.ret ?_)
    refine ⟨(r / 2, k + r % 2), by show r / 2 < r; omega, ⟨?_, ?_, rfl⟩, rfl, by omega, by omega⟩
    · refine congrArg (fun z => some (Value.int .i64 z)) ?_
      show IntKind.i64.wrap (((r : Nat) : Int).tdiv 2) = _
      rw [e2, wrap_i64_in (by omega) (by omega)]
    · refine congrArg (fun z => some (Value.int .i64 z)) ?_
      show IntKind.i64.wrap ((k : Int) + ((r : Nat) : Int).tmod 2) = _
      rw [e1, wrap_i64_in (by omega) (by omega)]; omega
  · have h0 : r = 0 := by have := of_decide_eq_false h; omega
    subst h0
    have hz : pc 0 = 0 := by decide
    repeat (first | refine WC.seq ?_ | refine WC.reg ?_ | refine WL.pure rfl rfl rfl ?_ | refine WL.nil ?_ | refine WC.skip ?_ | refine WC.block ?_ | refine WC.condT rfl ?_ | refine WC.condF rfl ?_ | refine WL.off rfl rfl rfl ?_ | refine WL.off0 rfl rfl ?_ | refine WC.exit ?_ | refine blk_hit ?_ | refine blk_miss rfl ?_ | refine WC.ret ?_)
    exact Res.one rfl rfl rfl ⟨by rw [← hk, hz, Nat.add_zero], rfl⟩
end Go.Proofs.YtdnkkflpgebfbaaDoor

/- The walks of the reference's independent sets. -/
namespace Go.Proofs.YtdnkkflpgebfbaaDoor
open Go.W Go.Tree
set_option maxRecDepth 100000
attribute [local irreducible] WC WL WQ WS WH

theorem Independent_any (ea : Option Addr) (cap : Nat) (g : List Nat) (es : List Ed) (w : World) (hs : Sl w ea (prs es)) (hlen : es.length ≤ 4611686018427387904) (hmk : mkG (g.length : Nat) es = some g) :
    Ret Tryd.prog 48 [.int .i64 (g.length : Nat), .slice ea es.length cap] w fun v w' => ∃ b, Hp w w' [.blk b (.cells (bls (frRow (ap g) g.length (2 ^ g.length))).toArray 4 (0, 0))] ∧ v = .slice (some ⟨b, 0, none⟩) (2 ^ g.length) (2 ^ g.length) := by
  obtain ⟨hg, _, _, _, _⟩ := mkG_gr hmk
  have hn := hg.len
  have hp14 : 2 ^ g.length ≤ 2 ^ 14 := Nat.pow_le_pow_right (by decide) hn
  have hpos := Nat.two_pow_pos g.length
  refine enter Tryd.func48 rfl rfl ⟨rfl, rfl⟩ rfl ?_
  repeat (first | refine WC.seq ?_ | refine WC.reg ?_ | refine WL.pure rfl rfl rfl ?_ | refine WL.nil ?_ | refine WC.skip ?_ | refine WC.block ?_ | refine WC.condT rfl ?_ | refine WC.condF rfl ?_ | refine WL.off rfl rfl rfl ?_ | refine WL.off0 rfl rfl ?_ | refine WC.exit ?_ | refine blk_hit ?_ | refine blk_miss rfl ?_ | refine WC.ret ?_)
  refine WL.call rfl rfl rfl rfl rfl ent50 (Neighbors_any ea cap g es w hs hlen hmk) ?_
  rintro _ w1 ⟨bn, hp1, rfl⟩
  repeat (first | refine WC.seq ?_ | refine WC.reg ?_ | refine WL.pure rfl rfl rfl ?_ | refine WL.nil ?_ | refine WC.skip ?_ | refine WC.block ?_ | refine WC.condT rfl ?_ | refine WC.condF rfl ?_ | refine WL.off rfl rfl rfl ?_ | refine WL.off0 rfl rfl ?_ | refine WC.exit ?_ | refine blk_hit ?_ | refine blk_miss rfl ?_ | refine WC.ret ?_)
  have esh : shl .i64 1 g.length = ((2 ^ g.length : Nat) : Int) := shl_one (by omega)
  refine WL.known (d := 14) (congrArg (fun z => some (Value.int .i64 z)) esh) ?_
  refine WL.make (m := 2 ^ g.length) rfl rfl rfl rfl rfl rfl rfl rfl ?_ ?_ ?_
  · show 1 * 2 ^ g.length ≤ _; omega
  · unfold maxLen; omega
  intro b w2 hb
  have hz : (List.replicate (2 ^ g.length) ti4.zero) = bls (List.replicate (2 ^ g.length) false) := by simp only [bls, List.map_replicate]; rfl
  rw [hz, frRow_zero (ap g)] at hb
  have hp2 := hp1.new hb
  repeat (first | refine WC.seq ?_ | refine WC.reg ?_ | refine WL.pure rfl rfl rfl ?_ | refine WL.nil ?_ | refine WC.skip ?_ | refine WC.block ?_ | refine WC.condT rfl ?_ | refine WC.condF rfl ?_ | refine WL.off rfl rfl rfl ?_ | refine WL.off0 rfl rfl ?_ | refine WC.exit ?_ | refine blk_hit ?_ | refine blk_miss rfl ?_ | refine WC.ret ?_)
  refine WC.loop Nat (fun S => [(0, .int .i64 (g.length : Nat)), (5, .slice (some ⟨bn, 0, none⟩) g.length g.length), (6, .slice (some ⟨b, 0, none⟩) (2 ^ g.length) (2 ^ g.length)), (7, .int .i64 (S : Nat))])
    (fun S w' => S ≤ 2 ^ g.length ∧ Hp w w' [.blk b (.cells (bls (frRow (ap g) g.length S)).toArray 4 (0, 0)), .blk bn (.cells (ints g).toArray 3 (0, 0))]) (fun S => 2 ^ g.length - S) 0 ⟨rfl, rfl, rfl, rfl, rfl⟩ ⟨Nat.zero_le _, hp2⟩ ?_
  rintro S w3 ⟨hS, hp3⟩
  repeat (first | refine WC.seq ?_ | refine WC.reg ?_ | refine WL.pure rfl rfl rfl ?_ | refine WL.nil ?_ | refine WC.skip ?_ | refine WC.block ?_ | refine WC.condT rfl ?_ | refine WC.condF rfl ?_ | refine WL.off rfl rfl rfl ?_ | refine WL.off0 rfl rfl ?_ | refine WC.exit ?_ | refine blk_hit ?_ | refine blk_miss rfl ?_ | refine WC.ret ?_)
  refine WC.cond rfl (fun hc => ?_) (fun hc => ?_)
  · have hS : S < 2 ^ g.length := by have := of_decide_eq_true hc; rw [esh] at this; omega
    have step : IntKind.i64.wrap ((S : Int) + 1) = ((S + 1 : Nat) : Int) := by rw [wrap_i64_in (by omega) (by omega)]; omega
    repeat (first | refine WC.seq ?_ | refine WC.reg ?_ | refine WL.pure rfl rfl rfl ?_ | refine WL.nil ?_ | refine WC.skip ?_ | refine WC.block ?_ | refine WC.condT rfl ?_ | refine WC.condF rfl ?_ | refine WL.off rfl rfl rfl ?_ | refine WL.off0 rfl rfl ?_ | refine WC.exit ?_ | refine blk_hit ?_ | refine blk_miss rfl ?_ | refine WC.ret ?_)
    refine WC.loop Nat (fun v => [(0, .int .i64 (g.length : Nat)), (5, .slice (some ⟨bn, 0, none⟩) g.length g.length), (6, .slice (some ⟨b, 0, none⟩) (2 ^ g.length) (2 ^ g.length)), (7, .int .i64 (S : Nat)), (8, .bool (ind g S v)), (9, .int .i64 (v : Nat))])
      (fun v w' => v ≤ g.length ∧ w' = w3) (fun v => g.length - v) 0 ⟨rfl, rfl, rfl, rfl, rfl, rfl, rfl⟩ ⟨Nat.zero_le _, rfl⟩ ?_
    rintro v w4 ⟨hv, rfl⟩
    repeat (first | refine WC.seq ?_ | refine WC.reg ?_ | refine WL.pure rfl rfl rfl ?_ | refine WL.nil ?_ | refine WC.skip ?_ | refine WC.block ?_ | refine WC.condT rfl ?_ | refine WC.condF rfl ?_ | refine WL.off rfl rfl rfl ?_ | refine WL.off0 rfl rfl ?_ | refine WC.exit ?_ | refine blk_hit ?_ | refine blk_miss rfl ?_ | refine WC.ret ?_)
    refine WC.cond rfl (fun hc2 => ?_) (fun hc2 => ?_)
    · have hv : v < g.length := by have := of_decide_eq_true hc2; omega
      have step2 : IntKind.i64.wrap ((v : Int) + 1) = ((v + 1 : Nat) : Int) := by rw [wrap_i64_in (by omega) (by omega)]; omega
      have hgv := lt_pow16 hn (hg.lt v)
      repeat (first | refine WC.seq ?_ | refine WC.reg ?_ | refine WL.pure rfl rfl rfl ?_ | refine WL.nil ?_ | refine WC.skip ?_ | refine WC.block ?_ | refine WC.condT rfl ?_ | refine WC.condF rfl ?_ | refine WL.off rfl rfl rfl ?_ | refine WL.off0 rfl rfl ?_ | refine WC.exit ?_ | refine blk_hit ?_ | refine blk_miss rfl ?_ | refine WC.ret ?_)
      refine WL.callP rfl rfl rfl rfl rfl ent51 (Has_any S v (by omega) _) ?_
      refine WL.pure rfl rfl rfl ?_
      refine WL.split 30 rfl (fun hb1 => ?_) (fun hb1 => ?_)
      · repeat (first | refine WC.seq ?_ | refine WC.reg ?_ | refine WL.pure rfl rfl rfl ?_ | refine WL.nil ?_ | refine WC.skip ?_ | refine WC.block ?_ | refine WC.condT rfl ?_ | refine WC.condF rfl ?_ | refine WL.off rfl rfl rfl ?_ | refine WL.off0 rfl rfl ?_ | refine WC.exit ?_ | refine blk_hit ?_ | refine blk_miss rfl ?_ | refine WC.ret ?_)
        refine WL.ixload rfl (fun _ => rfl) rfl rfl rfl rfl rfl rfl rfl hv rfl rfl (Sl.of_obj (hp3.obj 1 rfl) (fun i u h => by simpa using h)) (ints_at hv) ?_
        intro p
        repeat (first | refine WC.seq ?_ | refine WC.reg ?_ | refine WL.pure rfl rfl rfl ?_ | refine WL.nil ?_ | refine WC.skip ?_ | refine WC.block ?_ | refine WC.condT rfl ?_ | refine WC.condF rfl ?_ | refine WL.off rfl rfl rfl ?_ | refine WL.off0 rfl rfl ?_ | refine WC.exit ?_ | refine blk_hit ?_ | refine blk_miss rfl ?_ | refine WC.ret ?_)
        have e1 : bits .and .i64 (S : Int) ((g.getD v 0 : Nat) : Int) = ((S &&& g.getD v 0 : Nat) : Int) := and_i64 (by omega) (by omega)
        refine WC.cond rfl (fun hq => ?_) (fun hq => ?_)
        · rw [e1] at hq
          have hq : (S &&& g.getD v 0) ≠ 0 := by intro h; rw [h] at hq; simp at hq
          have hi : ind g S (v + 1) = false := by rw [ind_succ, hb1, beq_eq_false_iff_ne.2 hq]; simp
          repeat (first | refine WC.seq ?_ | refine WC.reg ?_ | refine WL.pure rfl rfl rfl ?_ | refine WL.nil ?_ | refine WC.skip ?_ | refine WC.block ?_ | refine WC.condT rfl ?_ | refine WC.condF rfl ?_ | refine WL.off rfl rfl rfl ?_ | refine WL.off0 rfl rfl ?_ | refine WC.exit ?_ | refine blk_hit ?_ | refine blk_miss rfl ?_ | refine WC.ret ?_)
          exact ⟨v + 1, by show g.length - (v + 1) < g.length - v; omega, ⟨rfl, rfl, rfl, rfl, congrArg (fun z => some (Value.bool z)) hi.symm, congrArg (fun z => some (Value.int .i64 z)) step2, rfl⟩, hv, rfl⟩
        · rw [e1] at hq
          have hq : (S &&& g.getD v 0) = 0 := by
            cases hx : (S &&& g.getD v 0) with
            | zero => rfl
            | succ k => rw [hx] at hq; simp at hq; omega
          have hi : ind g S (v + 1) = ind g S v := by rw [ind_succ, hb1, hq]; simp
          repeat (first | refine WC.seq ?_ | refine WC.reg ?_ | refine WL.pure rfl rfl rfl ?_ | refine WL.nil ?_ | refine WC.skip ?_ | refine WC.block ?_ | refine WC.condT rfl ?_ | refine WC.condF rfl ?_ | refine WL.off rfl rfl rfl ?_ | refine WL.off0 rfl rfl ?_ | refine WC.exit ?_ | refine blk_hit ?_ | refine blk_miss rfl ?_ | refine WC.ret ?_)
          exact ⟨v + 1, by show g.length - (v + 1) < g.length - v; omega, ⟨rfl, rfl, rfl, rfl, congrArg (fun z => some (Value.bool z)) hi.symm, congrArg (fun z => some (Value.int .i64 z)) step2, rfl⟩, hv, rfl⟩
      · have hi : ind g S (v + 1) = ind g S v := by rw [ind_succ, hb1]; simp
        repeat (first | refine WC.seq ?_ | refine WC.reg ?_ | refine WL.pure rfl rfl rfl ?_ | refine WL.nil ?_ | refine WC.skip ?_ | refine WC.block ?_ | refine WC.condT rfl ?_ | refine WC.condF rfl ?_ | refine WL.off rfl rfl rfl ?_ | refine WL.off0 rfl rfl ?_ | refine WC.exit ?_ | refine blk_hit ?_ | refine blk_miss rfl ?_ | refine WC.ret ?_)
        exact ⟨v + 1, by show g.length - (v + 1) < g.length - v; omega, ⟨rfl, rfl, rfl, rfl, congrArg (fun z => some (Value.bool z)) hi.symm, congrArg (fun z => some (Value.int .i64 z)) step2, rfl⟩, hv, rfl⟩
    · have hv : v = g.length := by have := of_decide_eq_false hc2; omega
      subst hv
      repeat (first | refine WC.seq ?_ | refine WC.reg ?_ | refine WL.pure rfl rfl rfl ?_ | refine WL.nil ?_ | refine WC.skip ?_ | refine WC.block ?_ | refine WC.condT rfl ?_ | refine WC.condF rfl ?_ | refine WL.off rfl rfl rfl ?_ | refine WL.off0 rfl rfl ?_ | refine WC.exit ?_ | refine blk_hit ?_ | refine blk_miss rfl ?_ | refine WC.ret ?_)
      refine WL.ix1 rfl rfl rfl rfl rfl rfl rfl (j := S) hS ?_
      refine WL.store rfl rfl rfl rfl rfl rfl (hp3.obj 0 rfl) (by simp [bls, frRow]; omega) (fun w5 hw5 => ?_)
      rw [Nat.zero_add, bls_set, ind_fr hmk hS, show fr (fun u v => !nb g u v) S = fr (ap g) S from rfl, frRow_next hS] at hw5
      have hp5 := hp3.set 0 rfl rfl hw5
      repeat (first | refine WC.seq ?_ | refine WC.reg ?_ | refine WL.pure rfl rfl rfl ?_ | refine WL.nil ?_ | refine WC.skip ?_ | refine WC.block ?_ | refine WC.condT rfl ?_ | refine WC.condF rfl ?_ | refine WL.off rfl rfl rfl ?_ | refine WL.off0 rfl rfl ?_ | refine WC.exit ?_ | refine blk_hit ?_ | refine blk_miss rfl ?_ | refine WC.ret ?_)
      exact ⟨S + 1, by show 2 ^ g.length - (S + 1) < 2 ^ g.length - S; omega, ⟨rfl, rfl, rfl, congrArg (fun z => some (Value.int .i64 z)) step, rfl⟩, hS, hp5⟩
  · have hS : S = 2 ^ g.length := by have := of_decide_eq_false hc; rw [esh] at this; omega
    subst hS
    repeat (first | refine WC.seq ?_ | refine WC.reg ?_ | refine WL.pure rfl rfl rfl ?_ | refine WL.nil ?_ | refine WC.skip ?_ | refine WC.block ?_ | refine WC.condT rfl ?_ | refine WC.condF rfl ?_ | refine WL.off rfl rfl rfl ?_ | refine WL.off0 rfl rfl ?_ | refine WC.exit ?_ | refine blk_hit ?_ | refine blk_miss rfl ?_ | refine WC.ret ?_)
    exact Res.one rfl rfl rfl ⟨b, hp3.pick [0] (by decide), rfl⟩
end Go.Proofs.YtdnkkflpgebfbaaDoor

/- The walk of the reference's Apart. -/
namespace Go.Proofs.YtdnkkflpgebfbaaDoor
open Go.W Go.Tree
set_option maxRecDepth 100000
attribute [local irreducible] WC WL WQ WS WH

theorem RApart_any (ea : Option Addr) (cap : Nat) (g : List Nat) (es : List Ed) (w : World) (hs : Sl w ea (prs es)) (hlen : es.length ≤ 4611686018427387904) (hmk : mkG (g.length : Nat) es = some g) :
    Ret Tryd.prog 20 [.int .i64 (g.length : Nat), .slice ea es.length cap] w fun v w' => Hp w w' [] ∧ v = .tuple #[.int .i64 (apR (ap g) (2 ^ g.length)).1, .int .i64 (apR (ap g) (2 ^ g.length)).2] := by
  obtain ⟨hg, _, _, _, _⟩ := mkG_gr hmk
  have hn := hg.len
  have hp14 : 2 ^ g.length ≤ 2 ^ 14 := Nat.pow_le_pow_right (by decide) hn
  have esh : shl .i64 1 g.length = ((2 ^ g.length : Nat) : Int) := shl_one (by omega)
  refine enter Tryd.func20 rfl rfl ⟨rfl, rfl⟩ rfl ?_
  repeat (first | refine WC.seq ?_ | refine WC.reg ?_ | refine WL.pure rfl rfl rfl ?_ | refine WL.nil ?_ | refine WC.skip ?_ | refine WC.block ?_ | refine WC.condT rfl ?_ | refine WC.condF rfl ?_ | refine WL.off rfl rfl rfl ?_ | refine WL.off0 rfl rfl ?_ | refine WC.exit ?_ | refine blk_hit ?_ | refine blk_miss rfl ?_ | refine WC.ret ?_)
  refine WL.call rfl rfl rfl rfl rfl ent48 (Independent_any ea cap g es w hs hlen hmk) ?_
  rintro _ w1 ⟨b, hp1, rfl⟩
  repeat (first | refine WC.seq ?_ | refine WC.reg ?_ | refine WL.pure rfl rfl rfl ?_ | refine WL.nil ?_ | refine WC.skip ?_ | refine WC.block ?_ | refine WC.condT rfl ?_ | refine WC.condF rfl ?_ | refine WL.off rfl rfl rfl ?_ | refine WL.off0 rfl rfl ?_ | refine WC.exit ?_ | refine blk_hit ?_ | refine blk_miss rfl ?_ | refine WC.ret ?_)
  refine WC.loop (Nat × Nat × Nat) (fun (i, c, m) => [(0, .int .i64 (g.length : Nat)), (6, .slice (some ⟨b, 0, none⟩) (2 ^ g.length) (2 ^ g.length)), (7, .int .i64 (c : Nat)), (8, .int .i64 (m : Nat)), (9, .int .i64 (i : Nat))])
    (fun (i, c, m) w' => i ≤ 2 ^ g.length ∧ (c, m) = apR (ap g) i ∧ Hp w w' [.blk b (.cells (bls (frRow (ap g) g.length (2 ^ g.length))).toArray 4 (0, 0))]) (fun (i, c, m) => 2 ^ g.length - i) (0, 0, 0)
    ⟨rfl, rfl, rfl, rfl, rfl, rfl⟩ ⟨Nat.zero_le _, rfl, hp1⟩ ?_
  rintro ⟨i, c, m⟩ w3 ⟨hi, hcm, hp3⟩
  have hci : c ≤ i := by have := apR_le (ap g) i; rw [← hcm] at this; exact this
  repeat (first | refine WC.seq ?_ | refine WC.reg ?_ | refine WL.pure rfl rfl rfl ?_ | refine WL.nil ?_ | refine WC.skip ?_ | refine WC.block ?_ | refine WC.condT rfl ?_ | refine WC.condF rfl ?_ | refine WL.off rfl rfl rfl ?_ | refine WL.off0 rfl rfl ?_ | refine WC.exit ?_ | refine blk_hit ?_ | refine blk_miss rfl ?_ | refine WC.ret ?_)
  refine WC.cond rfl (fun hc => ?_) (fun hc => ?_)
  · have hi : i < 2 ^ g.length := by have := of_decide_eq_true hc; rw [esh] at this; omega
    have step : IntKind.i64.wrap ((i : Int) + 1) = ((i + 1 : Nat) : Int) := by rw [wrap_i64_in (by omega) (by omega)]; omega
    have step2 : IntKind.i64.wrap ((c : Int) + 1) = ((c + 1 : Nat) : Int) := by rw [wrap_i64_in (by omega) (by omega)]; omega
    repeat (first | refine WC.seq ?_ | refine WC.reg ?_ | refine WL.pure rfl rfl rfl ?_ | refine WL.nil ?_ | refine WC.skip ?_ | refine WC.block ?_ | refine WC.condT rfl ?_ | refine WC.condF rfl ?_ | refine WL.off rfl rfl rfl ?_ | refine WL.off0 rfl rfl ?_ | refine WC.exit ?_ | refine blk_hit ?_ | refine blk_miss rfl ?_ | refine WC.ret ?_)
    refine WL.ixload rfl (fun _ => rfl) rfl rfl rfl rfl rfl rfl rfl hi rfl rfl (Sl.of_obj (hp3.obj 0 rfl) (cs := bls (frRow (ap g) g.length (2 ^ g.length))) (fun i u h => by simpa using h)) (v := .bool (fr (ap g) i)) (frRow_at hi hi) ?_
    intro p
    repeat (first | refine WC.seq ?_ | refine WC.reg ?_ | refine WL.pure rfl rfl rfl ?_ | refine WL.nil ?_ | refine WC.skip ?_ | refine WC.block ?_ | refine WC.condT rfl ?_ | refine WC.condF rfl ?_ | refine WL.off rfl rfl rfl ?_ | refine WL.off0 rfl rfl ?_ | refine WC.exit ?_ | refine blk_hit ?_ | refine blk_miss rfl ?_ | refine WC.ret ?_)
    refine WC.cond rfl (fun hf => ?_) (fun hf => ?_)
    · repeat (first | refine WC.seq ?_ | refine WC.reg ?_ | refine WL.pure rfl rfl rfl ?_ | refine WL.nil ?_ | refine WC.skip ?_ | refine WC.block ?_ | refine WC.condT rfl ?_ | refine WC.condF rfl ?_ | refine WL.off rfl rfl rfl ?_ | refine WL.off0 rfl rfl ?_ | refine WC.exit ?_ | refine blk_hit ?_ | refine blk_miss rfl ?_ | refine WC.ret ?_)
      refine WL.callP rfl rfl rfl rfl rfl ent49 (rsize_any i (by omega) _) ?_
      repeat (first | refine WC.seq ?_ | refine WC.reg ?_ | refine WL.pure rfl rfl rfl ?_ | refine WL.nil ?_ | refine WC.skip ?_ | refine WC.block ?_ | refine WC.condT rfl ?_ | refine WC.condF rfl ?_ | refine WL.off rfl rfl rfl ?_ | refine WL.off0 rfl rfl ?_ | refine WC.exit ?_ | refine blk_hit ?_ | refine blk_miss rfl ?_ | refine WC.ret ?_)
      refine ⟨(i + 1, c + 1, max m (pc i)), by show 2 ^ g.length - (i + 1) < 2 ^ g.length - i; omega, ⟨rfl, rfl, congrArg (fun z => some (Value.int .i64 z)) step2, congrArg (fun z => some (Value.int .i64 z)) (by omega), congrArg (fun z => some (Value.int .i64 z)) step, rfl⟩, by omega, ?_, hp3⟩
      rw [apR_succ, ← hcm, apStep, if_pos hf]
    · repeat (first | refine WC.seq ?_ | refine WC.reg ?_ | refine WL.pure rfl rfl rfl ?_ | refine WL.nil ?_ | refine WC.skip ?_ | refine WC.block ?_ | refine WC.condT rfl ?_ | refine WC.condF rfl ?_ | refine WL.off rfl rfl rfl ?_ | refine WL.off0 rfl rfl ?_ | refine WC.exit ?_ | refine blk_hit ?_ | refine blk_miss rfl ?_ | refine WC.ret ?_)
      refine ⟨(i + 1, c, m), by show 2 ^ g.length - (i + 1) < 2 ^ g.length - i; omega, ⟨rfl, rfl, rfl, rfl, congrArg (fun z => some (Value.int .i64 z)) step, rfl⟩, by omega, ?_, hp3⟩
      rw [apR_succ, ← hcm, apStep, if_neg (by rw [hf]; decide)]
  · have hi : i = 2 ^ g.length := by have := of_decide_eq_false hc; rw [esh] at this; omega
    subst hi
    repeat (first | refine WC.seq ?_ | refine WC.reg ?_ | refine WL.pure rfl rfl rfl ?_ | refine WL.nil ?_ | refine WC.skip ?_ | refine WC.block ?_ | refine WC.condT rfl ?_ | refine WC.condF rfl ?_ | refine WL.off rfl rfl rfl ?_ | refine WL.off0 rfl rfl ?_ | refine WC.exit ?_ | refine blk_hit ?_ | refine blk_miss rfl ?_ | refine WC.ret ?_)
    exact Res.two rfl rfl rfl rfl ⟨hp3.nil', by simp only [← hcm]⟩
end Go.Proofs.YtdnkkflpgebfbaaDoor

/- The walks of the reference's lessList and Clique. -/
namespace Go.Proofs.YtdnkkflpgebfbaaDoor
open Go.W Go.Tree
set_option maxRecDepth 100000
attribute [local irreducible] WC WL WQ WS WH

theorem lessList_any (aa ba : Option Addr) (ca cb : Nat) (xs ys : List Nat) (w : World) (hx : Sl w aa (ints xs)) (hy : Sl w ba (ints ys)) (hxl : xs.length ≤ 4611686018427387904) (hl : ys.length = xs.length) :
    Ret Tryd.prog 53 [.slice aa xs.length ca, .slice ba ys.length cb] w fun v w' => Hp w w' [] ∧ v = .bool (decide (cmpL xs ys < 0)) := by
  refine enter Tryd.func53 rfl rfl ⟨rfl, rfl⟩ rfl ?_
  repeat (first | refine WC.seq ?_ | refine WC.reg ?_ | refine WL.pure rfl rfl rfl ?_ | refine WL.nil ?_ | refine WC.skip ?_ | refine WC.block ?_ | refine WC.condT rfl ?_ | refine WC.condF rfl ?_ | refine WL.off rfl rfl rfl ?_ | refine WL.off0 rfl rfl ?_ | refine WC.exit ?_ | refine blk_hit ?_ | refine blk_miss rfl ?_ | refine WC.ret ?_)
  refine WC.loop Nat (fun i => [(0, .slice aa xs.length ca), (1, .slice ba ys.length cb), (5, .int .i64 (i : Nat))])
    (fun i w' => i ≤ xs.length ∧ cmpL xs ys = cmpL (xs.drop i) (ys.drop i) ∧ Hp w w' []) (fun i => xs.length - i) 0 ⟨rfl, rfl, rfl, rfl⟩ ⟨Nat.zero_le _, rfl, Hp.start w⟩ ?_
  rintro i w1 ⟨hi, hd, hp1⟩
  repeat (first | refine WC.seq ?_ | refine WC.reg ?_ | refine WL.pure rfl rfl rfl ?_ | refine WL.nil ?_ | refine WC.skip ?_ | refine WC.block ?_ | refine WC.condT rfl ?_ | refine WC.condF rfl ?_ | refine WL.off rfl rfl rfl ?_ | refine WL.off0 rfl rfl ?_ | refine WC.exit ?_ | refine blk_hit ?_ | refine blk_miss rfl ?_ | refine WC.ret ?_)
  refine WC.cond rfl (fun hc => ?_) (fun hc => ?_)
  · have hi : i < xs.length := by have := of_decide_eq_true hc; omega
    have hj : i < ys.length := by omega
    have step : IntKind.i64.wrap ((i : Int) + 1) = ((i + 1 : Nat) : Int) := by rw [wrap_i64_in (by omega) (by omega)]; omega
    have d1 : xs.drop i = xs.getD i 0 :: xs.drop (i + 1) := by rw [List.drop_eq_getElem_cons hi]; simp [hi]
    have d2 : ys.drop i = ys.getD i 0 :: ys.drop (i + 1) := by rw [List.drop_eq_getElem_cons hj]; simp [hj]
    obtain ⟨be, oe, rfl⟩ := Sl.some hx (ints_at hi)
    obtain ⟨bf, of', rfl⟩ := Sl.some hy (ints_at hj)
    repeat (first | refine WC.seq ?_ | refine WC.reg ?_ | refine WL.pure rfl rfl rfl ?_ | refine WL.nil ?_ | refine WC.skip ?_ | refine WC.block ?_ | refine WC.condT rfl ?_ | refine WC.condF rfl ?_ | refine WL.off rfl rfl rfl ?_ | refine WL.off0 rfl rfl ?_ | refine WC.exit ?_ | refine blk_hit ?_ | refine blk_miss rfl ?_ | refine WC.ret ?_)
    refine WC.regQ (fun w2 => Hp w w2 []) mixed (by kernel_rfl) (fun w2 hw2 => hp1.keep hw2) ?_
    repeat (first | refine WQ.pure rfl rfl rfl ?_ | refine WQ.off rfl rfl rfl ?_ | refine WQ.nil ?_)
    refine WQ.ixload rfl (fun _ => rfl) rfl rfl rfl rfl rfl rfl rfl hi rfl rfl (fun w2 h2 => Sl.cell (hx.hp h2) (ints_at hi)) ?_
    repeat (first | refine WQ.pure rfl rfl rfl ?_ | refine WQ.off rfl rfl rfl ?_ | refine WQ.nil ?_)
    refine WQ.ixload rfl (fun _ => rfl) rfl rfl rfl rfl rfl rfl rfl hj rfl rfl (fun w2 h2 => Sl.cell (hy.hp h2) (ints_at hj)) ?_
    repeat (first | refine WQ.pure rfl rfl rfl ?_ | refine WQ.off rfl rfl rfl ?_ | refine WQ.nil ?_)
    intro w2 hp2
    repeat (first | refine WC.seq ?_ | refine WC.reg ?_ | refine WL.pure rfl rfl rfl ?_ | refine WL.nil ?_ | refine WC.skip ?_ | refine WC.block ?_ | refine WC.condT rfl ?_ | refine WC.condF rfl ?_ | refine WL.off rfl rfl rfl ?_ | refine WL.off0 rfl rfl ?_ | refine WC.exit ?_ | refine blk_hit ?_ | refine blk_miss rfl ?_ | refine WC.ret ?_)
    refine WC.cond rfl (fun hne => ?_) (fun hne => ?_)
    · have hne : xs.getD i 0 ≠ ys.getD i 0 := by intro h; rw [h] at hne; simp at hne
      repeat (first | refine WC.seq ?_ | refine WC.reg ?_ | refine WL.pure rfl rfl rfl ?_ | refine WL.nil ?_ | refine WC.skip ?_ | refine WC.block ?_ | refine WC.condT rfl ?_ | refine WC.condF rfl ?_ | refine WL.off rfl rfl rfl ?_ | refine WL.off0 rfl rfl ?_ | refine WC.exit ?_ | refine blk_hit ?_ | refine blk_miss rfl ?_ | refine WC.ret ?_)
      refine WC.regQ (fun w2 => Hp w w2 []) mixed (by kernel_rfl) (fun w3 hw3 => hp2.keep hw3) ?_
      repeat (first | refine WQ.pure rfl rfl rfl ?_ | refine WQ.off rfl rfl rfl ?_ | refine WQ.nil ?_)
      refine WQ.ixload rfl (fun _ => rfl) rfl rfl rfl rfl rfl rfl rfl hi rfl rfl (fun w2 h2 => Sl.cell (hx.hp h2) (ints_at hi)) ?_
      repeat (first | refine WQ.pure rfl rfl rfl ?_ | refine WQ.off rfl rfl rfl ?_ | refine WQ.nil ?_)
      refine WQ.ixload rfl (fun _ => rfl) rfl rfl rfl rfl rfl rfl rfl hj rfl rfl (fun w2 h2 => Sl.cell (hy.hp h2) (ints_at hj)) ?_
      repeat (first | refine WQ.pure rfl rfl rfl ?_ | refine WQ.off rfl rfl rfl ?_ | refine WQ.nil ?_)
      intro w3 hp3
      repeat (first | refine WC.seq ?_ | refine WC.reg ?_ | refine WL.pure rfl rfl rfl ?_ | refine WL.nil ?_ | refine WC.skip ?_ | refine WC.block ?_ | refine WC.condT rfl ?_ | refine WC.condF rfl ?_ | refine WL.off rfl rfl rfl ?_ | refine WL.off0 rfl rfl ?_ | refine WC.exit ?_ | refine blk_hit ?_ | refine blk_miss rfl ?_ | refine WC.ret ?_)
      refine Res.one rfl rfl rfl ⟨hp3, ?_⟩
      rw [hd, d1, d2, cmpL]
      by_cases h1 : xs.getD i 0 < ys.getD i 0
      · rw [if_pos h1, decide_eq_true (by omega), decide_eq_true (by omega)]
      · rw [if_neg h1, if_pos (by omega), decide_eq_false (by omega), decide_eq_false (by omega)]
    · have hne : xs.getD i 0 = ys.getD i 0 := by
        have h : (((xs[i]?.getD 0 : Nat)) : Int) = ((ys[i]?.getD 0 : Nat) : Int) := by simpa using hne
        have h := Int.ofNat.inj h
        simpa using h
      repeat (first | refine WC.seq ?_ | refine WC.reg ?_ | refine WL.pure rfl rfl rfl ?_ | refine WL.nil ?_ | refine WC.skip ?_ | refine WC.block ?_ | refine WC.condT rfl ?_ | refine WC.condF rfl ?_ | refine WL.off rfl rfl rfl ?_ | refine WL.off0 rfl rfl ?_ | refine WC.exit ?_ | refine blk_hit ?_ | refine blk_miss rfl ?_ | refine WC.ret ?_)
      refine ⟨i + 1, by show xs.length - (i + 1) < xs.length - i; omega, ⟨rfl, rfl, congrArg (fun z => some (Value.int .i64 z)) step, rfl⟩, hi, ?_, hp2⟩
      rw [hd, d1, d2, cmpL, if_neg (by omega), if_neg (by omega)]
  · have hi : i = xs.length := by have := of_decide_eq_false hc; omega
    repeat (first | refine WC.seq ?_ | refine WC.reg ?_ | refine WL.pure rfl rfl rfl ?_ | refine WL.nil ?_ | refine WC.skip ?_ | refine WC.block ?_ | refine WC.condT rfl ?_ | refine WC.condF rfl ?_ | refine WL.off rfl rfl rfl ?_ | refine WL.off0 rfl rfl ?_ | refine WC.exit ?_ | refine blk_hit ?_ | refine blk_miss rfl ?_ | refine WC.ret ?_)
    refine Res.one rfl rfl rfl ⟨hp1, ?_⟩
    rw [hd, hi, List.drop_length, ← hl, List.drop_length]; rfl
end Go.Proofs.YtdnkkflpgebfbaaDoor

/- The walk of the reference's Clique. -/
namespace Go.Proofs.YtdnkkflpgebfbaaDoor
open Go.W Go.Tree
set_option maxRecDepth 100000
attribute [local irreducible] WC WL WQ WS WH

theorem RClique_any (ea : Option Addr) (cap : Nat) (g : List Nat) (es : List Ed) (w : World) (hs : Sl w ea (prs es)) (hlen : es.length ≤ 4611686018427387904) (hmk : mkG (g.length : Nat) es = some g) :
    Ret Tryd.prog 22 [.int .i64 (g.length : Nat), .slice ea es.length cap] w fun v w' => ∃ a c, Hp w w' [.row 3 1 (.slice a (clR (nb g) (2 ^ g.length)).length c) (clR (nb g) (2 ^ g.length)).length (ints (clR (nb g) (2 ^ g.length)))] ∧ v = .slice a (clR (nb g) (2 ^ g.length)).length c := by
  obtain ⟨hg, _, _, _, _⟩ := mkG_gr hmk
  have hn := hg.len
  have hp14 : 2 ^ g.length ≤ 2 ^ 14 := Nat.pow_le_pow_right (by decide) hn
  have esh : shl .i64 1 g.length = ((2 ^ g.length : Nat) : Int) := shl_one (by omega)
  refine enter Tryd.func22 rfl rfl ⟨rfl, rfl⟩ rfl ?_
  repeat (first | refine WC.seq ?_ | refine WC.reg ?_ | refine WL.pure rfl rfl rfl ?_ | refine WL.nil ?_ | refine WC.skip ?_ | refine WC.block ?_ | refine WC.condT rfl ?_ | refine WC.condF rfl ?_ | refine WL.off rfl rfl rfl ?_ | refine WL.off0 rfl rfl ?_ | refine WC.exit ?_ | refine blk_hit ?_ | refine blk_miss rfl ?_ | refine WC.ret ?_)
  refine WL.call rfl rfl rfl rfl rfl ent50 (Neighbors_any ea cap g es w hs hlen hmk) ?_
  rintro _ w1 ⟨bn, hp1, rfl⟩
  have hp1 := hp1.nilrow 3 1
  repeat (first | refine WC.seq ?_ | refine WC.reg ?_ | refine WL.pure rfl rfl rfl ?_ | refine WL.nil ?_ | refine WC.skip ?_ | refine WC.block ?_ | refine WC.condT rfl ?_ | refine WC.condF rfl ?_ | refine WL.off rfl rfl rfl ?_ | refine WL.off0 rfl rfl ?_ | refine WC.exit ?_ | refine blk_hit ?_ | refine blk_miss rfl ?_ | refine WC.ret ?_)
  refine WC.loop (Nat × List Nat × Option Addr × Nat) (fun (S, best, a, c) => [(0, .int .i64 (g.length : Nat)), (5, .slice (some ⟨bn, 0, none⟩) g.length g.length), (6, .slice a best.length c), (7, .int .i64 (S : Nat))])
    (fun (S, best, a, c) w' => S ≤ 2 ^ g.length ∧ best = clR (nb g) S ∧ Hp w w' [.row 3 1 (.slice a best.length c) best.length (ints best), .blk bn (.cells (ints g).toArray 3 (0, 0))]) (fun (S, best, a, c) => 2 ^ g.length - S) (0, [], none, 0)
    ⟨rfl, rfl, rfl, rfl, rfl⟩ ⟨Nat.zero_le _, rfl, hp1⟩ ?_
  rintro ⟨S, best, a, c⟩ w3 ⟨hS, hbest, hp3⟩
  repeat (first | refine WC.seq ?_ | refine WC.reg ?_ | refine WL.pure rfl rfl rfl ?_ | refine WL.nil ?_ | refine WC.skip ?_ | refine WC.block ?_ | refine WC.condT rfl ?_ | refine WC.condF rfl ?_ | refine WL.off rfl rfl rfl ?_ | refine WL.off0 rfl rfl ?_ | refine WC.exit ?_ | refine blk_hit ?_ | refine blk_miss rfl ?_ | refine WC.ret ?_)
  refine WC.cond rfl (fun hc => ?_) (fun hc => ?_)
  · have hS : S < 2 ^ g.length := by have := of_decide_eq_true hc; rw [esh] at this; omega
    have step : IntKind.i64.wrap ((S : Int) + 1) = ((S + 1 : Nat) : Int) := by rw [wrap_i64_in (by omega) (by omega)]; omega
    have hp3 := hp3.nilrow 3 1
    repeat (first | refine WC.seq ?_ | refine WC.reg ?_ | refine WL.pure rfl rfl rfl ?_ | refine WL.nil ?_ | refine WC.skip ?_ | refine WC.block ?_ | refine WC.condT rfl ?_ | refine WC.condF rfl ?_ | refine WL.off rfl rfl rfl ?_ | refine WL.off0 rfl rfl ?_ | refine WC.exit ?_ | refine blk_hit ?_ | refine blk_miss rfl ?_ | refine WC.ret ?_)
    refine WC.loop (Nat × Option Addr × Nat) (fun (v, ar, cr) => [(0, .int .i64 (g.length : Nat)), (5, .slice (some ⟨bn, 0, none⟩) g.length g.length), (6, .slice a best.length c), (7, .int .i64 (S : Nat)), (8, .slice ar (elsTo S v).length cr), (9, .bool (clq g S v)), (10, .int .i64 (v : Nat))])
      (fun (v, ar, cr) w' => v ≤ g.length ∧ Hp w w' [.row 3 1 (.slice ar (elsTo S v).length cr) (elsTo S v).length (ints (elsTo S v)), .row 3 1 (.slice a best.length c) best.length (ints best), .blk bn (.cells (ints g).toArray 3 (0, 0))]) (fun (v, ar, cr) => g.length - v) (0, none, 0)
      ⟨rfl, rfl, rfl, rfl, rfl, rfl, rfl, rfl⟩ ⟨Nat.zero_le _, hp3⟩ ?_
    rintro ⟨v, ar, cr⟩ w4 ⟨hv, hp4⟩
    repeat (first | refine WC.seq ?_ | refine WC.reg ?_ | refine WL.pure rfl rfl rfl ?_ | refine WL.nil ?_ | refine WC.skip ?_ | refine WC.block ?_ | refine WC.condT rfl ?_ | refine WC.condF rfl ?_ | refine WL.off rfl rfl rfl ?_ | refine WL.off0 rfl rfl ?_ | refine WC.exit ?_ | refine blk_hit ?_ | refine blk_miss rfl ?_ | refine WC.ret ?_)
    refine WC.cond rfl (fun hc2 => ?_) (fun hc2 => ?_)
    · have hv : v < g.length := by have := of_decide_eq_true hc2; omega
      have step2 : IntKind.i64.wrap ((v : Int) + 1) = ((v + 1 : Nat) : Int) := by rw [wrap_i64_in (by omega) (by omega)]; omega
      have hgv := lt_pow16 hn (hg.lt v)
      repeat (first | refine WC.seq ?_ | refine WC.reg ?_ | refine WL.pure rfl rfl rfl ?_ | refine WL.nil ?_ | refine WC.skip ?_ | refine WC.block ?_ | refine WC.condT rfl ?_ | refine WC.condF rfl ?_ | refine WL.off rfl rfl rfl ?_ | refine WL.off0 rfl rfl ?_ | refine WC.exit ?_ | refine blk_hit ?_ | refine blk_miss rfl ?_ | refine WC.ret ?_)
      refine WL.callP rfl rfl rfl rfl rfl ent51 (Has_any S v (by omega) _) ?_
      repeat (first | refine WC.seq ?_ | refine WC.reg ?_ | refine WL.pure rfl rfl rfl ?_ | refine WL.nil ?_ | refine WC.skip ?_ | refine WC.block ?_ | refine WC.condT rfl ?_ | refine WC.condF rfl ?_ | refine WL.off rfl rfl rfl ?_ | refine WL.off0 rfl rfl ?_ | refine WC.exit ?_ | refine blk_hit ?_ | refine blk_miss rfl ?_ | refine WC.ret ?_)
      refine WC.cond rfl (fun hb1 => ?_) (fun hb1 => ?_)
      · have hi2 : elsTo S (v + 1) = elsTo S v ++ [v] := by rw [elsTo_succ, hb1]; rfl
        have hia : ints (elsTo S v ++ [v]) = ints (elsTo S v) ++ [.int .i64 v] := by simp [ints]
        have hel : (elsTo S v).length ≤ v := by unfold elsTo; exact Nat.le_trans (List.length_filter_le _ _) (by simp)
        repeat (first | refine WC.seq ?_ | refine WC.reg ?_ | refine WL.pure rfl rfl rfl ?_ | refine WL.nil ?_ | refine WC.skip ?_ | refine WC.block ?_ | refine WC.condT rfl ?_ | refine WC.condF rfl ?_ | refine WL.off rfl rfl rfl ?_ | refine WL.off0 rfl rfl ?_ | refine WC.exit ?_ | refine blk_hit ?_ | refine blk_miss rfl ?_ | refine WC.ret ?_)
        refine WL.buildS (cs := [.int .i64 v]) rfl rfl rfl rfl rfl rfl rfl rfl rfl ?_
        intro b2 w5 hb2
        have hp5 := hp4.new hb2
        refine WL.append 1 hp5 rfl rfl rfl rfl rfl Nat.zero_lt_one rfl rfl rfl (news := [.int .i64 v]) ?_ rfl ?_ ?_ ?_ ?_
        · exact Sl.of_obj (hp5.obj 0 rfl) (fun q u hq => by simpa using hq)
        · exact Cells.cons rfl Cells.nil
        · unfold maxLen; omega
        · show ((elsTo S v).length + 1) * 8 ≤ _; omega
        intro a' cap' w6 hp6 hg6
        have hp6 := hp6.tail
        have e1 : bits .andNot .i64 (S : Int) ((2 ^ v : Nat) : Int) = ((bd S (2 ^ v) : Nat) : Int) := andNot_i64 (by omega) (by have := Nat.pow_lt_pow_right (a := 2) (by decide) (show v < 16 by omega); omega)
        have e2 : bits .andNot .i64 ((bd S (2 ^ v) : Nat) : Int) ((g.getD v 0 : Nat) : Int) = ((bd (bd S (2 ^ v)) (g.getD v 0) : Nat) : Int) := andNot_i64 (by have := bd_le S (2 ^ v); omega) (by omega)
        have fin : ∀ (r : Bool) (w7 : World), clq g S (v + 1) = r → True := fun _ _ _ => trivial
        repeat (first | refine WC.seq ?_ | refine WC.reg ?_ | refine WL.pure rfl rfl rfl ?_ | refine WL.nil ?_ | refine WC.skip ?_ | refine WC.block ?_ | refine WC.condT rfl ?_ | refine WC.condF rfl ?_ | refine WL.off rfl rfl rfl ?_ | refine WL.off0 rfl rfl ?_ | refine WC.exit ?_ | refine blk_hit ?_ | refine blk_miss rfl ?_ | refine WC.ret ?_)
        refine WC.regQ (fun w7 => Hp w w7 _) mixed (by kernel_rfl) (fun w7 hw7 => hp6.keep hw7) ?_
        repeat (first | refine WQ.pure rfl rfl rfl ?_ | refine WQ.off rfl rfl rfl ?_ | refine WQ.nil ?_)
        refine WQ.split 33 rfl (fun hq => ?_) (fun hq => ?_)
        · repeat (first | refine WQ.pure rfl rfl rfl ?_ | refine WQ.off rfl rfl rfl ?_ | refine WQ.nil ?_)
          refine WQ.call rfl rfl rfl rfl rfl ent52 (fun w7 h7 => (bit_any v (by omega) w7).mono fun u w8 ⟨h5, h6⟩ => ⟨h5, by rw [h6]; exact h7⟩) ?_
          repeat (first | refine WQ.pure rfl rfl rfl ?_ | refine WQ.off rfl rfl rfl ?_ | refine WQ.nil ?_)
          refine WQ.known (d := 37) (congrArg (fun z => some (Value.int .i64 z)) e1) ?_
          refine WQ.ixload rfl (fun _ => rfl) rfl rfl rfl rfl rfl rfl rfl hv rfl rfl (fun w7 h7 => Sl.cell (Sl.of_obj (h7.obj 2 rfl) (fun i u h => by simpa using h)) (ints_at hv)) ?_
          repeat (first | refine WQ.pure rfl rfl rfl ?_ | refine WQ.off rfl rfl rfl ?_ | refine WQ.nil ?_)
          have hi : decide (bits .andNot .i64 ((bd S (2 ^ v) : Nat) : Int) ((g.getD v 0 : Nat) : Int) = 0) = clq g S (v + 1) := by
            rw [e2, clq_succ, hq, hb1, Bool.eq_iff_iff]; simp; try omega
          intro w7 hp7
          repeat (first | refine WC.seq ?_ | refine WC.reg ?_ | refine WL.pure rfl rfl rfl ?_ | refine WL.nil ?_ | refine WC.skip ?_ | refine WC.block ?_ | refine WC.condT rfl ?_ | refine WC.condF rfl ?_ | refine WL.off rfl rfl rfl ?_ | refine WL.off0 rfl rfl ?_ | refine WC.exit ?_ | refine blk_hit ?_ | refine blk_miss rfl ?_ | refine WC.ret ?_)
          exact ⟨(v + 1, a', cap'), by show g.length - (v + 1) < g.length - v; omega, ⟨rfl, rfl, rfl, rfl, by rw [hi2, List.length_append]; rfl, congrArg (fun z => some (Value.bool z)) hi, congrArg (fun z => some (Value.int .i64 z)) step2, rfl⟩, hv, by rw [hi2, List.length_append, hia]; exact hp7⟩
        · have hi : clq g S (v + 1) = false := by rw [clq_succ, hq]; rfl
          repeat (first | refine WQ.pure rfl rfl rfl ?_ | refine WQ.off rfl rfl rfl ?_ | refine WQ.nil ?_)
          intro w7 hp7
          repeat (first | refine WC.seq ?_ | refine WC.reg ?_ | refine WL.pure rfl rfl rfl ?_ | refine WL.nil ?_ | refine WC.skip ?_ | refine WC.block ?_ | refine WC.condT rfl ?_ | refine WC.condF rfl ?_ | refine WL.off rfl rfl rfl ?_ | refine WL.off0 rfl rfl ?_ | refine WC.exit ?_ | refine blk_hit ?_ | refine blk_miss rfl ?_ | refine WC.ret ?_)
          exact ⟨(v + 1, a', cap'), by show g.length - (v + 1) < g.length - v; omega, ⟨rfl, rfl, rfl, rfl, by rw [hi2, List.length_append]; rfl, congrArg (fun z => some (Value.bool z)) hi.symm, congrArg (fun z => some (Value.int .i64 z)) step2, rfl⟩, hv, by rw [hi2, List.length_append, hia]; exact hp7⟩
      · have hi : clq g S (v + 1) = clq g S v := by rw [clq_succ, hb1]; simp
        have hi2 : elsTo S (v + 1) = elsTo S v := by rw [elsTo_succ, hb1]; simp
        repeat (first | refine WC.seq ?_ | refine WC.reg ?_ | refine WL.pure rfl rfl rfl ?_ | refine WL.nil ?_ | refine WC.skip ?_ | refine WC.block ?_ | refine WC.condT rfl ?_ | refine WC.condF rfl ?_ | refine WL.off rfl rfl rfl ?_ | refine WL.off0 rfl rfl ?_ | refine WC.exit ?_ | refine blk_hit ?_ | refine blk_miss rfl ?_ | refine WC.ret ?_)
        exact ⟨(v + 1, ar, cr), by show g.length - (v + 1) < g.length - v; omega, ⟨rfl, rfl, rfl, rfl, by rw [hi2]; rfl, congrArg (fun z => some (Value.bool z)) hi.symm, congrArg (fun z => some (Value.int .i64 z)) step2, rfl⟩, hv, by rw [hi2]; exact hp4⟩
    · have hv : v = g.length := by have := of_decide_eq_false hc2; omega
      subst hv
      repeat (first | refine WC.seq ?_ | refine WC.reg ?_ | refine WL.pure rfl rfl rfl ?_ | refine WL.nil ?_ | refine WC.skip ?_ | refine WC.block ?_ | refine WC.condT rfl ?_ | refine WC.condF rfl ?_ | refine WL.off rfl rfl rfl ?_ | refine WL.off0 rfl rfl ?_ | refine WC.exit ?_ | refine blk_hit ?_ | refine blk_miss rfl ?_ | refine WC.ret ?_)
      refine WL.split 46 rfl (fun hq => ?_) (fun hq => ?_)
      · have hf : fr (nb g) S = true := by rw [← clq_fr hmk hS]; exact hq
        have hel := elsTo_all (c := S) (n := g.length) (by omega) hS
        have hll := els_le S
        rw [hel] at hp4
        have yes : (best.length < (els S).length ∨ (els S).length = best.length ∧ cmpL (els S) best < 0) → els S = clR (nb g) (S + 1) := by
          intro h; rw [clR_succ, ← hbest, clStep, if_pos hf, if_pos h]
        have no : ¬ (best.length < (els S).length ∨ (els S).length = best.length ∧ cmpL (els S) best < 0) → best = clR (nb g) (S + 1) := by
          intro h; rw [clR_succ, ← hbest, clStep, if_pos hf, if_neg h]
        repeat (first | refine WC.seq ?_ | refine WC.reg ?_ | refine WL.pure rfl rfl rfl ?_ | refine WL.nil ?_ | refine WC.skip ?_ | refine WC.block ?_ | refine WC.condT rfl ?_ | refine WC.condF rfl ?_ | refine WL.off rfl rfl rfl ?_ | refine WL.off0 rfl rfl ?_ | refine WC.exit ?_ | refine blk_hit ?_ | refine blk_miss rfl ?_ | refine WC.ret ?_)
        refine WL.split 52 rfl (fun h1 => ?_) (fun h1 => ?_)
        · have h1 : best.length < (els S).length := by rw [← hel]; have := of_decide_eq_true h1; omega
          repeat (first | refine WC.seq ?_ | refine WC.reg ?_ | refine WL.pure rfl rfl rfl ?_ | refine WL.nil ?_ | refine WC.skip ?_ | refine WC.block ?_ | refine WC.condT rfl ?_ | refine WC.condF rfl ?_ | refine WL.off rfl rfl rfl ?_ | refine WL.off0 rfl rfl ?_ | refine WC.exit ?_ | refine blk_hit ?_ | refine blk_miss rfl ?_ | refine WC.ret ?_)
          exact ⟨(S + 1, els S, ar, cr), by show 2 ^ g.length - (S + 1) < 2 ^ g.length - S; omega, ⟨rfl, rfl, by rw [hel]; rfl, congrArg (fun z => some (Value.int .i64 z)) step, rfl⟩, hS, yes (.inl h1), hp4.pick [0, 2] (by decide)⟩
        · have h1 : ¬ best.length < (els S).length := by rw [← hel]; have := of_decide_eq_false h1; omega
          repeat (first | refine WC.seq ?_ | refine WC.reg ?_ | refine WL.pure rfl rfl rfl ?_ | refine WL.nil ?_ | refine WC.skip ?_ | refine WC.block ?_ | refine WC.condT rfl ?_ | refine WC.condF rfl ?_ | refine WL.off rfl rfl rfl ?_ | refine WL.off0 rfl rfl ?_ | refine WC.exit ?_ | refine blk_hit ?_ | refine blk_miss rfl ?_ | refine WC.ret ?_)
          refine WL.split 58 rfl (fun h2 => ?_) (fun h2 => ?_)
          · have h2 : (els S).length = best.length := by rw [← hel]; simp at h2; omega
            repeat (first | refine WC.seq ?_ | refine WC.reg ?_ | refine WL.pure rfl rfl rfl ?_ | refine WL.nil ?_ | refine WC.skip ?_ | refine WC.block ?_ | refine WC.condT rfl ?_ | refine WC.condF rfl ?_ | refine WL.off rfl rfl rfl ?_ | refine WL.off0 rfl rfl ?_ | refine WC.exit ?_ | refine blk_hit ?_ | refine blk_miss rfl ?_ | refine WC.ret ?_)
            refine WL.call rfl rfl rfl rfl rfl ent53 (by rw [hel]; exact lessList_any ar a cr c (els S) best w4 (Sl.of_row (hp4.at 0 rfl)) (Sl.of_row (hp4.at 1 rfl)) (by omega) h2.symm) ?_
            rintro _ w8 ⟨hp8, rfl⟩
            have hp8 := hp4.comb hp8
            repeat (first | refine WC.seq ?_ | refine WC.reg ?_ | refine WL.pure rfl rfl rfl ?_ | refine WL.nil ?_ | refine WC.skip ?_ | refine WC.block ?_ | refine WC.condT rfl ?_ | refine WC.condF rfl ?_ | refine WL.off rfl rfl rfl ?_ | refine WL.off0 rfl rfl ?_ | refine WC.exit ?_ | refine blk_hit ?_ | refine blk_miss rfl ?_ | refine WC.ret ?_)
            refine WC.cond rfl (fun h3 => ?_) (fun h3 => ?_)
            · have h3 : cmpL (els S) best < 0 := of_decide_eq_true h3
              repeat (first | refine WC.seq ?_ | refine WC.reg ?_ | refine WL.pure rfl rfl rfl ?_ | refine WL.nil ?_ | refine WC.skip ?_ | refine WC.block ?_ | refine WC.condT rfl ?_ | refine WC.condF rfl ?_ | refine WL.off rfl rfl rfl ?_ | refine WL.off0 rfl rfl ?_ | refine WC.exit ?_ | refine blk_hit ?_ | refine blk_miss rfl ?_ | refine WC.ret ?_)
              exact ⟨(S + 1, els S, ar, cr), by show 2 ^ g.length - (S + 1) < 2 ^ g.length - S; omega, ⟨rfl, rfl, by rw [hel]; rfl, congrArg (fun z => some (Value.int .i64 z)) step, rfl⟩, hS, yes (.inr ⟨h2, h3⟩), hp8.pick [0, 2] (by decide)⟩
            · have h3 : ¬ cmpL (els S) best < 0 := of_decide_eq_false h3
              repeat (first | refine WC.seq ?_ | refine WC.reg ?_ | refine WL.pure rfl rfl rfl ?_ | refine WL.nil ?_ | refine WC.skip ?_ | refine WC.block ?_ | refine WC.condT rfl ?_ | refine WC.condF rfl ?_ | refine WL.off rfl rfl rfl ?_ | refine WL.off0 rfl rfl ?_ | refine WC.exit ?_ | refine blk_hit ?_ | refine blk_miss rfl ?_ | refine WC.ret ?_)
              exact ⟨(S + 1, best, a, c), by show 2 ^ g.length - (S + 1) < 2 ^ g.length - S; omega, ⟨rfl, rfl, rfl, congrArg (fun z => some (Value.int .i64 z)) step, rfl⟩, hS, no (fun h => h.elim h1 (fun h => h3 h.2)), hp8.tail⟩
          · have h2 : (els S).length ≠ best.length := by rw [← hel]; simp at h2; omega
            repeat (first | refine WC.seq ?_ | refine WC.reg ?_ | refine WL.pure rfl rfl rfl ?_ | refine WL.nil ?_ | refine WC.skip ?_ | refine WC.block ?_ | refine WC.condT rfl ?_ | refine WC.condF rfl ?_ | refine WL.off rfl rfl rfl ?_ | refine WL.off0 rfl rfl ?_ | refine WC.exit ?_ | refine blk_hit ?_ | refine blk_miss rfl ?_ | refine WC.ret ?_)
            exact ⟨(S + 1, best, a, c), by show 2 ^ g.length - (S + 1) < 2 ^ g.length - S; omega, ⟨rfl, rfl, rfl, congrArg (fun z => some (Value.int .i64 z)) step, rfl⟩, hS, no (fun h => h.elim h1 (fun h => h2 h.1)), hp4.tail⟩
      · repeat (first | refine WC.seq ?_ | refine WC.reg ?_ | refine WL.pure rfl rfl rfl ?_ | refine WL.nil ?_ | refine WC.skip ?_ | refine WC.block ?_ | refine WC.condT rfl ?_ | refine WC.condF rfl ?_ | refine WL.off rfl rfl rfl ?_ | refine WL.off0 rfl rfl ?_ | refine WC.exit ?_ | refine blk_hit ?_ | refine blk_miss rfl ?_ | refine WC.ret ?_)
        refine ⟨(S + 1, best, a, c), by show 2 ^ g.length - (S + 1) < 2 ^ g.length - S; omega, ⟨rfl, rfl, rfl, congrArg (fun z => some (Value.int .i64 z)) step, rfl⟩, hS, ?_, hp4.tail⟩
        rw [clR_succ, ← hbest, clStep, if_neg (by rw [← clq_fr hmk hS, hq]; decide)]
  · have hS : S = 2 ^ g.length := by have := of_decide_eq_false hc; rw [esh] at this; omega
    subst hS
    subst hbest
    repeat (first | refine WC.seq ?_ | refine WC.reg ?_ | refine WL.pure rfl rfl rfl ?_ | refine WL.nil ?_ | refine WC.skip ?_ | refine WC.block ?_ | refine WC.condT rfl ?_ | refine WC.condF rfl ?_ | refine WL.off rfl rfl rfl ?_ | refine WL.off0 rfl rfl ?_ | refine WC.exit ?_ | refine blk_hit ?_ | refine blk_miss rfl ?_ | refine WC.ret ?_)
    exact Res.one rfl rfl rfl ⟨a, c, hp3.pick [0] (by decide), rfl⟩
end Go.Proofs.YtdnkkflpgebfbaaDoor
