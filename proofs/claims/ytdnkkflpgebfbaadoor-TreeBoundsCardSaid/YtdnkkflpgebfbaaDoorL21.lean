/- The walk of 'TreeOrders'. -/
import Derived.Test.YtdnkkflpgebfbaaDoorL19
import Derived.Test.YtdnkkflpgebfbaaDoorL20
namespace Go.Proofs.YtdnkkflpgebfbaaDoor
open Go.W Go.Tree
set_option maxRecDepth 100000
attribute [local irreducible] WC WL WQ WS WH

theorem zs_cells (xs : List Int) : Cells (zs xs) := by
  intro u hu
  simp only [zs, List.mem_map] at hu
  obtain ⟨x, _, rfl⟩ := hu
  rfl
theorem zs_take (xs : List Int) (m : Nat) : (zs xs).take m = zs (xs.take m) := by simp [zs, List.map_take]

theorem TreeOrders_any (ea oa : Option Addr) (ce co : Nat) (n : Int) (es : List Ed) (o : List Int) (w : World) (hs : Sl w ea (prs es)) (hce : es.length ≤ ce) (ho : Sl w oa (zs o)) (hco : o.length ≤ co) (hT : Tb w) :
    Ret Tryd.prog 9 [.agg #[.int .i64 n, .slice ea es.length ce], .slice oa o.length co] w fun v w' => v = .bool true ∧ Hp w w' [] := by
  generalize hfs : es.take 101 = fs
  have hfl : fs.length ≤ 101 := by rw [← hfs, List.length_take]; omega
  have hf62 : fs.length ≤ 4611686018427387904 := by omega
  generalize hls : o.take 20 = ls
  have hll : ls.length = min o.length 20 := by rw [← hls, List.length_take]; omega
  refine enter Tryd.func9 rfl rfl ⟨rfl, rfl⟩ rfl ?_
  repeat (first | refine WC.seq ?_ | refine WC.reg ?_ | refine WL.pure rfl rfl rfl ?_ | refine WL.nil ?_ | refine WC.skip ?_ | refine WC.block ?_ | refine WC.condT rfl ?_ | refine WC.condF rfl ?_ | refine WL.off rfl rfl rfl ?_ | refine WL.off0 rfl rfl ?_ | refine WC.exit ?_ | refine blk_hit ?_ | refine blk_miss rfl ?_ | refine WC.ret ?_)
  refine WL.box rfl rfl rfl ?_
  intro b2 w1 hb2
  have hp1 := (Hp.start w).new hb2
  repeat (first | refine WC.seq ?_ | refine WC.reg ?_ | refine WL.pure rfl rfl rfl ?_ | refine WL.nil ?_ | refine WC.skip ?_ | refine WC.block ?_ | refine WC.condT rfl ?_ | refine WC.condF rfl ?_ | refine WL.off rfl rfl rfl ?_ | refine WL.off0 rfl rfl ?_ | refine WC.exit ?_ | refine blk_hit ?_ | refine blk_miss rfl ?_ | refine WC.ret ?_)
  refine WC.mid ((Option Addr × Nat) × (Option Addr × Nat)) (fun ((ao, ca), (ag, cg)) => [(1, .slice oa o.length co), (2, .pointer (some ⟨b2, 0, none⟩)), (5, .slice ao fs.length ca), (6, .slice ag fs.length cg)])
    (fun ((ao, ca), (ag, cg)) w' => Hp w w' [.row 50 2 (.slice ao fs.length ca) fs.length (prs fs), .row 50 2 (.slice ag fs.length cg) fs.length (prs fs), .blk b2 (.cells #[.int .i64 n, .slice ea es.length ce] 24 (0, 0))]) ?_ ?_
  · refine WC.regH (fun w2 => Hp w w2 [.blk b2 (.cells #[.int .i64 n, .slice ea es.length ce] 24 (0, 0))]) mixed (by kernel_rfl) (fun w2 hw2 hh2 => ?_)
    have hp2 := hp1.keep hw2
    refine WH.pure 0 (by kernel_rfl) rfl (by kernel_rfl) rfl rfl rfl hp2 ?_
    refine WH.load 1 (by kernel_rfl) rfl (by kernel_rfl) rfl rfl rfl rfl rfl (fun w3 h3 => cell_of_obj (h3.obj 0 rfl) rfl) hp2 ?_
    refine WH.pure 3 (by kernel_rfl) rfl (by kernel_rfl) rfl rfl rfl hp2 ?_
    refine WH.load 4 (by kernel_rfl) rfl (by kernel_rfl) rfl rfl rfl rfl rfl (fun w3 h3 => cell_of_obj (h3.obj 0 rfl) rfl) hp2 ?_
    refine WH.one 2 rfl (by kernel_rfl) ?_
    refine WL.call rfl rfl rfl rfl rfl ent13 (lines_any ea ce es w2 (hs.hp hp2) hce) ?_
    rintro _ w3 ⟨a3, c3, hp3, rfl⟩
    rw [hfs] at hp3 ⊢
    refine WL.nil ⟨hp2.call hp3.below, ?_⟩
    have hp3 := hp2.comb hp3
    refine WH.one 5 rfl (by kernel_rfl) ?_
    refine WL.call rfl rfl rfl rfl rfl ent13 (lines_any ea ce es w3 (hs.hp hp3) hce) ?_
    rintro _ w4 ⟨a4, c4, hp4, rfl⟩
    rw [hfs] at hp4 ⊢
    refine WL.nil ⟨(hp3.call hp4.below).tail, ?_⟩
    have hp4 := hp3.comb hp4
    refine WH.one 6 rfl (by kernel_rfl) (WL.pure rfl rfl rfl (WL.nil ⟨hp4.tail.tail, ?_⟩))
    refine WH.one 7 rfl (by kernel_rfl) (WL.pure rfl rfl rfl (WL.nil ⟨hp4.tail.tail, ?_⟩))
    refine WH.done (by kernel_rfl) ?_
    exact ⟨((a3, c3), (a4, c4)), ⟨rfl, rfl, rfl, rfl, rfl⟩, hp4.swap⟩
  · rintro ⟨⟨ao, ca⟩, ag, cg⟩ e1 w2 hsub hp2
    refine WC.sub hsub ?_
    have hm : min ((o.length : Nat) : Int) 20 = ((min o.length 20 : Nat) : Int) := by omega
    repeat (first | refine WC.seq ?_ | refine WC.reg ?_ | refine WL.pure rfl rfl rfl ?_ | refine WL.nil ?_ | refine WC.skip ?_ | refine WC.block ?_ | refine WC.condT rfl ?_ | refine WC.condF rfl ?_ | refine WL.off rfl rfl rfl ?_ | refine WL.off0 rfl rfl ?_ | refine WC.exit ?_ | refine blk_hit ?_ | refine blk_miss rfl ?_ | refine WC.ret ?_)
    refine WL.known (d := 25) (congrArg (fun z => some (Value.int .i64 z)) hm) ?_
    refine WL.sliceHi rfl rfl rfl rfl rfl rfl (by omega) ?_
    refine WL.append 0 (hp2.nilrow 3 1) rfl rfl rfl rfl rfl Nat.zero_lt_one rfl rfl rfl (news := zs ls) (by rw [← hls, ← zs_take]; exact (ho.hp hp2).take 20) (by rw [zs_len, hll]; exact (Nat.mul_one _).symm) (zs_cells _) (by unfold maxLen; omega) (by show (0 + min o.length 20) * 8 ≤ _; omega) ?_
    intro a7 c7 w3 hp3 hg3
    rw [Nat.zero_add, ← hll] at hp3 ⊢
    rw [List.nil_append] at hp3
    repeat (first | refine WC.seq ?_ | refine WC.reg ?_ | refine WL.pure rfl rfl rfl ?_ | refine WL.nil ?_ | refine WC.skip ?_ | refine WC.block ?_ | refine WC.condT rfl ?_ | refine WC.condF rfl ?_ | refine WL.off rfl rfl rfl ?_ | refine WL.off0 rfl rfl ?_ | refine WC.exit ?_ | refine blk_hit ?_ | refine blk_miss rfl ?_ | refine WC.ret ?_)
    refine WL.append 0 (hp3.nilrow 3 1) rfl rfl rfl rfl rfl Nat.zero_lt_one rfl rfl rfl (news := zs ls) (Sl.of_row (hp3.at 0 rfl)) (by rw [zs_len]; exact (Nat.mul_one _).symm) (zs_cells _) (by unfold maxLen; omega) (by show (0 + ls.length) * 8 ≤ _; omega) ?_
    intro a8 c8 w4 hp4 hg4
    rw [Nat.zero_add] at hp4 ⊢
    rw [List.nil_append] at hp4
    have hp4' : Hp w w4 [.row 3 1 (.slice a8 ls.length c8) ls.length (zs ls), .row 3 1 (.slice a7 ls.length c7) ls.length (zs ls), .row 50 2 (.slice ao fs.length ca) fs.length (prs fs), .row 50 2 (.slice ag fs.length cg) fs.length (prs fs), .blk b2 (.cells #[.int .i64 n, .slice ea es.length ce] 24 (0, 0))] := hp4
    clear hp4
    have L0 : ∀ w' L, Hp w w' ([.row 3 1 (.slice a8 ls.length c8) ls.length (zs ls), .row 3 1 (.slice a7 ls.length c7) ls.length (zs ls), .row 50 2 (.slice ao fs.length ca) fs.length (prs fs), .row 50 2 (.slice ag fs.length cg) fs.length (prs fs), .blk b2 (.cells #[.int .i64 n, .slice ea es.length ce] 24 (0, 0))] ++ L) →
        Sl w' a8 (zs ls) ∧ Sl w' a7 (zs ls) ∧ Sl w' ao (prs fs) ∧ Sl w' ag (prs fs) ∧ Tb w' ∧ w'.heap[b2]? = some (.cells #[.int .i64 n, .slice ea es.length ce] 24 (0, 0)) := fun w' L h =>
      ⟨Sl.of_row (h.at 0 rfl), Sl.of_row (h.at 1 rfl), Sl.of_row (h.at 2 rfl), Sl.of_row (h.at 3 rfl), hT.below h.below, h.obj 4 rfl⟩
    obtain ⟨s8, s7, sO, sG, hT4, hB4⟩ := L0 w4 [] hp4'
    repeat (first | refine WC.seq ?_ | refine WC.reg ?_ | refine WL.pure rfl rfl rfl ?_ | refine WL.nil ?_ | refine WC.skip ?_ | refine WC.block ?_ | refine WC.condT rfl ?_ | refine WC.condF rfl ?_ | refine WL.off rfl rfl rfl ?_ | refine WL.off0 rfl rfl ?_ | refine WC.exit ?_ | refine blk_hit ?_ | refine blk_miss rfl ?_ | refine WC.ret ?_)
    refine WL.loadB rfl rfl rfl rfl rfl hB4 rfl ?_
    repeat (first | refine WC.seq ?_ | refine WC.reg ?_ | refine WL.pure rfl rfl rfl ?_ | refine WL.nil ?_ | refine WC.skip ?_ | refine WC.block ?_ | refine WC.condT rfl ?_ | refine WC.condF rfl ?_ | refine WL.off rfl rfl rfl ?_ | refine WL.off0 rfl rfl ?_ | refine WC.exit ?_ | refine blk_hit ?_ | refine blk_miss rfl ?_ | refine WC.ret ?_)
    refine WL.call rfl rfl rfl rfl rfl ent31 (Order_any ag a8 cg c8 n fs ls w4 sG hf62 s8 (by omega) hT4) ?_
    rintro _ w5 ⟨hp5, rfl⟩
    have hp5 := hp4'.call hp5.below
    obtain ⟨s8, s7, sO, sG, hT5, hB5⟩ := L0 w5 [] hp5
    obtain ⟨k9, e9, hov⟩ : ∃ k e, ordV n fs ls = .tuple #[.int .i64 k, .int .i64 e] := by
      unfold ordV
      split
      · exact ⟨_, _, rfl⟩
      · split
        · exact ⟨_, _, rfl⟩
        · split
          · exact ⟨_, _, rfl⟩
          · exact ⟨_, _, rfl⟩
    rw [hov]
    repeat (first | refine WC.seq ?_ | refine WC.reg ?_ | refine WL.pure rfl rfl rfl ?_ | refine WL.nil ?_ | refine WC.skip ?_ | refine WC.block ?_ | refine WC.condT rfl ?_ | refine WC.condF rfl ?_ | refine WL.off rfl rfl rfl ?_ | refine WL.off0 rfl rfl ?_ | refine WC.exit ?_ | refine blk_hit ?_ | refine blk_miss rfl ?_ | refine WC.ret ?_)
    refine WL.call rfl rfl rfl rfl rfl ent15 (edges_any ag ao cg ca fs fs w5 sG sO hf62) ?_
    rintro _ w6 ⟨hp6, rfl⟩
    rw [decide_eq_true rfl]
    have hp6 := hp5.call hp6.below
    obtain ⟨s8, s7, sO, sG, hT6, hB6⟩ := L0 w6 [] hp6
    repeat (first | refine WC.seq ?_ | refine WC.reg ?_ | refine WL.pure rfl rfl rfl ?_ | refine WL.nil ?_ | refine WC.skip ?_ | refine WC.block ?_ | refine WC.condT rfl ?_ | refine WC.condF rfl ?_ | refine WL.off rfl rfl rfl ?_ | refine WL.off0 rfl rfl ?_ | refine WC.exit ?_ | refine blk_hit ?_ | refine blk_miss rfl ?_ | refine WC.ret ?_)
    refine WL.call rfl rfl rfl rfl rfl ent21 (ints_any a8 a7 c8 c7 ls ls w6 s8 s7 (by omega)) ?_
    rintro _ w7 ⟨hp7, rfl⟩
    rw [decide_eq_true rfl]
    have hp7 := hp6.call hp7.below
    obtain ⟨s8, s7, sO, sG, hT7, hB7⟩ := L0 w7 [] hp7
    repeat (first | refine WC.seq ?_ | refine WC.reg ?_ | refine WL.pure rfl rfl rfl ?_ | refine WL.nil ?_ | refine WC.skip ?_ | refine WC.block ?_ | refine WC.condT rfl ?_ | refine WC.condF rfl ?_ | refine WL.off rfl rfl rfl ?_ | refine WL.off0 rfl rfl ?_ | refine WC.exit ?_ | refine blk_hit ?_ | refine blk_miss rfl ?_ | refine WC.ret ?_)
    refine WL.loadB rfl rfl rfl rfl rfl hB7 rfl ?_
    repeat (first | refine WC.seq ?_ | refine WC.reg ?_ | refine WL.pure rfl rfl rfl ?_ | refine WL.nil ?_ | refine WC.skip ?_ | refine WC.block ?_ | refine WC.condT rfl ?_ | refine WC.condF rfl ?_ | refine WL.off rfl rfl rfl ?_ | refine WL.off0 rfl rfl ?_ | refine WC.exit ?_ | refine blk_hit ?_ | refine blk_miss rfl ?_ | refine WC.ret ?_)
    refine WL.call rfl rfl rfl rfl rfl ent28 (Best_any ag cg n fs w7 sG hf62 hT7) ?_
    intro v8 w8 hBI
    unfold BestIs at hBI
    have fin : ∀ w', Tb w' → (∀ w'', Hp w' w'' [] → Hp w w'' []) → Ret Tryd.prog 19 [] w' fun v w'' => v = .bool true ∧ Hp w w'' [] := fun w' hTw hh => (awake_any w' hTw).mono fun v w'' ⟨h1, h2⟩ => ⟨h1, hh w'' h2⟩
    cases hmk : mkG n fs with
    | none =>
      rw [hmk] at hBI
      obtain ⟨hp8, rfl⟩ := hBI
      have hp8 := hp7.call hp8.below
      obtain ⟨s8, s7, sO, sG, hT8, hB8⟩ := L0 w8 [] hp8
      have he : k9 = 0 ∧ e9 = 2 := by
        unfold ordV at hov
        rw [hmk] at hov
        simp at hov
        exact ⟨hov.1.symm, hov.2.symm⟩
      obtain ⟨rfl, rfl⟩ := he
      repeat (first | refine WC.seq ?_ | refine WC.reg ?_ | refine WL.pure rfl rfl rfl ?_ | refine WL.nil ?_ | refine WC.skip ?_ | refine WC.block ?_ | refine WC.condT rfl ?_ | refine WC.condF rfl ?_ | refine WL.off rfl rfl rfl ?_ | refine WL.off0 rfl rfl ?_ | refine WC.exit ?_ | refine blk_hit ?_ | refine blk_miss rfl ?_ | refine WC.ret ?_)
      refine WL.call rfl rfl rfl rfl rfl ent15 (edges_any ag ao cg ca fs fs w8 sG sO hf62) ?_
      rintro _ w9 ⟨hp9, rfl⟩
      rw [decide_eq_true rfl]
      have hp9 := hp8.call hp9.below
      obtain ⟨s8, s7, sO, sG, hT9, hB9⟩ := L0 w9 [] hp9
      repeat (first | refine WC.seq ?_ | refine WC.reg ?_ | refine WL.pure rfl rfl rfl ?_ | refine WL.nil ?_ | refine WC.skip ?_ | refine WC.block ?_ | refine WC.condT rfl ?_ | refine WC.condF rfl ?_ | refine WL.off rfl rfl rfl ?_ | refine WL.off0 rfl rfl ?_ | refine WC.exit ?_ | refine blk_hit ?_ | refine blk_miss rfl ?_ | refine WC.ret ?_)
      refine WL.loadB rfl rfl rfl rfl rfl hB9 rfl ?_
      repeat (first | refine WC.seq ?_ | refine WC.reg ?_ | refine WL.pure rfl rfl rfl ?_ | refine WL.nil ?_ | refine WC.skip ?_ | refine WC.block ?_ | refine WC.condT rfl ?_ | refine WC.condF rfl ?_ | refine WL.off rfl rfl rfl ?_ | refine WL.off0 rfl rfl ?_ | refine WC.exit ?_ | refine blk_hit ?_ | refine blk_miss rfl ?_ | refine WC.ret ?_)
      refine WL.call rfl rfl rfl rfl rfl ent18 (Graph_any ao ca n fs w9 sO hf62) ?_
      rintro _ wA ⟨hpA, rfl⟩
      rw [hmk]
      have hpA := hp9.call hpA.below
      repeat (first | refine WC.seq ?_ | refine WC.reg ?_ | refine WL.pure rfl rfl rfl ?_ | refine WL.nil ?_ | refine WC.skip ?_ | refine WC.block ?_ | refine WC.condT rfl ?_ | refine WC.condF rfl ?_ | refine WL.off rfl rfl rfl ?_ | refine WL.off0 rfl rfl ?_ | refine WC.exit ?_ | refine blk_hit ?_ | refine blk_miss rfl ?_ | refine WC.ret ?_)
      refine WL.call rfl rfl rfl rfl rfl ent19 (fin wA (hT.below hpA.below) (fun w'' h => (hpA.call h.below).nil')) ?_
      rintro _ wB ⟨rfl, hpB⟩
      repeat (first | refine WC.seq ?_ | refine WC.reg ?_ | refine WL.pure rfl rfl rfl ?_ | refine WL.nil ?_ | refine WC.skip ?_ | refine WC.block ?_ | refine WC.condT rfl ?_ | refine WC.condF rfl ?_ | refine WL.off rfl rfl rfl ?_ | refine WL.off0 rfl rfl ?_ | refine WC.exit ?_ | refine blk_hit ?_ | refine blk_miss rfl ?_ | refine WC.ret ?_)
      exact Res.one rfl rfl rfl ⟨rfl, hpB⟩
    | some g =>
      rw [hmk] at hBI
      obtain ⟨hg, hgn, hn0, _, _⟩ := mkG_gr hmk
      obtain ⟨m, rfl⟩ := Int.eq_ofNat_of_zero_le hn0
      have hgn : g.length = m := by simpa using hgn
      subst hgn
      obtain ⟨aB, cB, hp8, rfl⟩ := hBI
      have hrowB : Hp w w8 ([.row 3 1 (.slice a8 ls.length c8) ls.length (zs ls), .row 3 1 (.slice a7 ls.length c7) ls.length (zs ls), .row 50 2 (.slice ao fs.length ca) fs.length (prs fs), .row 50 2 (.slice ag fs.length cg) fs.length (prs fs), .blk b2 (.cells #[.int .i64 (g.length : Nat), .slice ea es.length ce] 24 (0, 0))] ++ [.row 3 1 (.slice aB g.length cB) g.length (ints (bestO g))]) :=
        (hp7.comb hp8).pick [1, 2, 3, 4, 5, 0] (by decide)
      obtain ⟨s8, s7, sO, sG, hT8, hB8⟩ := L0 w8 _ hrowB
      repeat (first | refine WC.seq ?_ | refine WC.reg ?_ | refine WL.pure rfl rfl rfl ?_ | refine WL.nil ?_ | refine WC.skip ?_ | refine WC.block ?_ | refine WC.condT rfl ?_ | refine WC.condF rfl ?_ | refine WL.off rfl rfl rfl ?_ | refine WL.off0 rfl rfl ?_ | refine WC.exit ?_ | refine blk_hit ?_ | refine blk_miss rfl ?_ | refine WC.ret ?_)
      refine WL.call rfl rfl rfl rfl rfl ent15 (edges_any ag ao cg ca fs fs w8 sG sO hf62) ?_
      rintro _ w9 ⟨hp9, rfl⟩
      rw [decide_eq_true rfl]
      have hp9 := hrowB.call hp9.below
      obtain ⟨s8, s7, sO, sG, hT9, hB9⟩ := L0 w9 _ hp9
      repeat (first | refine WC.seq ?_ | refine WC.reg ?_ | refine WL.pure rfl rfl rfl ?_ | refine WL.nil ?_ | refine WC.skip ?_ | refine WC.block ?_ | refine WC.condT rfl ?_ | refine WC.condF rfl ?_ | refine WL.off rfl rfl rfl ?_ | refine WL.off0 rfl rfl ?_ | refine WC.exit ?_ | refine blk_hit ?_ | refine blk_miss rfl ?_ | refine WC.ret ?_)
      refine WL.loadB rfl rfl rfl rfl rfl hB9 rfl ?_
      repeat (first | refine WC.seq ?_ | refine WC.reg ?_ | refine WL.pure rfl rfl rfl ?_ | refine WL.nil ?_ | refine WC.skip ?_ | refine WC.block ?_ | refine WC.condT rfl ?_ | refine WC.condF rfl ?_ | refine WL.off rfl rfl rfl ?_ | refine WL.off0 rfl rfl ?_ | refine WC.exit ?_ | refine blk_hit ?_ | refine blk_miss rfl ?_ | refine WC.ret ?_)
      refine WL.call rfl rfl rfl rfl rfl ent18 (Graph_any ao ca _ fs w9 sO hf62) ?_
      rintro _ wA ⟨hpA, rfl⟩
      rw [hmk]
      have hpA := hp9.call hpA.below
      obtain ⟨s8, s7, sO, sG, hTA, hBA⟩ := L0 wA _ hpA
      repeat (first | refine WC.seq ?_ | refine WC.reg ?_ | refine WL.pure rfl rfl rfl ?_ | refine WL.nil ?_ | refine WC.skip ?_ | refine WC.block ?_ | refine WC.condT rfl ?_ | refine WC.condF rfl ?_ | refine WL.off rfl rfl rfl ?_ | refine WL.off0 rfl rfl ?_ | refine WC.exit ?_ | refine blk_hit ?_ | refine blk_miss rfl ?_ | refine WC.ret ?_)
      refine WL.loadB rfl rfl rfl rfl rfl hBA rfl ?_
      repeat (first | refine WC.seq ?_ | refine WC.reg ?_ | refine WL.pure rfl rfl rfl ?_ | refine WL.nil ?_ | refine WC.skip ?_ | refine WC.block ?_ | refine WC.condT rfl ?_ | refine WC.condF rfl ?_ | refine WL.off rfl rfl rfl ?_ | refine WL.off0 rfl rfl ?_ | refine WC.exit ?_ | refine blk_hit ?_ | refine blk_miss rfl ?_ | refine WC.ret ?_)
      refine WL.call rfl rfl rfl rfl rfl ent30 (RBest_any ao ca g fs wA sO hf62 hmk) ?_
      rintro _ wB ⟨aC, cC, hpB, rfl⟩
      have hpB := hpA.comb hpB
      have hbz : ∀ x : List Nat, ints x = zs (x.map fun (q : Nat) => (q : Int)) := fun x => by simp [ints, zs]
      have hbl : ((bestO g).map fun (q : Nat) => (q : Int)).length = g.length := by rw [List.length_map, bestO_len hg]
      have hints := ints_any aB aC cB cC ((bestO g).map fun (q : Nat) => (q : Int)) ((bestO g).map fun (q : Nat) => (q : Int)) wB (by rw [← hbz]; exact Sl.of_row (hpB.at 6 rfl)) (by rw [← hbz]; exact Sl.of_row (hpB.at 0 rfl)) (by rw [hbl]; have := hg.len; omega)
      rw [hbl] at hints
      refine WL.call rfl rfl rfl rfl rfl ent21 hints ?_
      rintro _ wC ⟨hpC, rfl⟩
      rw [decide_eq_true rfl]
      have hpC := (hpB.call hpC.below).tail
      obtain ⟨s8, s7, sO, sG, hTC, hBC⟩ := L0 wC _ hpC
      repeat (first | refine WC.seq ?_ | refine WC.reg ?_ | refine WL.pure rfl rfl rfl ?_ | refine WL.nil ?_ | refine WC.skip ?_ | refine WC.block ?_ | refine WC.condT rfl ?_ | refine WC.condF rfl ?_ | refine WL.off rfl rfl rfl ?_ | refine WL.off0 rfl rfl ?_ | refine WC.exit ?_ | refine blk_hit ?_ | refine blk_miss rfl ?_ | refine WC.ret ?_)
      refine WL.loadB rfl rfl rfl rfl rfl hBC rfl ?_
      repeat (first | refine WC.seq ?_ | refine WC.reg ?_ | refine WL.pure rfl rfl rfl ?_ | refine WL.nil ?_ | refine WC.skip ?_ | refine WC.block ?_ | refine WC.condT rfl ?_ | refine WC.condF rfl ?_ | refine WL.off rfl rfl rfl ?_ | refine WL.off0 rfl rfl ?_ | refine WC.exit ?_ | refine blk_hit ?_ | refine blk_miss rfl ?_ | refine WC.ret ?_)
      refine WL.call rfl rfl rfl rfl rfl ent32 (ROrder_any ao a7 ca c7 g fs ls wC sO hf62 s7 hmk) ?_
      rintro _ wD ⟨hpD, rfl⟩
      have hpD := hpC.call hpD.below
      have hTD := hT.below hpD.below
      have cases3 : (k9 = 0 ∧ e9 = 2 ∧ rordV g ls = .tuple #[.int .i64 0, .bool false]) ∨ (e9 = 0 ∧ rordV g ls = .tuple #[.int .i64 k9, .bool true]) := by
        unfold ordV at hov
        rw [hmk] at hov
        simp only at hov
        unfold rordV
        by_cases hl : ls.length = g.length
        · rw [if_neg (by omega)] at hov
          rw [if_neg (by omega)]
          cases hq : ordL g ls 0 (-1) with
          | none =>
            rw [hq] at hov
            simp at hov
            exact .inl ⟨hov.1.symm, hov.2.symm, rfl⟩
          | some K =>
            rw [hq] at hov
            simp at hov
            exact .inr ⟨hov.2.symm, by rw [hov.1]⟩
        · rw [if_pos (by omega)] at hov
          rw [if_pos (by omega)]
          simp at hov
          exact .inl ⟨hov.1.symm, hov.2.symm, rfl⟩
      rcases cases3 with ⟨rfl, rfl, hr⟩ | ⟨rfl, hr⟩
      · rw [hr]
        repeat (first | refine WC.seq ?_ | refine WC.reg ?_ | refine WL.pure rfl rfl rfl ?_ | refine WL.nil ?_ | refine WC.skip ?_ | refine WC.block ?_ | refine WC.condT rfl ?_ | refine WC.condF rfl ?_ | refine WL.off rfl rfl rfl ?_ | refine WL.off0 rfl rfl ?_ | refine WC.exit ?_ | refine blk_hit ?_ | refine blk_miss rfl ?_ | refine WC.ret ?_)
        refine WL.call rfl rfl rfl rfl rfl ent19 (fin wD hTD (fun w'' h => (hpD.call h.below).nil')) ?_
        rintro _ wE ⟨rfl, hpE⟩
        repeat (first | refine WC.seq ?_ | refine WC.reg ?_ | refine WL.pure rfl rfl rfl ?_ | refine WL.nil ?_ | refine WC.skip ?_ | refine WC.block ?_ | refine WC.condT rfl ?_ | refine WC.condF rfl ?_ | refine WL.off rfl rfl rfl ?_ | refine WL.off0 rfl rfl ?_ | refine WC.exit ?_ | refine blk_hit ?_ | refine blk_miss rfl ?_ | refine WC.ret ?_)
        exact Res.one rfl rfl rfl ⟨rfl, hpE⟩
      · rw [hr]
        repeat (first | refine WC.seq ?_ | refine WC.reg ?_ | refine WL.pure rfl rfl rfl ?_ | refine WL.nil ?_ | refine WC.skip ?_ | refine WC.block ?_ | refine WC.condT rfl ?_ | refine WC.condF rfl ?_ | refine WL.off rfl rfl rfl ?_ | refine WL.off0 rfl rfl ?_ | refine WC.exit ?_ | refine blk_hit ?_ | refine blk_miss rfl ?_ | refine WC.ret ?_)
        refine WL.split 116 (b := true) (by simp [W.look]) (fun _ => ?_) (fun h => by cases h)
        repeat (first | refine WC.seq ?_ | refine WC.reg ?_ | refine WL.pure rfl rfl rfl ?_ | refine WL.nil ?_ | refine WC.skip ?_ | refine WC.block ?_ | refine WC.condT rfl ?_ | refine WC.condF rfl ?_ | refine WL.off rfl rfl rfl ?_ | refine WL.off0 rfl rfl ?_ | refine WC.exit ?_ | refine blk_hit ?_ | refine blk_miss rfl ?_ | refine WC.ret ?_)
        refine WL.call rfl rfl rfl rfl rfl ent19 (fin wD hTD (fun w'' h => (hpD.call h.below).nil')) ?_
        rintro _ wE ⟨rfl, hpE⟩
        repeat (first | refine WC.seq ?_ | refine WC.reg ?_ | refine WL.pure rfl rfl rfl ?_ | refine WL.nil ?_ | refine WC.skip ?_ | refine WC.block ?_ | refine WC.condT rfl ?_ | refine WC.condF rfl ?_ | refine WL.off rfl rfl rfl ?_ | refine WL.off0 rfl rfl ?_ | refine WC.exit ?_ | refine blk_hit ?_ | refine blk_miss rfl ?_ | refine WC.ret ?_)
        exact Res.one rfl rfl rfl ⟨rfl, hpE⟩
end Go.Proofs.YtdnkkflpgebfbaaDoor
