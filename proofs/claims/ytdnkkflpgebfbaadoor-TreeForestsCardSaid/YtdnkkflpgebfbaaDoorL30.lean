/- The walk of 'TreeCounts'. -/
import Derived.Test.YtdnkkflpgebfbaaDoorL29
namespace Go.Proofs.YtdnkkflpgebfbaaDoor
open Go.W Go.Tree
set_option maxRecDepth 100000
attribute [local irreducible] WC WL WQ WS WH

theorem ints_zs (x : List Nat) : ints x = zs (x.map fun (q : Nat) => (q : Int)) := by simp [ints, zs]
theorem clR_len (g : List Nat) : (clR (nb g) (2 ^ g.length)).length ≤ 16 := by
  obtain ⟨C, _, h, _⟩ := clR_set (nb g) (2 ^ g.length)
  rw [h]
  exact Nat.le_trans (List.length_filter_le _ _) (by simp)

theorem TreeCounts_any (ea : Option Addr) (ce : Nat) (n : Int) (es : List Ed) (k : Int) (w : World) (hs : Sl w ea (prs es)) (hce : es.length ≤ ce) (hT : Tb w) :
    Ret Tryd.prog 3 [.agg #[.int .i64 n, .slice ea es.length ce], .int .i64 k] w fun v w' => v = .bool true ∧ Hp w w' [] := by
  generalize hfs : es.take 101 = fs
  have hfl : fs.length ≤ 101 := by rw [← hfs, List.length_take]; omega
  have hf62 : fs.length ≤ 4611686018427387904 := by omega
  refine enter Tryd.func3 rfl rfl ⟨rfl, rfl⟩ rfl ?_
  repeat (first | refine WC.seq ?_ | refine WC.reg ?_ | refine WL.pure rfl rfl rfl ?_ | refine WL.nil ?_ | refine WC.skip ?_ | refine WC.block ?_ | refine WC.condT rfl ?_ | refine WC.condF rfl ?_ | refine WL.off rfl rfl rfl ?_ | refine WL.off0 rfl rfl ?_ | refine WC.exit ?_ | refine blk_hit ?_ | refine blk_miss rfl ?_ | refine WC.ret ?_)
  refine WL.box rfl rfl rfl ?_
  intro b2 w1 hb2
  have hp1 := (Hp.start w).new hb2
  repeat (first | refine WC.seq ?_ | refine WC.reg ?_ | refine WL.pure rfl rfl rfl ?_ | refine WL.nil ?_ | refine WC.skip ?_ | refine WC.block ?_ | refine WC.condT rfl ?_ | refine WC.condF rfl ?_ | refine WL.off rfl rfl rfl ?_ | refine WL.off0 rfl rfl ?_ | refine WC.exit ?_ | refine blk_hit ?_ | refine blk_miss rfl ?_ | refine WC.ret ?_)
  refine WC.mid ((Option Addr × Nat) × (Option Addr × Nat)) (fun ((ao, ca), (ag, cg)) => [(1, .int .i64 k), (2, .pointer (some ⟨b2, 0, none⟩)), (5, .slice ao fs.length ca), (6, .slice ag fs.length cg)])
    (fun ((ao, ca), (ag, cg)) w' => Hp w w' [.row 50 2 (.slice ao fs.length ca) fs.length (prs fs), .row 50 2 (.slice ag fs.length cg) fs.length (prs fs), .blk b2 (.cells #[.int .i64 n, .slice ea es.length ce] 24 (0, 0))]) ?_ ?_
  · refine WC.regH (fun w2 => Hp w w2 [.blk b2 (.cells #[.int .i64 n, .slice ea es.length ce] 24 (0, 0))]) mixed (by kernel_rfl) (fun w2 hw2 hh2 => ?_)
    have hp2 := hp1.keep hw2
    refine WH.pure 0 (by kernel_rfl) rfl (by kernel_rfl) rfl rfl rfl hp2 ?_
    refine WH.load 1 (by kernel_rfl) rfl (by kernel_rfl) rfl rfl rfl rfl rfl (fun w3 h3 => cell_of_obj (h3.obj 0 rfl) rfl) hp2 ?_
    refine WH.pure 3 (by kernel_rfl) rfl (by kernel_rfl) rfl rfl rfl hp2 ?_
    refine WH.load 4 (by kernel_rfl) rfl (by kernel_rfl) rfl rfl rfl rfl rfl (fun w3 h3 => cell_of_obj (h3.obj 0 rfl) rfl) hp2 ?_
    refine WH.one 2 rfl (by kernel_rfl) ?_
    refine WL.call rfl rfl rfl rfl rfl ent13 (lines_any ea ce es w2 (hs.hp hp2) hce) ?_
    rintro _ w3 ⟨a3, c3, hp3, rfl⟩
    rw [hfs] at hp3 ⊢
    refine WL.nil ⟨hp2.call hp3.below, ?_⟩
    have hp3 := hp2.comb hp3
    refine WH.one 5 rfl (by kernel_rfl) ?_
    refine WL.call rfl rfl rfl rfl rfl ent13 (lines_any ea ce es w3 (hs.hp hp3) hce) ?_
    rintro _ w4 ⟨a4, c4, hp4, rfl⟩
    rw [hfs] at hp4 ⊢
    refine WL.nil ⟨(hp3.call hp4.below).tail, ?_⟩
    have hp4 := hp3.comb hp4
    refine WH.one 6 rfl (by kernel_rfl) (WL.pure rfl rfl rfl (WL.nil ⟨hp4.tail.tail, ?_⟩))
    refine WH.one 7 rfl (by kernel_rfl) (WL.pure rfl rfl rfl (WL.nil ⟨hp4.tail.tail, ?_⟩))
    refine WH.done (by kernel_rfl) ?_
    exact ⟨((a3, c3), (a4, c4)), ⟨rfl, rfl, rfl, rfl, rfl⟩, hp4.swap⟩
  · rintro ⟨⟨ao, ca⟩, ag, cg⟩ e1 w2 hsub hp2
    refine WC.sub hsub ?_
    have L0 : ∀ w' L, Hp w w' ([.row 50 2 (.slice ao fs.length ca) fs.length (prs fs), .row 50 2 (.slice ag fs.length cg) fs.length (prs fs), .blk b2 (.cells #[.int .i64 n, .slice ea es.length ce] 24 (0, 0))] ++ L) →
        Sl w' ao (prs fs) ∧ Sl w' ag (prs fs) ∧ Tb w' ∧ w'.heap[b2]? = some (.cells #[.int .i64 n, .slice ea es.length ce] 24 (0, 0)) := fun w' L h =>
      ⟨Sl.of_row (h.at 0 rfl), Sl.of_row (h.at 1 rfl), hT.below h.below, h.obj 2 rfl⟩
    obtain ⟨sO, sG, hT2, hB2⟩ := L0 w2 [] hp2
    repeat (first | refine WC.seq ?_ | refine WC.reg ?_ | refine WL.pure rfl rfl rfl ?_ | refine WL.nil ?_ | refine WC.skip ?_ | refine WC.block ?_ | refine WC.condT rfl ?_ | refine WC.condF rfl ?_ | refine WL.off rfl rfl rfl ?_ | refine WL.off0 rfl rfl ?_ | refine WC.exit ?_ | refine blk_hit ?_ | refine blk_miss rfl ?_ | refine WC.ret ?_)
    refine WL.loadB rfl rfl rfl rfl rfl hB2 rfl ?_
    repeat (first | refine WC.seq ?_ | refine WC.reg ?_ | refine WL.pure rfl rfl rfl ?_ | refine WL.nil ?_ | refine WC.skip ?_ | refine WC.block ?_ | refine WC.condT rfl ?_ | refine WC.condF rfl ?_ | refine WL.off rfl rfl rfl ?_ | refine WL.off0 rfl rfl ?_ | refine WC.exit ?_ | refine blk_hit ?_ | refine blk_miss rfl ?_ | refine WC.ret ?_)
    refine WL.call rfl rfl rfl rfl rfl ent14 (Colour_any ag cg n fs k w2 sG hf62 hT2) ?_
    rintro _ w3 ⟨hp3, rfl⟩
    have hp3 := hp2.call hp3.below
    obtain ⟨sO, sG, hT3, hB3⟩ := L0 w3 [] hp3
    obtain ⟨c9, e9, hcv⟩ : ∃ c e, colV n fs k = .tuple #[.int .i64 c, .int .i64 e] := by
      unfold colV
      split
      · exact ⟨_, _, rfl⟩
      · split
        · exact ⟨_, _, rfl⟩
        · exact ⟨_, _, rfl⟩
    rw [hcv]
    repeat (first | refine WC.seq ?_ | refine WC.reg ?_ | refine WL.pure rfl rfl rfl ?_ | refine WL.nil ?_ | refine WC.skip ?_ | refine WC.block ?_ | refine WC.condT rfl ?_ | refine WC.condF rfl ?_ | refine WL.off rfl rfl rfl ?_ | refine WL.off0 rfl rfl ?_ | refine WC.exit ?_ | refine blk_hit ?_ | refine blk_miss rfl ?_ | refine WC.ret ?_)
    refine WL.call rfl rfl rfl rfl rfl ent15 (edges_any ag ao cg ca fs fs w3 sG sO hf62) ?_
    rintro _ w4 ⟨hp4, rfl⟩
    rw [decide_eq_true rfl]
    have hp4 := hp3.call hp4.below
    obtain ⟨sO, sG, hT4, hB4⟩ := L0 w4 [] hp4
    repeat (first | refine WC.seq ?_ | refine WC.reg ?_ | refine WL.pure rfl rfl rfl ?_ | refine WL.nil ?_ | refine WC.skip ?_ | refine WC.block ?_ | refine WC.condT rfl ?_ | refine WC.condF rfl ?_ | refine WL.off rfl rfl rfl ?_ | refine WL.off0 rfl rfl ?_ | refine WC.exit ?_ | refine blk_hit ?_ | refine blk_miss rfl ?_ | refine WC.ret ?_)
    refine WL.loadB rfl rfl rfl rfl rfl hB4 rfl ?_
    repeat (first | refine WC.seq ?_ | refine WC.reg ?_ | refine WL.pure rfl rfl rfl ?_ | refine WL.nil ?_ | refine WC.skip ?_ | refine WC.block ?_ | refine WC.condT rfl ?_ | refine WC.condF rfl ?_ | refine WL.off rfl rfl rfl ?_ | refine WL.off0 rfl rfl ?_ | refine WC.exit ?_ | refine blk_hit ?_ | refine blk_miss rfl ?_ | refine WC.ret ?_)
    refine WL.call rfl rfl rfl rfl rfl ent16 (Apart_any ag cg n fs w4 sG hf62 hT4) ?_
    rintro _ w5 ⟨hp5, rfl⟩
    have hp5 := hp4.call hp5.below
    obtain ⟨sO, sG, hT5, hB5⟩ := L0 w5 [] hp5
    obtain ⟨a8, b8, e8, hav⟩ : ∃ a b e, apV n fs = .tuple #[.int .i64 a, .int .i64 b, .int .i64 e] := by
      unfold apV
      split
      · exact ⟨_, _, _, rfl⟩
      · exact ⟨_, _, _, rfl⟩
    rw [hav]
    repeat (first | refine WC.seq ?_ | refine WC.reg ?_ | refine WL.pure rfl rfl rfl ?_ | refine WL.nil ?_ | refine WC.skip ?_ | refine WC.block ?_ | refine WC.condT rfl ?_ | refine WC.condF rfl ?_ | refine WL.off rfl rfl rfl ?_ | refine WL.off0 rfl rfl ?_ | refine WC.exit ?_ | refine blk_hit ?_ | refine blk_miss rfl ?_ | refine WC.ret ?_)
    refine WL.call rfl rfl rfl rfl rfl ent15 (edges_any ag ao cg ca fs fs w5 sG sO hf62) ?_
    rintro _ w6 ⟨hp6, rfl⟩
    rw [decide_eq_true rfl]
    have hp6 := hp5.call hp6.below
    obtain ⟨sO, sG, hT6, hB6⟩ := L0 w6 [] hp6
    repeat (first | refine WC.seq ?_ | refine WC.reg ?_ | refine WL.pure rfl rfl rfl ?_ | refine WL.nil ?_ | refine WC.skip ?_ | refine WC.block ?_ | refine WC.condT rfl ?_ | refine WC.condF rfl ?_ | refine WL.off rfl rfl rfl ?_ | refine WL.off0 rfl rfl ?_ | refine WC.exit ?_ | refine blk_hit ?_ | refine blk_miss rfl ?_ | refine WC.ret ?_)
    refine WL.loadB rfl rfl rfl rfl rfl hB6 rfl ?_
    repeat (first | refine WC.seq ?_ | refine WC.reg ?_ | refine WL.pure rfl rfl rfl ?_ | refine WL.nil ?_ | refine WC.skip ?_ | refine WC.block ?_ | refine WC.condT rfl ?_ | refine WC.condF rfl ?_ | refine WL.off rfl rfl rfl ?_ | refine WL.off0 rfl rfl ?_ | refine WC.exit ?_ | refine blk_hit ?_ | refine blk_miss rfl ?_ | refine WC.ret ?_)
    refine WL.call rfl rfl rfl rfl rfl ent17 (Clique_any ag cg n fs w6 sG hf62 hT6) ?_
    intro v7 w7 hCI
    unfold ClIs at hCI
    have fin : ∀ w', Tb w' → (∀ w'', Hp w' w'' [] → Hp w w'' []) → Ret Tryd.prog 19 [] w' fun v w'' => v = .bool true ∧ Hp w w'' [] := fun w' hTw hh => (awake_any w' hTw).mono fun v w'' ⟨h1, h2⟩ => ⟨h1, hh w'' h2⟩
    cases hmk : mkG n fs with
    | none =>
      rw [hmk] at hCI
      obtain ⟨hp7, rfl⟩ := hCI
      have hp7 := hp6.call hp7.below
      obtain ⟨sO, sG, hT7, hB7⟩ := L0 w7 [] hp7
      have he : c9 = 0 ∧ e9 = 2 := by
        unfold colV at hcv
        rw [hmk] at hcv
        simp at hcv
        exact ⟨hcv.1.symm, hcv.2.symm⟩
      have he2 : a8 = 0 ∧ b8 = 0 ∧ e8 = 2 := by
        unfold apV at hav
        rw [hmk] at hav
        simp at hav
        exact ⟨hav.1.symm, hav.2.1.symm, hav.2.2.symm⟩
      obtain ⟨rfl, rfl⟩ := he
      obtain ⟨rfl, rfl, rfl⟩ := he2
      repeat (first | refine WC.seq ?_ | refine WC.reg ?_ | refine WL.pure rfl rfl rfl ?_ | refine WL.nil ?_ | refine WC.skip ?_ | refine WC.block ?_ | refine WC.condT rfl ?_ | refine WC.condF rfl ?_ | refine WL.off rfl rfl rfl ?_ | refine WL.off0 rfl rfl ?_ | refine WC.exit ?_ | refine blk_hit ?_ | refine blk_miss rfl ?_ | refine WC.ret ?_)
      refine WL.call rfl rfl rfl rfl rfl ent15 (edges_any ag ao cg ca fs fs w7 sG sO hf62) ?_
      rintro _ w8 ⟨hp8, rfl⟩
      rw [decide_eq_true rfl]
      have hp8 := hp7.call hp8.below
      obtain ⟨sO, sG, hT8, hB8⟩ := L0 w8 [] hp8
      repeat (first | refine WC.seq ?_ | refine WC.reg ?_ | refine WL.pure rfl rfl rfl ?_ | refine WL.nil ?_ | refine WC.skip ?_ | refine WC.block ?_ | refine WC.condT rfl ?_ | refine WC.condF rfl ?_ | refine WL.off rfl rfl rfl ?_ | refine WL.off0 rfl rfl ?_ | refine WC.exit ?_ | refine blk_hit ?_ | refine blk_miss rfl ?_ | refine WC.ret ?_)
      refine WL.loadB rfl rfl rfl rfl rfl hB8 rfl ?_
      repeat (first | refine WC.seq ?_ | refine WC.reg ?_ | refine WL.pure rfl rfl rfl ?_ | refine WL.nil ?_ | refine WC.skip ?_ | refine WC.block ?_ | refine WC.condT rfl ?_ | refine WC.condF rfl ?_ | refine WL.off rfl rfl rfl ?_ | refine WL.off0 rfl rfl ?_ | refine WC.exit ?_ | refine blk_hit ?_ | refine blk_miss rfl ?_ | refine WC.ret ?_)
      refine WL.call rfl rfl rfl rfl rfl ent18 (Graph_any ao ca n fs w8 sO hf62) ?_
      rintro _ w9 ⟨hp9, rfl⟩
      rw [hmk]
      have hp9 := hp8.call hp9.below
      repeat (first | refine WC.seq ?_ | refine WC.reg ?_ | refine WL.pure rfl rfl rfl ?_ | refine WL.nil ?_ | refine WC.skip ?_ | refine WC.block ?_ | refine WC.condT rfl ?_ | refine WC.condF rfl ?_ | refine WL.off rfl rfl rfl ?_ | refine WL.off0 rfl rfl ?_ | refine WC.exit ?_ | refine blk_hit ?_ | refine blk_miss rfl ?_ | refine WC.ret ?_)
      refine WL.call rfl rfl rfl rfl rfl ent19 (fin w9 (hT.below hp9.below) (fun w'' h => (hp9.call h.below).nil')) ?_
      rintro _ wA ⟨rfl, hpA⟩
      repeat (first | refine WC.seq ?_ | refine WC.reg ?_ | refine WL.pure rfl rfl rfl ?_ | refine WL.nil ?_ | refine WC.skip ?_ | refine WC.block ?_ | refine WC.condT rfl ?_ | refine WC.condF rfl ?_ | refine WL.off rfl rfl rfl ?_ | refine WL.off0 rfl rfl ?_ | refine WC.exit ?_ | refine blk_hit ?_ | refine blk_miss rfl ?_ | refine WC.ret ?_)
      exact Res.one rfl rfl rfl ⟨rfl, hpA⟩
    | some g =>
      rw [hmk] at hCI
      obtain ⟨hg, hgn, hn0, _, _⟩ := mkG_gr hmk
      obtain ⟨m, rfl⟩ := Int.eq_ofNat_of_zero_le hn0
      have hgn : g.length = m := by simpa using hgn
      subst hgn
      obtain ⟨aC, cC, hp7, rfl⟩ := hCI
      have hcl := clR_len g
      have he2 : a8 = (apR (ap g) (2 ^ g.length)).1 ∧ b8 = (apR (ap g) (2 ^ g.length)).2 ∧ e8 = 0 := by
        unfold apV at hav
        rw [hmk] at hav
        simp at hav
        exact ⟨hav.1.symm, hav.2.1.symm, hav.2.2.symm⟩
      obtain ⟨rfl, rfl, rfl⟩ := he2
      generalize hcL : clR (nb g) (2 ^ g.length) = cl at *
      have hrow : Hp w w7 ([.row 50 2 (.slice ao fs.length ca) fs.length (prs fs), .row 50 2 (.slice ag fs.length cg) fs.length (prs fs), .blk b2 (.cells #[.int .i64 (g.length : Nat), .slice ea es.length ce] 24 (0, 0))] ++ [.row 3 1 (.slice aC cl.length cC) cl.length (ints cl)]) :=
        (hp6.comb hp7).pick [1, 2, 3, 0] (by decide)
      obtain ⟨sO, sG, hT7, hB7⟩ := L0 w7 _ hrow
      repeat (first | refine WC.seq ?_ | refine WC.reg ?_ | refine WL.pure rfl rfl rfl ?_ | refine WL.nil ?_ | refine WC.skip ?_ | refine WC.block ?_ | refine WC.condT rfl ?_ | refine WC.condF rfl ?_ | refine WL.off rfl rfl rfl ?_ | refine WL.off0 rfl rfl ?_ | refine WC.exit ?_ | refine blk_hit ?_ | refine blk_miss rfl ?_ | refine WC.ret ?_)
      refine WL.call rfl rfl rfl rfl rfl ent15 (edges_any ag ao cg ca fs fs w7 sG sO hf62) ?_
      rintro _ w8 ⟨hp8, rfl⟩
      rw [decide_eq_true rfl]
      have hp8 := hrow.call hp8.below
      obtain ⟨sO, sG, hT8, hB8⟩ := L0 w8 _ hp8
      repeat (first | refine WC.seq ?_ | refine WC.reg ?_ | refine WL.pure rfl rfl rfl ?_ | refine WL.nil ?_ | refine WC.skip ?_ | refine WC.block ?_ | refine WC.condT rfl ?_ | refine WC.condF rfl ?_ | refine WL.off rfl rfl rfl ?_ | refine WL.off0 rfl rfl ?_ | refine WC.exit ?_ | refine blk_hit ?_ | refine blk_miss rfl ?_ | refine WC.ret ?_)
      refine WL.loadB rfl rfl rfl rfl rfl hB8 rfl ?_
      repeat (first | refine WC.seq ?_ | refine WC.reg ?_ | refine WL.pure rfl rfl rfl ?_ | refine WL.nil ?_ | refine WC.skip ?_ | refine WC.block ?_ | refine WC.condT rfl ?_ | refine WC.condF rfl ?_ | refine WL.off rfl rfl rfl ?_ | refine WL.off0 rfl rfl ?_ | refine WC.exit ?_ | refine blk_hit ?_ | refine blk_miss rfl ?_ | refine WC.ret ?_)
      refine WL.call rfl rfl rfl rfl rfl ent18 (Graph_any ao ca _ fs w8 sO hf62) ?_
      rintro _ w9 ⟨hp9, rfl⟩
      rw [hmk]
      have hp9 := hp8.call hp9.below
      obtain ⟨sO, sG, hT9, hB9⟩ := L0 w9 _ hp9
      repeat (first | refine WC.seq ?_ | refine WC.reg ?_ | refine WL.pure rfl rfl rfl ?_ | refine WL.nil ?_ | refine WC.skip ?_ | refine WC.block ?_ | refine WC.condT rfl ?_ | refine WC.condF rfl ?_ | refine WL.off rfl rfl rfl ?_ | refine WL.off0 rfl rfl ?_ | refine WC.exit ?_ | refine blk_hit ?_ | refine blk_miss rfl ?_ | refine WC.ret ?_)
      refine WL.loadB rfl rfl rfl rfl rfl hB9 rfl ?_
      repeat (first | refine WC.seq ?_ | refine WC.reg ?_ | refine WL.pure rfl rfl rfl ?_ | refine WL.nil ?_ | refine WC.skip ?_ | refine WC.block ?_ | refine WC.condT rfl ?_ | refine WC.condF rfl ?_ | refine WL.off rfl rfl rfl ?_ | refine WL.off0 rfl rfl ?_ | refine WC.exit ?_ | refine blk_hit ?_ | refine blk_miss rfl ?_ | refine WC.ret ?_)
      refine WL.call rfl rfl rfl rfl rfl ent20 (RApart_any ao ca g fs w9 sO hf62 hmk) ?_
      rintro _ wA ⟨hpA, rfl⟩
      have hpA := hp9.call hpA.below
      obtain ⟨sO, sG, hTA, hBA⟩ := L0 wA _ hpA
      repeat (first | refine WC.seq ?_ | refine WC.reg ?_ | refine WL.pure rfl rfl rfl ?_ | refine WL.nil ?_ | refine WC.skip ?_ | refine WC.block ?_ | refine WC.condT rfl ?_ | refine WC.condF rfl ?_ | refine WL.off rfl rfl rfl ?_ | refine WL.off0 rfl rfl ?_ | refine WC.exit ?_ | refine blk_hit ?_ | refine blk_miss rfl ?_ | refine WC.ret ?_)
      refine WL.split 102 (b := false) (by simp [W.look]) (fun h => by cases h) (fun _ => ?_)
      repeat (first | refine WC.seq ?_ | refine WC.reg ?_ | refine WL.pure rfl rfl rfl ?_ | refine WL.nil ?_ | refine WC.skip ?_ | refine WC.block ?_ | refine WC.condT rfl ?_ | refine WC.condF rfl ?_ | refine WL.off rfl rfl rfl ?_ | refine WL.off0 rfl rfl ?_ | refine WC.exit ?_ | refine blk_hit ?_ | refine blk_miss rfl ?_ | refine WC.ret ?_)
      refine WL.split 107 (b := false) (by simp [W.look]) (fun h => by cases h) (fun _ => ?_)
      repeat (first | refine WC.seq ?_ | refine WC.reg ?_ | refine WL.pure rfl rfl rfl ?_ | refine WL.nil ?_ | refine WC.skip ?_ | refine WC.block ?_ | refine WC.condT rfl ?_ | refine WC.condF rfl ?_ | refine WL.off rfl rfl rfl ?_ | refine WL.off0 rfl rfl ?_ | refine WC.exit ?_ | refine blk_hit ?_ | refine blk_miss rfl ?_ | refine WC.ret ?_)
      refine WL.loadB rfl rfl rfl rfl rfl hBA rfl ?_
      repeat (first | refine WC.seq ?_ | refine WC.reg ?_ | refine WL.pure rfl rfl rfl ?_ | refine WL.nil ?_ | refine WC.skip ?_ | refine WC.block ?_ | refine WC.condT rfl ?_ | refine WC.condF rfl ?_ | refine WL.off rfl rfl rfl ?_ | refine WL.off0 rfl rfl ?_ | refine WC.exit ?_ | refine blk_hit ?_ | refine blk_miss rfl ?_ | refine WC.ret ?_)
      refine WL.call rfl rfl rfl rfl rfl ent22 (RClique_any ao ca g fs wA sO hf62 hmk) ?_
      rintro _ wB ⟨aD, cD, hpB, rfl⟩
      rw [hcL] at hpB ⊢
      have hpB := hpA.comb hpB
      have hbl : (cl.map fun (q : Nat) => (q : Int)).length = cl.length := by rw [List.length_map]
      have hints := ints_any aC aD cC cD (cl.map fun (q : Nat) => (q : Int)) (cl.map fun (q : Nat) => (q : Int)) wB (by rw [← ints_zs]; exact Sl.of_row (hpB.at 4 rfl)) (by rw [← ints_zs]; exact Sl.of_row (hpB.at 0 rfl)) (by rw [hbl]; omega)
      rw [hbl] at hints
      refine WL.call rfl rfl rfl rfl rfl ent21 hints ?_
      rintro _ wC ⟨hpC, rfl⟩
      rw [decide_eq_true rfl]
      have hpC := (hpB.call hpC.below).tail
      obtain ⟨sO, sG, hTC, hBC⟩ := L0 wC _ hpC
      repeat (first | refine WC.seq ?_ | refine WC.reg ?_ | refine WL.pure rfl rfl rfl ?_ | refine WL.nil ?_ | refine WC.skip ?_ | refine WC.block ?_ | refine WC.condT rfl ?_ | refine WC.condF rfl ?_ | refine WL.off rfl rfl rfl ?_ | refine WL.off0 rfl rfl ?_ | refine WC.exit ?_ | refine blk_hit ?_ | refine blk_miss rfl ?_ | refine WC.ret ?_)
      have bad : (k < 0 ∨ 8 < k) → c9 = 0 ∧ e9 = 2 := by
        intro h
        unfold colV at hcv
        rw [hmk] at hcv
        simp only [if_pos h] at hcv
        simp at hcv
        exact ⟨hcv.1.symm, hcv.2.symm⟩
      refine WL.split 126 rfl (fun h1 => ?_) (fun h1 => ?_)
      · have h1 : k < 0 := of_decide_eq_true h1
        obtain ⟨rfl, rfl⟩ := bad (.inl h1)
        repeat (first | refine WC.seq ?_ | refine WC.reg ?_ | refine WL.pure rfl rfl rfl ?_ | refine WL.nil ?_ | refine WC.skip ?_ | refine WC.block ?_ | refine WC.condT rfl ?_ | refine WC.condF rfl ?_ | refine WL.off rfl rfl rfl ?_ | refine WL.off0 rfl rfl ?_ | refine WC.exit ?_ | refine blk_hit ?_ | refine blk_miss rfl ?_ | refine WC.ret ?_)
        refine WL.call rfl rfl rfl rfl rfl ent19 (fin wC hTC (fun w'' h => (hpC.call h.below).nil')) ?_
        rintro _ wD ⟨rfl, hpD⟩
        repeat (first | refine WC.seq ?_ | refine WC.reg ?_ | refine WL.pure rfl rfl rfl ?_ | refine WL.nil ?_ | refine WC.skip ?_ | refine WC.block ?_ | refine WC.condT rfl ?_ | refine WC.condF rfl ?_ | refine WL.off rfl rfl rfl ?_ | refine WL.off0 rfl rfl ?_ | refine WC.exit ?_ | refine blk_hit ?_ | refine blk_miss rfl ?_ | refine WC.ret ?_)
        exact Res.one rfl rfl rfl ⟨rfl, hpD⟩
      have h1 : ¬ k < 0 := of_decide_eq_false h1
      repeat (first | refine WC.seq ?_ | refine WC.reg ?_ | refine WL.pure rfl rfl rfl ?_ | refine WL.nil ?_ | refine WC.skip ?_ | refine WC.block ?_ | refine WC.condT rfl ?_ | refine WC.condF rfl ?_ | refine WL.off rfl rfl rfl ?_ | refine WL.off0 rfl rfl ?_ | refine WC.exit ?_ | refine blk_hit ?_ | refine blk_miss rfl ?_ | refine WC.ret ?_)
      refine WC.cond rfl (fun h2 => ?_) (fun h2 => ?_)
      · have h2 : 8 < k := of_decide_eq_true h2
        obtain ⟨rfl, rfl⟩ := bad (.inr h2)
        repeat (first | refine WC.seq ?_ | refine WC.reg ?_ | refine WL.pure rfl rfl rfl ?_ | refine WL.nil ?_ | refine WC.skip ?_ | refine WC.block ?_ | refine WC.condT rfl ?_ | refine WC.condF rfl ?_ | refine WL.off rfl rfl rfl ?_ | refine WL.off0 rfl rfl ?_ | refine WC.exit ?_ | refine blk_hit ?_ | refine blk_miss rfl ?_ | refine WC.ret ?_)
        refine WL.call rfl rfl rfl rfl rfl ent19 (fin wC hTC (fun w'' h => (hpC.call h.below).nil')) ?_
        rintro _ wD ⟨rfl, hpD⟩
        repeat (first | refine WC.seq ?_ | refine WC.reg ?_ | refine WL.pure rfl rfl rfl ?_ | refine WL.nil ?_ | refine WC.skip ?_ | refine WC.block ?_ | refine WC.condT rfl ?_ | refine WC.condF rfl ?_ | refine WL.off rfl rfl rfl ?_ | refine WL.off0 rfl rfl ?_ | refine WC.exit ?_ | refine blk_hit ?_ | refine blk_miss rfl ?_ | refine WC.ret ?_)
        exact Res.one rfl rfl rfl ⟨rfl, hpD⟩
      have h2 : ¬ 8 < k := of_decide_eq_false h2
      obtain ⟨k, rfl⟩ := Int.eq_ofNat_of_zero_le (show 0 ≤ k by omega)
      have hc : c9 = (colD (fr (ap g)) k (full g.length) : Nat) ∧ e9 = 0 := by
        unfold colV at hcv
        rw [hmk] at hcv
        simp only [if_neg (fun h : (k : Int) < 0 ∨ 8 < (k : Int) => h.elim h1 h2)] at hcv
        simp at hcv
        rw [colP_colD (fr_zero _) (lt_pow16 hg.len (full_lt _)) (by omega)] at hcv
        exact ⟨hcv.1.symm, hcv.2.symm⟩
      obtain ⟨rfl, rfl⟩ := hc
      repeat (first | refine WC.seq ?_ | refine WC.reg ?_ | refine WL.pure rfl rfl rfl ?_ | refine WL.nil ?_ | refine WC.skip ?_ | refine WC.block ?_ | refine WC.condT rfl ?_ | refine WC.condF rfl ?_ | refine WL.off rfl rfl rfl ?_ | refine WL.off0 rfl rfl ?_ | refine WC.exit ?_ | refine blk_hit ?_ | refine blk_miss rfl ?_ | refine WC.ret ?_)
      refine WL.loadB rfl rfl rfl rfl rfl hBC rfl ?_
      repeat (first | refine WC.seq ?_ | refine WC.reg ?_ | refine WL.pure rfl rfl rfl ?_ | refine WL.nil ?_ | refine WC.skip ?_ | refine WC.block ?_ | refine WC.condT rfl ?_ | refine WC.condF rfl ?_ | refine WL.off rfl rfl rfl ?_ | refine WL.off0 rfl rfl ?_ | refine WC.exit ?_ | refine blk_hit ?_ | refine blk_miss rfl ?_ | refine WC.ret ?_)
      refine WL.call rfl rfl rfl rfl rfl ent23 (RColour_any ao ca g fs k (by omega) wC sO hf62 hmk) ?_
      rintro _ wD ⟨hpD, rfl⟩
      have hpD := hpC.call hpD.below
      repeat (first | refine WC.seq ?_ | refine WC.reg ?_ | refine WL.pure rfl rfl rfl ?_ | refine WL.nil ?_ | refine WC.skip ?_ | refine WC.block ?_ | refine WC.condT rfl ?_ | refine WC.condF rfl ?_ | refine WL.off rfl rfl rfl ?_ | refine WL.off0 rfl rfl ?_ | refine WC.exit ?_ | refine blk_hit ?_ | refine blk_miss rfl ?_ | refine WC.ret ?_)
      refine WL.split 150 (b := true) (by simp [W.look]) (fun _ => ?_) (fun h => by cases h)
      repeat (first | refine WC.seq ?_ | refine WC.reg ?_ | refine WL.pure rfl rfl rfl ?_ | refine WL.nil ?_ | refine WC.skip ?_ | refine WC.block ?_ | refine WC.condT rfl ?_ | refine WC.condF rfl ?_ | refine WL.off rfl rfl rfl ?_ | refine WL.off0 rfl rfl ?_ | refine WC.exit ?_ | refine blk_hit ?_ | refine blk_miss rfl ?_ | refine WC.ret ?_)
      refine WL.call rfl rfl rfl rfl rfl ent19 (fin wD (hT.below hpD.below) (fun w'' h => (hpD.call h.below).nil')) ?_
      rintro _ wE ⟨rfl, hpE⟩
      repeat (first | refine WC.seq ?_ | refine WC.reg ?_ | refine WL.pure rfl rfl rfl ?_ | refine WL.nil ?_ | refine WC.skip ?_ | refine WC.block ?_ | refine WC.condT rfl ?_ | refine WC.condF rfl ?_ | refine WL.off rfl rfl rfl ?_ | refine WL.off0 rfl rfl ?_ | refine WC.exit ?_ | refine blk_hit ?_ | refine blk_miss rfl ?_ | refine WC.ret ?_)
      exact Res.one rfl rfl rfl ⟨rfl, hpE⟩
end Go.Proofs.YtdnkkflpgebfbaaDoor
