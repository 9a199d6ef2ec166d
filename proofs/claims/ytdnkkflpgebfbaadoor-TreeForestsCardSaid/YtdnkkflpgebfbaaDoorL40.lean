/- The walks of the reference's Width and of 'TreeDecomposes'. -/
import Derived.Test.YtdnkkflpgebfbaaDoorL39
namespace Go.Proofs.YtdnkkflpgebfbaaDoor
open Go.W Go.Tree
set_option maxRecDepth 100000
attribute [local irreducible] WC WL WQ WS WH

theorem Width_any (ea : Option Addr) (cap : Nat) (g : List Nat) (es : List Ed) (w : World) (hs : Sl w ea (prs es)) (hlen : es.length ≤ 4611686018427387904) (hmk : mkG (g.length : Nat) es = some g) :
    Ret Tryd.prog 35 [.int .i64 (g.length : Nat), .slice ea es.length cap] w fun v w' => Hp w w' [] ∧ v = .int .i64 (wd g 0) := by
  refine enter Tryd.func35 rfl rfl ⟨rfl, rfl⟩ rfl ?_
  repeat (first | refine WC.seq ?_ | refine WC.reg ?_ | refine WL.pure rfl rfl rfl ?_ | refine WL.nil ?_ | refine WC.skip ?_ | refine WC.block ?_ | refine WC.condT rfl ?_ | refine WC.condF rfl ?_ | refine WL.off rfl rfl rfl ?_ | refine WL.off0 rfl rfl ?_ | refine WC.exit ?_ | refine blk_hit ?_ | refine blk_miss rfl ?_ | refine WC.ret ?_)
  refine WL.call rfl rfl rfl rfl rfl ent58 (Widths_any ea cap g es w hs hlen hmk) ?_
  rintro _ w1 ⟨b, hp1, rfl⟩
  refine WL.ixload rfl (fun _ => rfl) rfl rfl rfl rfl rfl rfl rfl (j := 0) (Nat.two_pow_pos _) rfl rfl (Sl.of_obj (hp1.obj 0 rfl) (fun i u h => by simpa using h)) (wdRow_at (Nat.two_pow_pos _) (Nat.le_refl _)) ?_
  intro p
  repeat (first | refine WC.seq ?_ | refine WC.reg ?_ | refine WL.pure rfl rfl rfl ?_ | refine WL.nil ?_ | refine WC.skip ?_ | refine WC.block ?_ | refine WC.condT rfl ?_ | refine WC.condF rfl ?_ | refine WL.off rfl rfl rfl ?_ | refine WL.off0 rfl rfl ?_ | refine WC.exit ?_ | refine blk_hit ?_ | refine blk_miss rfl ?_ | refine WC.ret ?_)
  exact Res.one rfl rfl rfl ⟨hp1.nil', rfl⟩

def toI (b : Bag) : BagI := (b.1, b.2.1, upz b.2.2)
theorem zs_upz (x : List Nat) : zs (upz x) = ints x := by simp [zs, upz, ints]
theorem toI_bags (bl : List Bag) : (bl.map toI).map (·.2.2) = (bl.map (·.2.2)).map upz := by simp [toI]
theorem bagsAt_of {w : World} {a : Option Addr} {bl : List Bag} (h : Sl w a (bl.map bagV)) (hb : ∀ b ∈ bl, Sl w b.1 (ints b.2.2)) : BagsAt w a (bl.map toI) := by
  refine ⟨?_, fun b hbm => ?_⟩
  · have : (bl.map toI).map bagVI = bl.map bagV := by
      rw [List.map_map]
      refine List.map_congr_left fun b _ => ?_
      simp [bagVI, toI, bagV, upz]
    rw [this]; exact h
  · obtain ⟨c, hc, rfl⟩ := List.mem_map.1 hbm
    show Sl w c.1 (zs (upz c.2.2))
    rw [zs_upz]; exact hb c hc
theorem toI_small {g : List Nat} {bl : List Bag} (h : bl.map (·.2.2) = bagsOf g) : ∀ b ∈ bl.map toI, b.2.2.length ≤ 4611686018427387904 := by
  intro b hb
  obtain ⟨c, hc, rfl⟩ := List.mem_map.1 hb
  have := bags_small g c.2.2 (by rw [← h]; exact List.mem_map.2 ⟨c, hc, rfl⟩)
  simp [toI, upz]
  omega

theorem TreeDecomposes_any (ea : Option Addr) (ce : Nat) (n : Int) (es : List Ed) (w : World) (hs : Sl w ea (prs es)) (hce : es.length ≤ ce) (hT : Tb w) :
    Ret Tryd.prog 11 [.agg #[.int .i64 n, .slice ea es.length ce]] w fun v w' => v = .bool true ∧ Hp w w' [] := by
  generalize hfs : es.take 101 = fs
  have hfl : fs.length ≤ 101 := by rw [← hfs, List.length_take]; omega
  have hf62 : fs.length ≤ 4611686018427387904 := by omega
  refine enter Tryd.func11 rfl rfl ⟨rfl, rfl⟩ rfl ?_
  repeat (first | refine WC.seq ?_ | refine WC.reg ?_ | refine WL.pure rfl rfl rfl ?_ | refine WL.nil ?_ | refine WC.skip ?_ | refine WC.block ?_ | refine WC.condT rfl ?_ | refine WC.condF rfl ?_ | refine WL.off rfl rfl rfl ?_ | refine WL.off0 rfl rfl ?_ | refine WC.exit ?_ | refine blk_hit ?_ | refine blk_miss rfl ?_ | refine WC.ret ?_)
  refine WL.box rfl rfl rfl ?_
  intro b2 w1 hb2
  have hp1 := (Hp.start w).new hb2
  repeat (first | refine WC.seq ?_ | refine WC.reg ?_ | refine WL.pure rfl rfl rfl ?_ | refine WL.nil ?_ | refine WC.skip ?_ | refine WC.block ?_ | refine WC.condT rfl ?_ | refine WC.condF rfl ?_ | refine WL.off rfl rfl rfl ?_ | refine WL.off0 rfl rfl ?_ | refine WC.exit ?_ | refine blk_hit ?_ | refine blk_miss rfl ?_ | refine WC.ret ?_)
  refine WC.mid ((Option Addr × Nat) × (Option Addr × Nat)) (fun ((ao, ca), (ag, cg)) => [(1, .pointer (some ⟨b2, 0, none⟩)), (3, .slice ao fs.length ca), (4, .slice ag fs.length cg)])
    (fun ((ao, ca), (ag, cg)) w' => Hp w w' [.row 50 2 (.slice ao fs.length ca) fs.length (prs fs), .row 50 2 (.slice ag fs.length cg) fs.length (prs fs), .blk b2 (.cells #[.int .i64 n, .slice ea es.length ce] 24 (0, 0))]) ?_ ?_
  · refine WC.regH (fun w2 => Hp w w2 [.blk b2 (.cells #[.int .i64 n, .slice ea es.length ce] 24 (0, 0))]) mixed (by kernel_rfl) (fun w2 hw2 hh2 => ?_)
    have hp2 := hp1.keep hw2
    refine WH.pure 0 (by kernel_rfl) rfl (by kernel_rfl) rfl rfl rfl hp2 ?_
    refine WH.load 1 (by kernel_rfl) rfl (by kernel_rfl) rfl rfl rfl rfl rfl (fun w3 h3 => cell_of_obj (h3.obj 0 rfl) rfl) hp2 ?_
    refine WH.pure 3 (by kernel_rfl) rfl (by kernel_rfl) rfl rfl rfl hp2 ?_
    refine WH.load 4 (by kernel_rfl) rfl (by kernel_rfl) rfl rfl rfl rfl rfl (fun w3 h3 => cell_of_obj (h3.obj 0 rfl) rfl) hp2 ?_
    refine WH.one 2 rfl (by kernel_rfl) ?_
    refine WL.call rfl rfl rfl rfl rfl ent13 (lines_any ea ce es w2 (hs.hp hp2) hce) ?_
    rintro _ w3 ⟨a3, c3, hp3, rfl⟩
    rw [hfs] at hp3 ⊢
    refine WL.nil ⟨hp2.call hp3.below, ?_⟩
    have hp3 := hp2.comb hp3
    refine WH.one 5 rfl (by kernel_rfl) ?_
    refine WL.call rfl rfl rfl rfl rfl ent13 (lines_any ea ce es w3 (hs.hp hp3) hce) ?_
    rintro _ w4 ⟨a4, c4, hp4, rfl⟩
    rw [hfs] at hp4 ⊢
    refine WL.nil ⟨(hp3.call hp4.below).tail, ?_⟩
    have hp4 := hp3.comb hp4
    refine WH.one 6 rfl (by kernel_rfl) (WL.pure rfl rfl rfl (WL.nil ⟨hp4.tail.tail, ?_⟩))
    refine WH.one 7 rfl (by kernel_rfl) (WL.pure rfl rfl rfl (WL.nil ⟨hp4.tail.tail, ?_⟩))
    refine WH.done (by kernel_rfl) ?_
    exact ⟨((a3, c3), (a4, c4)), ⟨rfl, rfl, rfl, rfl⟩, hp4.swap⟩
  rintro ⟨⟨ao, ca⟩, ag, cg⟩ e1 w2 hsub hp2
  refine WC.sub hsub ?_
  have L0 : ∀ w' L, Hp w w' ([.row 50 2 (.slice ao fs.length ca) fs.length (prs fs), .row 50 2 (.slice ag fs.length cg) fs.length (prs fs), .blk b2 (.cells #[.int .i64 n, .slice ea es.length ce] 24 (0, 0))] ++ L) →
      Sl w' ao (prs fs) ∧ Sl w' ag (prs fs) ∧ Tb w' ∧ w'.heap[b2]? = some (.cells #[.int .i64 n, .slice ea es.length ce] 24 (0, 0)) := fun w' L h =>
    ⟨Sl.of_row (h.at 0 rfl), Sl.of_row (h.at 1 rfl), hT.below h.below, h.obj 2 rfl⟩
  obtain ⟨sO, sG, hT2, hB2⟩ := L0 w2 [] hp2
  have fin : ∀ w', Tb w' → (∀ w'', Hp w' w'' [] → Hp w w'' []) → Ret Tryd.prog 19 [] w' fun v w'' => v = .bool true ∧ Hp w w'' [] := fun w' hTw hh => (awake_any w' hTw).mono fun v w'' ⟨h1, h2⟩ => ⟨h1, hh w'' h2⟩
  repeat (first | refine WC.seq ?_ | refine WC.reg ?_ | refine WL.pure rfl rfl rfl ?_ | refine WL.nil ?_ | refine WC.skip ?_ | refine WC.block ?_ | refine WC.condT rfl ?_ | refine WC.condF rfl ?_ | refine WL.off rfl rfl rfl ?_ | refine WL.off0 rfl rfl ?_ | refine WC.exit ?_ | refine blk_hit ?_ | refine blk_miss rfl ?_ | refine WC.ret ?_)
  refine WL.loadB rfl rfl rfl rfl rfl hB2 rfl ?_
  repeat (first | refine WC.seq ?_ | refine WC.reg ?_ | refine WL.pure rfl rfl rfl ?_ | refine WL.nil ?_ | refine WC.skip ?_ | refine WC.block ?_ | refine WC.condT rfl ?_ | refine WC.condF rfl ?_ | refine WL.off rfl rfl rfl ?_ | refine WL.off0 rfl rfl ?_ | refine WC.exit ?_ | refine blk_hit ?_ | refine blk_miss rfl ?_ | refine WC.ret ?_)
  refine WL.call rfl rfl rfl rfl rfl ent25 (Decompose_any ag cg n fs w2 sG hf62 hT2) ?_
  intro v3 w3 hD
  unfold DecIs at hD
  cases hmk : mkG n fs with
  | none =>
    rw [hmk] at hD
    obtain ⟨hp3, rfl⟩ := hD
    have hp3 := hp2.call hp3.below
    repeat (first | refine WC.seq ?_ | refine WC.reg ?_ | refine WL.pure rfl rfl rfl ?_ | refine WL.nil ?_ | refine WC.skip ?_ | refine WC.block ?_ | refine WC.condT rfl ?_ | refine WC.condF rfl ?_ | refine WL.off rfl rfl rfl ?_ | refine WL.off0 rfl rfl ?_ | refine WC.exit ?_ | refine blk_hit ?_ | refine blk_miss rfl ?_ | refine WC.ret ?_)
    refine WL.var rfl rfl rfl (fun _ => rfl) rfl rfl (show ∀ u ∈ [Value.slice none 0 0, .slice none 0 0], u.oneCell' = true from Cells.cons rfl (Cells.cons rfl Cells.nil)) ?_
    intro b5 w4 hb5
    have hp4 := hp3.new hb5
    have hp4 : Hp w w4 ([.row 50 2 (.slice ao fs.length ca) fs.length (prs fs), .row 50 2 (.slice ag fs.length cg) fs.length (prs fs), .blk b2 (.cells #[.int .i64 n, .slice ea es.length ce] 24 (0, 0))] ++ [.blk b5 (.cells #[.slice none 0 0, .slice none 0 0] 46 (0, 0))]) := hp4.pick [1, 2, 3, 0] (by decide)
    obtain ⟨sO, sG, hT4, hB4⟩ := L0 w4 _ hp4
    repeat (first | refine WC.seq ?_ | refine WC.reg ?_ | refine WL.pure rfl rfl rfl ?_ | refine WL.nil ?_ | refine WC.skip ?_ | refine WC.block ?_ | refine WC.condT rfl ?_ | refine WC.condF rfl ?_ | refine WL.off rfl rfl rfl ?_ | refine WL.off0 rfl rfl ?_ | refine WC.exit ?_ | refine blk_hit ?_ | refine blk_miss rfl ?_ | refine WC.ret ?_)
    refine WL.call rfl rfl rfl rfl rfl ent15 (edges_any ag ao cg ca fs fs w4 sG sO hf62) ?_
    rintro _ w5 ⟨hp5, rfl⟩
    rw [decide_eq_true rfl]
    have hp5 := hp4.call hp5.below
    obtain ⟨sO, sG, hT5, hB5⟩ := L0 w5 _ hp5
    repeat (first | refine WC.seq ?_ | refine WC.reg ?_ | refine WL.pure rfl rfl rfl ?_ | refine WL.nil ?_ | refine WC.skip ?_ | refine WC.block ?_ | refine WC.condT rfl ?_ | refine WC.condF rfl ?_ | refine WL.off rfl rfl rfl ?_ | refine WL.off0 rfl rfl ?_ | refine WC.exit ?_ | refine blk_hit ?_ | refine blk_miss rfl ?_ | refine WC.ret ?_)
    refine WL.loadB rfl rfl rfl rfl rfl hB5 rfl ?_
    repeat (first | refine WC.seq ?_ | refine WC.reg ?_ | refine WL.pure rfl rfl rfl ?_ | refine WL.nil ?_ | refine WC.skip ?_ | refine WC.block ?_ | refine WC.condT rfl ?_ | refine WC.condF rfl ?_ | refine WL.off rfl rfl rfl ?_ | refine WL.off0 rfl rfl ?_ | refine WC.exit ?_ | refine blk_hit ?_ | refine blk_miss rfl ?_ | refine WC.ret ?_)
    refine WL.call rfl rfl rfl rfl rfl ent18 (Graph_any ao ca n fs w5 sO hf62) ?_
    rintro _ w6 ⟨hp6, rfl⟩
    rw [hmk]
    have hp6 := hp5.call hp6.below
    obtain ⟨sO, sG, hT6, hB6⟩ := L0 w6 _ hp6
    repeat (first | refine WC.seq ?_ | refine WC.reg ?_ | refine WL.pure rfl rfl rfl ?_ | refine WL.nil ?_ | refine WC.skip ?_ | refine WC.block ?_ | refine WC.condT rfl ?_ | refine WC.condF rfl ?_ | refine WL.off rfl rfl rfl ?_ | refine WL.off0 rfl rfl ?_ | refine WC.exit ?_ | refine blk_hit ?_ | refine blk_miss rfl ?_ | refine WC.ret ?_)
    refine WL.loadB rfl rfl rfl rfl rfl hB6 rfl ?_
    repeat (first | refine WC.seq ?_ | refine WC.reg ?_ | refine WL.pure rfl rfl rfl ?_ | refine WL.nil ?_ | refine WC.skip ?_ | refine WC.block ?_ | refine WC.condT rfl ?_ | refine WC.condF rfl ?_ | refine WL.off rfl rfl rfl ?_ | refine WL.off0 rfl rfl ?_ | refine WC.exit ?_ | refine blk_hit ?_ | refine blk_miss rfl ?_ | refine WC.ret ?_)
    refine WL.loadN (cs := [.slice none 0 0, .slice none 0 0]) rfl rfl rfl rfl rfl rfl (fun j v hj => cell_of_obj (hp6.obj 3 rfl) (by rw [Nat.zero_add]; simpa using hj)) ?_
    have hCh := Check_any ag none none cg 0 0 n fs [] [] w6 sG hf62 ⟨Sl.nil, fun b hb => by cases hb⟩ (fun b hb => by cases hb) (by simp) Sl.nil
    refine WL.call rfl rfl rfl rfl rfl ent34 hCh ?_
    rintro _ w7 ⟨hp7, rfl⟩
    have hcv : chkV n fs (([] : List BagI).map (·.2.2)) [] = .tuple #[.int .i64 0, .int .i64 2] := by simp only [chkV, hmk]
    rw [hcv]
    have hp7 := hp6.call hp7.below
    obtain ⟨sO, sG, hT7, hB7⟩ := L0 w7 _ hp7
    repeat (first | refine WC.seq ?_ | refine WC.reg ?_ | refine WL.pure rfl rfl rfl ?_ | refine WL.nil ?_ | refine WC.skip ?_ | refine WC.block ?_ | refine WC.condT rfl ?_ | refine WC.condF rfl ?_ | refine WL.off rfl rfl rfl ?_ | refine WL.off0 rfl rfl ?_ | refine WC.exit ?_ | refine blk_hit ?_ | refine blk_miss rfl ?_ | refine WC.ret ?_)
    refine WL.loadB rfl rfl rfl rfl rfl (hp7.obj 3 rfl) rfl ?_
    repeat (first | refine WC.seq ?_ | refine WC.reg ?_ | refine WL.pure rfl rfl rfl ?_ | refine WL.nil ?_ | refine WC.skip ?_ | refine WC.block ?_ | refine WC.condT rfl ?_ | refine WC.condF rfl ?_ | refine WL.off rfl rfl rfl ?_ | refine WL.off0 rfl rfl ?_ | refine WC.exit ?_ | refine blk_hit ?_ | refine blk_miss rfl ?_ | refine WC.ret ?_)
    refine WL.loadB rfl rfl rfl rfl rfl (hp7.obj 3 rfl) rfl ?_
    repeat (first | refine WC.seq ?_ | refine WC.reg ?_ | refine WL.pure rfl rfl rfl ?_ | refine WL.nil ?_ | refine WC.skip ?_ | refine WC.block ?_ | refine WC.condT rfl ?_ | refine WC.condF rfl ?_ | refine WL.off rfl rfl rfl ?_ | refine WL.off0 rfl rfl ?_ | refine WC.exit ?_ | refine blk_hit ?_ | refine blk_miss rfl ?_ | refine WC.ret ?_)
    refine WL.call rfl rfl rfl rfl rfl ent19 (fin w7 hT7 (fun w'' h => (hp7.call h.below).nil')) ?_
    rintro _ w8 ⟨rfl, hp8⟩
    repeat (first | refine WC.seq ?_ | refine WC.reg ?_ | refine WL.pure rfl rfl rfl ?_ | refine WL.nil ?_ | refine WC.skip ?_ | refine WC.block ?_ | refine WC.condT rfl ?_ | refine WC.condF rfl ?_ | refine WL.off rfl rfl rfl ?_ | refine WL.off0 rfl rfl ?_ | refine WC.exit ?_ | refine blk_hit ?_ | refine blk_miss rfl ?_ | refine WC.ret ?_)
    exact Res.one rfl rfl rfl ⟨rfl, hp8⟩
  | some g =>
    rw [hmk] at hD
    obtain ⟨hg, hgn, hn0, _, _⟩ := mkG_gr hmk
    have hn := hg.len
    obtain ⟨m, rfl⟩ := Int.eq_ofNat_of_zero_le hn0
    have hgn : g.length = m := by simpa using hgn
    subst hgn
    obtain ⟨bl, ab, cb, al, cl, hbl, hp3, rfl⟩ := hD
    obtain ⟨hR, hW⟩ := dec_right hmk
    have hp3 := hp2.comb hp3
    have hbll : bl.length ≤ 14 := by
      have : bl.length = (bagsOf g).length := by rw [← hbl, List.length_map]
      rw [this]; exact bags_few hg
    repeat (first | refine WC.seq ?_ | refine WC.reg ?_ | refine WL.pure rfl rfl rfl ?_ | refine WL.nil ?_ | refine WC.skip ?_ | refine WC.block ?_ | refine WC.condT rfl ?_ | refine WC.condF rfl ?_ | refine WL.off rfl rfl rfl ?_ | refine WL.off0 rfl rfl ?_ | refine WC.exit ?_ | refine blk_hit ?_ | refine blk_miss rfl ?_ | refine WC.ret ?_)
    refine WL.var rfl rfl rfl (fun _ => rfl) rfl rfl (show ∀ u ∈ [Value.slice ab bl.length cb, .slice al (linksOf g).length cl], u.oneCell' = true from Cells.cons rfl (Cells.cons rfl Cells.nil)) ?_
    intro b5 w4 hb5
    have hp4 := hp3.new hb5
    obtain ⟨LL, hp4, L1⟩ : ∃ LL, Hp w w4 LL ∧ ∀ w', Hp w w' LL → Sl w' ao (prs fs) ∧ Sl w' ag (prs fs) ∧ Tb w' ∧ w'.heap[b2]? = some (.cells #[.int .i64 (g.length : Nat), .slice ea es.length ce] 24 (0, 0)) ∧
        w'.heap[b5]? = some (.cells #[.slice ab bl.length cb, .slice al (linksOf g).length cl] 46 (0, 0)) ∧ BagsAt w' ab (bl.map toI) ∧ Sl w' al (prs (linksOf g)) := by
      refine ⟨_, hp4, fun w' h => ?_⟩
      refine ⟨Sl.of_row (h.sat (.row 50 2 (.slice ao fs.length ca) fs.length (prs fs)) (by simp)), Sl.of_row (h.sat (.row 50 2 (.slice ag fs.length cg) fs.length (prs fs)) (by simp)), hT.below h.below, (h.sat (.blk b2 (.cells #[.int .i64 (g.length : Nat), .slice ea es.length ce] 24 (0, 0))) (by simp)).2, (h.sat (.blk b5 (.cells #[.slice ab bl.length cb, .slice al (linksOf g).length cl] 46 (0, 0))) (by simp [treeV, Value.cells])).2, bagsAt_of ?_ ?_, ?_⟩
      · exact Sl.of_row (h.sat (.row 32 1 (.slice ab bl.length cb) bl.length (bl.map bagV)) (by simp))
      · intro b hb
        refine Sl.of_bag (h.sat (bagE b) ?_)
        simp only [List.cons_append, List.mem_cons, List.mem_append, List.mem_map]
        exact .inr (.inr (.inr (.inl ⟨b, hb, rfl⟩)))
      · exact Sl.of_row (h.sat (.row 50 2 (.slice al (linksOf g).length cl) (linksOf g).length (prs (linksOf g))) (by simp))
    have hsm := toI_small hbl
    have hbI : (bl.map toI).length = bl.length := by simp
    have hbC : (bl.map toI).map (·.2.2) = (bagsOf g).map upz := by rw [toI_bags, hbl]
    have hRt : ∀ w', Hp w w' LL → Ret Tryd.prog 29 [.int .i64 (g.length : Nat), .slice ao fs.length ca, .agg #[.slice ab bl.length cb, .slice al (linksOf g).length cl]] w' fun v w'' => Hp w' w'' [] ∧ v = .tuple #[.int .i64 (wd g 0), .bool true] := by
      intro w' h
      obtain ⟨h1, h2, h3, h4, h5, h6, h7⟩ := L1 w' h
      have := Right_any ao ab al ca cb cl g fs hmk (bl.map toI) (linksOf g) w' h1 h6 hsm (by rw [hbI]; omega) h7
      rw [hbI, hbC, rgtV, if_pos hR, hW] at this
      exact this
    have hCh : ∀ w', Hp w w' LL → Ret Tryd.prog 34 [.int .i64 (g.length : Nat), .slice ag fs.length cg, .agg #[.slice ab bl.length cb, .slice al (linksOf g).length cl]] w' fun v w'' => Hp w' w'' [] ∧ v = .tuple #[.int .i64 (wd g 0), .int .i64 0] := by
      intro w' h
      obtain ⟨h1, h2, h3, h4, h5, h6, h7⟩ := L1 w' h
      have := Check_any ag ab al cg cb cl (g.length : Nat) fs (bl.map toI) (linksOf g) w' h2 hf62 h6 hsm (by rw [hbI]; omega) h7
      have hcv : chkV (g.length : Nat) fs ((bagsOf g).map upz) (linksOf g) = .tuple #[.int .i64 (wd g 0), .int .i64 0] := by
        simp only [chkV, hmk]
        rw [chk_rgt hmk, if_pos hR, hW]
      rw [hbI, hbC, hcv] at this
      exact this
    clear hp3
    obtain ⟨sO, sG, hT4, hB4, hB5, _⟩ := L1 w4 hp4
    repeat (first | refine WC.seq ?_ | refine WC.reg ?_ | refine WL.pure rfl rfl rfl ?_ | refine WL.nil ?_ | refine WC.skip ?_ | refine WC.block ?_ | refine WC.condT rfl ?_ | refine WC.condF rfl ?_ | refine WL.off rfl rfl rfl ?_ | refine WL.off0 rfl rfl ?_ | refine WC.exit ?_ | refine blk_hit ?_ | refine blk_miss rfl ?_ | refine WC.ret ?_)
    refine WL.call rfl rfl rfl rfl rfl ent15 (edges_any ag ao cg ca fs fs w4 sG sO hf62) ?_
    rintro _ w5 ⟨hp5, rfl⟩
    rw [decide_eq_true rfl]
    have hp5 := hp4.call hp5.below
    obtain ⟨sO, sG, hT5, hB4, hB5, _⟩ := L1 w5 hp5
    repeat (first | refine WC.seq ?_ | refine WC.reg ?_ | refine WL.pure rfl rfl rfl ?_ | refine WL.nil ?_ | refine WC.skip ?_ | refine WC.block ?_ | refine WC.condT rfl ?_ | refine WC.condF rfl ?_ | refine WL.off rfl rfl rfl ?_ | refine WL.off0 rfl rfl ?_ | refine WC.exit ?_ | refine blk_hit ?_ | refine blk_miss rfl ?_ | refine WC.ret ?_)
    refine WL.loadB rfl rfl rfl rfl rfl hB4 rfl ?_
    repeat (first | refine WC.seq ?_ | refine WC.reg ?_ | refine WL.pure rfl rfl rfl ?_ | refine WL.nil ?_ | refine WC.skip ?_ | refine WC.block ?_ | refine WC.condT rfl ?_ | refine WC.condF rfl ?_ | refine WL.off rfl rfl rfl ?_ | refine WL.off0 rfl rfl ?_ | refine WC.exit ?_ | refine blk_hit ?_ | refine blk_miss rfl ?_ | refine WC.ret ?_)
    refine WL.call rfl rfl rfl rfl rfl ent18 (Graph_any ao ca _ fs w5 sO hf62) ?_
    rintro _ w6 ⟨hp6, rfl⟩
    rw [hmk]
    have hp6 := hp5.call hp6.below
    obtain ⟨sO, sG, hT6, hB4, hB5, _⟩ := L1 w6 hp6
    repeat (first | refine WC.seq ?_ | refine WC.reg ?_ | refine WL.pure rfl rfl rfl ?_ | refine WL.nil ?_ | refine WC.skip ?_ | refine WC.block ?_ | refine WC.condT rfl ?_ | refine WC.condF rfl ?_ | refine WL.off rfl rfl rfl ?_ | refine WL.off0 rfl rfl ?_ | refine WC.exit ?_ | refine blk_hit ?_ | refine blk_miss rfl ?_ | refine WC.ret ?_)
    refine WL.loadB rfl rfl rfl rfl rfl hB4 rfl ?_
    repeat (first | refine WC.seq ?_ | refine WC.reg ?_ | refine WL.pure rfl rfl rfl ?_ | refine WL.nil ?_ | refine WC.skip ?_ | refine WC.block ?_ | refine WC.condT rfl ?_ | refine WC.condF rfl ?_ | refine WL.off rfl rfl rfl ?_ | refine WL.off0 rfl rfl ?_ | refine WC.exit ?_ | refine blk_hit ?_ | refine blk_miss rfl ?_ | refine WC.ret ?_)
    refine WL.loadN (cs := [.slice ab bl.length cb, .slice al (linksOf g).length cl]) rfl rfl rfl rfl rfl rfl (fun j v hj => cell_of_obj hB5 (by rw [Nat.zero_add]; simpa using hj)) ?_
    refine WL.call rfl rfl rfl rfl rfl ent29 (hRt w6 hp6) ?_
    rintro _ w7 ⟨hp7, rfl⟩
    have hp7 := hp6.call hp7.below
    obtain ⟨sO, sG, hT7, hB4, hB5, _⟩ := L1 w7 hp7
    repeat (first | refine WC.seq ?_ | refine WC.reg ?_ | refine WL.pure rfl rfl rfl ?_ | refine WL.nil ?_ | refine WC.skip ?_ | refine WC.block ?_ | refine WC.condT rfl ?_ | refine WC.condF rfl ?_ | refine WL.off rfl rfl rfl ?_ | refine WL.off0 rfl rfl ?_ | refine WC.exit ?_ | refine blk_hit ?_ | refine blk_miss rfl ?_ | refine WC.ret ?_)
    refine WL.split 93 (b := false) (by simp [W.look]) (fun h => by cases h) (fun _ => ?_)
    repeat (first | refine WC.seq ?_ | refine WC.reg ?_ | refine WL.pure rfl rfl rfl ?_ | refine WL.nil ?_ | refine WC.skip ?_ | refine WC.block ?_ | refine WC.condT rfl ?_ | refine WC.condF rfl ?_ | refine WL.off rfl rfl rfl ?_ | refine WL.off0 rfl rfl ?_ | refine WC.exit ?_ | refine blk_hit ?_ | refine blk_miss rfl ?_ | refine WC.ret ?_)
    refine WL.loadB rfl rfl rfl rfl rfl hB4 rfl ?_
    repeat (first | refine WC.seq ?_ | refine WC.reg ?_ | refine WL.pure rfl rfl rfl ?_ | refine WL.nil ?_ | refine WC.skip ?_ | refine WC.block ?_ | refine WC.condT rfl ?_ | refine WC.condF rfl ?_ | refine WL.off rfl rfl rfl ?_ | refine WL.off0 rfl rfl ?_ | refine WC.exit ?_ | refine blk_hit ?_ | refine blk_miss rfl ?_ | refine WC.ret ?_)
    refine WL.call rfl rfl rfl rfl rfl ent35 (Width_any ao ca g fs w7 sO hf62 hmk) ?_
    rintro _ w8 ⟨hp8, rfl⟩
    have hp8 := hp7.call hp8.below
    obtain ⟨sO, sG, hT8, hB4, hB5, _⟩ := L1 w8 hp8
    repeat (first | refine WC.seq ?_ | refine WC.reg ?_ | refine WL.pure rfl rfl rfl ?_ | refine WL.nil ?_ | refine WC.skip ?_ | refine WC.block ?_ | refine WC.condT rfl ?_ | refine WC.condF rfl ?_ | refine WL.off rfl rfl rfl ?_ | refine WL.off0 rfl rfl ?_ | refine WC.exit ?_ | refine blk_hit ?_ | refine blk_miss rfl ?_ | refine WC.ret ?_)
    refine WC.cond rfl (fun h => by simp at h) (fun _ => ?_)
    repeat (first | refine WC.seq ?_ | refine WC.reg ?_ | refine WL.pure rfl rfl rfl ?_ | refine WL.nil ?_ | refine WC.skip ?_ | refine WC.block ?_ | refine WC.condT rfl ?_ | refine WC.condF rfl ?_ | refine WL.off rfl rfl rfl ?_ | refine WL.off0 rfl rfl ?_ | refine WC.exit ?_ | refine blk_hit ?_ | refine blk_miss rfl ?_ | refine WC.ret ?_)
    refine WL.loadB rfl rfl rfl rfl rfl hB4 rfl ?_
    repeat (first | refine WC.seq ?_ | refine WC.reg ?_ | refine WL.pure rfl rfl rfl ?_ | refine WL.nil ?_ | refine WC.skip ?_ | refine WC.block ?_ | refine WC.condT rfl ?_ | refine WC.condF rfl ?_ | refine WL.off rfl rfl rfl ?_ | refine WL.off0 rfl rfl ?_ | refine WC.exit ?_ | refine blk_hit ?_ | refine blk_miss rfl ?_ | refine WC.ret ?_)
    refine WL.loadN (cs := [.slice ab bl.length cb, .slice al (linksOf g).length cl]) rfl rfl rfl rfl rfl rfl (fun j v hj => cell_of_obj hB5 (by rw [Nat.zero_add]; simpa using hj)) ?_
    refine WL.call rfl rfl rfl rfl rfl ent34 (hCh w8 hp8) ?_
    rintro _ w9 ⟨hp9, rfl⟩
    have hp9 := hp8.call hp9.below
    repeat (first | refine WC.seq ?_ | refine WC.reg ?_ | refine WL.pure rfl rfl rfl ?_ | refine WL.nil ?_ | refine WC.skip ?_ | refine WC.block ?_ | refine WC.condT rfl ?_ | refine WC.condF rfl ?_ | refine WL.off rfl rfl rfl ?_ | refine WL.off0 rfl rfl ?_ | refine WC.exit ?_ | refine blk_hit ?_ | refine blk_miss rfl ?_ | refine WC.ret ?_)
    refine WL.split 112 (b := true) (by simp [W.look]) (fun _ => ?_) (fun h => by cases h)
    repeat (first | refine WC.seq ?_ | refine WC.reg ?_ | refine WL.pure rfl rfl rfl ?_ | refine WL.nil ?_ | refine WC.skip ?_ | refine WC.block ?_ | refine WC.condT rfl ?_ | refine WC.condF rfl ?_ | refine WL.off rfl rfl rfl ?_ | refine WL.off0 rfl rfl ?_ | refine WC.exit ?_ | refine blk_hit ?_ | refine blk_miss rfl ?_ | refine WC.ret ?_)
    refine WL.call rfl rfl rfl rfl rfl ent19 (fin w9 (L1 w9 hp9).2.2.1 (fun w'' h => (hp9.call h.below).nil')) ?_
    rintro _ wA ⟨rfl, hpA⟩
    repeat (first | refine WC.seq ?_ | refine WC.reg ?_ | refine WL.pure rfl rfl rfl ?_ | refine WL.nil ?_ | refine WC.skip ?_ | refine WC.block ?_ | refine WC.condT rfl ?_ | refine WC.condF rfl ?_ | refine WL.off rfl rfl rfl ?_ | refine WL.off0 rfl rfl ?_ | refine WC.exit ?_ | refine blk_hit ?_ | refine blk_miss rfl ?_ | refine WC.ret ?_)
    exact Res.one rfl rfl rfl ⟨rfl, hpA⟩
end Go.Proofs.YtdnkkflpgebfbaaDoor
