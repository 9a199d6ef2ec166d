/- The walk of 'awake'. -/
import Derived.Test.YtdnkkflpgebfbaaDoorL13
import Derived.Test.YtdnkkflpgebfbaaDoorL15
import Derived.Test.YtdnkkflpgebfbaaDoorAw
namespace Go.Proofs.YtdnkkflpgebfbaaDoor
open Go.W Go.Tree
set_option maxRecDepth 100000
attribute [local irreducible] WC WL WQ WS WH

theorem awake_any (w : World) (hT : Tb w) : Ret Tryd.prog 19 [] w fun v w' => v = .bool true ∧ Hp w w' [] := by
  refine enter Tryd.func19 rfl rfl ⟨rfl, rfl⟩ rfl ?_
  repeat (first | refine WC.seq ?_ | refine WC.reg ?_ | refine WL.pure rfl rfl rfl ?_ | refine WL.nil ?_ | refine WC.skip ?_ | refine WC.block ?_ | refine WC.condT rfl ?_ | refine WC.condF rfl ?_ | refine WL.off rfl rfl rfl ?_ | refine WL.off0 rfl rfl ?_ | refine WC.exit ?_ | refine blk_hit ?_ | refine blk_miss rfl ?_ | refine WC.ret ?_)
  refine WL.buildA (cs := pr (0, 1)) rfl rfl rfl rfl rfl rfl ?_
  refine WL.buildA (cs := pr (1, 2)) rfl rfl rfl rfl rfl rfl ?_
  refine WL.buildA (cs := pr (2, 3)) rfl rfl rfl rfl rfl rfl ?_
  refine WL.buildA (cs := pr (3, 4)) rfl rfl rfl rfl rfl rfl ?_
  refine WL.buildA (cs := pr (4, 0)) rfl rfl rfl rfl rfl rfl ?_
  refine WL.buildS (cs := prs five) rfl rfl rfl rfl rfl rfl rfl rfl rfl ?_
  intro b1 w1 hb1
  have hp1 := (Hp.start w).new hb1
  have hsl : ∀ w' L i, Hp w w' L → nth L i = some (.blk b1 (.cells (prs five).toArray 50 (0, 0))) → Sl w' (some ⟨b1, 0, none⟩) (prs five) := fun w' L i hp hi => Sl.of_obj (hp.obj i hi) (fun i u h => by simpa using h)
  have h5 : five.length ≤ 4611686018427387904 := by decide
  repeat (first | refine WC.seq ?_ | refine WC.reg ?_ | refine WL.pure rfl rfl rfl ?_ | refine WL.nil ?_ | refine WC.skip ?_ | refine WC.block ?_ | refine WC.condT rfl ?_ | refine WC.condF rfl ?_ | refine WL.off rfl rfl rfl ?_ | refine WL.off0 rfl rfl ?_ | refine WC.exit ?_ | refine blk_hit ?_ | refine blk_miss rfl ?_ | refine WC.ret ?_)
  refine WL.call rfl rfl rfl rfl rfl ent25 (Decompose_any _ 5 5 five w1 (hsl _ _ 0 hp1 rfl) h5 (hT.below hp1.below)) ?_
  intro v2 w2 hD
  unfold DecIs at hD
  rw [five_g] at hD
  obtain ⟨bl, ab, cb, al, cl, hbags, hp2, rfl⟩ := hD
  have hbl : bl.length = 5 := by have := five_bags; rw [← hbags, List.length_map] at this; exact this
  rw [hbl, five_links, five_wd]
  have hp2 := hp1.call hp2.below
  repeat (first | refine WC.seq ?_ | refine WC.reg ?_ | refine WL.pure rfl rfl rfl ?_ | refine WL.nil ?_ | refine WC.skip ?_ | refine WC.block ?_ | refine WC.condT rfl ?_ | refine WC.condF rfl ?_ | refine WL.off rfl rfl rfl ?_ | refine WL.off0 rfl rfl ?_ | refine WC.exit ?_ | refine blk_hit ?_ | refine blk_miss rfl ?_ | refine WC.ret ?_)
  refine WL.var rfl rfl rfl (fun _ => rfl) rfl rfl (show ∀ u ∈ [Value.slice ab 5 cb, Value.slice al 4 cl], u.oneCell' = true from Cells.cons rfl (Cells.cons rfl Cells.nil)) ?_
  intro b2 w3 hb2
  have hp3 := hp2.new hb2
  repeat (first | refine WC.seq ?_ | refine WC.reg ?_ | refine WL.pure rfl rfl rfl ?_ | refine WL.nil ?_ | refine WC.skip ?_ | refine WC.block ?_ | refine WC.condT rfl ?_ | refine WC.condF rfl ?_ | refine WL.off rfl rfl rfl ?_ | refine WL.off0 rfl rfl ?_ | refine WC.exit ?_ | refine blk_hit ?_ | refine blk_miss rfl ?_ | refine WC.ret ?_)
  refine WL.call rfl rfl rfl rfl rfl ent14 (Colour_any _ 5 5 five 3 w3 (hsl _ _ 1 hp3 rfl) h5 (hT.below hp3.below)) ?_
  rintro _ w4 ⟨hp4, rfl⟩
  have hp4 := hp3.call hp4.below
  have hcol : colV 5 five 3 = .tuple #[.int .i64 30, .int .i64 0] := by
    simp only [colV, five_g]
    rw [if_neg (by omega), five_col]
  rw [hcol]
  repeat (first | refine WC.seq ?_ | refine WC.reg ?_ | refine WL.pure rfl rfl rfl ?_ | refine WL.nil ?_ | refine WC.skip ?_ | refine WC.block ?_ | refine WC.condT rfl ?_ | refine WC.condF rfl ?_ | refine WL.off rfl rfl rfl ?_ | refine WL.off0 rfl rfl ?_ | refine WC.exit ?_ | refine blk_hit ?_ | refine blk_miss rfl ?_ | refine WC.ret ?_)
  refine WL.call rfl rfl rfl rfl rfl ent16 (Apart_any _ 5 5 five w4 (hsl _ _ 1 hp4 rfl) h5 (hT.below hp4.below)) ?_
  rintro _ w5 ⟨hp5, rfl⟩
  have hp5 := hp4.call hp5.below
  have hap : apV 5 five = .tuple #[.int .i64 11, .int .i64 2, .int .i64 0] := by
    simp only [apV, five_g]
    rw [five_ap]
    rfl
  rw [hap]
  repeat (first | refine WC.seq ?_ | refine WC.reg ?_ | refine WL.pure rfl rfl rfl ?_ | refine WL.nil ?_ | refine WC.skip ?_ | refine WC.block ?_ | refine WC.condT rfl ?_ | refine WC.condF rfl ?_ | refine WL.off rfl rfl rfl ?_ | refine WL.off0 rfl rfl ?_ | refine WC.exit ?_ | refine blk_hit ?_ | refine blk_miss rfl ?_ | refine WC.ret ?_)
  refine WL.call rfl rfl rfl rfl rfl ent17 (Clique_any _ 5 5 five w5 (hsl _ _ 1 hp5 rfl) h5 (hT.below hp5.below)) ?_
  intro v6 w6 hC
  unfold ClIs at hC
  simp only [five_g] at hC
  rw [five_cl] at hC
  obtain ⟨a6, c6, hp6, rfl⟩ := hC
  have hp6 := hp5.comb hp6
  repeat (first | refine WC.seq ?_ | refine WC.reg ?_ | refine WL.pure rfl rfl rfl ?_ | refine WL.nil ?_ | refine WC.skip ?_ | refine WC.block ?_ | refine WC.condT rfl ?_ | refine WC.condF rfl ?_ | refine WL.off rfl rfl rfl ?_ | refine WL.off0 rfl rfl ?_ | refine WC.exit ?_ | refine blk_hit ?_ | refine blk_miss rfl ?_ | refine WC.ret ?_)
  refine WL.loadB rfl rfl rfl rfl rfl (hp6.obj 1 rfl) rfl ?_
  repeat (first | refine WC.seq ?_ | refine WC.reg ?_ | refine WL.pure rfl rfl rfl ?_ | refine WL.nil ?_ | refine WC.skip ?_ | refine WC.block ?_ | refine WC.condT rfl ?_ | refine WC.condF rfl ?_ | refine WL.off rfl rfl rfl ?_ | refine WL.off0 rfl rfl ?_ | refine WC.exit ?_ | refine blk_hit ?_ | refine blk_miss rfl ?_ | refine WC.ret ?_)
  refine WL.buildS (cs := zs [0, 1]) rfl rfl rfl rfl rfl rfl rfl rfl rfl ?_
  intro b7 w7 hb7
  have hp7 := hp6.new hb7
  refine WL.call rfl rfl rfl rfl rfl ent21 (ints_any a6 (some ⟨b7, 0, none⟩) c6 2 [0, 1] [0, 1] w7 (Sl.of_row (hp7.at 1 rfl)) (Sl.of_obj (hp7.obj 0 rfl) (fun i u h => by simpa using h)) (by decide)) ?_
  rintro _ w8 ⟨hp8, rfl⟩
  have hp8 := hp7.call hp8.below
  repeat (first | refine WC.seq ?_ | refine WC.reg ?_ | refine WL.pure rfl rfl rfl ?_ | refine WL.nil ?_ | refine WC.skip ?_ | refine WC.block ?_ | refine WC.condT rfl ?_ | refine WC.condF rfl ?_ | refine WL.off rfl rfl rfl ?_ | refine WL.off0 rfl rfl ?_ | refine WC.exit ?_ | refine blk_hit ?_ | refine blk_miss rfl ?_ | refine WC.ret ?_)
  exact Res.one rfl rfl rfl ⟨rfl, hp8.nil'⟩
end Go.Proofs.YtdnkkflpgebfbaaDoor
