/- The walk of awake. -/
import Derived.Test.YtoghnhbjdnjghaaGreatV21
namespace Go.Words
open Go.W
def L1 : List Rl := [([98, 97], [97, 98]), ([97, 97], [])]
def L3 : List Rl := [([97, 97, 97], []), ([98, 98], []), ([98, 97], [97, 97, 98])]
def X3 : List Rl := [([98, 98], []), ([97, 97, 97], []), ([97, 97, 98], [98, 97]), ([97, 98, 97], [98]), ([98, 97, 97], [97, 98]), ([98, 97, 98], [97, 97])]
theorem aw1 : normM L1 [98, 97, 98, 97, 98] = some ([98, 98, 98], 4) := by kernel_rfl
theorem aw1s : (sysB L1 && strB [98, 97, 98, 97, 98]) = true := by kernel_rfl
theorem aw1t : sysB L1 = true := by kernel_rfl
theorem aw2 : clashM L1 = some (-1) := by kernel_rfl
theorem aw3s : eqnsB L3 6 = true := by kernel_rfl
theorem aw3 : completeM L3 6 = some (X3, true) := by kernel_rfl
theorem aw4s : cntB X3 2 = true := by kernel_rfl
theorem aw4 : sizeM X3 2 = some 6 := by kernel_rfl
end Go.Words
namespace Go.Proofs.YtoghnhbjdnjghaaGreat
open Go.W Go.Words Go.RowKit
set_option maxRecDepth 100000
attribute [local irreducible] WC WL WQ WS WH

theorem sm_L1 : Sm 24 L1 := by
  intro r hr
  simp only [L1, List.mem_cons, List.not_mem_nil, or_false] at hr
  rcases hr with rfl | rfl <;> decide
theorem sm_L3 : Sm 24 L3 := by
  intro r hr
  simp only [L3, List.mem_cons, List.not_mem_nil, or_false] at hr
  rcases hr with rfl | rfl | rfl <;> decide
theorem sm_X3 : Sm 24 X3 := by
  intro r hr
  simp only [X3, List.mem_cons, List.not_mem_nil, or_false] at hr
  rcases hr with rfl | rfl | rfl | rfl | rfl | rfl <;> decide
theorem norV_L1 : NorV L1 [98, 97, 98, 97, 98] = .tuple #[st [98, 98, 98], .int .i64 (4 : Nat), .int .i64 0] := by
  unfold NorV
  rw [aw1s, aw1]
  rfl
theorem clashV_L1 : ClashV L1 = .tuple #[.int .i64 (-1), .int .i64 0] := by
  unfold ClashV
  rw [aw1t, aw2]
  rfl
theorem sizeV_X3 : SizeV X3 2 = .tuple #[.int .i64 6, .int .i64 0] := by
  unfold SizeV
  rw [aw4s, show (2 : Int).toNat = 2 from rfl, aw4]
  rfl
theorem awake_any (w : World) (hmx : Mx w) : Ret Tryz.prog 16 [] w fun u w' => u = .bool true ∧ Hp w w' [] := by
  refine enter Tryz.func16 rfl rfl ⟨rfl, rfl⟩ rfl ?_
  repeat (first | refine WC.seq ?_ | refine WC.reg ?_ | refine WL.pure rfl rfl rfl ?_ | refine WL.nil ?_ | refine WC.skip ?_ | refine WC.block ?_ | refine WC.condT rfl ?_ | refine WC.condF rfl ?_ | refine WL.off rfl rfl rfl ?_ | refine WL.off0 rfl rfl ?_ | refine WC.exit ?_ | refine blk_hit ?_ | refine blk_miss rfl ?_ | refine WC.ret ?_)
  refine WL.buildT (cs := [st [98, 97], st [97, 98]]) rfl rfl rfl rfl rfl rfl ?_
  refine WL.buildT (cs := [st [97, 97], st []]) rfl rfl rfl rfl rfl rfl ?_
  refine WL.buildS (cs := rcs L1) rfl rfl rfl rfl rfl rfl rfl rfl rfl ?_
  intro b1 w1 hb1
  have hp1 := (Hp.start w).new hb1
  have hs1 : Sl w1 (some ⟨b1, 0, none⟩) (rcs L1) := Sl.of_obj (hp1.obj 0 rfl) (fun j u hu => by simpa using hu)
  have hp1 := hp1.nil'
  repeat (first | refine WC.seq ?_ | refine WC.reg ?_ | refine WL.pure rfl rfl rfl ?_ | refine WL.nil ?_ | refine WC.skip ?_ | refine WC.block ?_ | refine WC.condT rfl ?_ | refine WC.condF rfl ?_ | refine WL.off rfl rfl rfl ?_ | refine WL.off0 rfl rfl ?_ | refine WC.exit ?_ | refine blk_hit ?_ | refine blk_miss rfl ?_ | refine WC.ret ?_)
  refine WL.call rfl rfl rfl rfl rfl ent12 (Normal_any (some ⟨b1, 0, none⟩) 2 L1 [98, 97, 98, 97, 98] (sm_L1.mono (by decide)) (by decide) w1 hs1) ?_
  rintro _ w2 ⟨rfl, hp2⟩
  rw [norV_L1]
  repeat (first | refine WC.seq ?_ | refine WC.reg ?_ | refine WL.pure rfl rfl rfl ?_ | refine WL.nil ?_ | refine WC.skip ?_ | refine WC.block ?_ | refine WC.condT rfl ?_ | refine WC.condF rfl ?_ | refine WL.off rfl rfl rfl ?_ | refine WL.off0 rfl rfl ?_ | refine WC.exit ?_ | refine blk_hit ?_ | refine blk_miss rfl ?_ | refine WC.ret ?_)
  refine WL.call rfl rfl rfl rfl rfl ent21 (Clash_any (some ⟨b1, 0, none⟩) 2 L1 (sm_L1.mono (by decide)) w2 (hs1.hp hp2)) ?_
  rintro _ w3 ⟨rfl, hp3⟩
  have hp3 := (hp1.over hp2).over hp3
  rw [clashV_L1]
  repeat (first | refine WC.seq ?_ | refine WC.reg ?_ | refine WL.pure rfl rfl rfl ?_ | refine WL.nil ?_ | refine WC.skip ?_ | refine WC.block ?_ | refine WC.condT rfl ?_ | refine WC.condF rfl ?_ | refine WL.off rfl rfl rfl ?_ | refine WL.off0 rfl rfl ?_ | refine WC.exit ?_ | refine blk_hit ?_ | refine blk_miss rfl ?_ | refine WC.ret ?_)
  refine WL.buildT (cs := [st [97, 97, 97], st []]) rfl rfl rfl rfl rfl rfl ?_
  refine WL.buildT (cs := [st [98, 98], st []]) rfl rfl rfl rfl rfl rfl ?_
  refine WL.buildT (cs := [st [98, 97], st [97, 97, 98]]) rfl rfl rfl rfl rfl rfl ?_
  refine WL.buildS (cs := rcs L3) rfl rfl rfl rfl rfl rfl rfl rfl rfl ?_
  intro b2 w4 hb2
  have hp4 := hp3.new hb2
  have hs2 : Sl w4 (some ⟨b2, 0, none⟩) (rcs L3) := Sl.of_obj (hp4.obj 0 rfl) (fun j u hu => by simpa using hu)
  have hp4 := hp4.nil'
  refine WL.call rfl rfl rfl rfl rfl ent18 (Complete_any (some ⟨b2, 0, none⟩) 3 L3 6 (sm_L3.mono (by decide)) w4 (hmx.hp hp4) hs2) ?_
  intro u w5 hu
  unfold CompQ at hu
  rw [aw3s, show (6 : Int).toNat = 6 from rfl, aw3, if_pos rfl] at hu
  obtain ⟨pa, pc, rfl, hp5⟩ := hu
  repeat (first | refine WC.seq ?_ | refine WC.reg ?_ | refine WL.pure rfl rfl rfl ?_ | refine WL.nil ?_ | refine WC.skip ?_ | refine WC.block ?_ | refine WC.condT rfl ?_ | refine WC.condF rfl ?_ | refine WL.off rfl rfl rfl ?_ | refine WL.off0 rfl rfl ?_ | refine WC.exit ?_ | refine blk_hit ?_ | refine blk_miss rfl ?_ | refine WC.ret ?_)
  refine WL.call rfl rfl rfl rfl rfl ent30 (Size_any pa pc X3 2 (sm_X3.mono (by decide)) w5 (Sl.of_row (hp5.at 0 rfl))) ?_
  rintro _ w6 ⟨rfl, hp6⟩
  have hp6 := (hp4.over hp5.nil').over hp6
  rw [sizeV_X3]
  repeat (first | refine WC.seq ?_ | refine WC.reg ?_ | refine WL.pure rfl rfl rfl ?_ | refine WL.nil ?_ | refine WC.skip ?_ | refine WC.block ?_ | refine WC.condT rfl ?_ | refine WC.condF rfl ?_ | refine WL.off rfl rfl rfl ?_ | refine WL.off0 rfl rfl ?_ | refine WC.exit ?_ | refine blk_hit ?_ | refine blk_miss rfl ?_ | refine WC.ret ?_)
  refine WL.sCmp (a := [98, 98, 98]) (b := [98, 98, 98]) rfl rfl rfl rfl rfl ?_
  repeat (first | refine WC.seq ?_ | refine WC.reg ?_ | refine WL.pure rfl rfl rfl ?_ | refine WL.nil ?_ | refine WC.skip ?_ | refine WC.block ?_ | refine WC.condT rfl ?_ | refine WC.condF rfl ?_ | refine WL.off rfl rfl rfl ?_ | refine WL.off0 rfl rfl ?_ | refine WC.exit ?_ | refine blk_hit ?_ | refine blk_miss rfl ?_ | refine WC.ret ?_)
  exact Res.one rfl rfl rfl ⟨rfl, hp6⟩
end Go.Proofs.YtoghnhbjdnjghaaGreat
