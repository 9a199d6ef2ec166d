/- The list of a set. -/
import Derived.Test.YtdnkkflpgebfbaaDoorL4
namespace Go.Proofs.YtdnkkflpgebfbaaDoor
open Go.W Go.Tree
set_option maxRecDepth 100000
attribute [local irreducible] WC WL WQ WS

/-- A list of one's own that has been made. -/
def Made (w : World) (xs : List Value) (v : Value) (w' : World) : Prop :=
  ∃ a cap, v = .slice a xs.length cap ∧ Hp w w' [.row 3 1 (.slice a xs.length cap) xs.length xs]

theorem els_le (s : Nat) : (els s).length ≤ 16 := by
  rw [els]; exact Nat.le_trans (List.length_filter_le _ _) (by simp)

theorem appendSeq_any (c : Addr) (s : Nat) (hs : s < 65536) (w : World) (hT : Tb w) (hc : w.cell? c = some (.int .i64 s)) :
    Ret Tryd.prog 73 [.slice none 0 0, .func (.func 70) #[] #[.pointer (some c)]] w (Made w (ints (els s))) := by
  have hlen := els_le s
  refine enterM Tryd.func73 rfl rfl ⟨rfl, rfl⟩ rfl ?_
  repeat (first | refine WC.seq ?_ | refine WC.reg ?_ | refine WL.pure rfl rfl rfl ?_ | refine WL.nil ?_ | refine WC.skip ?_ | refine WC.block ?_ | refine WC.condT rfl ?_ | refine WC.condF rfl ?_ | refine WL.off rfl rfl rfl ?_ | refine WL.off0 rfl rfl ?_ | refine WC.exit ?_ | refine blk_hit ?_ | refine blk_miss rfl ?_ | refine WC.ret ?_)
  refine WL.box rfl rfl rfl ?_
  intro b w1 hb
  have hp1 := ((Hp.start w).new hb).nilrow 3 1
  repeat (first | refine WC.seq ?_ | refine WC.reg ?_ | refine WL.pure rfl rfl rfl ?_ | refine WL.nil ?_ | refine WC.skip ?_ | refine WC.block ?_ | refine WC.condT rfl ?_ | refine WC.condF rfl ?_ | refine WL.off rfl rfl rfl ?_ | refine WL.off0 rfl rfl ?_ | refine WC.exit ?_ | refine blk_hit ?_ | refine blk_miss rfl ?_ | refine WC.ret ?_)
  refine WC.rangeF (ints (els s)) (Nat × Option Addr × Nat) (fun (i, a, cap) => [.row 3 1 (.slice a i cap) i ((ints (els s)).take i), .blk b (.cells #[.slice a i cap] 32 (0, 0))]) (fun i s => s.1 = i) (0, none, 0)
    [(2, .pointer (some ⟨b, 0, none⟩))] rfl ent70 rfl ⟨rfl, trivial⟩ hp1 rfl ?_ ?_ ?_
  · intro w2 hp2
    exact all1_iter c s hs w w2 hT (cell_below hp2.below hc)
  · rintro _ x ⟨i, a, cap⟩ l D o w2 hx rfl hp2
    simp only at hx
    have hi : i < (ints (els s)).length := (List.getElem?_eq_some_iff.1 hx).1
    have hi' : i < 16 := by simp [ints] at hi; omega
    obtain ⟨y, rfl⟩ : ∃ y : Nat, x = .int .i64 y := by
      simp only [ints, List.getElem?_map, Option.map_eq_some_iff] at hx
      obtain ⟨y, _, rfl⟩ := hx
      exact ⟨y, rfl⟩
    repeat (first | refine WC.seq ?_ | refine WC.reg ?_ | refine WL.pure rfl rfl rfl ?_ | refine WL.nil ?_ | refine WC.skip ?_ | refine WC.block ?_ | refine WC.condT rfl ?_ | refine WC.condF rfl ?_ | refine WL.off rfl rfl rfl ?_ | refine WL.off0 rfl rfl ?_ | refine WC.exit ?_ | refine blk_hit ?_ | refine blk_miss rfl ?_ | refine WC.ret ?_)
    refine ⟨_, hp2, fun o' w3 hp3 => ?_⟩
    repeat (first | refine WC.seq ?_ | refine WC.reg ?_ | refine WL.pure rfl rfl rfl ?_ | refine WL.nil ?_ | refine WC.skip ?_ | refine WC.block ?_ | refine WC.condT rfl ?_ | refine WC.condF rfl ?_ | refine WL.off rfl rfl rfl ?_ | refine WL.off0 rfl rfl ?_ | refine WC.exit ?_ | refine blk_hit ?_ | refine blk_miss rfl ?_ | refine WC.ret ?_)
    refine WL.loadB rfl rfl rfl rfl rfl (hp3.obj 3 rfl) rfl ?_
    repeat (first | refine WC.seq ?_ | refine WC.reg ?_ | refine WL.pure rfl rfl rfl ?_ | refine WL.nil ?_ | refine WC.skip ?_ | refine WC.block ?_ | refine WC.condT rfl ?_ | refine WC.condF rfl ?_ | refine WL.off rfl rfl rfl ?_ | refine WL.off0 rfl rfl ?_ | refine WC.exit ?_ | refine blk_hit ?_ | refine blk_miss rfl ?_ | refine WC.ret ?_)
    refine WL.buildS (cs := [.int .i64 y]) rfl rfl rfl rfl rfl rfl rfl rfl rfl ?_
    intro b2 w4 hb2
    have hp4 := hp3.new hb2
    refine WL.append 3 hp4 rfl rfl rfl rfl rfl Nat.zero_lt_one rfl rfl rfl (news := [.int .i64 y]) ?_ rfl ?_ ?_ ?_ ?_
    · exact Sl.of_obj (hp4.obj 0 rfl) (fun q u hq => by simpa using hq)
    · exact Cells.cons rfl Cells.nil
    · unfold maxLen; omega
    · show (i + 1) * 8 ≤ _; omega
    intro a' cap' w5 hp5 hg5
    refine WL.store rfl rfl rfl rfl rfl rfl (hp5.obj 4 rfl) Nat.zero_lt_one (fun w6 hw6 => ?_)
    have hp6 := hp5.set 4 rfl rfl hw6
    repeat (first | refine WC.seq ?_ | refine WC.reg ?_ | refine WL.pure rfl rfl rfl ?_ | refine WL.nil ?_ | refine WC.skip ?_ | refine WC.block ?_ | refine WC.condT rfl ?_ | refine WC.condF rfl ?_ | refine WL.off rfl rfl rfl ?_ | refine WL.off0 rfl rfl ?_ | refine WC.exit ?_ | refine blk_hit ?_ | refine blk_miss rfl ?_ | refine WC.ret ?_)
    refine ⟨(i + 1, a', cap'), rfl, ?_⟩
    have := hp6.tail
    dsimp only
    rw [List.take_add_one, hx]
    exact this
  · rintro ⟨_, a, cap⟩ D w2 rfl hp2
    repeat (first | refine WC.seq ?_ | refine WC.reg ?_ | refine WL.pure rfl rfl rfl ?_ | refine WL.nil ?_ | refine WC.skip ?_ | refine WC.block ?_ | refine WC.condT rfl ?_ | refine WC.condF rfl ?_ | refine WL.off rfl rfl rfl ?_ | refine WL.off0 rfl rfl ?_ | refine WC.exit ?_ | refine blk_hit ?_ | refine blk_miss rfl ?_ | refine WC.ret ?_)
    refine WL.loadB rfl rfl rfl rfl rfl (hp2.obj 2 rfl) rfl ?_
    repeat (first | refine WC.seq ?_ | refine WC.reg ?_ | refine WL.pure rfl rfl rfl ?_ | refine WL.nil ?_ | refine WC.skip ?_ | refine WC.block ?_ | refine WC.condT rfl ?_ | refine WC.condF rfl ?_ | refine WL.off rfl rfl rfl ?_ | refine WL.off0 rfl rfl ?_ | refine WC.exit ?_ | refine blk_hit ?_ | refine blk_miss rfl ?_ | refine WC.ret ?_)
    refine ResM.one rfl rfl rfl hp2.single (fun w3 hp3 => ⟨a, cap, rfl, ?_⟩)
    have := hp3.swap.tail
    rw [List.take_length] at this
    exact this

theorem collect_any (c : Addr) (s : Nat) (hs : s < 65536) (w : World) (hT : Tb w) (hc : w.cell? c = some (.int .i64 s)) :
    Ret Tryd.prog 66 [.func (.func 70) #[] #[.pointer (some c)]] w (Made w (ints (els s))) := by
  refine enter Tryd.func66 rfl rfl ⟨rfl, rfl⟩ rfl ?_
  repeat (first | refine WC.seq ?_ | refine WC.reg ?_ | refine WL.pure rfl rfl rfl ?_ | refine WL.nil ?_ | refine WC.skip ?_ | refine WC.block ?_ | refine WC.condT rfl ?_ | refine WC.condF rfl ?_ | refine WL.off rfl rfl rfl ?_ | refine WL.off0 rfl rfl ?_ | refine WC.exit ?_ | refine blk_hit ?_ | refine blk_miss rfl ?_ | refine WC.ret ?_)
  refine WL.call rfl rfl rfl rfl rfl ent73 (appendSeq_any c s hs w hT hc) ?_
  intro v w' hm
  repeat (first | refine WC.seq ?_ | refine WC.reg ?_ | refine WL.pure rfl rfl rfl ?_ | refine WL.nil ?_ | refine WC.skip ?_ | refine WC.block ?_ | refine WC.condT rfl ?_ | refine WC.condF rfl ?_ | refine WL.off rfl rfl rfl ?_ | refine WL.off0 rfl rfl ?_ | refine WC.exit ?_ | refine blk_hit ?_ | refine blk_miss rfl ?_ | refine WC.ret ?_)
  exact Res.one rfl rfl rfl hm

theorem listed_any (s : Nat) (hs : s < 65536) (w : World) (hT : Tb w) :
    Ret Tryd.prog 45 [.int .i64 s] w (Made w (ints (els s))) := by
  refine enter Tryd.func45 rfl rfl ⟨rfl, rfl⟩ rfl ?_
  repeat (first | refine WC.seq ?_ | refine WC.reg ?_ | refine WL.pure rfl rfl rfl ?_ | refine WL.nil ?_ | refine WC.skip ?_ | refine WC.block ?_ | refine WC.condT rfl ?_ | refine WC.condF rfl ?_ | refine WL.off rfl rfl rfl ?_ | refine WL.off0 rfl rfl ?_ | refine WC.exit ?_ | refine blk_hit ?_ | refine blk_miss rfl ?_ | refine WC.ret ?_)
  refine WL.call rfl rfl rfl rfl rfl ent56 (all_any s w) ?_
  rintro _ w1 ⟨b, hb, rfl⟩
  have hp1 := (Hp.start w).new hb
  refine WL.call rfl rfl rfl rfl rfl ent66 (collect_any _ s hs w1 (hT.below hp1.below) (cell_of_obj hb.at_ rfl)) ?_
  rintro _ w2 ⟨a, cap, rfl, hp2⟩
  repeat (first | refine WC.seq ?_ | refine WC.reg ?_ | refine WL.pure rfl rfl rfl ?_ | refine WL.nil ?_ | refine WC.skip ?_ | refine WC.block ?_ | refine WC.condT rfl ?_ | refine WC.condF rfl ?_ | refine WL.off rfl rfl rfl ?_ | refine WL.off0 rfl rfl ?_ | refine WC.exit ?_ | refine blk_hit ?_ | refine blk_miss rfl ?_ | refine WC.ret ?_)
  exact Res.one rfl rfl rfl ⟨a, cap, rfl, (hp1.comb hp2).swap.tail⟩
end Go.Proofs.YtdnkkflpgebfbaaDoor
