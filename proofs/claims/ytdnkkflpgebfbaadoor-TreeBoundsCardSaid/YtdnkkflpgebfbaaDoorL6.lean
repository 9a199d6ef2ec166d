/- The walk of 'widths'. -/
import Derived.Test.YtdnkkflpgebfbaaDoorL5
import Derived.Test.YtdnkkflpgebfbaaDoorWd
namespace Go.Proofs.YtdnkkflpgebfbaaDoor
open Go.W Go.Tree
set_option maxRecDepth 100000
attribute [local irreducible] WC WL WQ WS

theorem full_i64 {n : Nat} (hn : n ≤ 14) : IntKind.i64.wrap (shl .i64 1 n - 1) = (full n : Nat) := by
  have h1 := shl_one (v := n) (by omega)
  have h2 : 2 ^ n ≤ 2 ^ 14 := Nat.pow_le_pow_right (by decide) hn
  have h3 := Nat.two_pow_pos n
  rw [h1, wrap_i64_in (by omega) (by omega)]
  unfold full; omega

theorem widths_any (ga : Option Addr) (cap : Nat) (g : List Nat) (w : World) (hs : Sl w ga (ints g)) (hT : Tb w) (hg : Gr g) :
    Ret Tryd.prog 68 [.slice ga g.length cap] w fun v w' =>
      ∃ b, Hp w w' [.blk b (.cells (zs (wdRow g 0)).toArray 3 (0, 0))] ∧ v = .slice (some ⟨b, 0, none⟩) (2 ^ g.length) (2 ^ g.length) := by
  have hn := hg.len
  have hp14 : 2 ^ g.length ≤ 2 ^ 14 := Nat.pow_le_pow_right (by decide) hn
  have hpos := Nat.two_pow_pos g.length
  have hfull : full g.length + 1 = 2 ^ g.length := by unfold full; omega
  refine enterM Tryd.func68 rfl rfl ⟨rfl, rfl⟩ rfl ?_
  repeat (first | refine WC.seq ?_ | refine WC.reg ?_ | refine WL.pure rfl rfl rfl ?_ | refine WL.nil ?_ | refine WC.skip ?_ | refine WC.block ?_ | refine WC.condT rfl ?_ | refine WC.condF rfl ?_ | refine WL.off rfl rfl rfl ?_ | refine WL.off0 rfl rfl ?_ | refine WC.exit ?_ | refine blk_hit ?_ | refine blk_miss rfl ?_ | refine WC.ret ?_)
  refine WL.box rfl rfl rfl ?_
  intro bg w1 hbg
  have hp1 := (Hp.start w).new hbg
  repeat (first | refine WC.seq ?_ | refine WC.reg ?_ | refine WL.pure rfl rfl rfl ?_ | refine WL.nil ?_ | refine WC.skip ?_ | refine WC.block ?_ | refine WC.condT rfl ?_ | refine WC.condF rfl ?_ | refine WL.off rfl rfl rfl ?_ | refine WL.off0 rfl rfl ?_ | refine WC.exit ?_ | refine blk_hit ?_ | refine blk_miss rfl ?_ | refine WC.ret ?_)
  refine WL.loadB rfl rfl rfl rfl rfl (hp1.obj 0 rfl) rfl ?_
  repeat (first | refine WC.seq ?_ | refine WC.reg ?_ | refine WL.pure rfl rfl rfl ?_ | refine WL.nil ?_ | refine WC.skip ?_ | refine WC.block ?_ | refine WC.condT rfl ?_ | refine WC.condF rfl ?_ | refine WL.off rfl rfl rfl ?_ | refine WL.off0 rfl rfl ?_ | refine WC.exit ?_ | refine blk_hit ?_ | refine blk_miss rfl ?_ | refine WC.ret ?_)
  have e0 := full_i64 hn
  have e1 : IntKind.i64.wrap (IntKind.i64.wrap (shl .i64 1 g.length - 1) + 1) = ((2 ^ g.length : Nat) : Int) := by rw [e0, wrap_i64_in (by omega) (by omega)]; omega
  refine WL.known (d := 3) (congrArg (fun z => some (Value.int .i64 z)) e0) ?_
  refine WL.known (d := 13) (congrArg (fun z => some (Value.int .i64 z)) e1) ?_
  refine WL.make (m := 2 ^ g.length) rfl rfl rfl rfl rfl rfl rfl rfl ?_ ?_ ?_
  · show 8 * 2 ^ g.length ≤ _; omega
  · unfold maxLen; omega
  intro b w2 hb
  have hz : (List.replicate (2 ^ g.length) ti3.zero) = zs (List.replicate (2 ^ g.length) 0) := by simp only [zs, List.map_replicate]; rfl
  rw [hz] at hb
  have hp2 := hp1.new hb
  refine WL.var rfl rfl rfl (fun _ => rfl) rfl rfl (by intro y hy; simp [Value.cells] at hy; subst hy; rfl) ?_
  intro b4 w3 hb4
  have hp3 := hp2.new hb4
  repeat (first | refine WC.seq ?_ | refine WC.reg ?_ | refine WL.pure rfl rfl rfl ?_ | refine WL.nil ?_ | refine WC.skip ?_ | refine WC.block ?_ | refine WC.condT rfl ?_ | refine WC.condF rfl ?_ | refine WL.off rfl rfl rfl ?_ | refine WL.off0 rfl rfl ?_ | refine WC.exit ?_ | refine blk_hit ?_ | refine blk_miss rfl ?_ | refine WC.ret ?_)
  refine WL.loadB rfl rfl rfl rfl rfl (hp3.obj 0 rfl) rfl ?_
  repeat (first | refine WC.seq ?_ | refine WC.reg ?_ | refine WL.pure rfl rfl rfl ?_ | refine WL.nil ?_ | refine WC.skip ?_ | refine WC.block ?_ | refine WC.condT rfl ?_ | refine WC.condF rfl ?_ | refine WL.off rfl rfl rfl ?_ | refine WL.off0 rfl rfl ?_ | refine WC.exit ?_ | refine blk_hit ?_ | refine blk_miss rfl ?_ | refine WC.ret ?_)
  have hfl : full g.length < 2 ^ g.length := full_lt _
  refine WL.ix1 rfl rfl rfl rfl rfl rfl rfl hfl ?_
  refine WL.store rfl rfl rfl rfl rfl rfl (hp3.obj 1 rfl) (by simp [zs]; omega) (fun w4 hw4 => ?_)
  rw [Nat.zero_add, zs_set, wdRow_start] at hw4
  have hp4 := hp3.set 1 rfl rfl hw4
  repeat (first | refine WC.seq ?_ | refine WC.reg ?_ | refine WL.pure rfl rfl rfl ?_ | refine WL.nil ?_ | refine WC.skip ?_ | refine WC.block ?_ | refine WC.condT rfl ?_ | refine WC.condF rfl ?_ | refine WL.off rfl rfl rfl ?_ | refine WL.off0 rfl rfl ?_ | refine WC.exit ?_ | refine blk_hit ?_ | refine blk_miss rfl ?_ | refine WC.ret ?_)
  refine WL.var rfl rfl rfl (fun _ => rfl) rfl rfl (by intro y hy; simp [Value.cells] at hy; subst hy; rfl) ?_
  intro b5 w5 hb5
  have hp5 := (hp4.new hb5).none'
  repeat (first | refine WC.seq ?_ | refine WC.reg ?_ | refine WL.pure rfl rfl rfl ?_ | refine WL.nil ?_ | refine WC.skip ?_ | refine WC.block ?_ | refine WC.condT rfl ?_ | refine WC.condF rfl ?_ | refine WL.off rfl rfl rfl ?_ | refine WL.off0 rfl rfl ?_ | refine WC.exit ?_ | refine blk_hit ?_ | refine blk_miss rfl ?_ | refine WC.ret ?_)
  refine WC.loop (Int × Nat × List Nat) (fun (G, b5, ds) => [(1000000000, enc ds), (1, .pointer (some ⟨bg, 0, none⟩)), (3, .int .i64 (full g.length : Nat)), (4, .pointer (some ⟨b4, 0, none⟩)), (5, .pointer (some ⟨b5, 0, none⟩))])
    (fun (G, b5, ds) w' => -1 ≤ G ∧ G < full g.length ∧ Hp w w' [.many (dfrs ds), .blk b5 (.cells #[.int .i64 G] 76 (0, 0)), .blk b4 (.cells #[.slice (some ⟨b, 0, none⟩) (2 ^ g.length) (2 ^ g.length)] 32 (0, 0)),
      .blk b (.cells (zs (wdRow g (G + 1).toNat)).toArray 3 (0, 0)), .blk bg (.cells #[.slice ga g.length cap] 68 (0, 0))]) (fun (G, _, _) => (G + 1).toNat) ((full g.length : Nat) - 1, b5, [])
    ⟨rfl, rfl, rfl, rfl, rfl⟩ ⟨by omega, by omega, ?_⟩ ?_
  · rw [show IntKind.i64.wrap (((full g.length : Nat) : Int) - 1) = ((full g.length : Nat) : Int) - 1 by rw [IntKind.wrap_i64]; omega] at hp5
    rw [show (((full g.length : Nat) : Int) - 1 + 1).toNat = full g.length by omega]
    exact hp5
  rintro ⟨G, b5, ds⟩ w' ⟨hG1, hG2, hp⟩
  repeat (first | refine WC.seq ?_ | refine WC.reg ?_ | refine WL.pure rfl rfl rfl ?_ | refine WL.nil ?_ | refine WC.skip ?_ | refine WC.block ?_ | refine WC.condT rfl ?_ | refine WC.condF rfl ?_ | refine WL.off rfl rfl rfl ?_ | refine WL.off0 rfl rfl ?_ | refine WC.exit ?_ | refine blk_hit ?_ | refine blk_miss rfl ?_ | refine WC.ret ?_)
  refine WL.loadB rfl rfl rfl rfl rfl (hp.obj 1 rfl) rfl ?_
  repeat (first | refine WC.seq ?_ | refine WC.reg ?_ | refine WL.pure rfl rfl rfl ?_ | refine WL.nil ?_ | refine WC.skip ?_ | refine WC.block ?_ | refine WC.condT rfl ?_ | refine WC.condF rfl ?_ | refine WL.off rfl rfl rfl ?_ | refine WL.off0 rfl rfl ?_ | refine WC.exit ?_ | refine blk_hit ?_ | refine blk_miss rfl ?_ | refine WC.ret ?_)
  refine WC.cond rfl (fun hc => ?_) (fun hc => ?_)
  · have hG0 : 0 ≤ G := by simpa using hc
    obtain ⟨S, rfl⟩ := Int.eq_ofNat_of_zero_le hG0
    have hS : S < full g.length := by omega
    rw [show ((S : Int) + 1).toNat = S + 1 by omega] at hp
    have hS14 : S < 16384 := by omega
    generalize hcc : bd (full g.length) S = c
    have hc14 : c < 16384 := by rw [← hcc]; exact Nat.lt_of_le_of_lt (bd_le _ _) (by omega)
    repeat (first | refine WC.seq ?_ | refine WC.reg ?_ | refine WL.pure rfl rfl rfl ?_ | refine WL.nil ?_ | refine WC.skip ?_ | refine WC.block ?_ | refine WC.condT rfl ?_ | refine WC.condF rfl ?_ | refine WL.off rfl rfl rfl ?_ | refine WL.off0 rfl rfl ?_ | refine WC.exit ?_ | refine blk_hit ?_ | refine blk_miss rfl ?_ | refine WC.ret ?_)
    refine WL.loadB rfl rfl rfl rfl rfl (hp.obj 4 rfl) rfl ?_
    repeat (first | refine WC.seq ?_ | refine WC.reg ?_ | refine WL.pure rfl rfl rfl ?_ | refine WL.nil ?_ | refine WC.skip ?_ | refine WC.block ?_ | refine WC.condT rfl ?_ | refine WC.condF rfl ?_ | refine WL.off rfl rfl rfl ?_ | refine WL.off0 rfl rfl ?_ | refine WC.exit ?_ | refine blk_hit ?_ | refine blk_miss rfl ?_ | refine WC.ret ?_)
    refine WL.var rfl rfl rfl (fun _ => rfl) rfl rfl (by intro y hy; simp [Value.cells] at hy; subst hy; rfl) ?_
    intro b6 w6 hb6
    have hp6 := hp.new hb6
    repeat (first | refine WC.seq ?_ | refine WC.reg ?_ | refine WL.pure rfl rfl rfl ?_ | refine WL.nil ?_ | refine WC.skip ?_ | refine WC.block ?_ | refine WC.condT rfl ?_ | refine WC.condF rfl ?_ | refine WL.off rfl rfl rfl ?_ | refine WL.off0 rfl rfl ?_ | refine WC.exit ?_ | refine blk_hit ?_ | refine blk_miss rfl ?_ | refine WC.ret ?_)
    refine WL.loadB rfl rfl rfl rfl rfl (hp6.obj 2 rfl) rfl ?_
    repeat (first | refine WC.seq ?_ | refine WC.reg ?_ | refine WL.pure rfl rfl rfl ?_ | refine WL.nil ?_ | refine WC.skip ?_ | refine WC.block ?_ | refine WC.condT rfl ?_ | refine WC.condF rfl ?_ | refine WL.off rfl rfl rfl ?_ | refine WL.off0 rfl rfl ?_ | refine WC.exit ?_ | refine blk_hit ?_ | refine blk_miss rfl ?_ | refine WC.ret ?_)
    have e2 : bits .andNot .i64 ((full g.length : Nat) : Int) (S : Int) = ((c : Nat) : Int) := by rw [andNot_i64 (by omega) (by omega), hcc]
    refine WL.known (d := 28) (congrArg (fun z => some (Value.int .i64 z)) e2) ?_
    refine WL.call rfl rfl rfl rfl rfl ent56 (all_any _ _) ?_
    rintro _ w7 ⟨b7, hb7, rfl⟩
    have hp7 := hp6.new hb7
    repeat (first | refine WC.seq ?_ | refine WC.reg ?_ | refine WL.pure rfl rfl rfl ?_ | refine WL.nil ?_ | refine WC.skip ?_ | refine WC.block ?_ | refine WC.condT rfl ?_ | refine WC.condF rfl ?_ | refine WL.off rfl rfl rfl ?_ | refine WL.off0 rfl rfl ?_ | refine WC.exit ?_ | refine blk_hit ?_ | refine blk_miss rfl ?_ | refine WC.ret ?_)
    refine WC.rangeF (ints (els c)) Int (fun best => [.blk b7 (.cells #[.int .i64 c] 76 (0, 0)), .blk b6 (.cells #[.int .i64 best] 3 (0, 0)), .many (dfrs ds), .blk b5 (.cells #[.int .i64 (S : Nat)] 76 (0, 0)), .blk b4 (.cells #[.slice (some ⟨b, 0, none⟩) (2 ^ g.length) (2 ^ g.length)] 32 (0, 0)),
      .blk b (.cells (zs (wdRow g (S + 1))).toArray 3 (0, 0)), .blk bg (.cells #[.slice ga g.length cap] 68 (0, 0))])
      (fun i best => best = ((els c).take i).foldl (wdStep g S (wd g)) g.length) g.length
      [(1, .pointer (some ⟨bg, 0, none⟩)), (3, .int .i64 (full g.length : Nat)), (4, .pointer (some ⟨b4, 0, none⟩)), (5, .pointer (some ⟨b5, 0, none⟩)), (6, .pointer (some ⟨b6, 0, none⟩))]
      rfl ent70 rfl ⟨rfl, rfl, rfl, rfl, rfl, trivial⟩ hp7 rfl ?_ ?_ ?_
    · intro w8 hp8
      exact all1_iter _ c (by omega) w w8 hT (cell_of_obj (hp8.obj 0 rfl) rfl)
    · rintro i x best l D o w8 hx hbest hp8
      obtain ⟨v, hv, rfl⟩ : ∃ v : Nat, (els c)[i]? = some v ∧ x = .int .i64 v := by
        simp only [ints, List.getElem?_map, Option.map_eq_some_iff] at hx
        obtain ⟨y, h1, rfl⟩ := hx
        exact ⟨y, h1, rfl⟩
      obtain ⟨hvn, hvS⟩ := (mem_compl hn).1 (by rw [hcc]; exact List.mem_of_getElem? hv)
      have hor : S ||| 2 ^ v < 2 ^ g.length := or_pow_lt (by omega) hvn
      have hlat := lat_lt hg hvn (gone := S)
      repeat (first | refine WC.seq ?_ | refine WC.reg ?_ | refine WL.pure rfl rfl rfl ?_ | refine WL.nil ?_ | refine WC.skip ?_ | refine WC.block ?_ | refine WC.condT rfl ?_ | refine WC.condF rfl ?_ | refine WL.off rfl rfl rfl ?_ | refine WL.off0 rfl rfl ?_ | refine WC.exit ?_ | refine blk_hit ?_ | refine blk_miss rfl ?_ | refine WC.ret ?_)
      refine ⟨_, hp8, fun o' w9 hp9 => ?_⟩
      repeat (first | refine WC.seq ?_ | refine WC.reg ?_ | refine WL.pure rfl rfl rfl ?_ | refine WL.nil ?_ | refine WC.skip ?_ | refine WC.block ?_ | refine WC.condT rfl ?_ | refine WC.condF rfl ?_ | refine WL.off rfl rfl rfl ?_ | refine WL.off0 rfl rfl ?_ | refine WC.exit ?_ | refine blk_hit ?_ | refine blk_miss rfl ?_ | refine WC.ret ?_)
      refine WC.regS 15 mixed (by kernel_rfl) rfl rfl (fun wa hwa hha => ?_)
      have hpa := hp9.keep hwa
      have hTa : Tb wa := hT.below hpa.below
      have hsa := hs.hp hpa
      repeat (first | refine WS.pure rfl rfl rfl ?_ | refine WS.off rfl rfl rfl ?_ | refine WS.nil ?_)
      refine WS.loadB rfl rfl rfl rfl rfl (hpa.obj 3 rfl) rfl ?_
      refine WS.loadB rfl rfl rfl rfl rfl (hpa.obj 8 rfl) rfl ?_
      refine WS.loadB rfl rfl rfl rfl rfl (hpa.obj 5 rfl) rfl ?_
      repeat (first | refine WS.pure rfl rfl rfl ?_ | refine WS.off rfl rfl rfl ?_ | refine WS.nil ?_)
      refine WS.call rfl rfl rfl rfl rfl ent55 (later_any ga cap g S v wa hsa hTa hg hvn hS14) ?_
      refine WS.call rfl rfl rfl rfl rfl ent41 (size_any _ (by omega) _) ?_
      refine WS.loadB rfl rfl rfl rfl rfl (hpa.obj 6 rfl) rfl ?_
      refine WS.loadB rfl rfl rfl rfl rfl (hpa.obj 5 rfl) rfl ?_
      repeat (first | refine WS.pure rfl rfl rfl ?_ | refine WS.off rfl rfl rfl ?_ | refine WS.nil ?_)
      have e3 : bits .or .i64 (S : Int) (shl .i64 1 v) = ((S ||| 2 ^ v : Nat) : Int) := by rw [shl_one (by omega), or_i64 (by omega) (by have := Nat.pow_lt_pow_right (a := 2) (by decide) hvn; omega)]
      refine WS.known (d := 41) (congrArg (fun z => some (Value.int .i64 z)) e3) ?_
      refine WS.ix1 rfl rfl rfl rfl rfl rfl rfl hor ?_
      have hgt : S + 1 ≤ S ||| 2 ^ v := by
        rcases Nat.lt_or_ge S (S ||| 2 ^ v) with h | h
        · exact h
        · have h1 : S ||| 2 ^ v = S := Nat.le_antisymm h Nat.left_le_or
          have h2 : (S ||| 2 ^ v).testBit v = true := by simp
          rw [h1, hvS] at h2; cases h2
      refine WS.loadB rfl rfl rfl rfl rfl (hpa.obj 7 rfl) (v := .int .i64 (wd g (S ||| 2 ^ v))) (by rw [nth_eq, Nat.zero_add]; exact wdRow_at hor hgt) ?_
      repeat (first | refine WS.pure rfl rfl rfl ?_ | refine WS.off rfl rfl rfl ?_ | refine WS.nil ?_)
      refine WL.store rfl rfl rfl rfl rfl rfl (hpa.obj 3 rfl) Nat.zero_lt_one (fun wb hwb => ?_)
      have hpb := hpa.set 3 rfl rfl hwb
      repeat (first | refine WC.seq ?_ | refine WC.reg ?_ | refine WL.pure rfl rfl rfl ?_ | refine WL.nil ?_ | refine WC.skip ?_ | refine WC.block ?_ | refine WC.condT rfl ?_ | refine WC.condF rfl ?_ | refine WL.off rfl rfl rfl ?_ | refine WL.off0 rfl rfl ?_ | refine WC.exit ?_ | refine blk_hit ?_ | refine blk_miss rfl ?_ | refine WC.ret ?_)
      refine ⟨_, ?_, hpb⟩
      rw [List.take_add_one, hv, List.foldl_append, ← hbest]
      rfl
    · rintro best D w8 hbest hp8
      have hbest : best = wd g S := by
        rw [wd_eq hn (by omega), hcc, hbest]
        congr 1
        exact List.take_of_length_le (by simp [ints])
      subst hbest
      repeat (first | refine WC.seq ?_ | refine WC.reg ?_ | refine WL.pure rfl rfl rfl ?_ | refine WL.nil ?_ | refine WC.skip ?_ | refine WC.block ?_ | refine WC.condT rfl ?_ | refine WC.condF rfl ?_ | refine WL.off rfl rfl rfl ?_ | refine WL.off0 rfl rfl ?_ | refine WC.exit ?_ | refine blk_hit ?_ | refine blk_miss rfl ?_ | refine WC.ret ?_)
      refine WL.loadB rfl rfl rfl rfl rfl (hp8.obj 5 rfl) rfl ?_
      refine WL.loadB rfl rfl rfl rfl rfl (hp8.obj 4 rfl) rfl ?_
      refine WL.loadB rfl rfl rfl rfl rfl (hp8.obj 2 rfl) rfl ?_
      refine WL.ix1 rfl rfl rfl rfl rfl rfl rfl (j := S) (by omega) ?_
      refine WL.store rfl rfl rfl rfl rfl rfl (hp8.obj 6 rfl) (by simp [zs, wdRow]; omega) (fun w9 hw9 => ?_)
      rw [Nat.zero_add, zs_set, wdRow_next (by omega)] at hw9
      have hp9 := hp8.set 6 rfl rfl hw9
      repeat (first | refine WC.seq ?_ | refine WC.reg ?_ | refine WL.pure rfl rfl rfl ?_ | refine WL.nil ?_ | refine WC.skip ?_ | refine WC.block ?_ | refine WC.condT rfl ?_ | refine WC.condF rfl ?_ | refine WL.off rfl rfl rfl ?_ | refine WL.off0 rfl rfl ?_ | refine WC.exit ?_ | refine blk_hit ?_ | refine blk_miss rfl ?_ | refine WC.ret ?_)
      refine WL.loadB rfl rfl rfl rfl rfl (hp9.obj 4 rfl) rfl ?_
      repeat (first | refine WC.seq ?_ | refine WC.reg ?_ | refine WL.pure rfl rfl rfl ?_ | refine WL.nil ?_ | refine WC.skip ?_ | refine WC.block ?_ | refine WC.condT rfl ?_ | refine WC.condF rfl ?_ | refine WL.off rfl rfl rfl ?_ | refine WL.off0 rfl rfl ?_ | refine WC.exit ?_ | refine blk_hit ?_ | refine blk_miss rfl ?_ | refine WC.ret ?_)
      refine WL.var rfl rfl rfl (fun _ => rfl) rfl rfl (by intro y hy; simp [Value.cells] at hy; subst hy; rfl) ?_
      intro b5' wc hb5'
      have hpc := hp9.new hb5'
      repeat (first | refine WC.seq ?_ | refine WC.reg ?_ | refine WL.pure rfl rfl rfl ?_ | refine WL.nil ?_ | refine WC.skip ?_ | refine WC.block ?_ | refine WC.condT rfl ?_ | refine WC.condF rfl ?_ | refine WL.off rfl rfl rfl ?_ | refine WL.off0 rfl rfl ?_ | refine WC.exit ?_ | refine blk_hit ?_ | refine blk_miss rfl ?_ | refine WC.ret ?_)
      refine WL.loadB rfl rfl rfl rfl rfl (hpc.obj 0 rfl) rfl ?_
      repeat (first | refine WC.seq ?_ | refine WC.reg ?_ | refine WL.pure rfl rfl rfl ?_ | refine WL.nil ?_ | refine WC.skip ?_ | refine WC.block ?_ | refine WC.condT rfl ?_ | refine WC.condF rfl ?_ | refine WL.off rfl rfl rfl ?_ | refine WL.off0 rfl rfl ?_ | refine WC.exit ?_ | refine blk_hit ?_ | refine blk_miss rfl ?_ | refine WC.ret ?_)
      refine WL.store rfl rfl rfl rfl rfl rfl (hpc.obj 0 rfl) Nat.zero_lt_one (fun wd' hwd' => ?_)
      have hpd := hpc.set 0 rfl rfl hwd'
      rw [show IntKind.i64.wrap ((S : Int) - 1) = (S : Int) - 1 by rw [IntKind.wrap_i64]; omega] at hpd
      repeat (first | refine WC.seq ?_ | refine WC.reg ?_ | refine WL.pure rfl rfl rfl ?_ | refine WL.nil ?_ | refine WC.skip ?_ | refine WC.block ?_ | refine WC.condT rfl ?_ | refine WC.condF rfl ?_ | refine WL.off rfl rfl rfl ?_ | refine WL.off0 rfl rfl ?_ | refine WC.exit ?_ | refine blk_hit ?_ | refine blk_miss rfl ?_ | refine WC.ret ?_)
      have hpe := Hp.join (hpd.pick [1, 4, 0, 6, 7, 8] (by decide))
      refine ⟨((S : Int) - 1, b5', D :: ds), by show ((S : Int) - 1 + 1).toNat < ((S : Int) + 1).toNat; omega, ⟨rfl, rfl, rfl, rfl, ?_⟩, by omega, by omega, ?_⟩
      · show dec (enc (D :: ds)) = dec (enc (D :: dec (enc ds)))
        rw [dec_enc ds]
      · rw [show ((S : Int) - 1 + 1).toNat = S by omega]
        exact hpe
  · have hG0 : G = -1 := by simp at hc; omega
    subst hG0
    repeat (first | refine WC.seq ?_ | refine WC.reg ?_ | refine WL.pure rfl rfl rfl ?_ | refine WL.nil ?_ | refine WC.skip ?_ | refine WC.block ?_ | refine WC.condT rfl ?_ | refine WC.condF rfl ?_ | refine WL.off rfl rfl rfl ?_ | refine WL.off0 rfl rfl ?_ | refine WC.exit ?_ | refine blk_hit ?_ | refine blk_miss rfl ?_ | refine WC.ret ?_)
    refine WL.loadB rfl rfl rfl rfl rfl (hp.obj 2 rfl) rfl ?_
    repeat (first | refine WC.seq ?_ | refine WC.reg ?_ | refine WL.pure rfl rfl rfl ?_ | refine WL.nil ?_ | refine WC.skip ?_ | refine WC.block ?_ | refine WC.condT rfl ?_ | refine WC.condF rfl ?_ | refine WL.off rfl rfl rfl ?_ | refine WL.off0 rfl rfl ?_ | refine WC.exit ?_ | refine blk_hit ?_ | refine blk_miss rfl ?_ | refine WC.ret ?_)
    refine ResM.one (dec_enc ds) rfl rfl hp (fun w6 hp6 => ⟨b, hp6.perm [2] rfl (by decide), rfl⟩)
end Go.Proofs.YtdnkkflpgebfbaaDoor
