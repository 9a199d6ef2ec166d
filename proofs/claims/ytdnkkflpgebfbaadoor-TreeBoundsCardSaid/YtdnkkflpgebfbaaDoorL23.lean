/- The walk of 'TreeBounds'. -/
import Derived.Test.YtdnkkflpgebfbaaDoorL21
import Derived.Test.YtdnkkflpgebfbaaDoorL22
import Derived.Test.YtdnkkflpgebfbaaDoorBd
import Derived.Test.YtdnkkflpgebfbaaDoorPm
namespace Go.Proofs.YtdnkkflpgebfbaaDoor
open Go.W Go.Tree
set_option maxRecDepth 100000
attribute [local irreducible] WC WL WQ WS WH

def ups (o : List Nat) : List Int := o.map fun (v : Nat) => (v : Int)
theorem ints_ups (o : List Nat) : ints o = zs (ups o) := by simp [ints, zs, ups]
theorem ups_len (o : List Nat) : (ups o).length = o.length := by simp [ups]

theorem TreeBounds_any (ea oa : Option Addr) (ce co : Nat) (n : Int) (es : List Ed) (o : List Int) (w : World) (hs : Sl w ea (prs es)) (ho : Sl w oa (zs o)) (hT : Tb w) :
    Ret Tryd.prog 10 [.agg #[.int .i64 n, .slice ea es.length ce], .slice oa o.length co] w fun v w' => v = .bool true ∧ Hp w w' [] := by
  refine enter Tryd.func10 rfl rfl ⟨rfl, rfl⟩ rfl ?_
  repeat (first | refine WC.seq ?_ | refine WC.reg ?_ | refine WL.pure rfl rfl rfl ?_ | refine WL.nil ?_ | refine WC.skip ?_ | refine WC.block ?_ | refine WC.condT rfl ?_ | refine WC.condF rfl ?_ | refine WL.off rfl rfl rfl ?_ | refine WL.off0 rfl rfl ?_ | refine WC.exit ?_ | refine blk_hit ?_ | refine blk_miss rfl ?_ | refine WC.ret ?_)
  refine WL.box rfl rfl rfl ?_
  intro b2 w1 hb2
  have hp1 := (Hp.start w).new hb2
  repeat (first | refine WC.seq ?_ | refine WC.reg ?_ | refine WL.pure rfl rfl rfl ?_ | refine WL.nil ?_ | refine WC.skip ?_ | refine WC.block ?_ | refine WC.condT rfl ?_ | refine WC.condF rfl ?_ | refine WL.off rfl rfl rfl ?_ | refine WL.off0 rfl rfl ?_ | refine WC.exit ?_ | refine blk_hit ?_ | refine blk_miss rfl ?_ | refine WC.ret ?_)
  refine WL.loadN (cs := [.int .i64 n, .slice ea es.length ce]) rfl rfl rfl rfl rfl rfl (fun j v hj => cell_of_obj (hp1.obj 0 rfl) (by rw [Nat.zero_add]; simpa [Value.cells] using hj)) ?_
  refine WL.call rfl rfl rfl rfl rfl ent24 (tame_any ea ce n es 12 (by omega) w1 (hs.hp hp1)) ?_
  rintro _ w2 ⟨N, fs, g, a, c, hN, hmk, rfl, hp2⟩
  have hp2 := (hp1.comb hp2).swap.tail
  obtain ⟨hg, hgn, _, _, hf100⟩ := mkG_gr hmk
  have hgn : g.length = N := by simpa using hgn
  subst hgn
  have hn := hg.len
  have hf62 : fs.length ≤ 4611686018427387904 := by omega
  have hbl := bestO_len hg
  refine WL.var rfl rfl rfl (fun _ => rfl) rfl rfl (show ∀ u ∈ [Value.int .i64 (g.length : Nat), .slice a fs.length c], u.oneCell' = true from Cells.cons rfl (Cells.cons rfl Cells.nil)) ?_
  intro b5 w3 hb5
  have hp3 := hp2.new hb5
  have L0 : ∀ w' L, Hp w w' ([.blk b5 (.cells #[.int .i64 (g.length : Nat), .slice a fs.length c] 24 (0, 0)), .row 50 2 (.slice a fs.length c) fs.length (prs fs)] ++ L) →
      w'.heap[b5]? = some (.cells #[.int .i64 (g.length : Nat), .slice a fs.length c] 24 (0, 0)) ∧ Sl w' a (prs fs) ∧ Tb w' := fun w' L h => ⟨h.obj 0 rfl, Sl.of_row (h.at 1 rfl), hT.below h.below⟩
  have hp3 : Hp w w3 ([.blk b5 (.cells #[.int .i64 (g.length : Nat), .slice a fs.length c] 24 (0, 0)), .row 50 2 (.slice a fs.length c) fs.length (prs fs)] ++ []) := hp3
  obtain ⟨hB, sF, hT3⟩ := L0 w3 [] hp3
  repeat (first | refine WC.seq ?_ | refine WC.reg ?_ | refine WL.pure rfl rfl rfl ?_ | refine WL.nil ?_ | refine WC.skip ?_ | refine WC.block ?_ | refine WC.condT rfl ?_ | refine WC.condF rfl ?_ | refine WL.off rfl rfl rfl ?_ | refine WL.off0 rfl rfl ?_ | refine WC.exit ?_ | refine blk_hit ?_ | refine blk_miss rfl ?_ | refine WC.ret ?_)
  refine WL.loadB rfl rfl rfl rfl rfl hB rfl ?_
  repeat (first | refine WC.seq ?_ | refine WC.reg ?_ | refine WL.pure rfl rfl rfl ?_ | refine WL.nil ?_ | refine WC.skip ?_ | refine WC.block ?_ | refine WC.condT rfl ?_ | refine WC.condF rfl ?_ | refine WL.off rfl rfl rfl ?_ | refine WL.off0 rfl rfl ?_ | refine WC.exit ?_ | refine blk_hit ?_ | refine blk_miss rfl ?_ | refine WC.ret ?_)
  refine WL.loadB rfl rfl rfl rfl rfl hB rfl ?_
  refine WL.call rfl rfl rfl rfl rfl ent25 (Decompose_any a c _ fs w3 sF hf62 hT3) ?_
  intro v4 w4 hD
  unfold DecIs at hD
  rw [hmk] at hD
  obtain ⟨bl, ab, cb, al, cl, _, hp4, rfl⟩ := hD
  have hp4 := hp3.call hp4.below
  repeat (first | refine WC.seq ?_ | refine WC.reg ?_ | refine WL.pure rfl rfl rfl ?_ | refine WL.nil ?_ | refine WC.skip ?_ | refine WC.block ?_ | refine WC.condT rfl ?_ | refine WC.condF rfl ?_ | refine WL.off rfl rfl rfl ?_ | refine WL.off0 rfl rfl ?_ | refine WC.exit ?_ | refine blk_hit ?_ | refine blk_miss rfl ?_ | refine WC.ret ?_)
  refine WL.var rfl rfl rfl (fun _ => rfl) rfl rfl (show ∀ u ∈ [Value.slice ab bl.length cb, .slice al (linksOf g).length cl], u.oneCell' = true from Cells.cons rfl (Cells.cons rfl Cells.nil)) ?_
  intro b6 w5 hb6
  have hp5 := (hp4.new hb6).tail
  obtain ⟨hB, sF, hT5⟩ := L0 w5 [] hp5
  repeat (first | refine WC.seq ?_ | refine WC.reg ?_ | refine WL.pure rfl rfl rfl ?_ | refine WL.nil ?_ | refine WC.skip ?_ | refine WC.block ?_ | refine WC.condT rfl ?_ | refine WC.condF rfl ?_ | refine WL.off rfl rfl rfl ?_ | refine WL.off0 rfl rfl ?_ | refine WC.exit ?_ | refine blk_hit ?_ | refine blk_miss rfl ?_ | refine WC.ret ?_)
  refine WL.loadB rfl rfl rfl rfl rfl hB rfl ?_
  repeat (first | refine WC.seq ?_ | refine WC.reg ?_ | refine WL.pure rfl rfl rfl ?_ | refine WL.nil ?_ | refine WC.skip ?_ | refine WC.block ?_ | refine WC.condT rfl ?_ | refine WC.condF rfl ?_ | refine WL.off rfl rfl rfl ?_ | refine WL.off0 rfl rfl ?_ | refine WC.exit ?_ | refine blk_hit ?_ | refine blk_miss rfl ?_ | refine WC.ret ?_)
  refine WL.loadB rfl rfl rfl rfl rfl hB rfl ?_
  refine WL.call rfl rfl rfl rfl rfl ent28 (Best_any a c _ fs w5 sF hf62 hT5) ?_
  intro v6 w6 hBI
  unfold BestIs at hBI
  rw [hmk] at hBI
  obtain ⟨aB, cB, hp6, rfl⟩ := hBI
  have hp6 := Hp.rot [_] [_, _] [] (hp5.comb hp6)
  obtain ⟨hB, sF, hT6⟩ := L0 w6 _ hp6
  have sB : Sl w6 aB (zs (ups (bestO g))) := by rw [← ints_ups]; exact Sl.of_row (hp6.at 2 rfl)
  have hOr := Order_any a aB c cB (g.length : Nat) fs (ups (bestO g)) w6 sF hf62 sB (by rw [ups_len, hbl]; omega) hT6
  rw [ups_len, hbl] at hOr
  have hov : ordV (g.length : Nat) fs (ups (bestO g)) = .tuple #[.int .i64 (wd g 0), .int .i64 0] := by
    simp only [ordV, hmk]
    rw [if_neg (by rw [ups_len, hbl]; simp)]
    have := ord_bestO hg
    unfold ups
    rw [this]
  rw [hov] at hOr
  repeat (first | refine WC.seq ?_ | refine WC.reg ?_ | refine WL.pure rfl rfl rfl ?_ | refine WL.nil ?_ | refine WC.skip ?_ | refine WC.block ?_ | refine WC.condT rfl ?_ | refine WC.condF rfl ?_ | refine WL.off rfl rfl rfl ?_ | refine WL.off0 rfl rfl ?_ | refine WC.exit ?_ | refine blk_hit ?_ | refine blk_miss rfl ?_ | refine WC.ret ?_)
  refine WL.loadB rfl rfl rfl rfl rfl hB rfl ?_
  repeat (first | refine WC.seq ?_ | refine WC.reg ?_ | refine WL.pure rfl rfl rfl ?_ | refine WL.nil ?_ | refine WC.skip ?_ | refine WC.block ?_ | refine WC.condT rfl ?_ | refine WC.condF rfl ?_ | refine WL.off rfl rfl rfl ?_ | refine WL.off0 rfl rfl ?_ | refine WC.exit ?_ | refine blk_hit ?_ | refine blk_miss rfl ?_ | refine WC.ret ?_)
  refine WL.loadB rfl rfl rfl rfl rfl hB rfl ?_
  repeat (first | refine WC.seq ?_ | refine WC.reg ?_ | refine WL.pure rfl rfl rfl ?_ | refine WL.nil ?_ | refine WC.skip ?_ | refine WC.block ?_ | refine WC.condT rfl ?_ | refine WC.condF rfl ?_ | refine WL.off rfl rfl rfl ?_ | refine WL.off0 rfl rfl ?_ | refine WC.exit ?_ | refine blk_hit ?_ | refine blk_miss rfl ?_ | refine WC.ret ?_)
  refine WL.call rfl rfl rfl rfl rfl ent31 hOr ?_
  rintro _ w7 ⟨hp7, rfl⟩
  have hp7 := hp6.call hp7.below
  obtain ⟨hB, sF, hT7⟩ := L0 w7 _ hp7
  repeat (first | refine WC.seq ?_ | refine WC.reg ?_ | refine WL.pure rfl rfl rfl ?_ | refine WL.nil ?_ | refine WC.skip ?_ | refine WC.block ?_ | refine WC.condT rfl ?_ | refine WC.condF rfl ?_ | refine WL.off rfl rfl rfl ?_ | refine WL.off0 rfl rfl ?_ | refine WC.exit ?_ | refine blk_hit ?_ | refine blk_miss rfl ?_ | refine WC.ret ?_)
  refine WL.loadB rfl rfl rfl rfl rfl hB rfl ?_
  repeat (first | refine WC.seq ?_ | refine WC.reg ?_ | refine WL.pure rfl rfl rfl ?_ | refine WL.nil ?_ | refine WC.skip ?_ | refine WC.block ?_ | refine WC.condT rfl ?_ | refine WC.condF rfl ?_ | refine WL.off rfl rfl rfl ?_ | refine WL.off0 rfl rfl ?_ | refine WC.exit ?_ | refine blk_hit ?_ | refine blk_miss rfl ?_ | refine WC.ret ?_)
  refine WL.loadB rfl rfl rfl rfl rfl hB rfl ?_
  refine WL.call rfl rfl rfl rfl rfl ent17 (Clique_any a c _ fs w7 sF hf62 hT7) ?_
  intro v8 w8 hC
  unfold ClIs at hC
  rw [hmk] at hC
  simp only at hC
  obtain ⟨aC, cC, hp8, rfl⟩ := hC
  have hpQ := hp7.call hp8.below
  obtain ⟨hB, sF, hT8⟩ := L0 w8 _ hpQ
  have hclq := wd_clR hmk
  have hcll : (clR (nb g) (2 ^ g.length)).length ≤ 16 := by
    obtain ⟨C, _, h, _⟩ := clR_set (nb g) (2 ^ g.length)
    rw [h]; exact els_le C
  have hwn : wd g 0 ≤ (g.length : Int) - 1 := ord_le hg _ 0 (-1) _ (ord_bestO hg) (by omega)
  generalize (clR (nb g) (2 ^ g.length)).length = cn at *
  repeat (first | refine WC.seq ?_ | refine WC.reg ?_ | refine WL.pure rfl rfl rfl ?_ | refine WL.nil ?_ | refine WC.skip ?_ | refine WC.block ?_ | refine WC.condT rfl ?_ | refine WC.condF rfl ?_ | refine WL.off rfl rfl rfl ?_ | refine WL.off0 rfl rfl ?_ | refine WC.exit ?_ | refine blk_hit ?_ | refine blk_miss rfl ?_ | refine WC.ret ?_)
  refine WL.split 76 rfl (fun h => by simp at h) (fun _ => ?_)
  repeat (first | refine WC.seq ?_ | refine WC.reg ?_ | refine WL.pure rfl rfl rfl ?_ | refine WL.nil ?_ | refine WC.skip ?_ | refine WC.block ?_ | refine WC.condT rfl ?_ | refine WC.condF rfl ?_ | refine WL.off rfl rfl rfl ?_ | refine WL.off0 rfl rfl ?_ | refine WC.exit ?_ | refine blk_hit ?_ | refine blk_miss rfl ?_ | refine WC.ret ?_)
  refine WL.split 83 rfl (fun h => ?_) (fun _ => ?_)
  · have := of_decide_eq_true h
    rw [IntKind.wrap_i64] at this
    omega
  repeat (first | refine WC.seq ?_ | refine WC.reg ?_ | refine WL.pure rfl rfl rfl ?_ | refine WL.nil ?_ | refine WC.skip ?_ | refine WC.block ?_ | refine WC.condT rfl ?_ | refine WC.condF rfl ?_ | refine WL.off rfl rfl rfl ?_ | refine WL.off0 rfl rfl ?_ | refine WC.exit ?_ | refine blk_hit ?_ | refine blk_miss rfl ?_ | refine WC.ret ?_)
  refine WL.loadB rfl rfl rfl rfl rfl hB rfl ?_
  repeat (first | refine WC.seq ?_ | refine WC.reg ?_ | refine WL.pure rfl rfl rfl ?_ | refine WL.nil ?_ | refine WC.skip ?_ | refine WC.block ?_ | refine WC.condT rfl ?_ | refine WC.condF rfl ?_ | refine WL.off rfl rfl rfl ?_ | refine WL.off0 rfl rfl ?_ | refine WC.exit ?_ | refine blk_hit ?_ | refine blk_miss rfl ?_ | refine WC.ret ?_)
  refine WC.cond rfl (fun h => ?_) (fun _ => ?_)
  · have := of_decide_eq_true h
    rw [IntKind.wrap_i64] at this
    omega
  have itake : ∀ (x : List Nat) (m : Nat), ints (x.take m) = (ints x).take m := fun x m => by simp [ints, List.map_take]
  have idrop : ∀ (x : List Nat) (m : Nat), ints (x.drop m) = (ints x).drop m := fun x m => by simp [ints, List.map_drop]
  have ilen : ∀ (x : List Nat), (ints x).length = x.length := fun x => by simp [ints]
  have icells : ∀ (x : List Nat), Cells (ints x) := fun x => by rw [ints_ups]; exact zs_cells _
  have hp9 := (hpQ.pick [0, 1] (by decide)).nilrow 3 1
  have hp9 : Hp w w8 ([.blk b5 (.cells #[.int .i64 (g.length : Nat), .slice a fs.length c] 24 (0, 0)), .row 50 2 (.slice a fs.length c) fs.length (prs fs)] ++ [.row 3 1 (.slice none 0 0) 0 []]) := Hp.rot [_] [_, _] [] hp9
  repeat (first | refine WC.seq ?_ | refine WC.reg ?_ | refine WL.pure rfl rfl rfl ?_ | refine WL.nil ?_ | refine WC.skip ?_ | refine WC.block ?_ | refine WC.condT rfl ?_ | refine WC.condF rfl ?_ | refine WL.off rfl rfl rfl ?_ | refine WL.off0 rfl rfl ?_ | refine WC.exit ?_ | refine blk_hit ?_ | refine blk_miss rfl ?_ | refine WC.ret ?_)
  refine WC.loop (Nat × List Nat × Option Addr × Nat) (fun (v, ot, a', c') => [(1, .slice oa o.length co), (5, .pointer (some ⟨b5, 0, none⟩)), (7, .int .i64 (wd g 0)), (15, .slice a' ot.length c'), (16, .int .i64 (v : Nat))])
    (fun (v, ot, a', c') w' => v ≤ g.length ∧ ot.Perm (List.range v) ∧ Hp w w' ([.blk b5 (.cells #[.int .i64 (g.length : Nat), .slice a fs.length c] 24 (0, 0)), .row 50 2 (.slice a fs.length c) fs.length (prs fs)] ++ [.row 3 1 (.slice a' ot.length c') ot.length (ints ot)]))
    (fun (v, _) => g.length - v) (0, [], none, 0) ⟨rfl, rfl, rfl, rfl, rfl, rfl⟩ ⟨Nat.zero_le _, List.Perm.refl _, hp9⟩ ?_
  rintro ⟨v, ot, a', c'⟩ wA ⟨hv, hpm, hpA⟩
  have hol : ot.length = v := by have := hpm.length_eq; simpa using this
  obtain ⟨hB, sF, hTA⟩ := L0 wA _ hpA
  repeat (first | refine WC.seq ?_ | refine WC.reg ?_ | refine WL.pure rfl rfl rfl ?_ | refine WL.nil ?_ | refine WC.skip ?_ | refine WC.block ?_ | refine WC.condT rfl ?_ | refine WC.condF rfl ?_ | refine WL.off rfl rfl rfl ?_ | refine WL.off0 rfl rfl ?_ | refine WC.exit ?_ | refine blk_hit ?_ | refine blk_miss rfl ?_ | refine WC.ret ?_)
  refine WL.loadB rfl rfl rfl rfl rfl hB rfl ?_
  repeat (first | refine WC.seq ?_ | refine WC.reg ?_ | refine WL.pure rfl rfl rfl ?_ | refine WL.nil ?_ | refine WC.skip ?_ | refine WC.block ?_ | refine WC.condT rfl ?_ | refine WC.condF rfl ?_ | refine WL.off rfl rfl rfl ?_ | refine WL.off0 rfl rfl ?_ | refine WC.exit ?_ | refine blk_hit ?_ | refine blk_miss rfl ?_ | refine WC.ret ?_)
  refine WC.cond rfl (fun hc => ?_) (fun hc => ?_)
  · have hv : v < g.length := by have := of_decide_eq_true hc; omega
    have step : IntKind.i64.wrap ((v : Int) + 1) = ((v + 1 : Nat) : Int) := by rw [wrap_i64_in (by omega) (by omega)]; omega
    have hcap : ot.length ≤ c' := by
      obtain ⟨_, ⟨hv2, hn2⟩ | ⟨_, _, _, hv2, _, _, hnc, _⟩⟩ := hpA.at 2 rfl
      · rw [hn2]; exact Nat.zero_le _
      · simp only [Value.slice.injEq] at hv2; rw [hv2.2.2]; exact hnc
    repeat (first | refine WC.seq ?_ | refine WC.reg ?_ | refine WL.pure rfl rfl rfl ?_ | refine WL.nil ?_ | refine WC.skip ?_ | refine WC.block ?_ | refine WC.condT rfl ?_ | refine WC.condF rfl ?_ | refine WL.off rfl rfl rfl ?_ | refine WL.off0 rfl rfl ?_ | refine WC.exit ?_ | refine blk_hit ?_ | refine blk_miss rfl ?_ | refine WC.ret ?_)
    refine WC.loop Nat (fun at_ => [(1, .slice oa o.length co), (5, .pointer (some ⟨b5, 0, none⟩)), (7, .int .i64 (wd g 0)), (15, .slice a' ot.length c'), (16, .int .i64 (v : Nat)), (17, .int .i64 (at_ : Nat))])
      (fun at_ w' => w' = wA ∧ at_ ≤ ot.length) (fun at_ => ot.length - at_) 0 ⟨rfl, rfl, rfl, rfl, rfl, rfl, rfl⟩ ⟨rfl, Nat.zero_le _⟩ ?_
    rintro at_ wB ⟨rfl, hat⟩
    have hpB := hpA
    have sO : Sl wB a' (ints ot) := Sl.of_row (hpB.at 2 rfl)
    repeat (first | refine WC.seq ?_ | refine WC.reg ?_ | refine WL.pure rfl rfl rfl ?_ | refine WL.nil ?_ | refine WC.skip ?_ | refine WC.block ?_ | refine WC.condT rfl ?_ | refine WC.condF rfl ?_ | refine WL.off rfl rfl rfl ?_ | refine WL.off0 rfl rfl ?_ | refine WC.exit ?_ | refine blk_hit ?_ | refine blk_miss rfl ?_ | refine WC.ret ?_)
    refine WL.split 100 rfl (fun q1 => ?_) (fun q1 => ?_)
    · have q1 : at_ < ot.length := by have := of_decide_eq_true q1; omega
      have step2 : IntKind.i64.wrap ((at_ : Int) + 1) = ((at_ + 1 : Nat) : Int) := by rw [wrap_i64_in (by omega) (by omega)]; omega
      repeat (first | refine WC.seq ?_ | refine WC.reg ?_ | refine WL.pure rfl rfl rfl ?_ | refine WL.nil ?_ | refine WC.skip ?_ | refine WC.block ?_ | refine WC.condT rfl ?_ | refine WC.condF rfl ?_ | refine WL.off rfl rfl rfl ?_ | refine WL.off0 rfl rfl ?_ | refine WC.exit ?_ | refine blk_hit ?_ | refine blk_miss rfl ?_ | refine WC.ret ?_)
      refine WL.ixload rfl (fun _ => rfl) rfl rfl rfl rfl rfl rfl rfl q1 rfl rfl sO (ints_at q1) ?_
      intro p
      refine WL.callP rfl rfl rfl rfl rfl ent33 (key_any oa co o _ wB (ho.hp hpB)) ?_
      repeat (first | refine WC.seq ?_ | refine WC.reg ?_ | refine WL.pure rfl rfl rfl ?_ | refine WL.nil ?_ | refine WC.skip ?_ | refine WC.block ?_ | refine WC.condT rfl ?_ | refine WC.condF rfl ?_ | refine WL.off rfl rfl rfl ?_ | refine WL.off0 rfl rfl ?_ | refine WC.exit ?_ | refine blk_hit ?_ | refine blk_miss rfl ?_ | refine WC.ret ?_)
      refine WL.callP rfl rfl rfl rfl rfl ent33 (key_any oa co o v wB (ho.hp hpB)) ?_
      repeat (first | refine WC.seq ?_ | refine WC.reg ?_ | refine WL.pure rfl rfl rfl ?_ | refine WL.nil ?_ | refine WC.skip ?_ | refine WC.block ?_ | refine WC.condT rfl ?_ | refine WC.condF rfl ?_ | refine WL.off rfl rfl rfl ?_ | refine WL.off0 rfl rfl ?_ | refine WC.exit ?_ | refine blk_hit ?_ | refine blk_miss rfl ?_ | refine WC.ret ?_)
      refine WC.cond rfl (fun q2 => ?_) (fun q2 => ?_)
      · repeat (first | refine WC.seq ?_ | refine WC.reg ?_ | refine WL.pure rfl rfl rfl ?_ | refine WL.nil ?_ | refine WC.skip ?_ | refine WC.block ?_ | refine WC.condT rfl ?_ | refine WC.condF rfl ?_ | refine WL.off rfl rfl rfl ?_ | refine WL.off0 rfl rfl ?_ | refine WC.exit ?_ | refine blk_hit ?_ | refine blk_miss rfl ?_ | refine WC.ret ?_)
        exact ⟨at_ + 1, by show ot.length - (at_ + 1) < ot.length - at_; omega, ⟨rfl, rfl, rfl, rfl, rfl, congrArg (fun z => some (Value.int .i64 z)) step2, rfl⟩, rfl, q1⟩
      · repeat (first | refine WC.seq ?_ | refine WC.reg ?_ | refine WL.pure rfl rfl rfl ?_ | refine WL.nil ?_ | refine WC.skip ?_ | refine WC.block ?_ | refine WC.condT rfl ?_ | refine WC.condF rfl ?_ | refine WL.off rfl rfl rfl ?_ | refine WL.off0 rfl rfl ?_ | refine WC.exit ?_ | refine blk_hit ?_ | refine blk_miss rfl ?_ | refine WC.ret ?_)
        refine WL.sliceHi rfl rfl rfl rfl rfl rfl (by omega) ?_
        refine WL.append 0 (hpB.nilrow 3 1) rfl rfl rfl rfl rfl Nat.zero_lt_one rfl rfl rfl (news := ints (ot.take at_)) (by rw [itake]; exact sO.take _) (by rw [ilen, List.length_take, Nat.min_eq_left hat]; exact (Nat.mul_one _).symm) (icells _) (by unfold maxLen; omega) (by show (0 + at_) * 8 ≤ _; omega) ?_
        intro a1 c1 wC hpC hgC
        rw [Nat.zero_add] at hpC ⊢
        rw [List.nil_append] at hpC
        repeat (first | refine WC.seq ?_ | refine WC.reg ?_ | refine WL.pure rfl rfl rfl ?_ | refine WL.nil ?_ | refine WC.skip ?_ | refine WC.block ?_ | refine WC.condT rfl ?_ | refine WC.condF rfl ?_ | refine WL.off rfl rfl rfl ?_ | refine WL.off0 rfl rfl ?_ | refine WC.exit ?_ | refine blk_hit ?_ | refine blk_miss rfl ?_ | refine WC.ret ?_)
        refine WL.buildS (cs := [.int .i64 (v : Nat)]) rfl rfl rfl rfl rfl rfl rfl rfl rfl ?_
        intro bs wD hbs
        have hpD := hpC.new hbs
        refine WL.append 1 hpD rfl rfl rfl rfl rfl Nat.zero_lt_one rfl rfl rfl (news := [.int .i64 (v : Nat)]) (Sl.of_obj (hpD.obj 0 rfl) (fun q u hq => by simpa using hq)) rfl (Cells.cons rfl Cells.nil) (by unfold maxLen; omega) (by show (at_ + 1) * 8 ≤ _; omega) ?_
        intro a2 c2 wE hpE hgE
        have hpE := hpE.tail
        repeat (first | refine WC.seq ?_ | refine WC.reg ?_ | refine WL.pure rfl rfl rfl ?_ | refine WL.nil ?_ | refine WC.skip ?_ | refine WC.block ?_ | refine WC.condT rfl ?_ | refine WC.condF rfl ?_ | refine WL.off rfl rfl rfl ?_ | refine WL.off0 rfl rfl ?_ | refine WC.exit ?_ | refine blk_hit ?_ | refine blk_miss rfl ?_ | refine WC.ret ?_)
        refine WL.sliceLo rfl rfl rfl rfl rfl rfl hat hcap ?_
        intro a3 ha3
        have sE : Sl wE a3 (ints (ot.drop at_)) := by
          have h1 := ha3 wE (ints ot) (Sl.of_row (hpE.at 3 rfl)) (by rw [ilen]; exact Nat.le_of_eq (Nat.mul_one _).symm)
          rw [idrop]
          have h2 : (ints ot).drop (at_ * 1) = (ints ot).drop at_ := by rw [Nat.mul_one]
          rw [← h2]; exact h1
        refine WL.append 0 hpE rfl rfl rfl rfl rfl Nat.zero_lt_one rfl rfl rfl (news := ints (ot.drop at_)) sE (by rw [ilen, List.length_drop]; exact (Nat.mul_one _).symm) (icells _) (by unfold maxLen; omega) (by show (at_ + 1 + (ot.length - at_)) * 8 ≤ _; omega) ?_
        intro a4 c4 wF hpF hgF
        have hl4 : at_ + 1 + (ot.length - at_) = (ot.take at_ ++ [v] ++ ot.drop at_).length := by
          simp only [List.length_append, List.length_take, List.length_drop, List.length_singleton]; omega
        have hx4 : ints (ot.take at_) ++ [Value.int .i64 (v : Nat)] ++ ints (ot.drop at_) = ints (ot.take at_ ++ [v] ++ ot.drop at_) := by simp [ints]
        rw [hl4, hx4] at hpF
        rw [hl4]
        repeat (first | refine WC.seq ?_ | refine WC.reg ?_ | refine WL.pure rfl rfl rfl ?_ | refine WL.nil ?_ | refine WC.skip ?_ | refine WC.block ?_ | refine WC.condT rfl ?_ | refine WC.condF rfl ?_ | refine WL.off rfl rfl rfl ?_ | refine WL.off0 rfl rfl ?_ | refine WC.exit ?_ | refine blk_hit ?_ | refine blk_miss rfl ?_ | refine WC.ret ?_)
        exact ⟨(v + 1, ot.take at_ ++ [v] ++ ot.drop at_, a4, c4), by show g.length - (v + 1) < g.length - v; omega, ⟨rfl, rfl, rfl, rfl, congrArg (fun z => some (Value.int .i64 z)) step, rfl⟩, hv, put_perm hpm, hpF.pick [1, 2, 0] (by decide)⟩
    · repeat (first | refine WC.seq ?_ | refine WC.reg ?_ | refine WL.pure rfl rfl rfl ?_ | refine WL.nil ?_ | refine WC.skip ?_ | refine WC.block ?_ | refine WC.condT rfl ?_ | refine WC.condF rfl ?_ | refine WL.off rfl rfl rfl ?_ | refine WL.off0 rfl rfl ?_ | refine WC.exit ?_ | refine blk_hit ?_ | refine blk_miss rfl ?_ | refine WC.ret ?_)
      refine WL.sliceHi rfl rfl rfl rfl rfl rfl (by omega) ?_
      refine WL.append 0 (hpB.nilrow 3 1) rfl rfl rfl rfl rfl Nat.zero_lt_one rfl rfl rfl (news := ints (ot.take at_)) (by rw [itake]; exact sO.take _) (by rw [ilen, List.length_take, Nat.min_eq_left hat]; exact (Nat.mul_one _).symm) (icells _) (by unfold maxLen; omega) (by show (0 + at_) * 8 ≤ _; omega) ?_
      intro a1 c1 wC hpC hgC
      rw [Nat.zero_add] at hpC ⊢
      rw [List.nil_append] at hpC
      repeat (first | refine WC.seq ?_ | refine WC.reg ?_ | refine WL.pure rfl rfl rfl ?_ | refine WL.nil ?_ | refine WC.skip ?_ | refine WC.block ?_ | refine WC.condT rfl ?_ | refine WC.condF rfl ?_ | refine WL.off rfl rfl rfl ?_ | refine WL.off0 rfl rfl ?_ | refine WC.exit ?_ | refine blk_hit ?_ | refine blk_miss rfl ?_ | refine WC.ret ?_)
      refine WL.buildS (cs := [.int .i64 (v : Nat)]) rfl rfl rfl rfl rfl rfl rfl rfl rfl ?_
      intro bs wD hbs
      have hpD := hpC.new hbs
      refine WL.append 1 hpD rfl rfl rfl rfl rfl Nat.zero_lt_one rfl rfl rfl (news := [.int .i64 (v : Nat)]) (Sl.of_obj (hpD.obj 0 rfl) (fun q u hq => by simpa using hq)) rfl (Cells.cons rfl Cells.nil) (by unfold maxLen; omega) (by show (at_ + 1) * 8 ≤ _; omega) ?_
      intro a2 c2 wE hpE hgE
      have hpE := hpE.tail
      repeat (first | refine WC.seq ?_ | refine WC.reg ?_ | refine WL.pure rfl rfl rfl ?_ | refine WL.nil ?_ | refine WC.skip ?_ | refine WC.block ?_ | refine WC.condT rfl ?_ | refine WC.condF rfl ?_ | refine WL.off rfl rfl rfl ?_ | refine WL.off0 rfl rfl ?_ | refine WC.exit ?_ | refine blk_hit ?_ | refine blk_miss rfl ?_ | refine WC.ret ?_)
      refine WL.sliceLo rfl rfl rfl rfl rfl rfl hat hcap ?_
      intro a3 ha3
      have sE : Sl wE a3 (ints (ot.drop at_)) := by
        have h1 := ha3 wE (ints ot) (Sl.of_row (hpE.at 3 rfl)) (by rw [ilen]; exact Nat.le_of_eq (Nat.mul_one _).symm)
        rw [idrop]
        have h2 : (ints ot).drop (at_ * 1) = (ints ot).drop at_ := by rw [Nat.mul_one]
        rw [← h2]; exact h1
      refine WL.append 0 hpE rfl rfl rfl rfl rfl Nat.zero_lt_one rfl rfl rfl (news := ints (ot.drop at_)) sE (by rw [ilen, List.length_drop]; exact (Nat.mul_one _).symm) (icells _) (by unfold maxLen; omega) (by show (at_ + 1 + (ot.length - at_)) * 8 ≤ _; omega) ?_
      intro a4 c4 wF hpF hgF
      have hl4 : at_ + 1 + (ot.length - at_) = (ot.take at_ ++ [v] ++ ot.drop at_).length := by
        simp only [List.length_append, List.length_take, List.length_drop, List.length_singleton]; omega
      have hx4 : ints (ot.take at_) ++ [Value.int .i64 (v : Nat)] ++ ints (ot.drop at_) = ints (ot.take at_ ++ [v] ++ ot.drop at_) := by simp [ints]
      rw [hl4, hx4] at hpF
      rw [hl4]
      repeat (first | refine WC.seq ?_ | refine WC.reg ?_ | refine WL.pure rfl rfl rfl ?_ | refine WL.nil ?_ | refine WC.skip ?_ | refine WC.block ?_ | refine WC.condT rfl ?_ | refine WC.condF rfl ?_ | refine WL.off rfl rfl rfl ?_ | refine WL.off0 rfl rfl ?_ | refine WC.exit ?_ | refine blk_hit ?_ | refine blk_miss rfl ?_ | refine WC.ret ?_)
      exact ⟨(v + 1, ot.take at_ ++ [v] ++ ot.drop at_, a4, c4), by show g.length - (v + 1) < g.length - v; omega, ⟨rfl, rfl, rfl, rfl, congrArg (fun z => some (Value.int .i64 z)) step, rfl⟩, hv, put_perm hpm, hpF.pick [1, 2, 0] (by decide)⟩
  have hv : v = g.length := by have := of_decide_eq_false hc; omega
  obtain ⟨K, hK⟩ := perm_ok (g := g) (o := ot) (by rw [← hv]; exact hpm)
  have hKge := (ord_ge hn _ 0 (-1) K hK (Nat.two_pow_pos _) (by rw [card_zero, List.length_map]; omega) (Int.le_refl _)).2
  have hKle := ord_le hg _ 0 (-1) K hK (by omega)
  have sO : Sl wA a' (zs (ups ot)) := by rw [← ints_ups]; exact Sl.of_row (hpA.at 2 rfl)
  have hOr := Order_any a a' c c' (g.length : Nat) fs (ups ot) wA sF hf62 sO (by rw [ups_len]; omega) hTA
  rw [ups_len] at hOr
  have hov : ordV (g.length : Nat) fs (ups ot) = .tuple #[.int .i64 K, .int .i64 0] := by
    simp only [ordV, hmk]
    rw [if_neg (by rw [ups_len, hol, hv]; simp)]
    unfold ups
    rw [hK]
  rw [hov] at hOr
  repeat (first | refine WC.seq ?_ | refine WC.reg ?_ | refine WL.pure rfl rfl rfl ?_ | refine WL.nil ?_ | refine WC.skip ?_ | refine WC.block ?_ | refine WC.condT rfl ?_ | refine WC.condF rfl ?_ | refine WL.off rfl rfl rfl ?_ | refine WL.off0 rfl rfl ?_ | refine WC.exit ?_ | refine blk_hit ?_ | refine blk_miss rfl ?_ | refine WC.ret ?_)
  refine WL.loadB rfl rfl rfl rfl rfl hB rfl ?_
  repeat (first | refine WC.seq ?_ | refine WC.reg ?_ | refine WL.pure rfl rfl rfl ?_ | refine WL.nil ?_ | refine WC.skip ?_ | refine WC.block ?_ | refine WC.condT rfl ?_ | refine WC.condF rfl ?_ | refine WL.off rfl rfl rfl ?_ | refine WL.off0 rfl rfl ?_ | refine WC.exit ?_ | refine blk_hit ?_ | refine blk_miss rfl ?_ | refine WC.ret ?_)
  refine WL.loadB rfl rfl rfl rfl rfl hB rfl ?_
  repeat (first | refine WC.seq ?_ | refine WC.reg ?_ | refine WL.pure rfl rfl rfl ?_ | refine WL.nil ?_ | refine WC.skip ?_ | refine WC.block ?_ | refine WC.condT rfl ?_ | refine WC.condF rfl ?_ | refine WL.off rfl rfl rfl ?_ | refine WL.off0 rfl rfl ?_ | refine WC.exit ?_ | refine blk_hit ?_ | refine blk_miss rfl ?_ | refine WC.ret ?_)
  refine WL.call rfl rfl rfl rfl rfl ent31 hOr ?_
  rintro _ wB ⟨hpB, rfl⟩
  have hpB := hpA.call hpB.below
  obtain ⟨hB, sF, hTB⟩ := L0 wB _ hpB
  repeat (first | refine WC.seq ?_ | refine WC.reg ?_ | refine WL.pure rfl rfl rfl ?_ | refine WL.nil ?_ | refine WC.skip ?_ | refine WC.block ?_ | refine WC.condT rfl ?_ | refine WC.condF rfl ?_ | refine WL.off rfl rfl rfl ?_ | refine WL.off0 rfl rfl ?_ | refine WC.exit ?_ | refine blk_hit ?_ | refine blk_miss rfl ?_ | refine WC.ret ?_)
  refine WL.split 144 rfl (fun _ => ?_) (fun h => by have := of_decide_eq_false h; omega)
  repeat (first | refine WC.seq ?_ | refine WC.reg ?_ | refine WL.pure rfl rfl rfl ?_ | refine WL.nil ?_ | refine WC.skip ?_ | refine WC.block ?_ | refine WC.condT rfl ?_ | refine WC.condF rfl ?_ | refine WL.off rfl rfl rfl ?_ | refine WL.off0 rfl rfl ?_ | refine WC.exit ?_ | refine blk_hit ?_ | refine blk_miss rfl ?_ | refine WC.ret ?_)
  refine WL.loadB rfl rfl rfl rfl rfl hB rfl ?_
  repeat (first | refine WC.seq ?_ | refine WC.reg ?_ | refine WL.pure rfl rfl rfl ?_ | refine WL.nil ?_ | refine WC.skip ?_ | refine WC.block ?_ | refine WC.condT rfl ?_ | refine WC.condF rfl ?_ | refine WL.off rfl rfl rfl ?_ | refine WL.off0 rfl rfl ?_ | refine WC.exit ?_ | refine blk_hit ?_ | refine blk_miss rfl ?_ | refine WC.ret ?_)
  refine WL.split 151 rfl (fun _ => ?_) (fun h => ?_)
  · repeat (first | refine WC.seq ?_ | refine WC.reg ?_ | refine WL.pure rfl rfl rfl ?_ | refine WL.nil ?_ | refine WC.skip ?_ | refine WC.block ?_ | refine WC.condT rfl ?_ | refine WC.condF rfl ?_ | refine WL.off rfl rfl rfl ?_ | refine WL.off0 rfl rfl ?_ | refine WC.exit ?_ | refine blk_hit ?_ | refine blk_miss rfl ?_ | refine WC.ret ?_)
    refine WL.call rfl rfl rfl rfl rfl ent19 (awake_any wB hTB) ?_
    rintro _ wC ⟨rfl, hpC⟩
    repeat (first | refine WC.seq ?_ | refine WC.reg ?_ | refine WL.pure rfl rfl rfl ?_ | refine WL.nil ?_ | refine WC.skip ?_ | refine WC.block ?_ | refine WC.condT rfl ?_ | refine WC.condF rfl ?_ | refine WL.off rfl rfl rfl ?_ | refine WL.off0 rfl rfl ?_ | refine WC.exit ?_ | refine blk_hit ?_ | refine blk_miss rfl ?_ | refine WC.ret ?_)
    exact Res.one rfl rfl rfl ⟨rfl, (hpB.call hpC.below).nil'⟩
  · have := of_decide_eq_false h
    rw [IntKind.wrap_i64] at this
    omega
end Go.Proofs.YtdnkkflpgebfbaaDoor
