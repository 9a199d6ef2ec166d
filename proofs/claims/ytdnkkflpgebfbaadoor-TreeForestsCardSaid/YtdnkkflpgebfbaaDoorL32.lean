/- The walk of 'TreeFits'. -/
import Derived.Test.YtdnkkflpgebfbaaDoorL31
import Derived.Test.YtdnkkflpgebfbaaDoorPd
namespace Go.Proofs.YtdnkkflpgebfbaaDoor
open Go.W Go.Tree
set_option maxRecDepth 100000
attribute [local irreducible] WC WL WQ WS WH

theorem Sl.of_bag {B : Nat} {w : World} {b : Bag} (h : (bagE b).sat B w) : Sl w b.1 (ints b.2.2) := Sl.of_row h
theorem bagV_at {bl : List Bag} {i : Nat} {b : Bag} (h : bl[i]? = some b) : (bl.map bagV)[i]? = some (bagV b) := by simp [h]
/-- The bags of a decomposition have at most 16 elements. -/
theorem dcB_small (g : List Nat) : ∀ (o : List Nat) (S : Nat), ∀ B ∈ dcB g o S, B.length ≤ 16 := by
  intro o
  induction o with
  | nil => intro S B hB; cases hB
  | cons v r ih =>
    intro S B hB
    rcases List.mem_cons.1 hB with rfl | hB
    · exact els_le _
    · exact ih _ B hB
theorem bags_small (g : List Nat) : ∀ B ∈ bagsOf g, B.length ≤ 16 := by
  intro B hB
  unfold bagsOf at hB
  split at hB
  · rw [List.mem_singleton.1 hB]; exact Nat.zero_le _
  · exact dcB_small g _ _ B hB
theorem bags_few {g : List Nat} (hg : Gr g) : (bagsOf g).length ≤ 14 := by
  have hn := hg.len
  by_cases h : g.length = 0
  · rw [bagsOf, if_pos h]; simp
  · rw [bags_len hg h]; exact hn

theorem TreeFits_any (ea : Option Addr) (ce : Nat) (n : Int) (es : List Ed) (w : World) (hs : Sl w ea (prs es)) (hT : Tb w) :
    Ret Tryd.prog 7 [.agg #[.int .i64 n, .slice ea es.length ce]] w fun v w' => v = .bool true ∧ Hp w w' [] := by
  refine enter Tryd.func7 rfl rfl ⟨rfl, rfl⟩ rfl ?_
  repeat (first | refine WC.seq ?_ | refine WC.reg ?_ | refine WL.pure rfl rfl rfl ?_ | refine WL.nil ?_ | refine WC.skip ?_ | refine WC.block ?_ | refine WC.condT rfl ?_ | refine WC.condF rfl ?_ | refine WL.off rfl rfl rfl ?_ | refine WL.off0 rfl rfl ?_ | refine WC.exit ?_ | refine blk_hit ?_ | refine blk_miss rfl ?_ | refine WC.ret ?_)
  refine WL.box rfl rfl rfl ?_
  intro b2 w1 hb2
  have hp1 := (Hp.start w).new hb2
  repeat (first | refine WC.seq ?_ | refine WC.reg ?_ | refine WL.pure rfl rfl rfl ?_ | refine WL.nil ?_ | refine WC.skip ?_ | refine WC.block ?_ | refine WC.condT rfl ?_ | refine WC.condF rfl ?_ | refine WL.off rfl rfl rfl ?_ | refine WL.off0 rfl rfl ?_ | refine WC.exit ?_ | refine blk_hit ?_ | refine blk_miss rfl ?_ | refine WC.ret ?_)
  refine WL.loadN (cs := [.int .i64 n, .slice ea es.length ce]) rfl rfl rfl rfl rfl rfl (fun j v hj => cell_of_obj (hp1.obj 0 rfl) (by rw [Nat.zero_add]; simpa [Value.cells] using hj)) ?_
  refine WL.call rfl rfl rfl rfl rfl ent24 (tame_any ea ce n es 12 (by omega) w1 (hs.hp hp1)) ?_
  rintro _ w2 ⟨N, fs, g, a, c, hN, hmk, rfl, hp2⟩
  have hp2 := (hp1.comb hp2).swap.tail
  obtain ⟨hg, hgn, _, _, hf100⟩ := mkG_gr hmk
  have hgn : g.length = N := by simpa using hgn
  subst hgn
  have hn := hg.len
  have hf62 : fs.length ≤ 4611686018427387904 := by omega
  have hwu := wd_up hg
  have hwl := wd_ge hn 0
  refine WL.var rfl rfl rfl (fun _ => rfl) rfl rfl (show ∀ u ∈ [Value.int .i64 (g.length : Nat), .slice a fs.length c], u.oneCell' = true from Cells.cons rfl (Cells.cons rfl Cells.nil)) ?_
  intro b5 w3 hb5
  have hp3 := hp2.new hb5
  have hB := hp3.obj 0 rfl
  have sF := Sl.of_row (hp3.at 1 rfl)
  repeat (first | refine WC.seq ?_ | refine WC.reg ?_ | refine WL.pure rfl rfl rfl ?_ | refine WL.nil ?_ | refine WC.skip ?_ | refine WC.block ?_ | refine WC.condT rfl ?_ | refine WC.condF rfl ?_ | refine WL.off rfl rfl rfl ?_ | refine WL.off0 rfl rfl ?_ | refine WC.exit ?_ | refine blk_hit ?_ | refine blk_miss rfl ?_ | refine WC.ret ?_)
  refine WL.loadB rfl rfl rfl rfl rfl hB rfl ?_
  repeat (first | refine WC.seq ?_ | refine WC.reg ?_ | refine WL.pure rfl rfl rfl ?_ | refine WL.nil ?_ | refine WC.skip ?_ | refine WC.block ?_ | refine WC.condT rfl ?_ | refine WC.condF rfl ?_ | refine WL.off rfl rfl rfl ?_ | refine WL.off0 rfl rfl ?_ | refine WC.exit ?_ | refine blk_hit ?_ | refine blk_miss rfl ?_ | refine WC.ret ?_)
  refine WL.loadB rfl rfl rfl rfl rfl hB rfl ?_
  refine WL.call rfl rfl rfl rfl rfl ent25 (Decompose_any a c _ fs w3 sF hf62 (hT.below hp3.below)) ?_
  intro v4 w4 hD
  unfold DecIs at hD
  rw [hmk] at hD
  obtain ⟨bl, ab, cb, al, cl, hbl, hp4, rfl⟩ := hD
  have hp4 := hp3.comb hp4
  repeat (first | refine WC.seq ?_ | refine WC.reg ?_ | refine WL.pure rfl rfl rfl ?_ | refine WL.nil ?_ | refine WC.skip ?_ | refine WC.block ?_ | refine WC.condT rfl ?_ | refine WC.condF rfl ?_ | refine WL.off rfl rfl rfl ?_ | refine WL.off0 rfl rfl ?_ | refine WC.exit ?_ | refine blk_hit ?_ | refine blk_miss rfl ?_ | refine WC.ret ?_)
  refine WL.var rfl rfl rfl (fun _ => rfl) rfl rfl (show ∀ u ∈ [Value.slice ab bl.length cb, .slice al (linksOf g).length cl], u.oneCell' = true from Cells.cons rfl (Cells.cons rfl Cells.nil)) ?_
  intro b6 w5 hb6
  have hp5 := hp4.new hb6
  have L0 : ∀ w' L, Hp w w' (.blk b6 (.cells #[.slice ab bl.length cb, .slice al (linksOf g).length cl] 46 (0, 0)) :: (.row 32 1 (.slice ab bl.length cb) bl.length (bl.map bagV) :: .row 50 2 (.slice al (linksOf g).length cl) (linksOf g).length (prs (linksOf g)) :: bl.map bagE) ++ ([.blk b5 (.cells #[.int .i64 (g.length : Nat), .slice a fs.length c] 24 (0, 0)), .row 50 2 (.slice a fs.length c) fs.length (prs fs)] ++ L)) →
      w'.heap[b6]? = some (.cells #[.slice ab bl.length cb, .slice al (linksOf g).length cl] 46 (0, 0)) ∧ w'.heap[b5]? = some (.cells #[.int .i64 (g.length : Nat), .slice a fs.length c] 24 (0, 0)) ∧ Sl w' a (prs fs) ∧ Sl w' ab (bl.map bagV) ∧ (∀ b ∈ bl, Sl w' b.1 (ints b.2.2)) ∧ Tb w' := by
    intro w' L h
    refine ⟨(h.sat (.blk b6 _) (by simp)).2, (h.sat (.blk b5 _) (by simp)).2, Sl.of_row (h.sat (.row 50 2 (.slice a fs.length c) fs.length (prs fs)) (by simp)), Sl.of_row (h.sat (.row 32 1 (.slice ab bl.length cb) bl.length (bl.map bagV)) (by simp)), fun b hb => Sl.of_bag (h.sat (bagE b) ?_), hT.below h.below⟩
    simp only [List.cons_append, List.mem_cons, List.mem_append, List.mem_map]
    exact .inr (.inr (.inr (.inl ⟨b, hb, rfl⟩)))
  have hp5 : Hp w w5 (.blk b6 (.cells #[.slice ab bl.length cb, .slice al (linksOf g).length cl] 46 (0, 0)) :: (.row 32 1 (.slice ab bl.length cb) bl.length (bl.map bagV) :: .row 50 2 (.slice al (linksOf g).length cl) (linksOf g).length (prs (linksOf g)) :: bl.map bagE) ++ ([.blk b5 (.cells #[.int .i64 (g.length : Nat), .slice a fs.length c] 24 (0, 0)), .row 50 2 (.slice a fs.length c) fs.length (prs fs)] ++ [])) := hp5
  obtain ⟨hB6, hB, sF, sA, sBs, hT5⟩ := L0 w5 [] hp5
  repeat (first | refine WC.seq ?_ | refine WC.reg ?_ | refine WL.pure rfl rfl rfl ?_ | refine WL.nil ?_ | refine WC.skip ?_ | refine WC.block ?_ | refine WC.condT rfl ?_ | refine WC.condF rfl ?_ | refine WL.off rfl rfl rfl ?_ | refine WL.off0 rfl rfl ?_ | refine WC.exit ?_ | refine blk_hit ?_ | refine blk_miss rfl ?_ | refine WC.ret ?_)
  refine WL.loadB rfl rfl rfl rfl rfl hB rfl ?_
  repeat (first | refine WC.seq ?_ | refine WC.reg ?_ | refine WL.pure rfl rfl rfl ?_ | refine WL.nil ?_ | refine WC.skip ?_ | refine WC.block ?_ | refine WC.condT rfl ?_ | refine WC.condF rfl ?_ | refine WL.off rfl rfl rfl ?_ | refine WL.off0 rfl rfl ?_ | refine WC.exit ?_ | refine blk_hit ?_ | refine blk_miss rfl ?_ | refine WC.ret ?_)
  refine WL.loadB rfl rfl rfl rfl rfl hB rfl ?_
  refine WL.call rfl rfl rfl rfl rfl ent17 (Clique_any a c _ fs w5 sF hf62 hT5) ?_
  intro v7 w7 hCI
  unfold ClIs at hCI
  rw [hmk] at hCI
  obtain ⟨aC, cC, hp7, rfl⟩ := hCI
  have hap := ap_clique hmk
  obtain ⟨iF, BF, hBF, htF⟩ := fits hmk
  have hcl := clR_len g
  generalize hcL : clR (nb g) (2 ^ g.length) = q at *
  have hp7 := hp5.comb hp7
  obtain ⟨hB6, hB, sF, sA, sBs, hT7⟩ := L0 w7 [] hp7.tail
  repeat (first | refine WC.seq ?_ | refine WC.reg ?_ | refine WL.pure rfl rfl rfl ?_ | refine WL.nil ?_ | refine WC.skip ?_ | refine WC.block ?_ | refine WC.condT rfl ?_ | refine WC.condF rfl ?_ | refine WL.off rfl rfl rfl ?_ | refine WL.off0 rfl rfl ?_ | refine WC.exit ?_ | refine blk_hit ?_ | refine blk_miss rfl ?_ | refine WC.ret ?_)
  refine WL.loadB rfl rfl rfl rfl rfl hB rfl ?_
  repeat (first | refine WC.seq ?_ | refine WC.reg ?_ | refine WL.pure rfl rfl rfl ?_ | refine WL.nil ?_ | refine WC.skip ?_ | refine WC.block ?_ | refine WC.condT rfl ?_ | refine WC.condF rfl ?_ | refine WL.off rfl rfl rfl ?_ | refine WL.off0 rfl rfl ?_ | refine WC.exit ?_ | refine blk_hit ?_ | refine blk_miss rfl ?_ | refine WC.ret ?_)
  refine WL.loadB rfl rfl rfl rfl rfl hB rfl ?_
  refine WL.call rfl rfl rfl rfl rfl ent16 (Apart_any a c _ fs w7 sF hf62 hT7) ?_
  rintro _ w8 ⟨hp8, rfl⟩
  have hav : apV (g.length : Nat) fs = .tuple #[.int .i64 (apR (ap g) (2 ^ g.length)).1, .int .i64 (apR (ap g) (2 ^ g.length)).2, .int .i64 0] := by
    unfold apV; rw [hmk]
  rw [hav]
  have hp8 := hp7.call hp8.below
  obtain ⟨LL, hp8, L1⟩ : ∃ LL, Hp w w8 LL ∧ ∀ w', Hp w w' LL → w'.heap[b6]? = some (.cells #[.slice ab bl.length cb, .slice al (linksOf g).length cl] 46 (0, 0)) ∧
      w'.heap[b5]? = some (.cells #[.int .i64 (g.length : Nat), .slice a fs.length c] 24 (0, 0)) ∧ Sl w' ab (bl.map bagV) ∧ (∀ b ∈ bl, Sl w' b.1 (ints b.2.2)) ∧ Sl w' aC (ints q) ∧ Tb w' := by
    refine ⟨_, hp8, fun w' h => ?_⟩
    obtain ⟨h1, h2, _, h4, h5, h6⟩ := L0 w' [] h.tail
    exact ⟨h1, h2, h4, h5, Sl.of_row (h.at 0 rfl), h6⟩
  obtain ⟨hB6, hB, _⟩ := L1 w8 hp8
  have hap : (apR (ap g) (2 ^ g.length)).2 + q.length ≤ g.length + 1 := hap
  generalize (apR (ap g) (2 ^ g.length)).2 = most at *
  generalize (apR (ap g) (2 ^ g.length)).1 = many at *
  repeat (first | refine WC.seq ?_ | refine WC.reg ?_ | refine WL.pure rfl rfl rfl ?_ | refine WL.nil ?_ | refine WC.skip ?_ | refine WC.block ?_ | refine WC.condT rfl ?_ | refine WC.condF rfl ?_ | refine WL.off rfl rfl rfl ?_ | refine WL.off0 rfl rfl ?_ | refine WC.exit ?_ | refine blk_hit ?_ | refine blk_miss rfl ?_ | refine WC.ret ?_)
  refine WL.loadB rfl rfl rfl rfl rfl hB rfl ?_
  repeat (first | refine WC.seq ?_ | refine WC.reg ?_ | refine WL.pure rfl rfl rfl ?_ | refine WL.nil ?_ | refine WC.skip ?_ | refine WC.block ?_ | refine WC.condT rfl ?_ | refine WC.condF rfl ?_ | refine WL.off rfl rfl rfl ?_ | refine WL.off0 rfl rfl ?_ | refine WC.exit ?_ | refine blk_hit ?_ | refine blk_miss rfl ?_ | refine WC.ret ?_)
  refine WL.split 61 (b := false) (by simp [W.look]; rw [IntKind.wrap_i64]; omega) (fun h => by cases h) (fun _ => ?_)
  repeat (first | refine WC.seq ?_ | refine WC.reg ?_ | refine WL.pure rfl rfl rfl ?_ | refine WL.nil ?_ | refine WC.skip ?_ | refine WC.block ?_ | refine WC.condT rfl ?_ | refine WC.condF rfl ?_ | refine WL.off rfl rfl rfl ?_ | refine WL.off0 rfl rfl ?_ | refine WC.exit ?_ | refine blk_hit ?_ | refine blk_miss rfl ?_ | refine WC.ret ?_)
  refine WL.loadB rfl rfl rfl rfl rfl hB rfl ?_
  repeat (first | refine WC.seq ?_ | refine WC.reg ?_ | refine WL.pure rfl rfl rfl ?_ | refine WL.nil ?_ | refine WC.skip ?_ | refine WC.block ?_ | refine WC.condT rfl ?_ | refine WC.condF rfl ?_ | refine WL.off rfl rfl rfl ?_ | refine WL.off0 rfl rfl ?_ | refine WC.exit ?_ | refine blk_hit ?_ | refine blk_miss rfl ?_ | refine WC.ret ?_)
  refine WC.cond rfl (fun h => ?_) (fun _ => ?_)
  · exfalso
    have := of_decide_eq_true h
    rw [IntKind.wrap_i64, IntKind.wrap_i64] at this
    omega
  have fin : ∀ w', Tb w' → (∀ w'', Hp w' w'' [] → Hp w w'' []) → Ret Tryd.prog 19 [] w' fun v w'' => v = .bool true ∧ Hp w w'' [] := fun w' hTw hh => (awake_any w' hTw).mono fun v w'' ⟨h1, h2⟩ => ⟨h1, hh w'' h2⟩
  have hbll : bl.length = (bagsOf g).length := by rw [← hbl, List.length_map]
  have hbl14 : bl.length ≤ 14 := by rw [hbll]; exact bags_few hg
  have hsm : ∀ b ∈ bl, b.2.2.length ≤ 16 := fun b hb => bags_small g _ (by rw [← hbl]; exact List.mem_map.2 ⟨b, hb, rfl⟩)
  repeat (first | refine WC.seq ?_ | refine WC.reg ?_ | refine WL.pure rfl rfl rfl ?_ | refine WL.nil ?_ | refine WC.skip ?_ | refine WC.block ?_ | refine WC.condT rfl ?_ | refine WC.condF rfl ?_ | refine WL.off rfl rfl rfl ?_ | refine WL.off0 rfl rfl ?_ | refine WC.exit ?_ | refine blk_hit ?_ | refine blk_miss rfl ?_ | refine WC.ret ?_)
  refine WC.loop Nat (fun i => [(4, .pointer (some ⟨b6, 0, none⟩)), (7, .slice aC q.length cC), (12, .int .i64 (i : Nat))])
    (fun i w' => i ≤ bl.length ∧ Hp w w' LL ∧ ∀ (j : Nat) (b : Bag), j < i → bl[j]? = some b → tot b.2.2 q q.length ≠ q.length) (fun i => bl.length - i) 0 ⟨rfl, rfl, rfl, rfl⟩ ⟨Nat.zero_le _, hp8, fun j b hj => absurd hj (by omega)⟩ ?_
  rintro i w9 ⟨hi, hp9, hno⟩
  repeat (first | refine WC.seq ?_ | refine WC.reg ?_ | refine WL.pure rfl rfl rfl ?_ | refine WL.nil ?_ | refine WC.skip ?_ | refine WC.block ?_ | refine WC.condT rfl ?_ | refine WC.condF rfl ?_ | refine WL.off rfl rfl rfl ?_ | refine WL.off0 rfl rfl ?_ | refine WC.exit ?_ | refine blk_hit ?_ | refine blk_miss rfl ?_ | refine WC.ret ?_)
  refine WL.loadB rfl rfl rfl rfl rfl (L1 w9 hp9).1 rfl ?_
  repeat (first | refine WC.seq ?_ | refine WC.reg ?_ | refine WL.pure rfl rfl rfl ?_ | refine WL.nil ?_ | refine WC.skip ?_ | refine WC.block ?_ | refine WC.condT rfl ?_ | refine WC.condF rfl ?_ | refine WL.off rfl rfl rfl ?_ | refine WL.off0 rfl rfl ?_ | refine WC.exit ?_ | refine blk_hit ?_ | refine blk_miss rfl ?_ | refine WC.ret ?_)
  refine WC.cond rfl (fun hc => ?_) (fun hc => ?_)
  · have hi : i < bl.length := by have := of_decide_eq_true hc; omega
    have step : IntKind.i64.wrap ((i : Int) + 1) = ((i + 1 : Nat) : Int) := by rw [wrap_i64_in (by omega) (by omega)]; omega
    obtain ⟨b, hbi⟩ : ∃ b, bl[i]? = some b := ⟨_, List.getElem?_eq_getElem hi⟩
    have hbm : b ∈ bl := List.mem_of_getElem? hbi
    have hb16 := hsm b hbm
    have hvi := bagV_at hbi
    repeat (first | refine WC.seq ?_ | refine WC.reg ?_ | refine WL.pure rfl rfl rfl ?_ | refine WL.nil ?_ | refine WC.skip ?_ | refine WC.block ?_ | refine WC.condT rfl ?_ | refine WC.condF rfl ?_ | refine WL.off rfl rfl rfl ?_ | refine WL.off0 rfl rfl ?_ | refine WC.exit ?_ | refine blk_hit ?_ | refine blk_miss rfl ?_ | refine WC.ret ?_)
    refine WC.loop Nat (fun k => [(4, .pointer (some ⟨b6, 0, none⟩)), (7, .slice aC q.length cC), (12, .int .i64 (i : Nat)), (13, .int .i64 (tot b.2.2 q k : Nat)), (14, .int .i64 (k : Nat))])
      (fun k w' => k ≤ q.length ∧ Hp w w' LL) (fun k => q.length - k) 0 ⟨rfl, rfl, rfl, rfl, rfl, rfl⟩ ⟨Nat.zero_le _, hp9⟩ ?_
    rintro k wA ⟨hk, hpA⟩
    repeat (first | refine WC.seq ?_ | refine WC.reg ?_ | refine WL.pure rfl rfl rfl ?_ | refine WL.nil ?_ | refine WC.skip ?_ | refine WC.block ?_ | refine WC.condT rfl ?_ | refine WC.condF rfl ?_ | refine WL.off rfl rfl rfl ?_ | refine WL.off0 rfl rfl ?_ | refine WC.exit ?_ | refine blk_hit ?_ | refine blk_miss rfl ?_ | refine WC.ret ?_)
    refine WC.cond rfl (fun hc2 => ?_) (fun hc2 => ?_)
    · have hk : k < q.length := by have := of_decide_eq_true hc2; omega
      have step2 : IntKind.i64.wrap ((k : Int) + 1) = ((k + 1 : Nat) : Int) := by rw [wrap_i64_in (by omega) (by omega)]; omega
      have htk := tot_le b.2.2 q k
      have htk2 : k * b.2.2.length ≤ 16 * 16 := Nat.mul_le_mul (by omega) hb16
      repeat (first | refine WC.seq ?_ | refine WC.reg ?_ | refine WL.pure rfl rfl rfl ?_ | refine WL.nil ?_ | refine WC.skip ?_ | refine WC.block ?_ | refine WC.condT rfl ?_ | refine WC.condF rfl ?_ | refine WL.off rfl rfl rfl ?_ | refine WL.off0 rfl rfl ?_ | refine WC.exit ?_ | refine blk_hit ?_ | refine blk_miss rfl ?_ | refine WC.ret ?_)
      refine WC.loop Nat (fun j => [(4, .pointer (some ⟨b6, 0, none⟩)), (7, .slice aC q.length cC), (12, .int .i64 (i : Nat)), (13, .int .i64 (tot b.2.2 q k + cnt b.2.2 (q.getD k 0) j : Nat)), (14, .int .i64 (k : Nat)), (15, .int .i64 (j : Nat))])
        (fun j w' => j ≤ b.2.2.length ∧ Hp w w' LL) (fun j => b.2.2.length - j) 0 ⟨rfl, rfl, rfl, rfl, rfl, rfl, rfl⟩ ⟨Nat.zero_le _, hpA⟩ ?_
      rintro j wB ⟨hj, hpB⟩
      have hcj := cnt_le b.2.2 (q.getD k 0) j
      obtain ⟨hB6, _, sA, sBs, _, _⟩ := L1 wB hpB
      have sB := sBs b hbm
      repeat (first | refine WC.seq ?_ | refine WC.reg ?_ | refine WL.pure rfl rfl rfl ?_ | refine WL.nil ?_ | refine WC.skip ?_ | refine WC.block ?_ | refine WC.condT rfl ?_ | refine WC.condF rfl ?_ | refine WL.off rfl rfl rfl ?_ | refine WL.off0 rfl rfl ?_ | refine WC.exit ?_ | refine blk_hit ?_ | refine blk_miss rfl ?_ | refine WC.ret ?_)
      refine WL.loadB rfl rfl rfl rfl rfl hB6 rfl ?_
      repeat (first | refine WC.seq ?_ | refine WC.reg ?_ | refine WL.pure rfl rfl rfl ?_ | refine WL.nil ?_ | refine WC.skip ?_ | refine WC.block ?_ | refine WC.condT rfl ?_ | refine WC.condF rfl ?_ | refine WL.off rfl rfl rfl ?_ | refine WL.off0 rfl rfl ?_ | refine WC.exit ?_ | refine blk_hit ?_ | refine blk_miss rfl ?_ | refine WC.ret ?_)
      refine WL.ixload rfl (fun _ => rfl) rfl rfl rfl rfl rfl rfl rfl hi rfl rfl sA hvi ?_
      intro p1
      repeat (first | refine WC.seq ?_ | refine WC.reg ?_ | refine WL.pure rfl rfl rfl ?_ | refine WL.nil ?_ | refine WC.skip ?_ | refine WC.block ?_ | refine WC.condT rfl ?_ | refine WC.condF rfl ?_ | refine WL.off rfl rfl rfl ?_ | refine WL.off0 rfl rfl ?_ | refine WC.exit ?_ | refine blk_hit ?_ | refine blk_miss rfl ?_ | refine WC.ret ?_)
      refine WC.cond rfl (fun hc3 => ?_) (fun hc3 => ?_)
      · have hj : j < b.2.2.length := by have := of_decide_eq_true hc3; omega
        have step3 : IntKind.i64.wrap ((j : Int) + 1) = ((j + 1 : Nat) : Int) := by rw [wrap_i64_in (by omega) (by omega)]; omega
        have step4 : IntKind.i64.wrap (((tot b.2.2 q k + cnt b.2.2 (q.getD k 0) j : Nat) : Int) + 1) = ((tot b.2.2 q k + cnt b.2.2 (q.getD k 0) j + 1 : Nat) : Int) := by rw [wrap_i64_in (by omega) (by omega)]; omega
        have hcs := cnt_succ (x := q.getD k 0) hj
        obtain ⟨oa, oo, rfl⟩ := Sl.some sA hvi
        obtain ⟨ba, bo, hba⟩ := Sl.some sB (ints_at hj)
        obtain ⟨qa, qo, rfl⟩ := Sl.some (L1 wB hpB).2.2.2.2.1 (ints_at hk)
        have hbv : bagV b = .slice (some ⟨ba, bo, none⟩) b.2.2.length b.2.1 := by unfold bagV; rw [hba]
        have cE : ∀ w', Hp w w' LL → w'.cell? ⟨b6, 0 + 0, none⟩ = some (.slice (some ⟨oa, oo, none⟩) bl.length cb) ∧ w'.cell? ⟨oa, oo + i, none⟩ = some (.slice (some ⟨ba, bo, none⟩) b.2.2.length b.2.1) ∧
            w'.cell? ⟨ba, bo + j, none⟩ = some (.int .i64 (b.2.2.getD j 0 : Nat)) ∧ w'.cell? ⟨qa, qo + k, none⟩ = some (.int .i64 (q.getD k 0 : Nat)) := by
          intro w' h
          obtain ⟨h1, _, h3, h4, h5, _⟩ := L1 w' h
          have h6 := h4 b hbm
          rw [hba] at h6
          exact ⟨cell_of_obj h1 rfl, by rw [← hbv]; exact Sl.cell h3 hvi, Sl.cell h6 (ints_at hj), Sl.cell h5 (ints_at hk)⟩
        repeat (first | refine WC.seq ?_ | refine WC.reg ?_ | refine WL.pure rfl rfl rfl ?_ | refine WL.nil ?_ | refine WC.skip ?_ | refine WC.block ?_ | refine WC.condT rfl ?_ | refine WC.condF rfl ?_ | refine WL.off rfl rfl rfl ?_ | refine WL.off0 rfl rfl ?_ | refine WC.exit ?_ | refine blk_hit ?_ | refine blk_miss rfl ?_ | refine WC.ret ?_)
        refine WC.mid Bool (fun r => [(4, .pointer (some ⟨b6, 0, none⟩)), (7, .slice (some ⟨qa, qo, none⟩) q.length cC), (12, .int .i64 (i : Nat)), (13, .int .i64 (tot b.2.2 q k + cnt b.2.2 (q.getD k 0) j : Nat)), (14, .int .i64 (k : Nat)), (15, .int .i64 (j : Nat)), (106, .bool r)])
          (fun r w' => r = decide (b.2.2.getD j 0 = q.getD k 0) ∧ Hp w w' LL) ?_ ?_
        · refine WC.regQ (fun w' => Hp w w' LL) mixed (by kernel_rfl) (fun w' hw' => hpB.keep hw') ?_
          repeat (first | refine WQ.pure rfl rfl rfl ?_ | refine WQ.off rfl rfl rfl ?_ | refine WQ.nil ?_)
          refine WQ.load rfl rfl rfl rfl rfl (fun w' h => (cE w' h).1) ?_
          repeat (first | refine WQ.pure rfl rfl rfl ?_ | refine WQ.off rfl rfl rfl ?_ | refine WQ.nil ?_)
          refine WQ.ixload rfl (fun _ => rfl) rfl rfl rfl rfl rfl rfl rfl hi rfl rfl (fun w' h => (cE w' h).2.1) ?_
          repeat (first | refine WQ.pure rfl rfl rfl ?_ | refine WQ.off rfl rfl rfl ?_ | refine WQ.nil ?_)
          refine WQ.ixload rfl (fun _ => rfl) rfl rfl rfl rfl rfl rfl rfl hj rfl rfl (fun w' h => (cE w' h).2.2.1) ?_
          repeat (first | refine WQ.pure rfl rfl rfl ?_ | refine WQ.off rfl rfl rfl ?_ | refine WQ.nil ?_)
          refine WQ.ixload rfl (fun _ => rfl) rfl rfl rfl rfl rfl rfl rfl hk rfl rfl (fun w' h => (cE w' h).2.2.2) ?_
          repeat (first | refine WQ.pure rfl rfl rfl ?_ | refine WQ.off rfl rfl rfl ?_ | refine WQ.nil ?_)
          intro w' h
          exact ⟨_, ⟨rfl, rfl, rfl, rfl, rfl, rfl, rfl, rfl⟩, by rw [Bool.eq_iff_iff]; simp; try omega, h⟩
        · rintro r e9 wC hsub ⟨hr, hpC⟩
          refine WC.sub hsub ?_
          refine WC.cond rfl (fun hq => ?_) (fun hq => ?_)
          · rw [hr] at hq
            rw [if_pos (of_decide_eq_true hq)] at hcs
            repeat (first | refine WC.seq ?_ | refine WC.reg ?_ | refine WL.pure rfl rfl rfl ?_ | refine WL.nil ?_ | refine WC.skip ?_ | refine WC.block ?_ | refine WC.condT rfl ?_ | refine WC.condF rfl ?_ | refine WL.off rfl rfl rfl ?_ | refine WL.off0 rfl rfl ?_ | refine WC.exit ?_ | refine blk_hit ?_ | refine blk_miss rfl ?_ | refine WC.ret ?_)
            exact ⟨j + 1, by show b.2.2.length - (j + 1) < b.2.2.length - j; omega, ⟨rfl, rfl, rfl, by rw [hcs]; exact congrArg (fun z => some (Value.int .i64 z)) step4, rfl, congrArg (fun z => some (Value.int .i64 z)) step3, rfl⟩, hj, hpC⟩
          · rw [hr] at hq
            rw [if_neg (of_decide_eq_false hq)] at hcs
            repeat (first | refine WC.seq ?_ | refine WC.reg ?_ | refine WL.pure rfl rfl rfl ?_ | refine WL.nil ?_ | refine WC.skip ?_ | refine WC.block ?_ | refine WC.condT rfl ?_ | refine WC.condF rfl ?_ | refine WL.off rfl rfl rfl ?_ | refine WL.off0 rfl rfl ?_ | refine WC.exit ?_ | refine blk_hit ?_ | refine blk_miss rfl ?_ | refine WC.ret ?_)
            exact ⟨j + 1, by show b.2.2.length - (j + 1) < b.2.2.length - j; omega, ⟨rfl, rfl, rfl, by rw [hcs]; rfl, rfl, congrArg (fun z => some (Value.int .i64 z)) step3, rfl⟩, hj, hpC⟩
      · have hj : j = b.2.2.length := by have := of_decide_eq_false hc3; omega
        subst hj
        repeat (first | refine WC.seq ?_ | refine WC.reg ?_ | refine WL.pure rfl rfl rfl ?_ | refine WL.nil ?_ | refine WC.skip ?_ | refine WC.block ?_ | refine WC.condT rfl ?_ | refine WC.condF rfl ?_ | refine WL.off rfl rfl rfl ?_ | refine WL.off0 rfl rfl ?_ | refine WC.exit ?_ | refine blk_hit ?_ | refine blk_miss rfl ?_ | refine WC.ret ?_)
        exact ⟨k + 1, by show q.length - (k + 1) < q.length - k; omega, ⟨rfl, rfl, rfl, rfl, congrArg (fun z => some (Value.int .i64 z)) step2, rfl⟩, hk, hpB⟩
    · have hk : k = q.length := by have := of_decide_eq_false hc2; omega
      subst hk
      repeat (first | refine WC.seq ?_ | refine WC.reg ?_ | refine WL.pure rfl rfl rfl ?_ | refine WL.nil ?_ | refine WC.skip ?_ | refine WC.block ?_ | refine WC.condT rfl ?_ | refine WC.condF rfl ?_ | refine WL.off rfl rfl rfl ?_ | refine WL.off0 rfl rfl ?_ | refine WC.exit ?_ | refine blk_hit ?_ | refine blk_miss rfl ?_ | refine WC.ret ?_)
      refine WC.cond rfl (fun hq => ?_) (fun hq => ?_)
      · repeat (first | refine WC.seq ?_ | refine WC.reg ?_ | refine WL.pure rfl rfl rfl ?_ | refine WL.nil ?_ | refine WC.skip ?_ | refine WC.block ?_ | refine WC.condT rfl ?_ | refine WC.condF rfl ?_ | refine WL.off rfl rfl rfl ?_ | refine WL.off0 rfl rfl ?_ | refine WC.exit ?_ | refine blk_hit ?_ | refine blk_miss rfl ?_ | refine WC.ret ?_)
        refine WL.call rfl rfl rfl rfl rfl ent19 (fin wA (L1 wA hpA).2.2.2.2.2 (fun w'' h => (hpA.call h.below).nil')) ?_
        rintro _ wE ⟨rfl, hpE⟩
        repeat (first | refine WC.seq ?_ | refine WC.reg ?_ | refine WL.pure rfl rfl rfl ?_ | refine WL.nil ?_ | refine WC.skip ?_ | refine WC.block ?_ | refine WC.condT rfl ?_ | refine WC.condF rfl ?_ | refine WL.off rfl rfl rfl ?_ | refine WL.off0 rfl rfl ?_ | refine WC.exit ?_ | refine blk_hit ?_ | refine blk_miss rfl ?_ | refine WC.ret ?_)
        exact Res.one rfl rfl rfl ⟨rfl, hpE⟩
      · have hq : tot b.2.2 q q.length ≠ q.length := by
          intro h
          rw [h] at hq
          simp at hq
        repeat (first | refine WC.seq ?_ | refine WC.reg ?_ | refine WL.pure rfl rfl rfl ?_ | refine WL.nil ?_ | refine WC.skip ?_ | refine WC.block ?_ | refine WC.condT rfl ?_ | refine WC.condF rfl ?_ | refine WL.off rfl rfl rfl ?_ | refine WL.off0 rfl rfl ?_ | refine WC.exit ?_ | refine blk_hit ?_ | refine blk_miss rfl ?_ | refine WC.ret ?_)
        refine ⟨i + 1, by show bl.length - (i + 1) < bl.length - i; omega, ⟨rfl, rfl, congrArg (fun z => some (Value.int .i64 z)) step, rfl⟩, hi, hpA, fun j b' hj hbj => ?_⟩
        by_cases hji : j = i
        · subst hji
          rw [hbi] at hbj
          simp only [Option.some.injEq] at hbj
          rw [← hbj]; exact hq
        · exact hno j b' (by omega) hbj
  · have hi : i = bl.length := by have := of_decide_eq_false hc; omega
    exfalso
    rw [← hbl, List.getElem?_map, Option.map_eq_some_iff] at hBF
    obtain ⟨b, hb1, hb2⟩ := hBF
    have := (List.getElem?_eq_some_iff.1 hb1).1
    exact hno iF b (by omega) hb1 (by rw [hb2]; exact htF)
end Go.Proofs.YtdnkkflpgebfbaaDoor
