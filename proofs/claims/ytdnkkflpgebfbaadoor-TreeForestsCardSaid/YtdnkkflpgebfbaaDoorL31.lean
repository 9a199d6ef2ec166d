/- The walk of 'TreeLess'. -/
import Derived.Test.YtdnkkflpgebfbaaDoorL30
import Derived.Test.YtdnkkflpgebfbaaDoorPl
namespace Go.Proofs.YtdnkkflpgebfbaaDoor
open Go.W Go.Tree
set_option maxRecDepth 100000
attribute [local irreducible] WC WL WQ WS WH

theorem prs_append (a b : List Ed) : prs (a ++ b) = prs a ++ prs b := by simp [prs]
theorem prs_drop (es : List Ed) (m : Nat) : (prs es).drop (m * 2) = prs (es.drop m) := by
  have h1 : prs es = prs (es.take m) ++ prs (es.drop m) := by rw [← prs_append, List.take_append_drop]
  rw [← prs_take] at h1
  have h2 := (List.take_append_drop (m * 2) (prs es)).trans h1
  exact List.append_cancel_left h2
theorem row_cap {w : World} {B E s n c : Nat} {a : Option Addr} {xs : List Value} (h : w.ownsRow B E s (.slice a n c) n xs) : n ≤ c := by
  obtain ⟨_, ⟨hv, hn⟩ | ⟨_, _, _, hv, _, _, hnc, _⟩⟩ := h
  · rw [hn]; exact Nat.zero_le _
  · simp only [Value.slice.injEq] at hv; rw [hv.2.2]; exact hnc
theorem wd_up {g : List Nat} (hg : Gr g) : wd g 0 ≤ (g.length : Int) - 1 := ord_le hg _ 0 (-1) _ (ord_bestO hg) (by omega)

theorem TreeLess_any (ea : Option Addr) (ce : Nat) (n : Int) (es : List Ed) (at_ : Int) (w : World) (hs : Sl w ea (prs es)) (hT : Tb w) :
    Ret Tryd.prog 4 [.agg #[.int .i64 n, .slice ea es.length ce], .int .i64 at_] w fun v w' => v = .bool true ∧ Hp w w' [] := by
  refine enter Tryd.func4 rfl rfl ⟨rfl, rfl⟩ rfl ?_
  repeat (first | refine WC.seq ?_ | refine WC.reg ?_ | refine WL.pure rfl rfl rfl ?_ | refine WL.nil ?_ | refine WC.skip ?_ | refine WC.block ?_ | refine WC.condT rfl ?_ | refine WC.condF rfl ?_ | refine WL.off rfl rfl rfl ?_ | refine WL.off0 rfl rfl ?_ | refine WC.exit ?_ | refine blk_hit ?_ | refine blk_miss rfl ?_ | refine WC.ret ?_)
  refine WL.box rfl rfl rfl ?_
  intro b2 w1 hb2
  have hp1 := (Hp.start w).new hb2
  repeat (first | refine WC.seq ?_ | refine WC.reg ?_ | refine WL.pure rfl rfl rfl ?_ | refine WL.nil ?_ | refine WC.skip ?_ | refine WC.block ?_ | refine WC.condT rfl ?_ | refine WC.condF rfl ?_ | refine WL.off rfl rfl rfl ?_ | refine WL.off0 rfl rfl ?_ | refine WC.exit ?_ | refine blk_hit ?_ | refine blk_miss rfl ?_ | refine WC.ret ?_)
  refine WL.loadN (cs := [.int .i64 n, .slice ea es.length ce]) rfl rfl rfl rfl rfl rfl (fun j v hj => cell_of_obj (hp1.obj 0 rfl) (by rw [Nat.zero_add]; simpa [Value.cells] using hj)) ?_
  refine WL.call rfl rfl rfl rfl rfl ent24 (tame_any ea ce n es 11 (by omega) w1 (hs.hp hp1)) ?_
  rintro _ w2 ⟨N, fs, g, a, c, hN, hmk, rfl, hp2⟩
  have hp2 := (hp1.comb hp2).swap.tail
  obtain ⟨hg, hgn, _, _, hf100⟩ := mkG_gr hmk
  have hgn : g.length = N := by simpa using hgn
  subst hgn
  have hn := hg.len
  have hf62 : fs.length ≤ 4611686018427387904 := by omega
  have hfc : fs.length ≤ c := row_cap (hp2.at 0 rfl)
  have hwu := wd_up hg
  have hwl := wd_ge hn 0
  refine WL.var rfl rfl rfl (fun _ => rfl) rfl rfl (show ∀ u ∈ [Value.int .i64 (g.length : Nat), .slice a fs.length c], u.oneCell' = true from Cells.cons rfl (Cells.cons rfl Cells.nil)) ?_
  intro b5 w3 hb5
  have hp3 := hp2.new hb5
  have L0 : ∀ w' L, Hp w w' ([.blk b5 (.cells #[.int .i64 (g.length : Nat), .slice a fs.length c] 24 (0, 0)), .row 50 2 (.slice a fs.length c) fs.length (prs fs)] ++ L) →
      w'.heap[b5]? = some (.cells #[.int .i64 (g.length : Nat), .slice a fs.length c] 24 (0, 0)) ∧ Sl w' a (prs fs) ∧ Tb w' := fun w' L h => ⟨h.obj 0 rfl, Sl.of_row (h.at 1 rfl), hT.below h.below⟩
  have hp3 : Hp w w3 ([.blk b5 (.cells #[.int .i64 (g.length : Nat), .slice a fs.length c] 24 (0, 0)), .row 50 2 (.slice a fs.length c) fs.length (prs fs)] ++ []) := hp3
  obtain ⟨hB, sF, hT3⟩ := L0 w3 [] hp3
  repeat (first | refine WC.seq ?_ | refine WC.reg ?_ | refine WL.pure rfl rfl rfl ?_ | refine WL.nil ?_ | refine WC.skip ?_ | refine WC.block ?_ | refine WC.condT rfl ?_ | refine WC.condF rfl ?_ | refine WL.off rfl rfl rfl ?_ | refine WL.off0 rfl rfl ?_ | refine WC.exit ?_ | refine blk_hit ?_ | refine blk_miss rfl ?_ | refine WC.ret ?_)
  refine WL.loadB rfl rfl rfl rfl rfl hB rfl ?_
  repeat (first | refine WC.seq ?_ | refine WC.reg ?_ | refine WL.pure rfl rfl rfl ?_ | refine WL.nil ?_ | refine WC.skip ?_ | refine WC.block ?_ | refine WC.condT rfl ?_ | refine WC.condF rfl ?_ | refine WL.off rfl rfl rfl ?_ | refine WL.off0 rfl rfl ?_ | refine WC.exit ?_ | refine blk_hit ?_ | refine blk_miss rfl ?_ | refine WC.ret ?_)
  refine WL.loadB rfl rfl rfl rfl rfl hB rfl ?_
  refine WL.call rfl rfl rfl rfl rfl ent25 (Decompose_any a c _ fs w3 sF hf62 hT3) ?_
  intro v4 w4 hD
  unfold DecIs at hD
  rw [hmk] at hD
  obtain ⟨bl, ab, cb, al, cl, _, hp4, rfl⟩ := hD
  have hp4 := hp3.call hp4.below
  repeat (first | refine WC.seq ?_ | refine WC.reg ?_ | refine WL.pure rfl rfl rfl ?_ | refine WL.nil ?_ | refine WC.skip ?_ | refine WC.block ?_ | refine WC.condT rfl ?_ | refine WC.condF rfl ?_ | refine WL.off rfl rfl rfl ?_ | refine WL.off0 rfl rfl ?_ | refine WC.exit ?_ | refine blk_hit ?_ | refine blk_miss rfl ?_ | refine WC.ret ?_)
  refine WL.var rfl rfl rfl (fun _ => rfl) rfl rfl (show ∀ u ∈ [Value.slice ab bl.length cb, .slice al (linksOf g).length cl], u.oneCell' = true from Cells.cons rfl (Cells.cons rfl Cells.nil)) ?_
  intro b6 w5 hb6
  have hp5 := (hp4.new hb6).tail
  obtain ⟨hB, sF, hT5⟩ := L0 w5 [] hp5
  repeat (first | refine WC.seq ?_ | refine WC.reg ?_ | refine WL.pure rfl rfl rfl ?_ | refine WL.nil ?_ | refine WC.skip ?_ | refine WC.block ?_ | refine WC.condT rfl ?_ | refine WC.condF rfl ?_ | refine WL.off rfl rfl rfl ?_ | refine WL.off0 rfl rfl ?_ | refine WC.exit ?_ | refine blk_hit ?_ | refine blk_miss rfl ?_ | refine WC.ret ?_)
  refine WL.loadB rfl rfl rfl rfl rfl hB rfl ?_
  repeat (first | refine WC.seq ?_ | refine WC.reg ?_ | refine WL.pure rfl rfl rfl ?_ | refine WL.nil ?_ | refine WC.skip ?_ | refine WC.block ?_ | refine WC.condT rfl ?_ | refine WC.condF rfl ?_ | refine WL.off rfl rfl rfl ?_ | refine WL.off0 rfl rfl ?_ | refine WC.exit ?_ | refine blk_hit ?_ | refine blk_miss rfl ?_ | refine WC.ret ?_)
  refine WC.mid Unit (fun _ => [(5, .pointer (some ⟨b5, 0, none⟩)), (7, .int .i64 (wd g 0))])
    (fun _ w' => Hp w w' ([.blk b5 (.cells #[.int .i64 (g.length : Nat), .slice a fs.length c] 24 (0, 0)), .row 50 2 (.slice a fs.length c) fs.length (prs fs)] ++ [])) ?_ ?_
  · refine WC.cond rfl (fun hc => ?_) (fun hc => ?_)
    · have hf0 : 0 < fs.length := by have := of_decide_eq_true hc; omega
      repeat (first | refine WC.seq ?_ | refine WC.reg ?_ | refine WL.pure rfl rfl rfl ?_ | refine WL.nil ?_ | refine WC.skip ?_ | refine WC.block ?_ | refine WC.condT rfl ?_ | refine WC.condF rfl ?_ | refine WL.off rfl rfl rfl ?_ | refine WL.off0 rfl rfl ?_ | refine WC.exit ?_ | refine blk_hit ?_ | refine blk_miss rfl ?_ | refine WC.ret ?_)
      refine WL.loadB rfl rfl rfl rfl rfl hB rfl ?_
      repeat (first | refine WC.seq ?_ | refine WC.reg ?_ | refine WL.pure rfl rfl rfl ?_ | refine WL.nil ?_ | refine WC.skip ?_ | refine WC.block ?_ | refine WC.condT rfl ?_ | refine WC.condF rfl ?_ | refine WL.off rfl rfl rfl ?_ | refine WL.off0 rfl rfl ?_ | refine WC.exit ?_ | refine blk_hit ?_ | refine blk_miss rfl ?_ | refine WC.ret ?_)
      refine WL.callP rfl rfl rfl rfl rfl ent26 (mod_any at_ fs.length hf0 (by omega) _) ?_
      have hK := modN_lt hf0 at_
      generalize modN at_ fs.length = K at *
      obtain ⟨g', hmk', hgl', hw1, hw2⟩ := less_edge hmk hK
      have step : IntKind.i64.wrap ((K : Int) + 1) = ((K + 1 : Nat) : Int) := by rw [wrap_i64_in (by omega) (by omega)]; omega
      repeat (first | refine WC.seq ?_ | refine WC.reg ?_ | refine WL.pure rfl rfl rfl ?_ | refine WL.nil ?_ | refine WC.skip ?_ | refine WC.block ?_ | refine WC.condT rfl ?_ | refine WC.condF rfl ?_ | refine WL.off rfl rfl rfl ?_ | refine WL.off0 rfl rfl ?_ | refine WC.exit ?_ | refine blk_hit ?_ | refine blk_miss rfl ?_ | refine WC.ret ?_)
      refine WL.loadB rfl rfl rfl rfl rfl hB rfl ?_
      repeat (first | refine WC.seq ?_ | refine WC.reg ?_ | refine WL.pure rfl rfl rfl ?_ | refine WL.nil ?_ | refine WC.skip ?_ | refine WC.block ?_ | refine WC.condT rfl ?_ | refine WC.condF rfl ?_ | refine WL.off rfl rfl rfl ?_ | refine WL.off0 rfl rfl ?_ | refine WC.exit ?_ | refine blk_hit ?_ | refine blk_miss rfl ?_ | refine WC.ret ?_)
      refine WL.sliceHi rfl rfl rfl rfl rfl rfl (by omega) ?_
      refine WL.append 0 (hp5.nilrow 50 2) rfl rfl rfl rfl rfl (by decide) rfl rfl rfl (news := prs (fs.take K)) (by rw [← prs_take]; exact sF.take _) (by rw [prs_len, List.length_take, Nat.min_eq_left (by omega)]; rfl) (prs_cells _) (by unfold maxLen; omega) (by show (0 + K) * 16 ≤ _; omega) ?_
      intro a6 c6 w6 hp6 hg6
      rw [Nat.zero_add] at hp6 ⊢
      rw [List.nil_append] at hp6
      have hB6 := hp6.obj 1 rfl
      repeat (first | refine WC.seq ?_ | refine WC.reg ?_ | refine WL.pure rfl rfl rfl ?_ | refine WL.nil ?_ | refine WC.skip ?_ | refine WC.block ?_ | refine WC.condT rfl ?_ | refine WC.condF rfl ?_ | refine WL.off rfl rfl rfl ?_ | refine WL.off0 rfl rfl ?_ | refine WC.exit ?_ | refine blk_hit ?_ | refine blk_miss rfl ?_ | refine WC.ret ?_)
      refine WL.loadB rfl rfl rfl rfl rfl hB6 rfl ?_
      repeat (first | refine WC.seq ?_ | refine WC.reg ?_ | refine WL.pure rfl rfl rfl ?_ | refine WL.nil ?_ | refine WC.skip ?_ | refine WC.block ?_ | refine WC.condT rfl ?_ | refine WC.condF rfl ?_ | refine WL.off rfl rfl rfl ?_ | refine WL.off0 rfl rfl ?_ | refine WC.exit ?_ | refine blk_hit ?_ | refine blk_miss rfl ?_ | refine WC.ret ?_)
      refine WL.known (d := 51) (congrArg (fun z => some (Value.int .i64 z)) step) ?_
      refine WL.sliceLo rfl rfl rfl rfl rfl rfl (by omega) hfc ?_
      intro a7 ha7
      have s7 : Sl w6 a7 (prs (fs.drop (K + 1))) := by
        have h1 := ha7 w6 (prs fs) (Sl.of_row (hp6.at 2 rfl)) (by rw [prs_len]; exact Nat.le_refl _)
        rw [← prs_drop]; exact h1
      refine WL.append 0 hp6 rfl rfl rfl rfl rfl (by decide) rfl rfl rfl (news := prs (fs.drop (K + 1))) s7 (by rw [prs_len, List.length_drop]; rfl) (prs_cells _) (by unfold maxLen; omega) (by show (K + (fs.length - (K + 1))) * 16 ≤ _; omega) ?_
      intro a8 c8 w8 hp8 hg8
      have hl8 : K + (fs.length - (K + 1)) = (fs.take K ++ fs.drop (K + 1)).length := by simp only [List.length_append, List.length_take, List.length_drop]; omega
      rw [hl8, ← prs_append] at hp8
      rw [hl8]
      generalize hls : fs.take K ++ fs.drop (K + 1) = ls at *
      have hp8 : Hp w w8 ([.row 50 2 (.slice a8 ls.length c8) ls.length (prs ls), .blk b5 (.cells #[.int .i64 (g.length : Nat), .slice a fs.length c] 24 (0, 0)), .row 50 2 (.slice a fs.length c) fs.length (prs fs)]) := hp8
      repeat (first | refine WC.seq ?_ | refine WC.reg ?_ | refine WL.pure rfl rfl rfl ?_ | refine WL.nil ?_ | refine WC.skip ?_ | refine WC.block ?_ | refine WC.condT rfl ?_ | refine WC.condF rfl ?_ | refine WL.off rfl rfl rfl ?_ | refine WL.off0 rfl rfl ?_ | refine WC.exit ?_ | refine blk_hit ?_ | refine blk_miss rfl ?_ | refine WC.ret ?_)
      refine WL.loadB rfl rfl rfl rfl rfl (hp8.obj 1 rfl) rfl ?_
      repeat (first | refine WC.seq ?_ | refine WC.reg ?_ | refine WL.pure rfl rfl rfl ?_ | refine WL.nil ?_ | refine WC.skip ?_ | refine WC.block ?_ | refine WC.condT rfl ?_ | refine WC.condF rfl ?_ | refine WL.off rfl rfl rfl ?_ | refine WL.off0 rfl rfl ?_ | refine WC.exit ?_ | refine blk_hit ?_ | refine blk_miss rfl ?_ | refine WC.ret ?_)
      refine WL.call rfl rfl rfl rfl rfl ent25 (Decompose_any a8 c8 _ ls w8 (Sl.of_row (hp8.at 0 rfl)) (by omega) (hT.below hp8.below)) ?_
      intro v9 w9 hD
      unfold DecIs at hD
      rw [hmk'] at hD
      obtain ⟨bl2, ab2, cb2, al2, cl2, _, hp9, rfl⟩ := hD
      have hp9 := hp8.call hp9.below
      repeat (first | refine WC.seq ?_ | refine WC.reg ?_ | refine WL.pure rfl rfl rfl ?_ | refine WL.nil ?_ | refine WC.skip ?_ | refine WC.block ?_ | refine WC.condT rfl ?_ | refine WC.condF rfl ?_ | refine WL.off rfl rfl rfl ?_ | refine WL.off0 rfl rfl ?_ | refine WC.exit ?_ | refine blk_hit ?_ | refine blk_miss rfl ?_ | refine WC.ret ?_)
      refine WL.var rfl rfl rfl (fun _ => rfl) rfl rfl (show ∀ u ∈ [Value.slice ab2 bl2.length cb2, .slice al2 (linksOf g').length cl2], u.oneCell' = true from Cells.cons rfl (Cells.cons rfl Cells.nil)) ?_
      intro b10 w10 hb10
      have hp10 := (hp9.new hb10).tail
      repeat (first | refine WC.seq ?_ | refine WC.reg ?_ | refine WL.pure rfl rfl rfl ?_ | refine WL.nil ?_ | refine WC.skip ?_ | refine WC.block ?_ | refine WC.condT rfl ?_ | refine WC.condF rfl ?_ | refine WL.off rfl rfl rfl ?_ | refine WL.off0 rfl rfl ?_ | refine WC.exit ?_ | refine blk_hit ?_ | refine blk_miss rfl ?_ | refine WC.ret ?_)
      refine WL.split 69 (b := false) (by simp [W.look]; omega) (fun h => by cases h) (fun _ => ?_)
      repeat (first | refine WC.seq ?_ | refine WC.reg ?_ | refine WL.pure rfl rfl rfl ?_ | refine WL.nil ?_ | refine WC.skip ?_ | refine WC.block ?_ | refine WC.condT rfl ?_ | refine WC.condF rfl ?_ | refine WL.off rfl rfl rfl ?_ | refine WL.off0 rfl rfl ?_ | refine WC.exit ?_ | refine blk_hit ?_ | refine blk_miss rfl ?_ | refine WC.ret ?_)
      refine WC.cond rfl (fun h => ?_) (fun _ => ?_)
      · exfalso
        have := of_decide_eq_true h
        rw [IntKind.wrap_i64] at this
        omega
      repeat (first | refine WC.seq ?_ | refine WC.reg ?_ | refine WL.pure rfl rfl rfl ?_ | refine WL.nil ?_ | refine WC.skip ?_ | refine WC.block ?_ | refine WC.condT rfl ?_ | refine WC.condF rfl ?_ | refine WL.off rfl rfl rfl ?_ | refine WL.off0 rfl rfl ?_ | refine WC.exit ?_ | refine blk_hit ?_ | refine blk_miss rfl ?_ | refine WC.ret ?_)
      exact ⟨(), ⟨rfl, rfl, rfl⟩, hp10.tail⟩
    · repeat (first | refine WC.seq ?_ | refine WC.reg ?_ | refine WL.pure rfl rfl rfl ?_ | refine WL.nil ?_ | refine WC.skip ?_ | refine WC.block ?_ | refine WC.condT rfl ?_ | refine WC.condF rfl ?_ | refine WL.off rfl rfl rfl ?_ | refine WL.off0 rfl rfl ?_ | refine WC.exit ?_ | refine blk_hit ?_ | refine blk_miss rfl ?_ | refine WC.ret ?_)
      exact ⟨(), ⟨rfl, rfl, rfl⟩, hp5⟩
  rintro ⟨⟩ e6 w6 hsub hp6
  refine WC.sub hsub ?_
  clear hsub
  obtain ⟨hB, sF, hT6⟩ := L0 w6 [] hp6
  have fin : ∀ w', Tb w' → (∀ w'', Hp w' w'' [] → Hp w w'' []) → Ret Tryd.prog 19 [] w' fun v w'' => v = .bool true ∧ Hp w w'' [] := fun w' hTw hh => (awake_any w' hTw).mono fun v w'' ⟨h1, h2⟩ => ⟨h1, hh w'' h2⟩
  repeat (first | refine WC.seq ?_ | refine WC.reg ?_ | refine WL.pure rfl rfl rfl ?_ | refine WL.nil ?_ | refine WC.skip ?_ | refine WC.block ?_ | refine WC.condT rfl ?_ | refine WC.condF rfl ?_ | refine WL.off rfl rfl rfl ?_ | refine WL.off0 rfl rfl ?_ | refine WC.exit ?_ | refine blk_hit ?_ | refine blk_miss rfl ?_ | refine WC.ret ?_)
  refine WL.loadB rfl rfl rfl rfl rfl hB rfl ?_
  repeat (first | refine WC.seq ?_ | refine WC.reg ?_ | refine WL.pure rfl rfl rfl ?_ | refine WL.nil ?_ | refine WC.skip ?_ | refine WC.block ?_ | refine WC.condT rfl ?_ | refine WC.condF rfl ?_ | refine WL.off rfl rfl rfl ?_ | refine WL.off0 rfl rfl ?_ | refine WC.exit ?_ | refine blk_hit ?_ | refine blk_miss rfl ?_ | refine WC.ret ?_)
  refine WC.cond rfl (fun hz => ?_) (fun hz => ?_)
  · have hz : g.length = 0 := by simpa using hz
    have hw0 : wd g 0 = -1 := by omega
    rw [hw0]
    repeat (first | refine WC.seq ?_ | refine WC.reg ?_ | refine WL.pure rfl rfl rfl ?_ | refine WL.nil ?_ | refine WC.skip ?_ | refine WC.block ?_ | refine WC.condT rfl ?_ | refine WC.condF rfl ?_ | refine WL.off rfl rfl rfl ?_ | refine WL.off0 rfl rfl ?_ | refine WC.exit ?_ | refine blk_hit ?_ | refine blk_miss rfl ?_ | refine WC.ret ?_)
    refine WL.call rfl rfl rfl rfl rfl ent19 (fin w6 hT6 (fun w'' h => (hp6.call h.below).nil')) ?_
    rintro _ w7 ⟨rfl, hp7⟩
    repeat (first | refine WC.seq ?_ | refine WC.reg ?_ | refine WL.pure rfl rfl rfl ?_ | refine WL.nil ?_ | refine WC.skip ?_ | refine WC.block ?_ | refine WC.condT rfl ?_ | refine WC.condF rfl ?_ | refine WL.off rfl rfl rfl ?_ | refine WL.off0 rfl rfl ?_ | refine WC.exit ?_ | refine blk_hit ?_ | refine blk_miss rfl ?_ | refine WC.ret ?_)
    exact Res.one rfl rfl rfl ⟨rfl, hp7⟩
  have hz : g.length ≠ 0 := by simpa using hz
  obtain ⟨g', hmk', hw1, hw2⟩ := less_vert hmk (by omega)
  have hp6 : Hp w w6 ([.row 50 2 (.slice none 0 0) 0 (prs []), .blk b5 (.cells #[.int .i64 (g.length : Nat), .slice a fs.length c] 24 (0, 0)), .row 50 2 (.slice a fs.length c) fs.length (prs fs)]) := hp6.nilrow 50 2
  repeat (first | refine WC.seq ?_ | refine WC.reg ?_ | refine WL.pure rfl rfl rfl ?_ | refine WL.nil ?_ | refine WC.skip ?_ | refine WC.block ?_ | refine WC.condT rfl ?_ | refine WC.condF rfl ?_ | refine WL.off rfl rfl rfl ?_ | refine WL.off0 rfl rfl ?_ | refine WC.exit ?_ | refine blk_hit ?_ | refine blk_miss rfl ?_ | refine WC.ret ?_)
  refine WC.loop (Nat × List Ed × Option Addr × Nat) (fun (i, rs, ar, cr) => [(5, .pointer (some ⟨b5, 0, none⟩)), (7, .int .i64 (wd g 0)), (14, .slice ar rs.length cr), (15, .int .i64 (i : Nat))])
    (fun (i, rs, ar, cr) w' => i ≤ fs.length ∧ rs = (fs.take i).filter (keepE (g.length : Nat)) ∧ Hp w w' ([.row 50 2 (.slice ar rs.length cr) rs.length (prs rs), .blk b5 (.cells #[.int .i64 (g.length : Nat), .slice a fs.length c] 24 (0, 0)), .row 50 2 (.slice a fs.length c) fs.length (prs fs)]))
    (fun (i, _) => fs.length - i) (0, [], none, 0) ⟨rfl, rfl, rfl, rfl, rfl⟩ ⟨Nat.zero_le _, rfl, hp6⟩ ?_
  rintro ⟨i, rs, ar, cr⟩ w7 ⟨hi, hrs, hp7⟩
  have hrl : rs.length ≤ i := by rw [hrs]; exact Nat.le_trans (List.length_filter_le _ _) (by rw [List.length_take]; omega)
  repeat (first | refine WC.seq ?_ | refine WC.reg ?_ | refine WL.pure rfl rfl rfl ?_ | refine WL.nil ?_ | refine WC.skip ?_ | refine WC.block ?_ | refine WC.condT rfl ?_ | refine WC.condF rfl ?_ | refine WL.off rfl rfl rfl ?_ | refine WL.off0 rfl rfl ?_ | refine WC.exit ?_ | refine blk_hit ?_ | refine blk_miss rfl ?_ | refine WC.ret ?_)
  refine WL.loadB rfl rfl rfl rfl rfl (hp7.obj 1 rfl) rfl ?_
  repeat (first | refine WC.seq ?_ | refine WC.reg ?_ | refine WL.pure rfl rfl rfl ?_ | refine WL.nil ?_ | refine WC.skip ?_ | refine WC.block ?_ | refine WC.condT rfl ?_ | refine WC.condF rfl ?_ | refine WL.off rfl rfl rfl ?_ | refine WL.off0 rfl rfl ?_ | refine WC.exit ?_ | refine blk_hit ?_ | refine blk_miss rfl ?_ | refine WC.ret ?_)
  refine WC.cond rfl (fun hc => ?_) (fun hc => ?_)
  · have hi : i < fs.length := by have := of_decide_eq_true hc; omega
    have step : IntKind.i64.wrap ((i : Int) + 1) = ((i + 1 : Nat) : Int) := by rw [wrap_i64_in (by omega) (by omega)]; omega
    have en : IntKind.i64.wrap ((g.length : Int) - 1) = (g.length : Int) - 1 := wrap_i64_in (by omega) (by omega)
    have hts : fs.take (i + 1) = fs.take i ++ [fs[i]] := by rw [List.take_succ_eq_append_getElem hi]
    have hfi : (fs.take (i + 1)).filter (keepE (g.length : Nat)) = rs ++ (if keepE (g.length : Nat) fs[i] = true then [fs[i]] else []) := by
      rw [hts, List.filter_append, ← hrs, List.filter_cons]
      rfl
    obtain ⟨be, oe, rfl⟩ := Sl.some (Sl.of_row (hp7.at 2 rfl)) (prs_get hi).1
    have cE : ∀ w', Hp w w' ([.row 50 2 (.slice ar rs.length cr) rs.length (prs rs), .blk b5 (.cells #[.int .i64 (g.length : Nat), .slice (some ⟨be, oe, none⟩) fs.length c] 24 (0, 0)), .row 50 2 (.slice (some ⟨be, oe, none⟩) fs.length c) fs.length (prs fs)]) →
        w'.cell? ⟨be, oe + i * 2 + 0 * 1, none⟩ = some (.int .i64 (fs[i]).1) ∧ w'.cell? ⟨be, oe + i * 2 + 1 * 1, none⟩ = some (.int .i64 (fs[i]).2) ∧ w'.cell? ⟨b5, 0 + 1, none⟩ = some (.slice (some ⟨be, oe, none⟩) fs.length c) ∧ w'.cell? ⟨b5, 0 + 0, none⟩ = some (.int .i64 (g.length : Nat)) := by
      intro w' h
      have h1 := Sl.cell (Sl.of_row (h.at 2 rfl)) (prs_get hi).1
      have h2 := Sl.cell (Sl.of_row (h.at 2 rfl)) (prs_get hi).2
      rw [← Nat.add_assoc] at h1 h2
      exact ⟨h1, h2, cell_of_obj (h.obj 1 rfl) rfl, cell_of_obj (h.obj 1 rfl) rfl⟩
    repeat (first | refine WC.seq ?_ | refine WC.reg ?_ | refine WL.pure rfl rfl rfl ?_ | refine WL.nil ?_ | refine WC.skip ?_ | refine WC.block ?_ | refine WC.condT rfl ?_ | refine WC.condF rfl ?_ | refine WL.off rfl rfl rfl ?_ | refine WL.off0 rfl rfl ?_ | refine WC.exit ?_ | refine blk_hit ?_ | refine blk_miss rfl ?_ | refine WC.ret ?_)
    refine WC.mid Bool (fun b => [(5, .pointer (some ⟨b5, 0, none⟩)), (7, .int .i64 (wd g 0)), (14, .slice ar rs.length cr), (15, .int .i64 (i : Nat)), (111, .bool b)])
      (fun b w' => b = keepE (g.length : Nat) fs[i] ∧ Hp w w' ([.row 50 2 (.slice ar rs.length cr) rs.length (prs rs), .blk b5 (.cells #[.int .i64 (g.length : Nat), .slice (some ⟨be, oe, none⟩) fs.length c] 24 (0, 0)), .row 50 2 (.slice (some ⟨be, oe, none⟩) fs.length c) fs.length (prs fs)])) ?_ ?_
    · refine WC.regQ (fun w8 => Hp w w8 _) mixed (by kernel_rfl) (fun w8 hw8 => hp7.keep hw8) ?_
      repeat (first | refine WQ.pure rfl rfl rfl ?_ | refine WQ.off rfl rfl rfl ?_ | refine WQ.nil ?_)
      refine WQ.load rfl rfl rfl rfl rfl (fun w8 h8 => (cE w8 h8).2.2.1) ?_
      repeat (first | refine WQ.pure rfl rfl rfl ?_ | refine WQ.off rfl rfl rfl ?_ | refine WQ.nil ?_)
      refine WQ.ix rfl rfl rfl rfl rfl rfl hi ?_
      repeat (first | refine WQ.pure rfl rfl rfl ?_ | refine WQ.off rfl rfl rfl ?_ | refine WQ.nil ?_)
      refine WQ.load rfl rfl rfl rfl rfl (fun w8 h8 => (cE w8 h8).1) ?_
      repeat (first | refine WQ.pure rfl rfl rfl ?_ | refine WQ.off rfl rfl rfl ?_ | refine WQ.nil ?_)
      refine WQ.load rfl rfl rfl rfl rfl (fun w8 h8 => (cE w8 h8).2.2.2) ?_
      repeat (first | refine WQ.pure rfl rfl rfl ?_ | refine WQ.off rfl rfl rfl ?_ | refine WQ.nil ?_)
      have k1 : ((fs[i]).1 != IntKind.i64.wrap ((g.length : Int) - 1)) = ((fs[i]).1 != (g.length : Int) - 1) := by rw [en]
      refine WQ.split 100 rfl (fun hq => ?_) (fun hq => ?_)
      · rw [k1] at hq
        repeat (first | refine WQ.pure rfl rfl rfl ?_ | refine WQ.off rfl rfl rfl ?_ | refine WQ.nil ?_)
        refine WQ.load rfl rfl rfl rfl rfl (fun w8 h8 => (cE w8 h8).2.2.1) ?_
        repeat (first | refine WQ.pure rfl rfl rfl ?_ | refine WQ.off rfl rfl rfl ?_ | refine WQ.nil ?_)
        refine WQ.ix rfl rfl rfl rfl rfl rfl hi ?_
        repeat (first | refine WQ.pure rfl rfl rfl ?_ | refine WQ.off rfl rfl rfl ?_ | refine WQ.nil ?_)
        refine WQ.load rfl rfl rfl rfl rfl (fun w8 h8 => (cE w8 h8).2.1) ?_
        repeat (first | refine WQ.pure rfl rfl rfl ?_ | refine WQ.off rfl rfl rfl ?_ | refine WQ.nil ?_)
        refine WQ.load rfl rfl rfl rfl rfl (fun w8 h8 => (cE w8 h8).2.2.2) ?_
        repeat (first | refine WQ.pure rfl rfl rfl ?_ | refine WQ.off rfl rfl rfl ?_ | refine WQ.nil ?_)
        intro w8 h8
        exact ⟨_, ⟨rfl, rfl, rfl, rfl, rfl, rfl⟩, by simp only [keepE, hq, en, Bool.true_and], h8⟩
      · rw [k1] at hq
        repeat (first | refine WQ.pure rfl rfl rfl ?_ | refine WQ.off rfl rfl rfl ?_ | refine WQ.nil ?_)
        intro w8 h8
        exact ⟨_, ⟨rfl, rfl, rfl, rfl, rfl, rfl⟩, by simp only [keepE, hq, Bool.false_and], h8⟩
    · rintro b e8 w8 hsub ⟨hb, hp8⟩
      refine WC.sub hsub ?_
      refine WC.cond rfl (fun hq => ?_) (fun hq => ?_)
      · rw [← hb, if_pos hq] at hfi
        repeat (first | refine WC.seq ?_ | refine WC.reg ?_ | refine WL.pure rfl rfl rfl ?_ | refine WL.nil ?_ | refine WC.skip ?_ | refine WC.block ?_ | refine WC.condT rfl ?_ | refine WC.condF rfl ?_ | refine WL.off rfl rfl rfl ?_ | refine WL.off0 rfl rfl ?_ | refine WC.exit ?_ | refine blk_hit ?_ | refine blk_miss rfl ?_ | refine WC.ret ?_)
        refine WL.loadB rfl rfl rfl rfl rfl (hp8.obj 1 rfl) rfl ?_
        repeat (first | refine WC.seq ?_ | refine WC.reg ?_ | refine WL.pure rfl rfl rfl ?_ | refine WL.nil ?_ | refine WC.skip ?_ | refine WC.block ?_ | refine WC.condT rfl ?_ | refine WC.condF rfl ?_ | refine WL.off rfl rfl rfl ?_ | refine WL.off0 rfl rfl ?_ | refine WC.exit ?_ | refine blk_hit ?_ | refine blk_miss rfl ?_ | refine WC.ret ?_)
        refine WL.ixloadN (cs' := pr fs[i]) rfl (fun _ => rfl) rfl rfl rfl rfl rfl rfl rfl rfl hi rfl rfl (Sl.of_row (hp8.at 2 rfl)) rfl (prs_at fs i hi) ?_
        intro p
        refine WL.buildS (cs := pr fs[i]) rfl rfl rfl rfl rfl rfl rfl rfl rfl ?_
        intro bs w9 hbs
        have hp9 := hp8.new hbs
        refine WL.append 1 hp9 rfl rfl rfl rfl rfl (by decide) rfl rfl rfl (news := pr fs[i]) (Sl.of_obj (hp9.obj 0 rfl) (fun q u hq => by simpa using hq)) rfl (Cells.cons rfl (Cells.cons rfl Cells.nil)) (by unfold maxLen; omega) (by show (rs.length + 1) * 16 ≤ _; omega) ?_
        intro a' cap' wA hpA hgA
        have hpA := hpA.tail
        have hl8 : rs.length + 1 = (rs ++ [fs[i]]).length := by simp
        have hx8 : prs rs ++ pr fs[i] = prs (rs ++ [fs[i]]) := by simp [prs]
        rw [hl8, hx8] at hpA
        rw [hl8]
        repeat (first | refine WC.seq ?_ | refine WC.reg ?_ | refine WL.pure rfl rfl rfl ?_ | refine WL.nil ?_ | refine WC.skip ?_ | refine WC.block ?_ | refine WC.condT rfl ?_ | refine WC.condF rfl ?_ | refine WL.off rfl rfl rfl ?_ | refine WL.off0 rfl rfl ?_ | refine WC.exit ?_ | refine blk_hit ?_ | refine blk_miss rfl ?_ | refine WC.ret ?_)
        exact ⟨(i + 1, rs ++ [fs[i]], a', cap'), by show fs.length - (i + 1) < fs.length - i; omega, ⟨rfl, rfl, rfl, congrArg (fun z => some (Value.int .i64 z)) step, rfl⟩, hi, hfi.symm, hpA⟩
      · rw [← hb, if_neg (by rw [hq]; decide), List.append_nil] at hfi
        repeat (first | refine WC.seq ?_ | refine WC.reg ?_ | refine WL.pure rfl rfl rfl ?_ | refine WL.nil ?_ | refine WC.skip ?_ | refine WC.block ?_ | refine WC.condT rfl ?_ | refine WC.condF rfl ?_ | refine WL.off rfl rfl rfl ?_ | refine WL.off0 rfl rfl ?_ | refine WC.exit ?_ | refine blk_hit ?_ | refine blk_miss rfl ?_ | refine WC.ret ?_)
        exact ⟨(i + 1, rs, ar, cr), by show fs.length - (i + 1) < fs.length - i; omega, ⟨rfl, rfl, rfl, congrArg (fun z => some (Value.int .i64 z)) step, rfl⟩, hi, hfi.symm, hp8⟩
  · have hi : i = fs.length := by have := of_decide_eq_false hc; omega
    subst hi
    rw [List.take_length] at hrs
    subst hrs
    generalize hls : fs.filter (keepE (g.length : Nat)) = ls at *
    have en : IntKind.i64.wrap ((g.length : Int) - 1) = (g.length : Int) - 1 := wrap_i64_in (by omega) (by omega)
    repeat (first | refine WC.seq ?_ | refine WC.reg ?_ | refine WL.pure rfl rfl rfl ?_ | refine WL.nil ?_ | refine WC.skip ?_ | refine WC.block ?_ | refine WC.condT rfl ?_ | refine WC.condF rfl ?_ | refine WL.off rfl rfl rfl ?_ | refine WL.off0 rfl rfl ?_ | refine WC.exit ?_ | refine blk_hit ?_ | refine blk_miss rfl ?_ | refine WC.ret ?_)
    refine WL.loadB rfl rfl rfl rfl rfl (hp7.obj 1 rfl) rfl ?_
    repeat (first | refine WC.seq ?_ | refine WC.reg ?_ | refine WL.pure rfl rfl rfl ?_ | refine WL.nil ?_ | refine WC.skip ?_ | refine WC.block ?_ | refine WC.condT rfl ?_ | refine WC.condF rfl ?_ | refine WL.off rfl rfl rfl ?_ | refine WL.off0 rfl rfl ?_ | refine WC.exit ?_ | refine blk_hit ?_ | refine blk_miss rfl ?_ | refine WC.ret ?_)
    refine WL.known (d := 123) (congrArg (fun z => some (Value.int .i64 z)) en) ?_
    refine WL.call rfl rfl rfl rfl rfl ent25 (Decompose_any ar cr _ ls w7 (Sl.of_row (hp7.at 0 rfl)) (by omega) (hT.below hp7.below)) ?_
    intro v9 w9 hD
    unfold DecIs at hD
    rw [hmk'] at hD
    obtain ⟨bl2, ab2, cb2, al2, cl2, _, hp9, rfl⟩ := hD
    have hp9 := hp7.call hp9.below
    repeat (first | refine WC.seq ?_ | refine WC.reg ?_ | refine WL.pure rfl rfl rfl ?_ | refine WL.nil ?_ | refine WC.skip ?_ | refine WC.block ?_ | refine WC.condT rfl ?_ | refine WC.condF rfl ?_ | refine WL.off rfl rfl rfl ?_ | refine WL.off0 rfl rfl ?_ | refine WC.exit ?_ | refine blk_hit ?_ | refine blk_miss rfl ?_ | refine WC.ret ?_)
    refine WL.var rfl rfl rfl (fun _ => rfl) rfl rfl (show ∀ u ∈ [Value.slice ab2 bl2.length cb2, .slice al2 (linksOf g').length cl2], u.oneCell' = true from Cells.cons rfl (Cells.cons rfl Cells.nil)) ?_
    intro b10 w10 hb10
    have hp10 := (hp9.new hb10).tail
    have en2 : IntKind.i64.wrap (wd g 0 - 1) = wd g 0 - 1 := by rw [IntKind.wrap_i64]; omega
    repeat (first | refine WC.seq ?_ | refine WC.reg ?_ | refine WL.pure rfl rfl rfl ?_ | refine WL.nil ?_ | refine WC.skip ?_ | refine WC.block ?_ | refine WC.condT rfl ?_ | refine WC.condF rfl ?_ | refine WL.off rfl rfl rfl ?_ | refine WL.off0 rfl rfl ?_ | refine WC.exit ?_ | refine blk_hit ?_ | refine blk_miss rfl ?_ | refine WC.ret ?_)
    refine WL.split 136 (b := true) (by simp [W.look]; omega) (fun _ => ?_) (fun h => by cases h)
    repeat (first | refine WC.seq ?_ | refine WC.reg ?_ | refine WL.pure rfl rfl rfl ?_ | refine WL.nil ?_ | refine WC.skip ?_ | refine WC.block ?_ | refine WC.condT rfl ?_ | refine WC.condF rfl ?_ | refine WL.off rfl rfl rfl ?_ | refine WL.off0 rfl rfl ?_ | refine WC.exit ?_ | refine blk_hit ?_ | refine blk_miss rfl ?_ | refine WC.ret ?_)
    refine WL.split 142 (b := true) (by simp [W.look, en2]; omega) (fun _ => ?_) (fun h => by cases h)
    repeat (first | refine WC.seq ?_ | refine WC.reg ?_ | refine WL.pure rfl rfl rfl ?_ | refine WL.nil ?_ | refine WC.skip ?_ | refine WC.block ?_ | refine WC.condT rfl ?_ | refine WC.condF rfl ?_ | refine WL.off rfl rfl rfl ?_ | refine WL.off0 rfl rfl ?_ | refine WC.exit ?_ | refine blk_hit ?_ | refine blk_miss rfl ?_ | refine WC.ret ?_)
    refine WL.call rfl rfl rfl rfl rfl ent19 (fin w10 (hT.below hp10.below) (fun w'' h => (hp10.call h.below).nil')) ?_
    rintro _ wE ⟨rfl, hpE⟩
    repeat (first | refine WC.seq ?_ | refine WC.reg ?_ | refine WL.pure rfl rfl rfl ?_ | refine WL.nil ?_ | refine WC.skip ?_ | refine WC.block ?_ | refine WC.condT rfl ?_ | refine WC.condF rfl ?_ | refine WL.off rfl rfl rfl ?_ | refine WL.off0 rfl rfl ?_ | refine WC.exit ?_ | refine blk_hit ?_ | refine blk_miss rfl ?_ | refine WC.ret ?_)
    exact Res.one rfl rfl rfl ⟨rfl, hpE⟩
end Go.Proofs.YtdnkkflpgebfbaaDoor
