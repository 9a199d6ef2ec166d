/- The walks of 'copied' and 'equal'. -/
import Derived.Test.YtdnkkflpgebfbaaDoorL41
namespace Go.W
open Go.RowKit
section
variable {P : Program} [T : TT P] {n : Nat} {l0 : List Oper} {S : World → Prop} {N : Nor} {Z : Pan} {e : Env} {w : World} {fuel : Nat} {listed : Array Bool} {ty : TypeId} {pos : String} {aft : Array Edge} {g : Option (Nat × Bool)}
theorem Hp.thin {w0 w : World} {x y : Ent} {A B : List Ent} (h : Hp w0 w (x :: y :: (A ++ B))) : Hp w0 w (y :: x :: B) := by
  refine ⟨h.below, fun z hz => h.sat z ?_, ?_⟩
  · simp only [List.mem_cons, List.mem_append] at hz ⊢
    rcases hz with hz | hz | hz
    · exact .inr (.inl hz)
    · exact .inl hz
    · exact .inr (.inr (.inr hz))
  · exact h.swap.dist.sublist (List.Sublist.cons_cons _ (List.Sublist.cons_cons _ (List.sublist_append_right _ _)))
theorem run_sliceHi {t E : TypeId} {i : TI} {z : Value} {s0 b0 len cap h : Nat} {x y : Operand} {a : Option Addr} {k : IntKind} (ht : T.ti t = some ⟨.slice E, z, s0, b0⟩) (hi : T.ti E = some i)
    (hx : opv e x = some (.slice a len cap)) (hy : opv e y = some (.int k (h : Nat))) (hh : h ≤ cap) : Yv P e (.slice t x none (some y) none) ty w (.slice a h cap) w := by
  have hu : P.underlying t = some (.slice E) := (T.ok t _ ht).k
  have hel : P.elem t = E := by simp [Program.elem, hu]
  have hu' : P.underlying t = some (.slice (P.elem t)) := by rw [hel]; exact hu
  have hsz := (T.ok E i hi).sizeOf w
  have hr := run_slice_h (P := P) w t a len cap hu' k h (by omega) (by omega)
  rw [hel, hsz] at hr
  have hval : sliced a 0 (h : Int).toNat cap i.size = .slice a h cap := by
    simp only [sliced, Nat.zero_mul, Nat.sub_zero, Int.toNat_natCast]
    congr 1
    split
    · rfl
    · cases a with
      | none => rfl
      | some p => simp [Addr.add_zero']
  intro ρ hρ d' pos' aft' g'
  simp only [execOp, hρ _ _ hx, Option.map_none, Option.map_some, hρ _ _ hy, Sem.run_bind]
  rw [run_sliceAt_slice w t _ _ _ _ hu', hr, Result.andThen_ok, hval]
  rfl
theorem WH.sliceHi {d : Nat} {t E : TypeId} {ti : TI} {z : Value} {s0 b0 len cap h : Nat} {x y : Operand} {a : Option Addr} {k : IntKind} (i : Nat) (hs : Region.noSelect l0.toArray = true) (hi : nth l0 i = some ⟨some d, .slice t x none (some y) none, ty, pos, aft, g⟩)
    (hB : takeB l0.toArray listed i = true) (hg : grd l0 e g = some true) (hd : Nat.blt d n = true) (ht : T.ti t = some ⟨.slice E, z, s0, b0⟩) (hti : T.ti E = some ti) (hx : opv e x = some (.slice a len cap)) (hy : opv e y = some (.int k (h : Nat))) (hh : h ≤ cap) (hS : S w)
    (hn : WH P n l0 S N Z fuel (listed.setIfInBounds i true) ((d, .slice a h cap) :: e) w) : WH P n l0 S N Z (fuel + 1) listed e w :=
  WH.take i hs hi hB hg hd (fun w _ => run_sliceHi ht hti hx hy hh) hS hn
end
end Go.W
namespace Go.Proofs.YtdnkkflpgebfbaaDoor
open Go.W Go.Tree
set_option maxRecDepth 100000
attribute [local irreducible] WC WL WQ WS WH

def bagEI (b : BagI) : Ent := .row 3 1 (.slice b.1 b.2.2.length b.2.1) b.2.2.length (zs b.2.2)
/-- The memory of a decomposition, of one's own. -/
def TreeI (w : World) (bl : List BagI) (ab : Option Addr) (cb : Nat) (ls : List Ed) (al : Option Addr) (cl : Nat) (w' : World) : Prop :=
  Hp w w' (.row 32 1 (.slice ab bl.length cb) bl.length (bl.map bagVI) :: .row 50 2 (.slice al ls.length cl) ls.length (prs ls) :: bl.map bagEI)
/-- What a copy keeps of the bags. -/
def cut20 (bs : List (List Int)) : List (List Int) := (bs.take 65).map (·.take 20)
theorem cut20_again (bs : List (List Int)) : cut20 (cut20 bs) = cut20 bs := by
  unfold cut20
  rw [← List.map_take, List.take_take, Nat.min_self, List.map_map]
  refine List.map_congr_left fun b _ => ?_
  simp [List.take_take]
theorem bagVI_cells (bl : List BagI) : Cells (bl.map bagVI) := by
  intro u hu
  obtain ⟨b, _, rfl⟩ := List.mem_map.1 hu
  rfl

theorem copied_any (ba la : Option Addr) (bc lc : Nat) (bl : List BagI) (ls : List Ed) (w : World) (hA : BagsAt w ba bl) (hL : Sl w la (prs ls)) (hcap : ∀ b ∈ bl, b.2.2.length ≤ b.2.1) (hlc : ls.length ≤ lc) :
    Ret Tryd.prog 36 [.agg #[.slice ba bl.length bc, .slice la ls.length lc]] w fun v w' => ∃ bl' ab cb al cl, bl'.map (·.2.2) = cut20 (bl.map (·.2.2)) ∧ TreeI w bl' ab cb (ls.take 65) al cl w' ∧
      v = .agg #[.slice ab bl'.length cb, .slice al (ls.take 65).length cl] := by
  refine enter Tryd.func36 rfl rfl ⟨rfl, rfl⟩ rfl ?_
  repeat (first | refine WC.seq ?_ | refine WC.reg ?_ | refine WL.pure rfl rfl rfl ?_ | refine WL.nil ?_ | refine WC.skip ?_ | refine WC.block ?_ | refine WC.condT rfl ?_ | refine WC.condF rfl ?_ | refine WL.off rfl rfl rfl ?_ | refine WL.off0 rfl rfl ?_ | refine WC.exit ?_ | refine blk_hit ?_ | refine blk_miss rfl ?_ | refine WC.ret ?_)
  refine WL.box rfl rfl rfl ?_
  intro b1 w1 hb1
  have hp1 := (Hp.start w).new hb1
  refine WL.alloc rfl rfl rfl ?_
  intro b2 w2 hb2
  have hp2 := hp1.new hb2
  repeat (first | refine WC.seq ?_ | refine WC.reg ?_ | refine WL.pure rfl rfl rfl ?_ | refine WL.nil ?_ | refine WC.skip ?_ | refine WC.block ?_ | refine WC.condT rfl ?_ | refine WC.condF rfl ?_ | refine WL.off rfl rfl rfl ?_ | refine WL.off0 rfl rfl ?_ | refine WC.exit ?_ | refine blk_hit ?_ | refine blk_miss rfl ?_ | refine WC.ret ?_)
  refine WL.alloc rfl rfl rfl ?_
  intro b3 w3 hb3
  have hp3 := hp2.new hb3
  have hp3 : Hp w w3 ([.row 32 1 (.slice none 0 0) 0 (([] : List BagI).map bagVI), .blk b3 (.cells #[.slice none 0 0, .slice none 0 0] 46 (0, 0)), .blk b2 (.cells #[.slice none 0 0, .slice none 0 0] 46 (0, 0)), .blk b1 (.cells #[.slice ba bl.length bc, .slice la ls.length lc] 46 (0, 0))] ++ ([] : List BagI).map bagEI) := hp3.nilrow 32 1
  have hcl : (cut20 (bl.map (·.2.2))).length = min bl.length 65 := by simp [cut20]; omega
  repeat (first | refine WC.seq ?_ | refine WC.reg ?_ | refine WL.pure rfl rfl rfl ?_ | refine WL.nil ?_ | refine WC.skip ?_ | refine WC.block ?_ | refine WC.condT rfl ?_ | refine WC.condF rfl ?_ | refine WL.off rfl rfl rfl ?_ | refine WL.off0 rfl rfl ?_ | refine WC.exit ?_ | refine blk_hit ?_ | refine blk_miss rfl ?_ | refine WC.ret ?_)
  refine WC.loop (Nat × List BagI × Option Addr × Nat) (fun (i, bn, ab, cb) => [(1, .pointer (some ⟨b1, 0, none⟩)), (2, .pointer (some ⟨b2, 0, none⟩)), (3, .pointer (some ⟨b3, 0, none⟩)), (4, .int .i64 (i : Nat))])
    (fun (i, bn, ab, cb) w' => bn.length = i ∧ i ≤ min bl.length 65 ∧ bn.map (·.2.2) = (cut20 (bl.map (·.2.2))).take i ∧ Hp w w' ([.row 32 1 (.slice ab i cb) i (bn.map bagVI), .blk b3 (.cells #[.slice ab i cb, .slice none 0 0] 46 (0, 0)), .blk b2 (.cells #[.slice none 0 0, .slice none 0 0] 46 (0, 0)), .blk b1 (.cells #[.slice ba bl.length bc, .slice la ls.length lc] 46 (0, 0))] ++ bn.map bagEI))
    (fun (i, _) => 65 - i) (0, [], none, 0) ⟨rfl, rfl, rfl, rfl, rfl⟩ ⟨rfl, Nat.zero_le _, rfl, hp3⟩ ?_
  rintro ⟨i, bn, ab, cb⟩ w4 ⟨hi, hbn, hmap, hp4⟩
  repeat (first | refine WC.seq ?_ | refine WC.skip ?_ | refine WC.block ?_)
  refine WC.mid Bool (fun r => [(1, .pointer (some ⟨b1, 0, none⟩)), (2, .pointer (some ⟨b2, 0, none⟩)), (3, .pointer (some ⟨b3, 0, none⟩)), (4, .int .i64 (i : Nat)), (14, .bool r)])
    (fun r w' => w' = w4 ∧ r = decide (i < bl.length ∧ i ≤ 64)) ?_ ?_
  · repeat (first | refine WC.seq ?_ | refine WC.reg ?_ | refine WL.pure rfl rfl rfl ?_ | refine WL.nil ?_ | refine WC.skip ?_ | refine WC.block ?_ | refine WC.condT rfl ?_ | refine WC.condF rfl ?_ | refine WL.off rfl rfl rfl ?_ | refine WL.off0 rfl rfl ?_ | refine WC.exit ?_ | refine blk_hit ?_ | refine blk_miss rfl ?_ | refine WC.ret ?_)
    refine WL.loadB rfl rfl rfl rfl rfl (hp4.obj 3 rfl) rfl ?_
    repeat (first | refine WC.seq ?_ | refine WC.reg ?_ | refine WL.pure rfl rfl rfl ?_ | refine WL.nil ?_ | refine WC.skip ?_ | refine WC.block ?_ | refine WC.condT rfl ?_ | refine WC.condF rfl ?_ | refine WL.off rfl rfl rfl ?_ | refine WL.off0 rfl rfl ?_ | refine WC.exit ?_ | refine blk_hit ?_ | refine blk_miss rfl ?_ | refine WC.ret ?_)
    refine WL.split 11 rfl (fun h1 => ?_) (fun h1 => ?_)
    · have h1 : i < bl.length := by have := of_decide_eq_true h1; omega
      repeat (first | refine WC.seq ?_ | refine WC.reg ?_ | refine WL.pure rfl rfl rfl ?_ | refine WL.nil ?_ | refine WC.skip ?_ | refine WC.block ?_ | refine WC.condT rfl ?_ | refine WC.condF rfl ?_ | refine WL.off rfl rfl rfl ?_ | refine WL.off0 rfl rfl ?_ | refine WC.exit ?_ | refine blk_hit ?_ | refine blk_miss rfl ?_ | refine WC.ret ?_)
      refine ⟨_, ⟨rfl, rfl, rfl, rfl, rfl, rfl⟩, rfl, ?_⟩
      rw [Bool.eq_iff_iff]; simp; omega
    · have h1 : ¬ i < bl.length := by have := of_decide_eq_false h1; omega
      repeat (first | refine WC.seq ?_ | refine WC.reg ?_ | refine WL.pure rfl rfl rfl ?_ | refine WL.nil ?_ | refine WC.skip ?_ | refine WC.block ?_ | refine WC.condT rfl ?_ | refine WC.condF rfl ?_ | refine WL.off rfl rfl rfl ?_ | refine WL.off0 rfl rfl ?_ | refine WC.exit ?_ | refine blk_hit ?_ | refine blk_miss rfl ?_ | refine WC.ret ?_)
      refine ⟨_, ⟨rfl, rfl, rfl, rfl, rfl, rfl⟩, rfl, ?_⟩
      rw [decide_eq_false (fun h => h1 h.1)]
  rintro r e4 w4' hsub ⟨rfl, hr⟩
  refine WC.sub hsub ?_
  clear hsub
  refine WC.cond rfl (fun hq => ?_) (fun hq => ?_)
  · rw [hr] at hq
    obtain ⟨hil, hi64⟩ := of_decide_eq_true hq
    have step : IntKind.i64.wrap ((i : Int) + 1) = ((i + 1 : Nat) : Int) := by rw [wrap_i64_in (by omega) (by omega)]; omega
    have hmem : bl[i] ∈ bl := List.getElem_mem hil
    have hvi := bagVI_at hil
    have hct : (cut20 (bl.map (·.2.2))).take (i + 1) = (cut20 (bl.map (·.2.2))).take i ++ [bl[i].2.2.take 20] := by
      rw [List.take_succ_eq_append_getElem (by rw [hcl]; omega)]
      congr 2
      simp [cut20]
    generalize hb : bl[i] = b at *
    have hbc := hcap b hmem
    obtain ⟨ob, oo, rfl⟩ := Sl.some hA.1 hvi
    have hm : min ((b.2.2.length : Nat) : Int) 20 = (((b.2.2.take 20).length : Nat) : Int) := by rw [List.length_take]; omega
    have htl : (b.2.2.take 20).length ≤ 20 := by rw [List.length_take]; omega
    have htl2 : (b.2.2.take 20).length ≤ b.2.1 := by rw [List.length_take]; omega
    have cE : ∀ w', Hp w w' [.blk b1 (.cells #[.slice (some ⟨ob, oo, none⟩) bl.length bc, .slice la ls.length lc] 46 (0, 0))] → w'.cell? ⟨b1, 0 + 0, none⟩ = some (.slice (some ⟨ob, oo, none⟩) bl.length bc) ∧ w'.cell? ⟨ob, oo + i * 1, none⟩ = some (.slice b.1 b.2.2.length b.2.1) := by
      intro w' h
      refine ⟨cell_of_obj (h.obj 0 rfl) rfl, ?_⟩
      rw [Nat.mul_one]
      exact Sl.cell (hA.hp h).1 hvi
    have sTk : ∀ (w' : World) {L : List Ent}, Hp w w' L → Sl w' b.1 (zs (b.2.2.take 20)) := by
      intro w' L h
      rw [← zs_take]
      exact ((hA.hp h).2 b hmem).take 20
    have hvm : ∀ (an : Option Addr) (cn : Nat), bn.map bagVI ++ [Value.slice an (b.2.2.take 20).length cn] = (bn ++ [(an, cn, b.2.2.take 20)]).map bagVI := fun an cn => by rw [List.map_append]; rfl
    have finP : ∀ (an : Option Addr) (cn : Nat) (ab' : Option Addr) (cb' : Nat) (w' : World), Hp w w' (.row 3 1 (.slice an (b.2.2.take 20).length cn) (b.2.2.take 20).length (zs (b.2.2.take 20)) :: ([.row 32 1 (.slice ab' (i + 1) cb') (i + 1) ((bn ++ [(an, cn, b.2.2.take 20)]).map bagVI), .blk b3 (.cells #[.slice ab' (i + 1) cb', .slice none 0 0] 46 (0, 0)), .blk b2 (.cells #[.slice none 0 0, .slice none 0 0] 46 (0, 0)), .blk b1 (.cells #[.slice (some ⟨ob, oo, none⟩) bl.length bc, .slice la ls.length lc] 46 (0, 0))] ++ bn.map bagEI)) →
        Hp w w' ([.row 32 1 (.slice ab' (i + 1) cb') (i + 1) ((bn ++ [(an, cn, b.2.2.take 20)]).map bagVI), .blk b3 (.cells #[.slice ab' (i + 1) cb', .slice none 0 0] 46 (0, 0)), .blk b2 (.cells #[.slice none 0 0, .slice none 0 0] 46 (0, 0)), .blk b1 (.cells #[.slice (some ⟨ob, oo, none⟩) bl.length bc, .slice la ls.length lc] 46 (0, 0))] ++ (bn ++ [(an, cn, b.2.2.take 20)]).map bagEI) := by
      intro an cn ab' cb' w' h
      rw [List.map_append]
      refine Hp.permP h ((List.perm_append_comm (l₁ := [_])).trans ?_)
      exact List.Perm.of_eq (by simp [bagEI])
    repeat (first | refine WC.seq ?_ | refine WC.reg ?_ | refine WL.pure rfl rfl rfl ?_ | refine WL.nil ?_ | refine WC.skip ?_ | refine WC.block ?_ | refine WC.condT rfl ?_ | refine WC.condF rfl ?_ | refine WL.off rfl rfl rfl ?_ | refine WL.off0 rfl rfl ?_ | refine WC.exit ?_ | refine blk_hit ?_ | refine blk_miss rfl ?_ | refine WC.ret ?_)
    refine WC.mid ((Option Addr × Nat) × (Option Addr × Nat)) (fun _ => [(1, .pointer (some ⟨b1, 0, none⟩)), (2, .pointer (some ⟨b2, 0, none⟩)), (3, .pointer (some ⟨b3, 0, none⟩)), (4, .int .i64 (i : Nat))]) (fun ((an, cn), (ab', cb')) w' => Hp w w' ([.row 32 1 (.slice ab' (i + 1) cb') (i + 1) ((bn ++ [(an, cn, b.2.2.take 20)]).map bagVI), .blk b3 (.cells #[.slice ab' (i + 1) cb', .slice none 0 0] 46 (0, 0)), .blk b2 (.cells #[.slice none 0 0, .slice none 0 0] 46 (0, 0)), .blk b1 (.cells #[.slice (some ⟨ob, oo, none⟩) bl.length bc, .slice la ls.length lc] 46 (0, 0))] ++ (bn ++ [(an, cn, b.2.2.take 20)]).map bagEI)) ?_ ?_
    · refine WC.regH (fun w' => Hp w w' [.blk b1 (.cells #[.slice (some ⟨ob, oo, none⟩) bl.length bc, .slice la ls.length lc] 46 (0, 0))]) mixed (by kernel_rfl) (fun w5 hw5 hh5 => ?_)
      have hp5 := hp4.keep hw5
      have hS5 : Hp w w5 [.blk b1 (.cells #[.slice (some ⟨ob, oo, none⟩) bl.length bc, .slice la ls.length lc] 46 (0, 0))] := hp5.pick [3] (by decide)
      refine WH.pure 0 (by kernel_rfl) rfl (by kernel_rfl) rfl rfl rfl hS5 ?_
      refine WH.pure 2 (by kernel_rfl) rfl (by kernel_rfl) rfl rfl rfl hS5 ?_
      refine WH.pure 3 (by kernel_rfl) rfl (by kernel_rfl) rfl rfl rfl hS5 ?_
      refine WH.load 4 (by kernel_rfl) rfl (by kernel_rfl) rfl rfl rfl rfl rfl (fun w' h => (cE w' h).1) hS5 ?_
      refine WH.pure 5 (by kernel_rfl) rfl (by kernel_rfl) rfl rfl rfl hS5 ?_
      refine WH.ix 6 (by kernel_rfl) rfl (by kernel_rfl) rfl rfl rfl rfl rfl rfl hil hS5 ?_
      refine WH.load 7 (by kernel_rfl) rfl (by kernel_rfl) rfl rfl rfl rfl rfl (fun w' h => (cE w' h).2) hS5 ?_
      refine WH.pure 8 (by kernel_rfl) rfl (by kernel_rfl) rfl rfl rfl hS5 ?_
      refine WH.load 9 (by kernel_rfl) rfl (by kernel_rfl) rfl rfl rfl rfl rfl (fun w' h => (cE w' h).1) hS5 ?_
      refine WH.pure 10 (by kernel_rfl) rfl (by kernel_rfl) rfl rfl rfl hS5 ?_
      refine WH.ix 11 (by kernel_rfl) rfl (by kernel_rfl) rfl rfl rfl rfl rfl rfl hil hS5 ?_
      refine WH.load 12 (by kernel_rfl) rfl (by kernel_rfl) rfl rfl rfl rfl rfl (fun w' h => (cE w' h).2) hS5 ?_
      refine WH.pure 13 (by kernel_rfl) rfl (by kernel_rfl) rfl rfl rfl hS5 ?_
      refine WH.pure 14 (by kernel_rfl) rfl (by kernel_rfl) rfl rfl rfl hS5 ?_
      refine WH.known (d := 31) (congrArg (fun z => some (Value.int .i64 z)) hm) ?_
      refine WH.sliceHi 15 (by kernel_rfl) rfl (by kernel_rfl) rfl rfl rfl rfl rfl rfl htl2 hS5 ?_
      refine WH.two 1 16 rfl rfl (by kernel_rfl) ?_ ?_
      · refine WL.loadB rfl rfl rfl rfl rfl (hp5.obj 1 rfl) rfl (WL.nil ⟨hS5, ?_⟩)
        refine WH.one 16 rfl (by kernel_rfl) ?_
        refine WL.append 0 (hp5.nilrow 3 1) rfl rfl rfl rfl rfl Nat.zero_lt_one rfl rfl rfl (news := zs (b.2.2.take 20)) (sTk _ hp5) (by rw [zs_len]; exact (Nat.mul_one _).symm) (zs_cells _) (by unfold maxLen; omega) (by show (0 + (b.2.2.take 20).length) * 8 ≤ _; omega) ?_
        intro a16 c16 w16 hp16 hg16
        rw [Nat.zero_add] at hp16 ⊢
        rw [List.nil_append] at hp16
        have hp16 : Hp w w16 (.row 3 1 (.slice a16 (b.2.2.take 20).length c16) (b.2.2.take 20).length (zs (b.2.2.take 20)) :: ([.row 32 1 (.slice ab i cb) i (bn.map bagVI), .blk b3 (.cells #[.slice ab i cb, .slice none 0 0] 46 (0, 0)), .blk b2 (.cells #[.slice none 0 0, .slice none 0 0] 46 (0, 0)), .blk b1 (.cells #[.slice (some ⟨ob, oo, none⟩) bl.length bc, .slice la ls.length lc] 46 (0, 0))] ++ bn.map bagEI)) := hp16
        refine WL.nil ⟨hp16.pick [4] (by decide), ?_⟩
        refine WH.one 17 rfl (by kernel_rfl) ?_
        refine WL.buildS (cs := [.slice a16 (b.2.2.take 20).length c16]) rfl rfl rfl rfl rfl rfl rfl rfl rfl ?_
        intro b17 w17 hb17
        have hp17 := hp16.new hb17
        refine WL.nil ⟨hp17.pick [5] (by decide), ?_⟩
        refine WH.one 18 rfl (by kernel_rfl) ?_
        refine WL.append 2 hp17 rfl rfl rfl rfl rfl Nat.zero_lt_one rfl rfl rfl (news := [.slice a16 (b.2.2.take 20).length c16]) (Sl.of_obj (hp17.obj 0 rfl) (fun q u hq => by simpa using hq)) rfl (Cells.cons rfl Cells.nil) (by unfold maxLen; omega) (by show (i + 1) * 24 ≤ _; omega) ?_
        intro ab' cb' w18 hp18 hg18
        refine WL.nil ⟨hp18.pick [5] (by decide), ?_⟩
        refine WH.one 19 rfl (by kernel_rfl) (WL.pure rfl rfl rfl (WL.nil ⟨hp18.pick [5] (by decide), ?_⟩))
        refine WH.one 20 rfl (by kernel_rfl) ?_
        refine WL.store rfl rfl rfl rfl rfl rfl (hp18.obj 3 rfl) (show 0 + 0 < 2 from by decide) (fun w20 hw20 => ?_)
        have hp20 := (hp18.set 3 rfl rfl hw20).tail
        refine WL.nil ⟨hp20.pick [4] (by decide), WH.done (by kernel_rfl) ?_⟩
        exact ⟨((a16, c16), (ab', cb')), ⟨rfl, rfl, rfl, rfl, rfl⟩, finP a16 c16 ab' cb' w20 (by rw [hvm] at hp20; exact hp20)⟩
      · refine WL.append 0 (hp5.nilrow 3 1) rfl rfl rfl rfl rfl Nat.zero_lt_one rfl rfl rfl (news := zs (b.2.2.take 20)) (sTk _ hp5) (by rw [zs_len]; exact (Nat.mul_one _).symm) (zs_cells _) (by unfold maxLen; omega) (by show (0 + (b.2.2.take 20).length) * 8 ≤ _; omega) ?_
        intro a16 c16 w16 hp16 hg16
        rw [Nat.zero_add] at hp16 ⊢
        rw [List.nil_append] at hp16
        have hp16 : Hp w w16 (.row 3 1 (.slice a16 (b.2.2.take 20).length c16) (b.2.2.take 20).length (zs (b.2.2.take 20)) :: ([.row 32 1 (.slice ab i cb) i (bn.map bagVI), .blk b3 (.cells #[.slice ab i cb, .slice none 0 0] 46 (0, 0)), .blk b2 (.cells #[.slice none 0 0, .slice none 0 0] 46 (0, 0)), .blk b1 (.cells #[.slice (some ⟨ob, oo, none⟩) bl.length bc, .slice la ls.length lc] 46 (0, 0))] ++ bn.map bagEI)) := hp16
        refine WL.nil ⟨hp16.pick [4] (by decide), ?_⟩
        refine WH.two 1 17 rfl rfl (by kernel_rfl) ?_ ?_
        · refine WL.loadB rfl rfl rfl rfl rfl (hp16.obj 2 rfl) rfl (WL.nil ⟨hp16.pick [4] (by decide), ?_⟩)
          refine WH.one 17 rfl (by kernel_rfl) ?_
          refine WL.buildS (cs := [.slice a16 (b.2.2.take 20).length c16]) rfl rfl rfl rfl rfl rfl rfl rfl rfl ?_
          intro b17 w17 hb17
          have hp17 := hp16.new hb17
          refine WL.nil ⟨hp17.pick [5] (by decide), ?_⟩
          refine WH.one 18 rfl (by kernel_rfl) ?_
          refine WL.append 2 hp17 rfl rfl rfl rfl rfl Nat.zero_lt_one rfl rfl rfl (news := [.slice a16 (b.2.2.take 20).length c16]) (Sl.of_obj (hp17.obj 0 rfl) (fun q u hq => by simpa using hq)) rfl (Cells.cons rfl Cells.nil) (by unfold maxLen; omega) (by show (i + 1) * 24 ≤ _; omega) ?_
          intro ab' cb' w18 hp18 hg18
          refine WL.nil ⟨hp18.pick [5] (by decide), ?_⟩
          refine WH.one 19 rfl (by kernel_rfl) (WL.pure rfl rfl rfl (WL.nil ⟨hp18.pick [5] (by decide), ?_⟩))
          refine WH.one 20 rfl (by kernel_rfl) ?_
          refine WL.store rfl rfl rfl rfl rfl rfl (hp18.obj 3 rfl) (show 0 + 0 < 2 from by decide) (fun w20 hw20 => ?_)
          have hp20 := (hp18.set 3 rfl rfl hw20).tail
          refine WL.nil ⟨hp20.pick [4] (by decide), WH.done (by kernel_rfl) ?_⟩
          exact ⟨((a16, c16), (ab', cb')), ⟨rfl, rfl, rfl, rfl, rfl⟩, finP a16 c16 ab' cb' w20 (by rw [hvm] at hp20; exact hp20)⟩
        · refine WL.buildS (cs := [.slice a16 (b.2.2.take 20).length c16]) rfl rfl rfl rfl rfl rfl rfl rfl rfl ?_
          intro b17 w17 hb17
          have hp17 := hp16.new hb17
          refine WL.nil ⟨hp17.pick [5] (by decide), ?_⟩
          refine WH.one 1 rfl (by kernel_rfl) ?_
          refine WL.loadB rfl rfl rfl rfl rfl (hp17.obj 3 rfl) rfl (WL.nil ⟨hp17.pick [5] (by decide), ?_⟩)
          refine WH.one 18 rfl (by kernel_rfl) ?_
          refine WL.append 2 hp17 rfl rfl rfl rfl rfl Nat.zero_lt_one rfl rfl rfl (news := [.slice a16 (b.2.2.take 20).length c16]) (Sl.of_obj (hp17.obj 0 rfl) (fun q u hq => by simpa using hq)) rfl (Cells.cons rfl Cells.nil) (by unfold maxLen; omega) (by show (i + 1) * 24 ≤ _; omega) ?_
          intro ab' cb' w18 hp18 hg18
          refine WL.nil ⟨hp18.pick [5] (by decide), ?_⟩
          refine WH.one 19 rfl (by kernel_rfl) (WL.pure rfl rfl rfl (WL.nil ⟨hp18.pick [5] (by decide), ?_⟩))
          refine WH.one 20 rfl (by kernel_rfl) ?_
          refine WL.store rfl rfl rfl rfl rfl rfl (hp18.obj 3 rfl) (show 0 + 0 < 2 from by decide) (fun w20 hw20 => ?_)
          have hp20 := (hp18.set 3 rfl rfl hw20).tail
          refine WL.nil ⟨hp20.pick [4] (by decide), WH.done (by kernel_rfl) ?_⟩
          exact ⟨((a16, c16), (ab', cb')), ⟨rfl, rfl, rfl, rfl, rfl⟩, finP a16 c16 ab' cb' w20 (by rw [hvm] at hp20; exact hp20)⟩
    rintro ⟨⟨an, cn⟩, ab', cb'⟩ e6 w6 hsub hp6
    refine WC.sub hsub ?_
    clear hsub
    have hl1 : (bn ++ [(an, cn, b.2.2.take 20)]).length = i + 1 := by simp [hi]
    repeat (first | refine WC.seq ?_ | refine WC.reg ?_ | refine WL.pure rfl rfl rfl ?_ | refine WL.nil ?_ | refine WC.skip ?_ | refine WC.block ?_ | refine WC.condT rfl ?_ | refine WC.condF rfl ?_ | refine WL.off rfl rfl rfl ?_ | refine WL.off0 rfl rfl ?_ | refine WC.exit ?_ | refine blk_hit ?_ | refine blk_miss rfl ?_ | refine WC.ret ?_)
    refine ⟨(i + 1, bn ++ [(an, cn, b.2.2.take 20)], ab', cb'), by show 65 - (i + 1) < 65 - i; omega, ⟨rfl, rfl, rfl, congrArg (fun z => some (Value.int .i64 z)) step, rfl⟩, hl1, by omega, ?_, hp6⟩
    rw [hct, List.map_append, hmap]
    rfl
  · rw [hr] at hq
    have hq := of_decide_eq_false hq
    have hi2 : i = min bl.length 65 := by omega
    rw [List.take_of_length_le (by rw [hcl]; omega)] at hmap
    have hm : min ((ls.length : Nat) : Int) 65 = (((ls.take 65).length : Nat) : Int) := by rw [List.length_take]; omega
    have htl : (ls.take 65).length ≤ lc := by rw [List.length_take]; omega
    have htl2 : (ls.take 65).length ≤ 65 := by rw [List.length_take]; omega
    have cE : ∀ w', Hp w w' [.blk b1 (.cells #[.slice ba bl.length bc, .slice la ls.length lc] 46 (0, 0))] → w'.cell? ⟨b1, 0 + 1, none⟩ = some (.slice la ls.length lc) := fun w' h => cell_of_obj (h.obj 0 rfl) rfl
    repeat (first | refine WC.seq ?_ | refine WC.reg ?_ | refine WL.pure rfl rfl rfl ?_ | refine WL.nil ?_ | refine WC.skip ?_ | refine WC.block ?_ | refine WC.condT rfl ?_ | refine WC.condF rfl ?_ | refine WL.off rfl rfl rfl ?_ | refine WL.off0 rfl rfl ?_ | refine WC.exit ?_ | refine blk_hit ?_ | refine blk_miss rfl ?_ | refine WC.ret ?_)
    refine WC.mid (Option Addr × Nat) (fun _ => [(2, .pointer (some ⟨b2, 0, none⟩)), (3, .pointer (some ⟨b3, 0, none⟩))])
      (fun (al, cl) w' => Hp w w' (.row 50 2 (.slice al (ls.take 65).length cl) (ls.take 65).length (prs (ls.take 65)) :: ([.row 32 1 (.slice ab i cb) i (bn.map bagVI), .blk b3 (.cells #[.slice ab i cb, .slice al (ls.take 65).length cl] 46 (0, 0)), .blk b2 (.cells #[.slice none 0 0, .slice none 0 0] 46 (0, 0)), .blk b1 (.cells #[.slice ba bl.length bc, .slice la ls.length lc] 46 (0, 0))] ++ bn.map bagEI))) ?_ ?_
    · refine WC.regH (fun w' => Hp w w' [.blk b1 (.cells #[.slice ba bl.length bc, .slice la ls.length lc] 46 (0, 0))]) mixed (by kernel_rfl) (fun w5 hw5 hh5 => ?_)
      have hp5 := hp4.keep hw5
      have hS5 : Hp w w5 [.blk b1 (.cells #[.slice ba bl.length bc, .slice la ls.length lc] 46 (0, 0))] := hp5.pick [3] (by decide)
      refine WH.pure 0 (by kernel_rfl) rfl (by kernel_rfl) rfl rfl rfl hS5 ?_
      refine WH.pure 2 (by kernel_rfl) rfl (by kernel_rfl) rfl rfl rfl hS5 ?_
      refine WH.load 3 (by kernel_rfl) rfl (by kernel_rfl) rfl rfl rfl rfl rfl cE hS5 ?_
      refine WH.pure 4 (by kernel_rfl) rfl (by kernel_rfl) rfl rfl rfl hS5 ?_
      refine WH.load 5 (by kernel_rfl) rfl (by kernel_rfl) rfl rfl rfl rfl rfl cE hS5 ?_
      refine WH.pure 6 (by kernel_rfl) rfl (by kernel_rfl) rfl rfl rfl hS5 ?_
      refine WH.pure 7 (by kernel_rfl) rfl (by kernel_rfl) rfl rfl rfl hS5 ?_
      refine WH.known (d := 44) (congrArg (fun z => some (Value.int .i64 z)) hm) ?_
      refine WH.sliceHi 8 (by kernel_rfl) rfl (by kernel_rfl) rfl rfl rfl rfl rfl rfl htl hS5 ?_
      refine WH.one 1 rfl (by kernel_rfl) ?_
      refine WL.loadB rfl rfl rfl rfl rfl (hp5.obj 1 rfl) rfl (WL.nil ⟨hS5, ?_⟩)
      refine WH.one 9 rfl (by kernel_rfl) ?_
      refine WL.append 0 (hp5.nilrow 50 2) rfl rfl rfl rfl rfl (by decide) rfl rfl rfl (news := prs (ls.take 65)) (by rw [← prs_take]; exact (hL.hp hp5).take _) (by rw [prs_len]; rfl) (prs_cells _) (by unfold maxLen; omega) (by show (0 + (ls.take 65).length) * 16 ≤ _; omega) ?_
      intro al cl w6 hp6 hg6
      rw [Nat.zero_add] at hp6 ⊢
      rw [List.nil_append] at hp6
      refine WL.nil ⟨hp6.pick [4] (by decide), ?_⟩
      refine WH.one 10 rfl (by kernel_rfl) (WL.pure rfl rfl rfl (WL.nil ⟨hp6.pick [4] (by decide), ?_⟩))
      refine WH.one 11 rfl (by kernel_rfl) ?_
      refine WL.store rfl rfl rfl rfl rfl rfl (hp6.obj 2 rfl) (show 0 + 1 < 2 from by decide) (fun w7 hw7 => ?_)
      have hp7 := hp6.set 2 rfl rfl hw7
      refine WL.nil ⟨hp7.pick [4] (by decide), WH.done (by kernel_rfl) ?_⟩
      exact ⟨(al, cl), ⟨rfl, rfl, rfl⟩, hp7⟩
    rintro ⟨al, cl⟩ e6 w6 hsub hp6
    refine WC.sub hsub ?_
    clear hsub
    repeat (first | refine WC.seq ?_ | refine WC.reg ?_ | refine WL.pure rfl rfl rfl ?_ | refine WL.nil ?_ | refine WC.skip ?_ | refine WC.block ?_ | refine WC.condT rfl ?_ | refine WC.condF rfl ?_ | refine WL.off rfl rfl rfl ?_ | refine WL.off0 rfl rfl ?_ | refine WC.exit ?_ | refine blk_hit ?_ | refine blk_miss rfl ?_ | refine WC.ret ?_)
    refine WL.loadN (cs := [.slice ab i cb, .slice al (ls.take 65).length cl]) rfl rfl rfl rfl rfl rfl (fun j v hj => cell_of_obj (hp6.obj 2 rfl) (by rw [Nat.zero_add]; simpa using hj)) ?_
    refine WL.storeN rfl rfl rfl rfl rfl (show ∀ u ∈ [Value.slice ab i cb, .slice al (ls.take 65).length cl], u.oneCell' = true from Cells.cons rfl (Cells.cons rfl Cells.nil)) (hp6.obj 3 rfl) (Nat.le_refl 2) rfl (fun w7 hw7 => ?_)
    have hp7 := hp6.set 3 rfl rfl hw7
    repeat (first | refine WC.seq ?_ | refine WC.reg ?_ | refine WL.pure rfl rfl rfl ?_ | refine WL.nil ?_ | refine WC.skip ?_ | refine WC.block ?_ | refine WC.condT rfl ?_ | refine WC.condF rfl ?_ | refine WL.off rfl rfl rfl ?_ | refine WL.off0 rfl rfl ?_ | refine WC.exit ?_ | refine blk_hit ?_ | refine blk_miss rfl ?_ | refine WC.ret ?_)
    refine Res.cell rfl rfl rfl rfl rfl rfl (hp7.obj 3 rfl) ⟨bn, ab, cb, al, cl, hmap, ?_, by rw [hi]; rfl⟩
    unfold TreeI
    rw [hi]
    have h8 : Hp w w7 (.row 50 2 (.slice al (ls.take 65).length cl) (ls.take 65).length (prs (ls.take 65)) :: .row 32 1 (.slice ab i cb) i (bn.map bagVI) :: (([_, _, _] : List Ent) ++ bn.map bagEI)) := hp7
    exact Hp.thin (A := [_, _, _]) h8
end Go.Proofs.YtdnkkflpgebfbaaDoor
