/- The walks of 'merged' and 'TreeContracts'. -/
import Derived.Test.YtdnkkflpgebfbaaDoorPm
namespace Go.W
open Go.RowKit
section
variable {P : Program} [T : TT P] {n : Nat} {l0 : List Oper} {S : World → Prop} {N : Nor} {Z : Pan} {e : Env} {w : World} {fuel : Nat} {listed : Array Bool}
/-- The address of an array's element, taken first. -/
theorem WH.ixA {d : Nat} {t ty E : TypeId} {pos : String} {aft : Array Edge} {g : Option (Nat × Bool)} {ti : TI} {x ix : Operand} {b o m j : Nat} {k : IntKind} {z : Value} {s b2 : Nat} (i : Nat) (hs : Region.noSelect l0.toArray = true) (hi : nth l0 i = some ⟨some d, .indexAddr t x ix, ty, pos, aft, g⟩)
    (hB : takeB l0.toArray listed i = true) (hg : grd l0 e g = some true) (hd : Nat.blt d n = true) (ht : T.ti t = some ⟨.array m E, z, s, b2⟩) (hE : T.ti E = some ti)
    (hx : opv e x = some (.pointer (some ⟨b, o, none⟩))) (hix : opv e ix = some (.int k (j : Nat))) (hj : j < m) (hS : S w)
    (h : WH P n l0 S N Z fuel (listed.setIfInBounds i true) ((d, .pointer (some ⟨b, o + j * ti.size, none⟩)) :: e) w) : WH P n l0 S N Z (fuel + 1) listed e w :=
  WH.take i hs hi hB hg hd (fun w _ => run_ixA ht hE hx hix hj) hS h
end
end Go.W
namespace Go.Proofs.YtdnkkflpgebfbaaDoor
open Go.W Go.Tree
set_option maxRecDepth 100000
attribute [local irreducible] WC WL WQ WS WH

theorem merged_any (v a b n : Int) (h0 : 0 ≤ n) (h1 : n ≤ 14) : Pur Tryd.prog 27 [.int .i64 v, .int .i64 a, .int .i64 b, .int .i64 n] (.int .i64 (mgI v a b n)) := by
  intro w
  have en : IntKind.i64.wrap (n - 1) = n - 1 := by rw [IntKind.wrap_i64]; omega
  refine enter Tryd.func27 rfl rfl ⟨rfl, rfl⟩ rfl ?_
  repeat (first | refine WC.seq ?_ | refine WC.reg ?_ | refine WL.pure rfl rfl rfl ?_ | refine WL.nil ?_ | refine WC.skip ?_ | refine WC.block ?_ | refine WC.condT rfl ?_ | refine WC.condF rfl ?_ | refine WL.off rfl rfl rfl ?_ | refine WL.off0 rfl rfl ?_ | refine WC.exit ?_ | refine blk_hit ?_ | refine blk_miss rfl ?_ | refine WC.ret ?_)
  refine WC.cond rfl (fun hq => ?_) (fun hq => ?_)
  · have hq : v = b := by simpa using hq
    repeat (first | refine WC.seq ?_ | refine WC.reg ?_ | refine WL.pure rfl rfl rfl ?_ | refine WL.nil ?_ | refine WC.skip ?_ | refine WC.block ?_ | refine WC.condT rfl ?_ | refine WC.condF rfl ?_ | refine WL.off rfl rfl rfl ?_ | refine WL.off0 rfl rfl ?_ | refine WC.exit ?_ | refine blk_hit ?_ | refine blk_miss rfl ?_ | refine WC.ret ?_)
    exact Res.one rfl rfl rfl ⟨by rw [mgI, if_pos hq], rfl⟩
  have hq : v ≠ b := by simpa using hq
  repeat (first | refine WC.seq ?_ | refine WC.reg ?_ | refine WL.pure rfl rfl rfl ?_ | refine WL.nil ?_ | refine WC.skip ?_ | refine WC.block ?_ | refine WC.condT rfl ?_ | refine WC.condF rfl ?_ | refine WL.off rfl rfl rfl ?_ | refine WL.off0 rfl rfl ?_ | refine WC.exit ?_ | refine blk_hit ?_ | refine blk_miss rfl ?_ | refine WC.ret ?_)
  refine WC.cond rfl (fun hz => ?_) (fun hz => ?_)
  · have hz : v = n - 1 := by rw [en] at hz; simpa using hz
    repeat (first | refine WC.seq ?_ | refine WC.reg ?_ | refine WL.pure rfl rfl rfl ?_ | refine WL.nil ?_ | refine WC.skip ?_ | refine WC.block ?_ | refine WC.condT rfl ?_ | refine WC.condF rfl ?_ | refine WL.off rfl rfl rfl ?_ | refine WL.off0 rfl rfl ?_ | refine WC.exit ?_ | refine blk_hit ?_ | refine blk_miss rfl ?_ | refine WC.ret ?_)
    exact Res.one rfl rfl rfl ⟨by rw [mgI, if_neg hq, if_pos hz], rfl⟩
  have hz : v ≠ n - 1 := by rw [en] at hz; simpa using hz
  repeat (first | refine WC.seq ?_ | refine WC.reg ?_ | refine WL.pure rfl rfl rfl ?_ | refine WL.nil ?_ | refine WC.skip ?_ | refine WC.block ?_ | refine WC.condT rfl ?_ | refine WC.condF rfl ?_ | refine WL.off rfl rfl rfl ?_ | refine WL.off0 rfl rfl ?_ | refine WC.exit ?_ | refine blk_hit ?_ | refine blk_miss rfl ?_ | refine WC.ret ?_)
  exact Res.one rfl rfl rfl ⟨by rw [mgI, if_neg hq, if_neg hz], rfl⟩

theorem pr_cells (e : Ed) : Cells (pr e) := Cells.cons rfl (Cells.cons rfl Cells.nil)
/-- What stays: the graph's block and its edges. -/
def FF (b7 be oe : Nat) (N c : Nat) (fs : List Ed) : List Ent := [.blk b7 (.cells #[.int .i64 (N : Nat), .slice (some ⟨be, oe, none⟩) fs.length c] 24 (0, 0)), .row 50 2 (.slice (some ⟨be, oe, none⟩) fs.length c) fs.length (prs fs)]
theorem FF_cells {w w' : World} {b7 be oe N c : Nat} {fs : List Ed} {L : List Ent} (h : Hp w w' (L ++ FF b7 be oe N c fs)) :
    w'.heap[b7]? = some (.cells #[.int .i64 (N : Nat), .slice (some ⟨be, oe, none⟩) fs.length c] 24 (0, 0)) ∧ Sl w' (some ⟨be, oe, none⟩) (prs fs) ∧
    w'.cell? ⟨b7, 0 + 0, none⟩ = some (.int .i64 (N : Nat)) ∧ w'.cell? ⟨b7, 0 + 1, none⟩ = some (.slice (some ⟨be, oe, none⟩) fs.length c) ∧
    ∀ i (hi : i < fs.length), w'.cell? ⟨be, oe + i * 2 + 0 * 1, none⟩ = some (.int .i64 (fs[i]).1) ∧ w'.cell? ⟨be, oe + i * 2 + 1 * 1, none⟩ = some (.int .i64 (fs[i]).2) := by
  have hb := (h.sat (.blk b7 (.cells #[.int .i64 (N : Nat), .slice (some ⟨be, oe, none⟩) fs.length c] 24 (0, 0))) (by simp [FF])).2
  have hs := Sl.of_row (h.sat (.row 50 2 (.slice (some ⟨be, oe, none⟩) fs.length c) fs.length (prs fs)) (by simp [FF]))
  refine ⟨hb, hs, cell_of_obj hb rfl, cell_of_obj hb rfl, fun i hi => ?_⟩
  have h1 := Sl.cell hs (prs_get hi).1
  have h2 := Sl.cell hs (prs_get hi).2
  rw [← Nat.add_assoc] at h1 h2
  exact ⟨h1, h2⟩
theorem ends {n : Int} {fs : List Ed} {g : List Nat} (hmk : mkG n fs = some g) {i : Nat} (hi : i < fs.length) : ∃ p q : Nat, fs[i] = ((p : Int), (q : Int)) ∧ p < g.length ∧ q < g.length ∧ p ≠ q := by
  obtain ⟨_, hgn, hn0, _, _⟩ := mkG_gr hmk
  obtain ⟨r1, r2, r3, r4, r5⟩ := (mkG_okes hmk).1 _ (List.getElem_mem hi)
  generalize fs[i] = e at *
  obtain ⟨p, q⟩ := e
  obtain ⟨p, rfl⟩ := Int.eq_ofNat_of_zero_le r1
  obtain ⟨q, rfl⟩ := Int.eq_ofNat_of_zero_le r3
  simp only at r2 r4 r5
  exact ⟨p, q, rfl, by omega, by omega, by omega⟩

theorem colV_of {n : Int} {es : List Ed} {g : List Nat} (hmk : mkG n es = some g) {k : Nat} (hk : k ≤ 8) : colV n es k = .tuple #[.int .i64 (colD (Ind g) k (full g.length) : Nat), .int .i64 0] := by
  have hn := (mkG_gr hmk).1.len
  simp only [colV, hmk]
  rw [if_neg (by omega), colP_colD (fr_zero _) (lt_pow16 hn (full_lt _)) (by omega)]
  rfl
theorem apV_of {n : Int} {es : List Ed} {g : List Nat} (hmk : mkG n es = some g) : ∃ b : Nat, apV n es = .tuple #[.int .i64 (nI g : Nat), .int .i64 b, .int .i64 0] := by
  refine ⟨(apR (ap g) (2 ^ g.length)).2, ?_⟩
  simp only [apV, hmk]
  rw [← apR_nI]
  rfl
theorem gv_congr {p p' : Nat → Bool} (h : ∀ i, i < 20 → p i = p' i) : gv p = gv p' := List.map_congr_left fun i hi => congrArg Value.bool (h i (by simpa using hi))
theorem nat_beq (p a : Nat) : ((p : Int) == (a : Int)) = (p == a) := by rw [Bool.eq_iff_iff, beq_iff_eq, beq_iff_eq]; omega
theorem nat_bne (p a : Nat) : ((p : Int) != (a : Int)) = (p != a) := by show (!((p : Int) == (a : Int))) = !(p == a); rw [nat_beq]
theorem gon_step {a p q : Nat} {es : List Ed} (hr : ((p : Int) == (a : Int) || (q : Int) == (a : Int)) = true) : gv (fun j => j == q || (j == p || gon a es j)) = gv (gon a (es ++ [((p : Int), (q : Int))])) := by
  refine gv_congr fun i _ => ?_
  have hr2 : (p == a || q == a) = true := by rw [nat_beq, nat_beq] at hr; exact hr
  rw [gon_snoc]
  simp only [Int.toNat_natCast]
  rw [hr2, Bool.true_and]
  have h1 : (i == q) = (q == i) := by rw [Bool.eq_iff_iff, beq_iff_eq, beq_iff_eq]; omega
  have h2 : (i == p) = (p == i) := by rw [Bool.eq_iff_iff, beq_iff_eq, beq_iff_eq]; omega
  rw [h1, h2]
  cases gon a es i <;> cases (p == i) <;> cases (q == i) <;> rfl
theorem gon_same {a p q : Nat} {es : List Ed} (hr : ((p : Int) == (a : Int) || (q : Int) == (a : Int)) = false) : gv (gon a es) = gv (gon a (es ++ [((p : Int), (q : Int))])) := by
  refine gv_congr fun i _ => ?_
  have hr2 : (p == a || q == a) = false := by rw [nat_beq, nat_beq] at hr; exact hr
  rw [gon_snoc]
  simp only [Int.toNat_natCast]
  rw [hr2, Bool.false_and, Bool.or_false]

theorem TreeContracts_any (ea : Option Addr) (ce : Nat) (n : Int) (es : List Ed) (k at_ : Int) (w : World) (hs : Sl w ea (prs es)) (hT : Tb w) :
    Ret Tryd.prog 6 [.agg #[.int .i64 n, .slice ea es.length ce], .int .i64 k, .int .i64 at_] w fun v w' => v = .bool true ∧ Hp w w' [] := by
  refine enter Tryd.func6 rfl rfl ⟨rfl, rfl⟩ rfl ?_
  repeat (first | refine WC.seq ?_ | refine WC.reg ?_ | refine WL.pure rfl rfl rfl ?_ | refine WL.nil ?_ | refine WC.skip ?_ | refine WC.block ?_ | refine WC.condT rfl ?_ | refine WC.condF rfl ?_ | refine WL.off rfl rfl rfl ?_ | refine WL.off0 rfl rfl ?_ | refine WC.exit ?_ | refine blk_hit ?_ | refine blk_miss rfl ?_ | refine WC.ret ?_)
  refine WL.box rfl rfl rfl ?_
  intro b2 w1 hb2
  have hp1 := (Hp.start w).new hb2
  repeat (first | refine WC.seq ?_ | refine WC.reg ?_ | refine WL.pure rfl rfl rfl ?_ | refine WL.nil ?_ | refine WC.skip ?_ | refine WC.block ?_ | refine WC.condT rfl ?_ | refine WC.condF rfl ?_ | refine WL.off rfl rfl rfl ?_ | refine WL.off0 rfl rfl ?_ | refine WC.exit ?_ | refine blk_hit ?_ | refine blk_miss rfl ?_ | refine WC.ret ?_)
  refine WL.loadN (cs := [.int .i64 n, .slice ea es.length ce]) rfl rfl rfl rfl rfl rfl (fun j v hj => cell_of_obj (hp1.obj 0 rfl) (by rw [Nat.zero_add]; simpa [Value.cells] using hj)) ?_
  refine WL.call rfl rfl rfl rfl rfl ent24 (tame_any ea ce n es 10 (by omega) w1 (hs.hp hp1)) ?_
  rintro _ w2 ⟨N, fs, g, a, c, hN, hmk, rfl, hp2⟩
  have hp2 := (hp1.comb hp2).swap.tail
  obtain ⟨hg, hgn, _, _, hf100⟩ := mkG_gr hmk
  have hgn : g.length = N := by simpa using hgn
  have hn := hg.len
  have hf62 : fs.length ≤ 4611686018427387904 := by omega
  refine WL.var rfl rfl rfl (fun _ => rfl) rfl rfl (show ∀ u ∈ [Value.int .i64 (N : Nat), .slice a fs.length c], u.oneCell' = true from Cells.cons rfl (Cells.cons rfl Cells.nil)) ?_
  intro b7 w3 hb7
  have hp3 := hp2.new hb7
  have hp3 : Hp w w3 [.blk b7 (.cells #[.int .i64 (N : Nat), .slice a fs.length c] 24 (0, 0)), .row 50 2 (.slice a fs.length c) fs.length (prs fs)] := hp3
  have fin : ∀ w', Tb w' → (∀ w'', Hp w' w'' [] → Hp w w'' []) → Ret Tryd.prog 19 [] w' fun v w'' => v = .bool true ∧ Hp w w'' [] := fun w' hTw hh => (awake_any w' hTw).mono fun v w'' ⟨h1, h2⟩ => ⟨h1, hh w'' h2⟩
  repeat (first | refine WC.seq ?_ | refine WC.reg ?_ | refine WL.pure rfl rfl rfl ?_ | refine WL.nil ?_ | refine WC.skip ?_ | refine WC.block ?_ | refine WC.condT rfl ?_ | refine WC.condF rfl ?_ | refine WL.off rfl rfl rfl ?_ | refine WL.off0 rfl rfl ?_ | refine WC.exit ?_ | refine blk_hit ?_ | refine blk_miss rfl ?_ | refine WC.ret ?_)
  refine WL.callP rfl rfl rfl rfl rfl ent26 (mod_any k 9 (by omega) (by omega) _) ?_
  have hC := modN_lt (n := 9) (by omega) k
  generalize modN k 9 = C at *
  repeat (first | refine WC.seq ?_ | refine WC.reg ?_ | refine WL.pure rfl rfl rfl ?_ | refine WL.nil ?_ | refine WC.skip ?_ | refine WC.block ?_ | refine WC.condT rfl ?_ | refine WC.condF rfl ?_ | refine WL.off rfl rfl rfl ?_ | refine WL.off0 rfl rfl ?_ | refine WC.exit ?_ | refine blk_hit ?_ | refine blk_miss rfl ?_ | refine WC.ret ?_)
  refine WL.loadB rfl rfl rfl rfl rfl (hp3.obj 0 rfl) rfl ?_
  repeat (first | refine WC.seq ?_ | refine WC.reg ?_ | refine WL.pure rfl rfl rfl ?_ | refine WL.nil ?_ | refine WC.skip ?_ | refine WC.block ?_ | refine WC.condT rfl ?_ | refine WC.condF rfl ?_ | refine WL.off rfl rfl rfl ?_ | refine WL.off0 rfl rfl ?_ | refine WC.exit ?_ | refine blk_hit ?_ | refine blk_miss rfl ?_ | refine WC.ret ?_)
  refine WC.cond rfl (fun hz => ?_) (fun hz => ?_)
  · repeat (first | refine WC.seq ?_ | refine WC.reg ?_ | refine WL.pure rfl rfl rfl ?_ | refine WL.nil ?_ | refine WC.skip ?_ | refine WC.block ?_ | refine WC.condT rfl ?_ | refine WC.condF rfl ?_ | refine WL.off rfl rfl rfl ?_ | refine WL.off0 rfl rfl ?_ | refine WC.exit ?_ | refine blk_hit ?_ | refine blk_miss rfl ?_ | refine WC.ret ?_)
    refine WL.call rfl rfl rfl rfl rfl ent19 (fin w3 (hT.below hp3.below) (fun w'' h => (hp3.call h.below).nil')) ?_
    rintro _ w7 ⟨rfl, hp7⟩
    repeat (first | refine WC.seq ?_ | refine WC.reg ?_ | refine WL.pure rfl rfl rfl ?_ | refine WL.nil ?_ | refine WC.skip ?_ | refine WC.block ?_ | refine WC.condT rfl ?_ | refine WC.condF rfl ?_ | refine WL.off rfl rfl rfl ?_ | refine WL.off0 rfl rfl ?_ | refine WC.exit ?_ | refine blk_hit ?_ | refine blk_miss rfl ?_ | refine WC.ret ?_)
    exact Res.one rfl rfl rfl ⟨rfl, hp7⟩
  have hz : fs.length ≠ 0 := by simpa using hz
  have hf0 : 0 < fs.length := by omega
  repeat (first | refine WC.seq ?_ | refine WC.reg ?_ | refine WL.pure rfl rfl rfl ?_ | refine WL.nil ?_ | refine WC.skip ?_ | refine WC.block ?_ | refine WC.condT rfl ?_ | refine WC.condF rfl ?_ | refine WL.off rfl rfl rfl ?_ | refine WL.off0 rfl rfl ?_ | refine WC.exit ?_ | refine blk_hit ?_ | refine blk_miss rfl ?_ | refine WC.ret ?_)
  refine WL.loadB rfl rfl rfl rfl rfl (hp3.obj 0 rfl) rfl ?_
  repeat (first | refine WC.seq ?_ | refine WC.reg ?_ | refine WL.pure rfl rfl rfl ?_ | refine WL.nil ?_ | refine WC.skip ?_ | refine WC.block ?_ | refine WC.condT rfl ?_ | refine WC.condF rfl ?_ | refine WL.off rfl rfl rfl ?_ | refine WL.off0 rfl rfl ?_ | refine WC.exit ?_ | refine blk_hit ?_ | refine blk_miss rfl ?_ | refine WC.ret ?_)
  refine WL.callP rfl rfl rfl rfl rfl ent26 (mod_any at_ fs.length hf0 (by omega) _) ?_
  have hK := modN_lt hf0 at_
  generalize modN at_ fs.length = K at *
  obtain ⟨be, oe, rfl⟩ := Sl.some (Sl.of_row (hp3.at 1 rfl)) (prs_get hK).1
  have hp3 : Hp w w3 (FF b7 be oe N c fs) := hp3
  obtain ⟨p0, q0, hpq0, hp0, hq0, hne0⟩ := ends hmk hK
  have hmin : min ((p0 : Nat) : Int) ((q0 : Nat) : Int) = ((min p0 q0 : Nat) : Int) := by omega
  have hmax : max ((p0 : Nat) : Int) ((q0 : Nat) : Int) = ((max p0 q0 : Nat) : Int) := by omega
  have hAB : min p0 q0 < max p0 q0 := by omega
  have hBN : max p0 q0 < N := by omega
  have hend : fs[K] = (((min p0 q0 : Nat) : Int), ((max p0 q0 : Nat) : Int)) ∨ fs[K] = (((max p0 q0 : Nat) : Int), ((min p0 q0 : Nat) : Int)) := by
    rcases Nat.lt_or_ge p0 q0 with h | h
    · left; rw [hpq0, Nat.min_eq_left (by omega), Nat.max_eq_right (by omega)]
    · right; rw [hpq0, Nat.min_eq_right (by omega), Nat.max_eq_left (by omega)]
  generalize hA : min p0 q0 = A at *
  generalize hB : max p0 q0 = B at *
  repeat (first | refine WC.seq ?_ | refine WC.reg ?_ | refine WL.pure rfl rfl rfl ?_ | refine WL.nil ?_ | refine WC.skip ?_ | refine WC.block ?_ | refine WC.condT rfl ?_ | refine WC.condF rfl ?_ | refine WL.off rfl rfl rfl ?_ | refine WL.off0 rfl rfl ?_ | refine WC.exit ?_ | refine blk_hit ?_ | refine blk_miss rfl ?_ | refine WC.ret ?_)
  refine WC.mid Unit (fun _ => [(1, .int .i64 (C : Nat)), (7, .pointer (some ⟨b7, 0, none⟩)), (8, .int .i64 (K : Nat)), (9, .int .i64 (A : Nat)), (10, .int .i64 (B : Nat))])
    (fun _ w' => Hp w w' (FF b7 be oe N c fs)) ?_ ?_
  · refine WC.regQ (fun w' => Hp w w' ([] ++ FF b7 be oe N c fs)) mixed (by kernel_rfl) (fun w' hw' => hp3.keep hw') ?_
    repeat (first | refine WQ.pure rfl rfl rfl ?_ | refine WQ.off rfl rfl rfl ?_ | refine WQ.nil ?_)
    refine WQ.load rfl rfl rfl rfl rfl (fun w' h => (FF_cells h).2.2.2.1) ?_
    repeat (first | refine WQ.pure rfl rfl rfl ?_ | refine WQ.off rfl rfl rfl ?_ | refine WQ.nil ?_)
    refine WQ.ix rfl rfl rfl rfl rfl rfl hK ?_
    repeat (first | refine WQ.pure rfl rfl rfl ?_ | refine WQ.off rfl rfl rfl ?_ | refine WQ.nil ?_)
    refine WQ.load rfl rfl rfl rfl rfl (fun w' h => ((FF_cells h).2.2.2.2 K hK).1) ?_
    repeat (first | refine WQ.pure rfl rfl rfl ?_ | refine WQ.off rfl rfl rfl ?_ | refine WQ.nil ?_)
    refine WQ.load rfl rfl rfl rfl rfl (fun w' h => (FF_cells h).2.2.2.1) ?_
    repeat (first | refine WQ.pure rfl rfl rfl ?_ | refine WQ.off rfl rfl rfl ?_ | refine WQ.nil ?_)
    refine WQ.ix rfl rfl rfl rfl rfl rfl hK ?_
    repeat (first | refine WQ.pure rfl rfl rfl ?_ | refine WQ.off rfl rfl rfl ?_ | refine WQ.nil ?_)
    refine WQ.load rfl rfl rfl rfl rfl (fun w' h => ((FF_cells h).2.2.2.2 K hK).2) ?_
    repeat (first | refine WQ.pure rfl rfl rfl ?_ | refine WQ.off rfl rfl rfl ?_ | refine WQ.nil ?_)
    refine WQ.load rfl rfl rfl rfl rfl (fun w' h => (FF_cells h).2.2.2.1) ?_
    repeat (first | refine WQ.pure rfl rfl rfl ?_ | refine WQ.off rfl rfl rfl ?_ | refine WQ.nil ?_)
    refine WQ.ix rfl rfl rfl rfl rfl rfl hK ?_
    repeat (first | refine WQ.pure rfl rfl rfl ?_ | refine WQ.off rfl rfl rfl ?_ | refine WQ.nil ?_)
    refine WQ.load rfl rfl rfl rfl rfl (fun w' h => ((FF_cells h).2.2.2.2 K hK).1) ?_
    repeat (first | refine WQ.pure rfl rfl rfl ?_ | refine WQ.off rfl rfl rfl ?_ | refine WQ.nil ?_)
    refine WQ.load rfl rfl rfl rfl rfl (fun w' h => (FF_cells h).2.2.2.1) ?_
    repeat (first | refine WQ.pure rfl rfl rfl ?_ | refine WQ.off rfl rfl rfl ?_ | refine WQ.nil ?_)
    refine WQ.ix rfl rfl rfl rfl rfl rfl hK ?_
    repeat (first | refine WQ.pure rfl rfl rfl ?_ | refine WQ.off rfl rfl rfl ?_ | refine WQ.nil ?_)
    refine WQ.load rfl rfl rfl rfl rfl (fun w' h => ((FF_cells h).2.2.2.2 K hK).2) ?_
    repeat (first | refine WQ.pure rfl rfl rfl ?_ | refine WQ.off rfl rfl rfl ?_ | refine WQ.nil ?_)
    intro w' h
    have e1 : min (fs[K]).1 (fs[K]).2 = (A : Int) := by rw [hpq0]; exact hmin
    have e2 : max (fs[K]).1 (fs[K]).2 = (B : Int) := by rw [hpq0]; exact hmax
    exact ⟨(), ⟨rfl, rfl, rfl, congrArg (fun z => some (Value.int .i64 z)) e1, congrArg (fun z => some (Value.int .i64 z)) e2, rfl⟩, h⟩
  rintro ⟨⟩ e4 w4 hsub hp4
  refine WC.sub hsub ?_
  clear hsub
  have hp4 : Hp w w4 ([.row 50 2 (.slice none 0 0) 0 (prs []), .row 50 2 (.slice none 0 0) 0 (prs [])] ++ FF b7 be oe N c fs) := (hp4.nilrow 50 2).nilrow 50 2
  have en : IntKind.i64.wrap ((N : Int) - 1) = ((N - 1 : Nat) : Int) := by rw [wrap_i64_in (by omega) (by omega)]; omega
  repeat (first | refine WC.seq ?_ | refine WC.reg ?_ | refine WL.pure rfl rfl rfl ?_ | refine WL.nil ?_ | refine WC.skip ?_ | refine WC.block ?_ | refine WC.condT rfl ?_ | refine WC.condF rfl ?_ | refine WL.off rfl rfl rfl ?_ | refine WL.off0 rfl rfl ?_ | refine WC.exit ?_ | refine blk_hit ?_ | refine blk_miss rfl ?_ | refine WC.ret ?_)
  refine WC.loop (Nat × (List Ed × Option Addr × Nat) × (List Ed × Option Addr × Nat)) (fun (j, (lr, al, cl), (on, ao, co)) => [(1, .int .i64 (C : Nat)), (7, .pointer (some ⟨b7, 0, none⟩)), (8, .int .i64 (K : Nat)), (9, .int .i64 (A : Nat)), (10, .int .i64 (B : Nat)), (11, .slice al lr.length cl), (12, .slice ao on.length co), (13, .slice none 0 0), (14, .slice none 0 0), (15, .int .i64 (j : Nat))])
    (fun (j, (lr, al, cl), (on, ao, co)) w' => j ≤ fs.length ∧ lr = lessE (fs.take j) K ∧ on = (lr.map (mgE A B N)).foldl (oneStep ((N - 1 : Nat) : Int)) [] ∧ (on.length ≤ j ∧ on.length ≤ co) ∧ Hp w w' ([.row 50 2 (.slice ao on.length co) on.length (prs on), .row 50 2 (.slice al lr.length cl) lr.length (prs lr)] ++ FF b7 be oe N c fs))
    (fun (j, _) => fs.length - j) (0, ([], none, 0), ([], none, 0)) ⟨rfl, rfl, rfl, rfl, rfl, rfl, rfl, rfl, rfl, rfl, rfl⟩ ⟨Nat.zero_le _, (lessE_zero fs K).symm, rfl, ⟨Nat.le_refl _, Nat.le_refl _⟩, hp4⟩ ?_
  rintro ⟨j, ⟨lr, al, cl⟩, ⟨on, ao, co⟩⟩ w5 ⟨hj, hlr, hon, ⟨honl, honc⟩, hp5⟩
  obtain ⟨hB5, sF5, cN5, cE5, cX5⟩ := FF_cells hp5
  have hrl : lr.length ≤ j := by rw [hlr]; exact lessE_len fs K j
  repeat (first | refine WC.seq ?_ | refine WC.reg ?_ | refine WL.pure rfl rfl rfl ?_ | refine WL.nil ?_ | refine WC.skip ?_ | refine WC.block ?_ | refine WC.condT rfl ?_ | refine WC.condF rfl ?_ | refine WL.off rfl rfl rfl ?_ | refine WL.off0 rfl rfl ?_ | refine WC.exit ?_ | refine blk_hit ?_ | refine blk_miss rfl ?_ | refine WC.ret ?_)
  refine WL.loadB rfl rfl rfl rfl rfl hB5 rfl ?_
  repeat (first | refine WC.seq ?_ | refine WC.reg ?_ | refine WL.pure rfl rfl rfl ?_ | refine WL.nil ?_ | refine WC.skip ?_ | refine WC.block ?_ | refine WC.condT rfl ?_ | refine WC.condF rfl ?_ | refine WL.off rfl rfl rfl ?_ | refine WL.off0 rfl rfl ?_ | refine WC.exit ?_ | refine blk_hit ?_ | refine blk_miss rfl ?_ | refine WC.ret ?_)
  refine WC.cond rfl (fun hc => ?_) (fun hc => ?_)
  · have hj : j < fs.length := by have := of_decide_eq_true hc; omega
    have step : IntKind.i64.wrap ((j : Int) + 1) = ((j + 1 : Nat) : Int) := by rw [wrap_i64_in (by omega) (by omega)]; omega
    have htk := lessE_take (K := K) hj
    repeat (first | refine WC.seq ?_ | refine WC.reg ?_ | refine WL.pure rfl rfl rfl ?_ | refine WL.nil ?_ | refine WC.skip ?_ | refine WC.block ?_ | refine WC.condT rfl ?_ | refine WC.condF rfl ?_ | refine WL.off rfl rfl rfl ?_ | refine WL.off0 rfl rfl ?_ | refine WC.exit ?_ | refine blk_hit ?_ | refine blk_miss rfl ?_ | refine WC.ret ?_)
    refine WC.cond rfl (fun hq => ?_) (fun hq => ?_)
    · have hq : j ≠ K := by
        have : (j : Int) ≠ (K : Int) := by simpa using hq
        omega
      rw [if_neg hq, ← hlr] at htk
      repeat (first | refine WC.seq ?_ | refine WC.reg ?_ | refine WL.pure rfl rfl rfl ?_ | refine WL.nil ?_ | refine WC.skip ?_ | refine WC.block ?_ | refine WC.condT rfl ?_ | refine WC.condF rfl ?_ | refine WL.off rfl rfl rfl ?_ | refine WL.off0 rfl rfl ?_ | refine WC.exit ?_ | refine blk_hit ?_ | refine blk_miss rfl ?_ | refine WC.ret ?_)
      refine WL.loadB rfl rfl rfl rfl rfl hB5 rfl ?_
      repeat (first | refine WC.seq ?_ | refine WC.reg ?_ | refine WL.pure rfl rfl rfl ?_ | refine WL.nil ?_ | refine WC.skip ?_ | refine WC.block ?_ | refine WC.condT rfl ?_ | refine WC.condF rfl ?_ | refine WL.off rfl rfl rfl ?_ | refine WL.off0 rfl rfl ?_ | refine WC.exit ?_ | refine blk_hit ?_ | refine blk_miss rfl ?_ | refine WC.ret ?_)
      refine WL.ixloadN (cs' := pr fs[j]) rfl (fun _ => rfl) rfl rfl rfl rfl rfl rfl rfl rfl hj rfl rfl sF5 rfl (prs_at fs j hj) ?_
      intro pa
      refine WL.buildS (cs := pr fs[j]) rfl rfl rfl rfl rfl rfl rfl rfl rfl ?_
      intro bs w6 hbs
      have hp6 := hp5.new hbs
      refine WL.append 2 hp6 rfl rfl rfl rfl rfl (by decide) rfl rfl rfl (news := pr fs[j]) (Sl.of_obj (hp6.obj 0 rfl) (fun q u hq => by simpa using hq)) rfl (Cells.cons rfl (Cells.cons rfl Cells.nil)) (by unfold maxLen; omega) (by show (lr.length + 1) * 16 ≤ _; omega) ?_
      intro al' cl' w7 hp7 hg7
      have hp7 := hp7.tail
      have hl8 : lr.length + 1 = (lr ++ [fs[j]]).length := by simp
      have hx8 : prs lr ++ pr fs[j] = prs (lr ++ [fs[j]]) := by simp [prs]
      rw [hl8, hx8] at hp7
      rw [hl8]
      rw [← htk] at hp7 ⊢
      have hon2 : ((lessE (fs.take (j + 1)) K).map (mgE A B N)).foldl (oneStep ((N - 1 : Nat) : Int)) [] = oneStep ((N - 1 : Nat) : Int) on (mgE A B N fs[j]) := by
        rw [htk, List.map_append, List.foldl_append, ← hon]; rfl
      have hrl2 := lessE_len fs K (j + 1)
      generalize hlr2 : lessE (fs.take (j + 1)) K = lr2 at *
      have hp7 : Hp w w7 ([.row 50 2 (.slice ao on.length co) on.length (prs on), .row 50 2 (.slice al' lr2.length cl') lr2.length (prs lr2)] ++ FF b7 be oe N c fs) := hp7
      repeat (first | refine WC.seq ?_ | refine WC.reg ?_ | refine WL.pure rfl rfl rfl ?_ | refine WL.nil ?_ | refine WC.skip ?_ | refine WC.block ?_ | refine WC.condT rfl ?_ | refine WC.condF rfl ?_ | refine WL.off rfl rfl rfl ?_ | refine WL.off0 rfl rfl ?_ | refine WC.exit ?_ | refine blk_hit ?_ | refine blk_miss rfl ?_ | refine WC.ret ?_)
      refine WC.mid Nat (fun b16 => [(1, .int .i64 (C : Nat)), (7, .pointer (some ⟨b7, 0, none⟩)), (8, .int .i64 (K : Nat)), (9, .int .i64 (A : Nat)), (10, .int .i64 (B : Nat)), (11, .slice al' lr2.length cl'), (12, .slice ao on.length co), (13, .slice none 0 0), (14, .slice none 0 0), (15, .int .i64 (j : Nat)), (16, .pointer (some ⟨b16, 0, none⟩))])
        (fun b16 w' => Hp w w' ([.blk b16 (.cells (pr (mgE A B N fs[j])).toArray 50 (0, 0)), .row 50 2 (.slice ao on.length co) on.length (prs on), .row 50 2 (.slice al' lr2.length cl') lr2.length (prs lr2)] ++ FF b7 be oe N c fs)) ?_ ?_
      · refine WC.regH (fun w' => Hp w w' ([.row 50 2 (.slice ao on.length co) on.length (prs on), .row 50 2 (.slice al' lr2.length cl') lr2.length (prs lr2)] ++ FF b7 be oe N c fs)) mixed (by kernel_rfl) (fun w8 hw8 hh8 => ?_)
        have hp8 := hp7.keep hw8
        refine WH.pure 0 (by kernel_rfl) rfl (by kernel_rfl) rfl rfl rfl hp8 ?_
        refine WH.load 1 (by kernel_rfl) rfl (by kernel_rfl) rfl rfl rfl rfl rfl (fun w' h => (FF_cells h).2.2.2.1) hp8 ?_
        refine WH.pure 2 (by kernel_rfl) rfl (by kernel_rfl) rfl rfl rfl hp8 ?_
        refine WH.ix 3 (by kernel_rfl) rfl (by kernel_rfl) rfl rfl rfl rfl rfl rfl hj hp8 ?_
        refine WH.pure 4 (by kernel_rfl) rfl (by kernel_rfl) rfl rfl rfl hp8 ?_
        refine WH.load 5 (by kernel_rfl) rfl (by kernel_rfl) rfl rfl rfl rfl rfl (fun w' h => ((FF_cells h).2.2.2.2 j hj).1) hp8 ?_
        refine WH.pure 6 (by kernel_rfl) rfl (by kernel_rfl) rfl rfl rfl hp8 ?_
        refine WH.pure 7 (by kernel_rfl) rfl (by kernel_rfl) rfl rfl rfl hp8 ?_
        refine WH.pure 8 (by kernel_rfl) rfl (by kernel_rfl) rfl rfl rfl hp8 ?_
        refine WH.load 9 (by kernel_rfl) rfl (by kernel_rfl) rfl rfl rfl rfl rfl (fun w' h => (FF_cells h).2.2.1) hp8 ?_
        refine WH.pure 11 (by kernel_rfl) rfl (by kernel_rfl) rfl rfl rfl hp8 ?_
        refine WH.load 12 (by kernel_rfl) rfl (by kernel_rfl) rfl rfl rfl rfl rfl (fun w' h => (FF_cells h).2.2.2.1) hp8 ?_
        refine WH.pure 13 (by kernel_rfl) rfl (by kernel_rfl) rfl rfl rfl hp8 ?_
        refine WH.ix 14 (by kernel_rfl) rfl (by kernel_rfl) rfl rfl rfl rfl rfl rfl hj hp8 ?_
        refine WH.pure 15 (by kernel_rfl) rfl (by kernel_rfl) rfl rfl rfl hp8 ?_
        refine WH.load 16 (by kernel_rfl) rfl (by kernel_rfl) rfl rfl rfl rfl rfl (fun w' h => ((FF_cells h).2.2.2.2 j hj).2) hp8 ?_
        refine WH.pure 17 (by kernel_rfl) rfl (by kernel_rfl) rfl rfl rfl hp8 ?_
        refine WH.pure 18 (by kernel_rfl) rfl (by kernel_rfl) rfl rfl rfl hp8 ?_
        refine WH.pure 19 (by kernel_rfl) rfl (by kernel_rfl) rfl rfl rfl hp8 ?_
        refine WH.load 20 (by kernel_rfl) rfl (by kernel_rfl) rfl rfl rfl rfl rfl (fun w' h => (FF_cells h).2.2.1) hp8 ?_
        refine WH.two 10 23 rfl rfl (by kernel_rfl) ?_ ?_
        · skip
          refine WL.callP rfl rfl rfl rfl rfl ent27 (merged_any _ _ _ _ (by omega) (by omega) _) (WL.nil ⟨hp8, ?_⟩)
          refine WH.two 21 23 rfl rfl (by kernel_rfl) ?_ ?_
          · skip
            refine WL.callP rfl rfl rfl rfl rfl ent27 (merged_any _ _ _ _ (by omega) (by omega) _) (WL.nil ⟨hp8, ?_⟩)
            refine WH.two 22 23 rfl rfl (by kernel_rfl) ?_ ?_
            · refine WL.buildA (cs := pr (mgE A B N fs[j])) rfl rfl rfl rfl rfl rfl (WL.nil ⟨hp8, ?_⟩)
              refine WH.one 23 rfl (by kernel_rfl) ?_
              refine WL.alloc rfl rfl rfl ?_
              intro b16 w9 hb16
              have hp9 := hp8.new hb16
              refine WL.nil ⟨hp9.tail, ?_⟩
              refine WH.one 24 rfl (by kernel_rfl) ?_
              refine WL.storeN rfl rfl rfl rfl rfl (pr_cells _) (hp9.obj 0 rfl) (Nat.le_refl 2) rfl (fun wA hwA => ?_)
              have hpA := hp9.set 0 rfl rfl hwA
              refine WL.nil ⟨hpA.tail, WH.done (by kernel_rfl) ?_⟩
              exact ⟨b16, ⟨rfl, rfl, rfl, rfl, rfl, rfl, rfl, rfl, rfl, rfl, rfl, rfl⟩, hpA⟩
            · skip
              refine WL.alloc rfl rfl rfl ?_
              intro b16 w9 hb16
              have hp9 := hp8.new hb16
              refine WL.nil ⟨hp9.tail, ?_⟩
              refine WH.one 22 rfl (by kernel_rfl) (WL.buildA (cs := pr (mgE A B N fs[j])) rfl rfl rfl rfl rfl rfl (WL.nil ⟨hp9.tail, ?_⟩))
              refine WH.one 24 rfl (by kernel_rfl) ?_
              refine WL.storeN rfl rfl rfl rfl rfl (pr_cells _) (hp9.obj 0 rfl) (Nat.le_refl 2) rfl (fun wA hwA => ?_)
              have hpA := hp9.set 0 rfl rfl hwA
              refine WL.nil ⟨hpA.tail, WH.done (by kernel_rfl) ?_⟩
              exact ⟨b16, ⟨rfl, rfl, rfl, rfl, rfl, rfl, rfl, rfl, rfl, rfl, rfl, rfl⟩, hpA⟩
          · skip
            refine WL.alloc rfl rfl rfl ?_
            intro b16 w9 hb16
            have hp9 := hp8.new hb16
            refine WL.nil ⟨hp9.tail, ?_⟩
            refine WH.one 21 rfl (by kernel_rfl) ?_
            refine WL.callP rfl rfl rfl rfl rfl ent27 (merged_any _ _ _ _ (by omega) (by omega) _) (WL.nil ⟨hp9.tail, ?_⟩)
            refine WH.one 22 rfl (by kernel_rfl) (WL.buildA (cs := pr (mgE A B N fs[j])) rfl rfl rfl rfl rfl rfl (WL.nil ⟨hp9.tail, ?_⟩))
            refine WH.one 24 rfl (by kernel_rfl) ?_
            refine WL.storeN rfl rfl rfl rfl rfl (pr_cells _) (hp9.obj 0 rfl) (Nat.le_refl 2) rfl (fun wA hwA => ?_)
            have hpA := hp9.set 0 rfl rfl hwA
            refine WL.nil ⟨hpA.tail, WH.done (by kernel_rfl) ?_⟩
            exact ⟨b16, ⟨rfl, rfl, rfl, rfl, rfl, rfl, rfl, rfl, rfl, rfl, rfl, rfl⟩, hpA⟩
        · skip
          refine WL.alloc rfl rfl rfl ?_
          intro b16 w9 hb16
          have hp9 := hp8.new hb16
          refine WL.nil ⟨hp9.tail, ?_⟩
          refine WH.one 10 rfl (by kernel_rfl) ?_
          refine WL.callP rfl rfl rfl rfl rfl ent27 (merged_any _ _ _ _ (by omega) (by omega) _) (WL.nil ⟨hp9.tail, ?_⟩)
          refine WH.one 21 rfl (by kernel_rfl) ?_
          refine WL.callP rfl rfl rfl rfl rfl ent27 (merged_any _ _ _ _ (by omega) (by omega) _) (WL.nil ⟨hp9.tail, ?_⟩)
          refine WH.one 22 rfl (by kernel_rfl) (WL.buildA (cs := pr (mgE A B N fs[j])) rfl rfl rfl rfl rfl rfl (WL.nil ⟨hp9.tail, ?_⟩))
          refine WH.one 24 rfl (by kernel_rfl) ?_
          refine WL.storeN rfl rfl rfl rfl rfl (pr_cells _) (hp9.obj 0 rfl) (Nat.le_refl 2) rfl (fun wA hwA => ?_)
          have hpA := hp9.set 0 rfl rfl hwA
          refine WL.nil ⟨hpA.tail, WH.done (by kernel_rfl) ?_⟩
          exact ⟨b16, ⟨rfl, rfl, rfl, rfl, rfl, rfl, rfl, rfl, rfl, rfl, rfl, rfl⟩, hpA⟩
      rintro b16 e9 w9 hsub hp9
      refine WC.sub hsub ?_
      clear hsub
      generalize hee : mgE A B N fs[j] = e1 at *
      repeat (first | refine WC.seq ?_ | refine WC.reg ?_ | refine WL.pure rfl rfl rfl ?_ | refine WL.nil ?_ | refine WC.skip ?_ | refine WC.block ?_ | refine WC.condT rfl ?_ | refine WC.condF rfl ?_ | refine WL.off rfl rfl rfl ?_ | refine WL.off0 rfl rfl ?_ | refine WC.exit ?_ | refine blk_hit ?_ | refine blk_miss rfl ?_ | refine WC.ret ?_)
      refine WC.mid (Option Addr × Nat) (fun (a17, c17) => [(1, .int .i64 (C : Nat)), (7, .pointer (some ⟨b7, 0, none⟩)), (8, .int .i64 (K : Nat)), (9, .int .i64 (A : Nat)), (10, .int .i64 (B : Nat)), (11, .slice al' lr2.length cl'), (12, .slice ao on.length co), (13, .slice none 0 0), (14, .slice none 0 0), (15, .int .i64 (j : Nat)), (17, .slice a17 (on ++ [e1]).length c17)])
        (fun (a17, c17) w' => Hp w w' ([.row 50 2 (.slice a17 (on ++ [e1]).length c17) (on ++ [e1]).length (prs (on ++ [e1])), .row 50 2 (.slice ao on.length co) on.length (prs on), .row 50 2 (.slice al' lr2.length cl') lr2.length (prs lr2)] ++ FF b7 be oe N c fs)) ?_ ?_
      · refine WC.regH (fun w' => Hp w w' ([.blk b16 (.cells (pr e1).toArray 50 (0, 0)), .row 50 2 (.slice ao on.length co) on.length (prs on), .row 50 2 (.slice al' lr2.length cl') lr2.length (prs lr2)] ++ FF b7 be oe N c fs)) mixed (by kernel_rfl) (fun w10 hw10 hh10 => ?_)
        have hp10 := hp9.keep hw10
        have hl17 : on.length + 1 = (on ++ [e1]).length := by simp
        have hx17 : prs on ++ pr e1 = prs (on ++ [e1]) := by simp [prs]
        have h101 : on.take 101 = on := List.take_of_length_le (by omega)
        refine WH.pure 0 (by kernel_rfl) rfl (by kernel_rfl) rfl rfl rfl hp10 ?_
        refine WH.take (v := .agg (pr e1).toArray) 2 (by kernel_rfl) rfl (by kernel_rfl) rfl rfl (fun w' h => run_loadN (cs := pr e1) rfl rfl rfl rfl (fun j v hj => by rw [Addr.add_lit]; exact cell_of_obj (h.obj 0 rfl) (by rw [Nat.zero_add]; simpa using hj))) hp10 ?_
        refine WH.two 1 3 rfl rfl (by kernel_rfl) ?_ ?_
        · refine WL.call rfl rfl rfl rfl rfl ent13 (lines_any ao co on w10 (Sl.of_row (hp10.at 1 rfl)) honc) ?_
          rintro _ w11 ⟨a17, c17, hp11, rfl⟩
          rw [h101] at hp11 ⊢
          have hp11 : Hp w w11 (.row 50 2 (.slice a17 on.length c17) on.length (prs on) :: ([.blk b16 (.cells (pr e1).toArray 50 (0, 0)), .row 50 2 (.slice ao on.length co) on.length (prs on), .row 50 2 (.slice al' lr2.length cl') lr2.length (prs lr2)] ++ FF b7 be oe N c fs)) := hp10.comb hp11
          refine WL.nil ⟨hp11.tail, ?_⟩
          refine WH.one 3 rfl (by kernel_rfl) ?_
          refine WL.buildS (cs := pr e1) rfl rfl rfl rfl rfl rfl rfl rfl rfl ?_
          intro bs2 w12 hbs2
          have hp12 := hp11.new hbs2
          refine WL.nil ⟨hp12.tail.tail, ?_⟩
          refine WH.one 4 rfl (by kernel_rfl) ?_
          refine WL.append 1 hp12 rfl rfl rfl rfl rfl (by decide) rfl rfl rfl (news := pr e1) (Sl.of_obj (hp12.obj 0 rfl) (fun q u hq => by simpa using hq)) rfl (Cells.cons rfl (Cells.cons rfl Cells.nil)) (by unfold maxLen; omega) (by show (on.length + 1) * 16 ≤ _; omega) ?_
          intro a18 c18 w13 hp13 hg13
          rw [hl17, hx17] at hp13
          rw [hl17]
          have hp13 := hp13.tail
          refine WL.nil ⟨hp13.tail, ?_⟩
          refine WH.one 5 rfl (by kernel_rfl) (WL.pure rfl rfl rfl (WL.nil ⟨hp13.tail, WH.done (by kernel_rfl) ?_⟩))
          exact ⟨(a18, c18), ⟨rfl, rfl, rfl, rfl, rfl, rfl, rfl, rfl, rfl, rfl, rfl, rfl⟩, hp13.drop1⟩
        · refine WL.buildS (cs := pr e1) rfl rfl rfl rfl rfl rfl rfl rfl rfl ?_
          intro bs2 w11 hbs2
          have hp11 := hp10.new hbs2
          refine WL.nil ⟨hp11.tail, ?_⟩
          refine WH.one 1 rfl (by kernel_rfl) ?_
          refine WL.call rfl rfl rfl rfl rfl ent13 (lines_any ao co on w11 (Sl.of_row (hp11.at 2 rfl)) honc) ?_
          rintro _ w12 ⟨a17, c17, hp12, rfl⟩
          rw [h101] at hp12 ⊢
          have hp12 : Hp w w12 (.row 50 2 (.slice a17 on.length c17) on.length (prs on) :: .blk bs2 (.cells (pr e1).toArray 50 (0, 0)) :: ([.blk b16 (.cells (pr e1).toArray 50 (0, 0)), .row 50 2 (.slice ao on.length co) on.length (prs on), .row 50 2 (.slice al' lr2.length cl') lr2.length (prs lr2)] ++ FF b7 be oe N c fs)) := hp11.comb hp12
          refine WL.nil ⟨hp12.tail.tail, ?_⟩
          refine WH.one 4 rfl (by kernel_rfl) ?_
          refine WL.append 0 hp12 rfl rfl rfl rfl rfl (by decide) rfl rfl rfl (news := pr e1) (Sl.of_obj (hp12.obj 1 rfl) (fun q u hq => by simpa using hq)) rfl (Cells.cons rfl (Cells.cons rfl Cells.nil)) (by unfold maxLen; omega) (by show (on.length + 1) * 16 ≤ _; omega) ?_
          intro a18 c18 w13 hp13 hg13
          rw [hl17, hx17] at hp13
          rw [hl17]
          refine WL.nil ⟨hp13.tail.tail, ?_⟩
          refine WH.one 5 rfl (by kernel_rfl) (WL.pure rfl rfl rfl (WL.nil ⟨hp13.tail.tail, WH.done (by kernel_rfl) ?_⟩))
          exact ⟨(a18, c18), ⟨rfl, rfl, rfl, rfl, rfl, rfl, rfl, rfl, rfl, rfl, rfl, rfl⟩, hp13.drop1.drop1⟩
      rintro ⟨a17, c17⟩ e10 w10 hsub hp10
      refine WC.sub hsub ?_
      clear hsub
      have hl17 : (on ++ [e1]).length = on.length + 1 := by simp
      have hc17 : (on ++ [e1]).length ≤ c17 := row_cap (hp10.at 0 rfl)
      obtain ⟨hB10, _, _, _, _⟩ := FF_cells hp10
      repeat (first | refine WC.seq ?_ | refine WC.reg ?_ | refine WL.pure rfl rfl rfl ?_ | refine WL.nil ?_ | refine WC.skip ?_ | refine WC.block ?_ | refine WC.condT rfl ?_ | refine WC.condF rfl ?_ | refine WL.off rfl rfl rfl ?_ | refine WL.off0 rfl rfl ?_ | refine WC.exit ?_ | refine blk_hit ?_ | refine blk_miss rfl ?_ | refine WC.ret ?_)
      refine WL.loadB rfl rfl rfl rfl rfl hB10 rfl ?_
      repeat (first | refine WC.seq ?_ | refine WC.reg ?_ | refine WL.pure rfl rfl rfl ?_ | refine WL.nil ?_ | refine WC.skip ?_ | refine WC.block ?_ | refine WC.condT rfl ?_ | refine WC.condF rfl ?_ | refine WL.off rfl rfl rfl ?_ | refine WL.off0 rfl rfl ?_ | refine WC.exit ?_ | refine blk_hit ?_ | refine blk_miss rfl ?_ | refine WC.ret ?_)
      refine WL.known (d := 129) (congrArg (fun z => some (Value.int .i64 z)) en) ?_
      repeat (first | refine WC.seq ?_ | refine WC.reg ?_ | refine WL.pure rfl rfl rfl ?_ | refine WL.nil ?_ | refine WC.skip ?_ | refine WC.block ?_ | refine WC.condT rfl ?_ | refine WC.condF rfl ?_ | refine WL.off rfl rfl rfl ?_ | refine WL.off0 rfl rfl ?_ | refine WC.exit ?_ | refine blk_hit ?_ | refine blk_miss rfl ?_ | refine WC.ret ?_)
      refine WL.call rfl rfl rfl rfl rfl ent18 (Graph_any a17 c17 _ (on ++ [e1]) w10 (Sl.of_row (hp10.at 0 rfl)) (by omega)) ?_
      rintro _ w11 ⟨hp11, rfl⟩
      have hp11 := hp10.call hp11.below
      rw [oneStep] at hon2
      refine WL.nil ?_
      refine WC.cond rfl (fun hq => ?_) (fun hq => ?_)
      · rw [if_pos hq] at hon2
        repeat (first | refine WC.seq ?_ | refine WC.reg ?_ | refine WL.pure rfl rfl rfl ?_ | refine WL.nil ?_ | refine WC.skip ?_ | refine WC.block ?_ | refine WC.condT rfl ?_ | refine WC.condF rfl ?_ | refine WL.off rfl rfl rfl ?_ | refine WL.off0 rfl rfl ?_ | refine WC.exit ?_ | refine blk_hit ?_ | refine blk_miss rfl ?_ | refine WC.ret ?_)
        exact ⟨(j + 1, (lr2, al', cl'), (on ++ [e1], a17, c17)), by show fs.length - (j + 1) < fs.length - j; omega, ⟨rfl, rfl, rfl, rfl, rfl, rfl, rfl, rfl, rfl, congrArg (fun z => some (Value.int .i64 z)) step, rfl⟩, hj, hlr2.symm, hon2.symm, ⟨by omega, hc17⟩, hp11.drop1⟩
      · rw [if_neg (by rw [hq]; decide)] at hon2
        repeat (first | refine WC.seq ?_ | refine WC.reg ?_ | refine WL.pure rfl rfl rfl ?_ | refine WL.nil ?_ | refine WC.skip ?_ | refine WC.block ?_ | refine WC.condT rfl ?_ | refine WC.condF rfl ?_ | refine WL.off rfl rfl rfl ?_ | refine WL.off0 rfl rfl ?_ | refine WC.exit ?_ | refine blk_hit ?_ | refine blk_miss rfl ?_ | refine WC.ret ?_)
        exact ⟨(j + 1, (lr2, al', cl'), (on, ao, co)), by show fs.length - (j + 1) < fs.length - j; omega, ⟨rfl, rfl, rfl, rfl, rfl, rfl, rfl, rfl, rfl, congrArg (fun z => some (Value.int .i64 z)) step, rfl⟩, hj, hlr2.symm, hon2.symm, ⟨by omega, honc⟩, hp11.tail⟩
    · have hq : j = K := by
        have : (j : Int) = (K : Int) := by simpa using hq
        omega
      rw [if_pos hq, List.append_nil, ← hlr] at htk
      repeat (first | refine WC.seq ?_ | refine WC.reg ?_ | refine WL.pure rfl rfl rfl ?_ | refine WL.nil ?_ | refine WC.skip ?_ | refine WC.block ?_ | refine WC.condT rfl ?_ | refine WC.condF rfl ?_ | refine WL.off rfl rfl rfl ?_ | refine WL.off0 rfl rfl ?_ | refine WC.exit ?_ | refine blk_hit ?_ | refine blk_miss rfl ?_ | refine WC.ret ?_)
      exact ⟨(j + 1, (lr, al, cl), (on, ao, co)), by show fs.length - (j + 1) < fs.length - j; omega, ⟨rfl, rfl, rfl, rfl, rfl, rfl, rfl, rfl, rfl, congrArg (fun z => some (Value.int .i64 z)) step, rfl⟩, hj, htk.symm, hon, ⟨by omega, honc⟩, hp5⟩
  have hj : j = fs.length := by have := of_decide_eq_false hc; omega
  subst hj
  rw [lessE_all] at hlr
  obtain ⟨g', h, hmk1, hmk2, hCon⟩ := con_of hmk hK hAB hend
  rw [← hlr] at hmk1 hmk2
  rw [← hon] at hmk2
  have hA20 : A < 20 := by omega
  clear hc hj honl
  repeat (first | refine WC.seq ?_ | refine WC.reg ?_ | refine WL.pure rfl rfl rfl ?_ | refine WL.nil ?_ | refine WC.skip ?_ | refine WC.block ?_ | refine WC.condT rfl ?_ | refine WC.condF rfl ?_ | refine WL.off rfl rfl rfl ?_ | refine WL.off0 rfl rfl ?_ | refine WC.exit ?_ | refine blk_hit ?_ | refine blk_miss rfl ?_ | refine WC.ret ?_)
  refine WL.alloc rfl rfl rfl ?_
  intro b18 w6 hb18
  have hp6 : Hp w w6 ([.blk b18 (.cells (gv fun _ => false).toArray 52 (0, 0)), .row 50 2 (.slice ao on.length co) on.length (prs on), .row 50 2 (.slice al lr.length cl) lr.length (prs lr)] ++ FF b7 be oe N c fs) := hp5.new hb18
  repeat (first | refine WC.seq ?_ | refine WC.reg ?_ | refine WL.pure rfl rfl rfl ?_ | refine WL.nil ?_ | refine WC.skip ?_ | refine WC.block ?_ | refine WC.condT rfl ?_ | refine WC.condF rfl ?_ | refine WL.off rfl rfl rfl ?_ | refine WL.off0 rfl rfl ?_ | refine WC.exit ?_ | refine blk_hit ?_ | refine blk_miss rfl ?_ | refine WC.ret ?_)
  refine WL.ixA1 rfl rfl rfl rfl rfl rfl rfl hA20 ?_
  refine WL.store rfl rfl rfl rfl rfl rfl (hp6.obj 0 rfl) (by simp [gv]; omega) (fun w7 hw7 => ?_)
  rw [Nat.zero_add, gv_set] at hw7
  have hp7 : Hp w w7 ([.blk b18 (.cells (gv (gon A (fs.take 0))).toArray 52 (0, 0)), .row 50 2 (.slice ao on.length co) on.length (prs on), .row 50 2 (.slice al lr.length cl) lr.length (prs lr)] ++ FF b7 be oe N c fs) := hp6.set 0 rfl rfl hw7
  repeat (first | refine WC.seq ?_ | refine WC.reg ?_ | refine WL.pure rfl rfl rfl ?_ | refine WL.nil ?_ | refine WC.skip ?_ | refine WC.block ?_ | refine WC.condT rfl ?_ | refine WC.condF rfl ?_ | refine WL.off rfl rfl rfl ?_ | refine WL.off0 rfl rfl ?_ | refine WC.exit ?_ | refine blk_hit ?_ | refine blk_miss rfl ?_ | refine WC.ret ?_)
  refine WC.loop Nat (fun j => [(1, .int .i64 (C : Nat)), (7, .pointer (some ⟨b7, 0, none⟩)), (9, .int .i64 (A : Nat)), (11, .slice al lr.length cl), (12, .slice ao on.length co), (13, .slice none 0 0), (14, .slice none 0 0), (18, .pointer (some ⟨b18, 0, none⟩)), (19, .int .i64 (j : Nat))])
    (fun j w' => j ≤ fs.length ∧ Hp w w' ([.blk b18 (.cells (gv (gon A (fs.take j))).toArray 52 (0, 0)), .row 50 2 (.slice ao on.length co) on.length (prs on), .row 50 2 (.slice al lr.length cl) lr.length (prs lr)] ++ FF b7 be oe N c fs))
    (fun j => fs.length - j) 0 ⟨rfl, rfl, rfl, rfl, rfl, rfl, rfl, rfl, rfl, rfl⟩ ⟨Nat.zero_le _, hp7⟩ ?_
  rintro j w8 ⟨hj, hp8⟩
  obtain ⟨hB8, sF8, cN8, cE8, cX8⟩ := FF_cells hp8
  repeat (first | refine WC.seq ?_ | refine WC.reg ?_ | refine WL.pure rfl rfl rfl ?_ | refine WL.nil ?_ | refine WC.skip ?_ | refine WC.block ?_ | refine WC.condT rfl ?_ | refine WC.condF rfl ?_ | refine WL.off rfl rfl rfl ?_ | refine WL.off0 rfl rfl ?_ | refine WC.exit ?_ | refine blk_hit ?_ | refine blk_miss rfl ?_ | refine WC.ret ?_)
  refine WL.loadB rfl rfl rfl rfl rfl hB8 rfl ?_
  repeat (first | refine WC.seq ?_ | refine WC.reg ?_ | refine WL.pure rfl rfl rfl ?_ | refine WL.nil ?_ | refine WC.skip ?_ | refine WC.block ?_ | refine WC.condT rfl ?_ | refine WC.condF rfl ?_ | refine WL.off rfl rfl rfl ?_ | refine WL.off0 rfl rfl ?_ | refine WC.exit ?_ | refine blk_hit ?_ | refine blk_miss rfl ?_ | refine WC.ret ?_)
  refine WC.cond rfl (fun hc => ?_) (fun hc => ?_)
  · have hj : j < fs.length := by have := of_decide_eq_true hc; omega
    have step : IntKind.i64.wrap ((j : Int) + 1) = ((j + 1 : Nat) : Int) := by rw [wrap_i64_in (by omega) (by omega)]; omega
    have htk : fs.take (j + 1) = fs.take j ++ [fs[j]] := List.take_succ_eq_append_getElem hj
    obtain ⟨p, q, hpq, hp, hq, hne⟩ := ends hmk hj
    have cP := (cX8 j hj).1
    have cQ := (cX8 j hj).2
    rw [hpq] at cP cQ htk
    repeat (first | refine WC.seq ?_ | refine WC.skip ?_ | refine WC.block ?_)
    refine WC.mid Bool (fun r => [(1, .int .i64 (C : Nat)), (7, .pointer (some ⟨b7, 0, none⟩)), (9, .int .i64 (A : Nat)), (11, .slice al lr.length cl), (12, .slice ao on.length co), (13, .slice none 0 0), (14, .slice none 0 0), (18, .pointer (some ⟨b18, 0, none⟩)), (19, .int .i64 (j : Nat)), (159, .bool r)])
      (fun r w' => w' = w8 ∧ r = ((p : Int) == (A : Int) || (q : Int) == (A : Int))) ?_ ?_
    · repeat (first | refine WC.seq ?_ | refine WC.reg ?_ | refine WL.pure rfl rfl rfl ?_ | refine WL.nil ?_ | refine WC.skip ?_ | refine WC.block ?_ | refine WC.condT rfl ?_ | refine WC.condF rfl ?_ | refine WL.off rfl rfl rfl ?_ | refine WL.off0 rfl rfl ?_ | refine WC.exit ?_ | refine blk_hit ?_ | refine blk_miss rfl ?_ | refine WC.ret ?_)
      refine WL.loadB rfl rfl rfl rfl rfl hB8 rfl ?_
      repeat (first | refine WC.seq ?_ | refine WC.reg ?_ | refine WL.pure rfl rfl rfl ?_ | refine WL.nil ?_ | refine WC.skip ?_ | refine WC.block ?_ | refine WC.condT rfl ?_ | refine WC.condF rfl ?_ | refine WL.off rfl rfl rfl ?_ | refine WL.off0 rfl rfl ?_ | refine WC.exit ?_ | refine blk_hit ?_ | refine blk_miss rfl ?_ | refine WC.ret ?_)
      refine WL.ix rfl rfl rfl rfl rfl hj rfl ?_
      repeat (first | refine WC.seq ?_ | refine WC.reg ?_ | refine WL.pure rfl rfl rfl ?_ | refine WL.nil ?_ | refine WC.skip ?_ | refine WC.block ?_ | refine WC.condT rfl ?_ | refine WC.condF rfl ?_ | refine WL.off rfl rfl rfl ?_ | refine WL.off0 rfl rfl ?_ | refine WC.exit ?_ | refine blk_hit ?_ | refine blk_miss rfl ?_ | refine WC.ret ?_)
      refine WL.load rfl rfl rfl rfl rfl cP ?_
      repeat (first | refine WC.seq ?_ | refine WC.reg ?_ | refine WL.pure rfl rfl rfl ?_ | refine WL.nil ?_ | refine WC.skip ?_ | refine WC.block ?_ | refine WC.condT rfl ?_ | refine WC.condF rfl ?_ | refine WL.off rfl rfl rfl ?_ | refine WL.off0 rfl rfl ?_ | refine WC.exit ?_ | refine blk_hit ?_ | refine blk_miss rfl ?_ | refine WC.ret ?_)
      refine WL.split 150 rfl (fun h1 => ?_) (fun h1 => ?_)
      · repeat (first | refine WC.seq ?_ | refine WC.reg ?_ | refine WL.pure rfl rfl rfl ?_ | refine WL.nil ?_ | refine WC.skip ?_ | refine WC.block ?_ | refine WC.condT rfl ?_ | refine WC.condF rfl ?_ | refine WL.off rfl rfl rfl ?_ | refine WL.off0 rfl rfl ?_ | refine WC.exit ?_ | refine blk_hit ?_ | refine blk_miss rfl ?_ | refine WC.ret ?_)
        exact ⟨_, ⟨rfl, rfl, rfl, rfl, rfl, rfl, rfl, rfl, rfl, rfl, rfl⟩, rfl, by rw [h1]; rfl⟩
      · repeat (first | refine WC.seq ?_ | refine WC.reg ?_ | refine WL.pure rfl rfl rfl ?_ | refine WL.nil ?_ | refine WC.skip ?_ | refine WC.block ?_ | refine WC.condT rfl ?_ | refine WC.condF rfl ?_ | refine WL.off rfl rfl rfl ?_ | refine WL.off0 rfl rfl ?_ | refine WC.exit ?_ | refine blk_hit ?_ | refine blk_miss rfl ?_ | refine WC.ret ?_)
        refine WL.loadB rfl rfl rfl rfl rfl hB8 rfl ?_
        repeat (first | refine WC.seq ?_ | refine WC.reg ?_ | refine WL.pure rfl rfl rfl ?_ | refine WL.nil ?_ | refine WC.skip ?_ | refine WC.block ?_ | refine WC.condT rfl ?_ | refine WC.condF rfl ?_ | refine WL.off rfl rfl rfl ?_ | refine WL.off0 rfl rfl ?_ | refine WC.exit ?_ | refine blk_hit ?_ | refine blk_miss rfl ?_ | refine WC.ret ?_)
        refine WL.ix rfl rfl rfl rfl rfl hj rfl ?_
        repeat (first | refine WC.seq ?_ | refine WC.reg ?_ | refine WL.pure rfl rfl rfl ?_ | refine WL.nil ?_ | refine WC.skip ?_ | refine WC.block ?_ | refine WC.condT rfl ?_ | refine WC.condF rfl ?_ | refine WL.off rfl rfl rfl ?_ | refine WL.off0 rfl rfl ?_ | refine WC.exit ?_ | refine blk_hit ?_ | refine blk_miss rfl ?_ | refine WC.ret ?_)
        refine WL.load rfl rfl rfl rfl rfl cQ ?_
        repeat (first | refine WC.seq ?_ | refine WC.reg ?_ | refine WL.pure rfl rfl rfl ?_ | refine WL.nil ?_ | refine WC.skip ?_ | refine WC.block ?_ | refine WC.condT rfl ?_ | refine WC.condF rfl ?_ | refine WL.off rfl rfl rfl ?_ | refine WL.off0 rfl rfl ?_ | refine WC.exit ?_ | refine blk_hit ?_ | refine blk_miss rfl ?_ | refine WC.ret ?_)
        exact ⟨_, ⟨rfl, rfl, rfl, rfl, rfl, rfl, rfl, rfl, rfl, rfl, rfl⟩, rfl, by rw [h1]; rfl⟩
    rintro r e9 w9 hsub ⟨rfl, hr⟩
    refine WC.sub hsub ?_
    clear hsub
    refine WC.cond rfl (fun hq2 => ?_) (fun hq2 => ?_)
    · rw [hq2] at hr
      repeat (first | refine WC.seq ?_ | refine WC.reg ?_ | refine WL.pure rfl rfl rfl ?_ | refine WL.nil ?_ | refine WC.skip ?_ | refine WC.block ?_ | refine WC.condT rfl ?_ | refine WC.condF rfl ?_ | refine WL.off rfl rfl rfl ?_ | refine WL.off0 rfl rfl ?_ | refine WC.exit ?_ | refine blk_hit ?_ | refine blk_miss rfl ?_ | refine WC.ret ?_)
      refine WL.loadB rfl rfl rfl rfl rfl hB8 rfl ?_
      repeat (first | refine WC.seq ?_ | refine WC.reg ?_ | refine WL.pure rfl rfl rfl ?_ | refine WL.nil ?_ | refine WC.skip ?_ | refine WC.block ?_ | refine WC.condT rfl ?_ | refine WC.condF rfl ?_ | refine WL.off rfl rfl rfl ?_ | refine WL.off0 rfl rfl ?_ | refine WC.exit ?_ | refine blk_hit ?_ | refine blk_miss rfl ?_ | refine WC.ret ?_)
      refine WL.ix rfl rfl rfl rfl rfl hj rfl ?_
      repeat (first | refine WC.seq ?_ | refine WC.reg ?_ | refine WL.pure rfl rfl rfl ?_ | refine WL.nil ?_ | refine WC.skip ?_ | refine WC.block ?_ | refine WC.condT rfl ?_ | refine WC.condF rfl ?_ | refine WL.off rfl rfl rfl ?_ | refine WL.off0 rfl rfl ?_ | refine WC.exit ?_ | refine blk_hit ?_ | refine blk_miss rfl ?_ | refine WC.ret ?_)
      refine WL.load rfl rfl rfl rfl rfl cP ?_
      refine WL.ixA1 rfl rfl rfl rfl rfl rfl rfl (show p < 20 by omega) ?_
      refine WL.store rfl rfl rfl rfl rfl rfl (hp8.obj 0 rfl) (by simp [gv]; omega) (fun wA hwA => ?_)
      rw [Nat.zero_add, gv_set] at hwA
      have hpA : Hp w wA ([.blk b18 (.cells (gv fun j' => j' == p || gon A (fs.take j) j').toArray 52 (0, 0)), .row 50 2 (.slice ao on.length co) on.length (prs on), .row 50 2 (.slice al lr.length cl) lr.length (prs lr)] ++ FF b7 be oe N c fs) := hp8.set 0 rfl rfl hwA
      obtain ⟨hBA, sFA, cNA, cEA, cXA⟩ := FF_cells hpA
      have cQA := (cXA j hj).2
      rw [hpq] at cQA
      repeat (first | refine WC.seq ?_ | refine WC.reg ?_ | refine WL.pure rfl rfl rfl ?_ | refine WL.nil ?_ | refine WC.skip ?_ | refine WC.block ?_ | refine WC.condT rfl ?_ | refine WC.condF rfl ?_ | refine WL.off rfl rfl rfl ?_ | refine WL.off0 rfl rfl ?_ | refine WC.exit ?_ | refine blk_hit ?_ | refine blk_miss rfl ?_ | refine WC.ret ?_)
      refine WL.loadB rfl rfl rfl rfl rfl hBA rfl ?_
      repeat (first | refine WC.seq ?_ | refine WC.reg ?_ | refine WL.pure rfl rfl rfl ?_ | refine WL.nil ?_ | refine WC.skip ?_ | refine WC.block ?_ | refine WC.condT rfl ?_ | refine WC.condF rfl ?_ | refine WL.off rfl rfl rfl ?_ | refine WL.off0 rfl rfl ?_ | refine WC.exit ?_ | refine blk_hit ?_ | refine blk_miss rfl ?_ | refine WC.ret ?_)
      refine WL.ix rfl rfl rfl rfl rfl hj rfl ?_
      repeat (first | refine WC.seq ?_ | refine WC.reg ?_ | refine WL.pure rfl rfl rfl ?_ | refine WL.nil ?_ | refine WC.skip ?_ | refine WC.block ?_ | refine WC.condT rfl ?_ | refine WC.condF rfl ?_ | refine WL.off rfl rfl rfl ?_ | refine WL.off0 rfl rfl ?_ | refine WC.exit ?_ | refine blk_hit ?_ | refine blk_miss rfl ?_ | refine WC.ret ?_)
      refine WL.load rfl rfl rfl rfl rfl cQA ?_
      refine WL.ixA1 rfl rfl rfl rfl rfl rfl rfl (show q < 20 by omega) ?_
      refine WL.store rfl rfl rfl rfl rfl rfl (hpA.obj 0 rfl) (by simp [gv]; omega) (fun wB hwB => ?_)
      rw [Nat.zero_add, gv_set, gon_step hr.symm, ← htk] at hwB
      have hpB := hpA.set 0 rfl rfl hwB
      repeat (first | refine WC.seq ?_ | refine WC.reg ?_ | refine WL.pure rfl rfl rfl ?_ | refine WL.nil ?_ | refine WC.skip ?_ | refine WC.block ?_ | refine WC.condT rfl ?_ | refine WC.condF rfl ?_ | refine WL.off rfl rfl rfl ?_ | refine WL.off0 rfl rfl ?_ | refine WC.exit ?_ | refine blk_hit ?_ | refine blk_miss rfl ?_ | refine WC.ret ?_)
      exact ⟨j + 1, by show fs.length - (j + 1) < fs.length - j; omega, ⟨rfl, rfl, rfl, rfl, rfl, rfl, rfl, rfl, congrArg (fun z => some (Value.int .i64 z)) step, rfl⟩, hj, hpB⟩
    · rw [hq2] at hr
      have hpB := hp8
      rw [gon_same hr.symm, ← htk] at hpB
      repeat (first | refine WC.seq ?_ | refine WC.reg ?_ | refine WL.pure rfl rfl rfl ?_ | refine WL.nil ?_ | refine WC.skip ?_ | refine WC.block ?_ | refine WC.condT rfl ?_ | refine WC.condF rfl ?_ | refine WL.off rfl rfl rfl ?_ | refine WL.off0 rfl rfl ?_ | refine WC.exit ?_ | refine blk_hit ?_ | refine blk_miss rfl ?_ | refine WC.ret ?_)
      exact ⟨j + 1, by show fs.length - (j + 1) < fs.length - j; omega, ⟨rfl, rfl, rfl, rfl, rfl, rfl, rfl, rfl, congrArg (fun z => some (Value.int .i64 z)) step, rfl⟩, hj, hpB⟩
  have hj : j = fs.length := by have := of_decide_eq_false hc; omega
  subst hj
  rw [List.take_length] at hp8
  have hVs := gon_spec hmk (a := A) (by omega)
  generalize hVV : (fun v => !gon A fs v) = V at *
  clear hc hj
  have hV1 : ∀ v, V v = !gon A fs v := fun v => by rw [← hVV]
  repeat (first | refine WC.seq ?_ | refine WC.reg ?_ | refine WL.pure rfl rfl rfl ?_ | refine WL.nil ?_ | refine WC.skip ?_ | refine WC.block ?_ | refine WC.condT rfl ?_ | refine WC.condF rfl ?_ | refine WL.off rfl rfl rfl ?_ | refine WL.off0 rfl rfl ?_ | refine WC.exit ?_ | refine blk_hit ?_ | refine blk_miss rfl ?_ | refine WC.ret ?_)
  refine WL.alloc rfl rfl rfl ?_
  intro b21 w9 hb21
  have hp9 : Hp w w9 ([.blk b21 (.cells (ints (fl 20 fun _ => 0)).toArray 53 (0, 0)), .blk b18 (.cells (gv (gon A fs)).toArray 52 (0, 0)), .row 50 2 (.slice ao on.length co) on.length (prs on), .row 50 2 (.slice al lr.length cl) lr.length (prs lr)] ++ FF b7 be oe N c fs) := hp8.new hb21
  have e0 : (fl 20 fun _ => 0) = fl 20 (nam V 0) := fl_congr fun i _ => by rw [nam, if_neg (by omega)]
  rw [e0] at hp9
  repeat (first | refine WC.seq ?_ | refine WC.reg ?_ | refine WL.pure rfl rfl rfl ?_ | refine WL.nil ?_ | refine WC.skip ?_ | refine WC.block ?_ | refine WC.condT rfl ?_ | refine WC.condF rfl ?_ | refine WL.off rfl rfl rfl ?_ | refine WL.off0 rfl rfl ?_ | refine WC.exit ?_ | refine blk_hit ?_ | refine blk_miss rfl ?_ | refine WC.ret ?_)
  refine WC.loop Nat (fun v => [(1, .int .i64 (C : Nat)), (7, .pointer (some ⟨b7, 0, none⟩)), (9, .int .i64 (A : Nat)), (11, .slice al lr.length cl), (12, .slice ao on.length co), (13, .slice none 0 0), (14, .slice none 0 0), (18, .pointer (some ⟨b18, 0, none⟩)), (20, .int .i64 (nmV V v : Nat)), (21, .pointer (some ⟨b21, 0, none⟩)), (22, .int .i64 (v : Nat))])
    (fun v w' => v ≤ N ∧ Hp w w' ([.blk b21 (.cells (ints (fl 20 (nam V v))).toArray 53 (0, 0)), .blk b18 (.cells (gv (gon A fs)).toArray 52 (0, 0)), .row 50 2 (.slice ao on.length co) on.length (prs on), .row 50 2 (.slice al lr.length cl) lr.length (prs lr)] ++ FF b7 be oe N c fs))
    (fun v => N - v) 0 ⟨rfl, rfl, rfl, rfl, rfl, rfl, rfl, rfl, rfl, rfl, rfl, rfl⟩ ⟨Nat.zero_le _, hp9⟩ ?_
  rintro v wA ⟨hv, hpA⟩
  obtain ⟨hBA, _, _, _, _⟩ := FF_cells hpA
  repeat (first | refine WC.seq ?_ | refine WC.reg ?_ | refine WL.pure rfl rfl rfl ?_ | refine WL.nil ?_ | refine WC.skip ?_ | refine WC.block ?_ | refine WC.condT rfl ?_ | refine WC.condF rfl ?_ | refine WL.off rfl rfl rfl ?_ | refine WL.off0 rfl rfl ?_ | refine WC.exit ?_ | refine blk_hit ?_ | refine blk_miss rfl ?_ | refine WC.ret ?_)
  refine WL.loadB rfl rfl rfl rfl rfl hBA rfl ?_
  repeat (first | refine WC.seq ?_ | refine WC.reg ?_ | refine WL.pure rfl rfl rfl ?_ | refine WL.nil ?_ | refine WC.skip ?_ | refine WC.block ?_ | refine WC.condT rfl ?_ | refine WC.condF rfl ?_ | refine WL.off rfl rfl rfl ?_ | refine WL.off0 rfl rfl ?_ | refine WC.exit ?_ | refine blk_hit ?_ | refine blk_miss rfl ?_ | refine WC.ret ?_)
  refine WC.cond rfl (fun hc => ?_) (fun hc => ?_)
  · have hv : v < N := by have := of_decide_eq_true hc; omega
    have step : IntKind.i64.wrap ((v : Int) + 1) = ((v + 1 : Nat) : Int) := by rw [wrap_i64_in (by omega) (by omega)]; omega
    have hns := nmV_succ V v
    have hnl := nmV_le V v
    have c18 : wA.cell? ⟨b18, 0 + v, none⟩ = some (.bool (gon A fs v)) := cell_of_obj (hpA.obj 1 rfl) (by rw [Nat.zero_add]; simpa using gv_at (gon A fs) (show v < 20 by omega))
    repeat (first | refine WC.seq ?_ | refine WC.reg ?_ | refine WL.pure rfl rfl rfl ?_ | refine WL.nil ?_ | refine WC.skip ?_ | refine WC.block ?_ | refine WC.condT rfl ?_ | refine WC.condF rfl ?_ | refine WL.off rfl rfl rfl ?_ | refine WL.off0 rfl rfl ?_ | refine WC.exit ?_ | refine blk_hit ?_ | refine blk_miss rfl ?_ | refine WC.ret ?_)
    refine WL.ixA1 rfl rfl rfl rfl rfl rfl rfl (show v < 20 by omega) ?_
    refine WL.load rfl rfl rfl rfl rfl c18 ?_
    repeat (first | refine WC.seq ?_ | refine WC.reg ?_ | refine WL.pure rfl rfl rfl ?_ | refine WL.nil ?_ | refine WC.skip ?_ | refine WC.block ?_ | refine WC.condT rfl ?_ | refine WC.condF rfl ?_ | refine WL.off rfl rfl rfl ?_ | refine WL.off0 rfl rfl ?_ | refine WC.exit ?_ | refine blk_hit ?_ | refine blk_miss rfl ?_ | refine WC.ret ?_)
    refine WC.cond rfl (fun hq => ?_) (fun hq => ?_)
    · rw [← hV1] at hq
      rw [if_pos hq] at hns
      have est : IntKind.i64.wrap ((nmV V v : Int) + 1) = ((nmV V (v + 1) : Nat) : Int) := by rw [wrap_i64_in (by omega) (by omega)]; omega
      have e1 : (fl 20 (nam V v)).set v (nmV V v) = fl 20 (nam V (v + 1)) := by
        rw [fl_set]
        exact fl_congr fun i _ => by rw [nam_succ, if_pos hq]
      repeat (first | refine WC.seq ?_ | refine WC.reg ?_ | refine WL.pure rfl rfl rfl ?_ | refine WL.nil ?_ | refine WC.skip ?_ | refine WC.block ?_ | refine WC.condT rfl ?_ | refine WC.condF rfl ?_ | refine WL.off rfl rfl rfl ?_ | refine WL.off0 rfl rfl ?_ | refine WC.exit ?_ | refine blk_hit ?_ | refine blk_miss rfl ?_ | refine WC.ret ?_)
      refine WL.ixA1 rfl rfl rfl rfl rfl rfl rfl (show v < 20 by omega) ?_
      refine WL.store rfl rfl rfl rfl rfl rfl (hpA.obj 0 rfl) (by simp [ints, fl]; omega) (fun wB hwB => ?_)
      rw [Nat.zero_add, ints_set, e1] at hwB
      have hpB := hpA.set 0 rfl rfl hwB
      repeat (first | refine WC.seq ?_ | refine WC.reg ?_ | refine WL.pure rfl rfl rfl ?_ | refine WL.nil ?_ | refine WC.skip ?_ | refine WC.block ?_ | refine WC.condT rfl ?_ | refine WC.condF rfl ?_ | refine WL.off rfl rfl rfl ?_ | refine WL.off0 rfl rfl ?_ | refine WC.exit ?_ | refine blk_hit ?_ | refine blk_miss rfl ?_ | refine WC.ret ?_)
      exact ⟨v + 1, by show N - (v + 1) < N - v; omega, ⟨rfl, rfl, rfl, rfl, rfl, rfl, rfl, rfl, congrArg (fun z => some (Value.int .i64 z)) est, rfl, congrArg (fun z => some (Value.int .i64 z)) step, rfl⟩, hv, hpB⟩
    · rw [← hV1] at hq
      rw [if_neg (by rw [hq]; decide)] at hns
      have e1 : fl 20 (nam V v) = fl 20 (nam V (v + 1)) := fl_congr fun i _ => by rw [nam_succ, if_neg (by rw [hq]; decide)]
      rw [e1] at hpA
      have est : ((nmV V v : Nat) : Int) = ((nmV V (v + 1) : Nat) : Int) := by rw [hns]; rfl
      repeat (first | refine WC.seq ?_ | refine WC.reg ?_ | refine WL.pure rfl rfl rfl ?_ | refine WL.nil ?_ | refine WC.skip ?_ | refine WC.block ?_ | refine WC.condT rfl ?_ | refine WC.condF rfl ?_ | refine WL.off rfl rfl rfl ?_ | refine WL.off0 rfl rfl ?_ | refine WC.exit ?_ | refine blk_hit ?_ | refine blk_miss rfl ?_ | refine WC.ret ?_)
      exact ⟨v + 1, by show N - (v + 1) < N - v; omega, ⟨rfl, rfl, rfl, rfl, rfl, rfl, rfl, rfl, congrArg (fun z => some (Value.int .i64 z)) est, rfl, congrArg (fun z => some (Value.int .i64 z)) step, rfl⟩, hv, hpA⟩
  have hv : v = N := by have := of_decide_eq_false hc; omega
  subst v
  clear hc
  have hpB : Hp w wA ([.row 50 2 (.slice none 0 0) 0 (prs []), .row 50 2 (.slice none 0 0) 0 (prs []), .blk b21 (.cells (ints (fl 20 (nam V N))).toArray 53 (0, 0)), .blk b18 (.cells (gv (gon A fs)).toArray 52 (0, 0)), .row 50 2 (.slice ao on.length co) on.length (prs on), .row 50 2 (.slice al lr.length cl) lr.length (prs lr)] ++ FF b7 be oe N c fs) := (hpA.nilrow 50 2).nilrow 50 2
  repeat (first | refine WC.seq ?_ | refine WC.reg ?_ | refine WL.pure rfl rfl rfl ?_ | refine WL.nil ?_ | refine WC.skip ?_ | refine WC.block ?_ | refine WC.condT rfl ?_ | refine WC.condF rfl ?_ | refine WL.off rfl rfl rfl ?_ | refine WL.off0 rfl rfl ?_ | refine WC.exit ?_ | refine blk_hit ?_ | refine blk_miss rfl ?_ | refine WC.ret ?_)
  refine WC.loop (Nat × (List Ed × Option Addr × Nat) × (List Ed × Option Addr × Nat)) (fun (j, (wl, a13, c13), (pl, a14, c14)) => [(1, .int .i64 (C : Nat)), (7, .pointer (some ⟨b7, 0, none⟩)), (9, .int .i64 (A : Nat)), (11, .slice al lr.length cl), (12, .slice ao on.length co), (13, .slice a13 wl.length c13), (14, .slice a14 pl.length c14), (18, .pointer (some ⟨b18, 0, none⟩)), (20, .int .i64 (nmV V N : Nat)), (21, .pointer (some ⟨b21, 0, none⟩)), (23, .int .i64 (j : Nat))])
    (fun (j, (wl, a13, c13), (pl, a14, c14)) w' => j ≤ fs.length ∧ wl = outE N A (fs.take j) ∧ pl = aptE V (fs.take j) ∧ Hp w w' ([.row 50 2 (.slice a13 wl.length c13) wl.length (prs wl), .row 50 2 (.slice a14 pl.length c14) pl.length (prs pl), .blk b21 (.cells (ints (fl 20 (nam V N))).toArray 53 (0, 0)), .blk b18 (.cells (gv (gon A fs)).toArray 52 (0, 0)), .row 50 2 (.slice ao on.length co) on.length (prs on), .row 50 2 (.slice al lr.length cl) lr.length (prs lr)] ++ FF b7 be oe N c fs))
    (fun (j, _) => fs.length - j) (0, ([], none, 0), ([], none, 0)) ⟨rfl, rfl, rfl, rfl, rfl, rfl, rfl, rfl, rfl, rfl, rfl, rfl⟩ ⟨Nat.zero_le _, rfl, rfl, hpB⟩ ?_
  rintro ⟨j, ⟨wl, a13, c13⟩, ⟨pl, a14, c14⟩⟩ wB ⟨hj, hwl, hpl, hpB⟩
  obtain ⟨hBB, sFB, cNB, cEB, cXB⟩ := FF_cells hpB
  have hwll : wl.length ≤ j := by rw [hwl]; exact Nat.le_trans (outE_len _ _ _) (by rw [List.length_take]; omega)
  have hpll : pl.length ≤ j := by rw [hpl]; exact Nat.le_trans (aptE_len _ _) (by rw [List.length_take]; omega)
  repeat (first | refine WC.seq ?_ | refine WC.reg ?_ | refine WL.pure rfl rfl rfl ?_ | refine WL.nil ?_ | refine WC.skip ?_ | refine WC.block ?_ | refine WC.condT rfl ?_ | refine WC.condF rfl ?_ | refine WL.off rfl rfl rfl ?_ | refine WL.off0 rfl rfl ?_ | refine WC.exit ?_ | refine blk_hit ?_ | refine blk_miss rfl ?_ | refine WC.ret ?_)
  refine WL.loadB rfl rfl rfl rfl rfl hBB rfl ?_
  repeat (first | refine WC.seq ?_ | refine WC.reg ?_ | refine WL.pure rfl rfl rfl ?_ | refine WL.nil ?_ | refine WC.skip ?_ | refine WC.block ?_ | refine WC.condT rfl ?_ | refine WC.condF rfl ?_ | refine WL.off rfl rfl rfl ?_ | refine WL.off0 rfl rfl ?_ | refine WC.exit ?_ | refine blk_hit ?_ | refine blk_miss rfl ?_ | refine WC.ret ?_)
  refine WC.cond rfl (fun hc => ?_) (fun hc => ?_)
  · have hj : j < fs.length := by have := of_decide_eq_true hc; omega
    have step : IntKind.i64.wrap ((j : Int) + 1) = ((j + 1 : Nat) : Int) := by rw [wrap_i64_in (by omega) (by omega)]; omega
    have htk : fs.take (j + 1) = fs.take j ++ [fs[j]] := List.take_succ_eq_append_getElem hj
    obtain ⟨p, q, hpq, hp, hq, hne⟩ := ends hmk hj
    rw [hpq] at htk
    have hop := outE_snoc N A (fs.take j) ((p : Int), (q : Int))
    have hap := aptE_snoc V (fs.take j) ((p : Int), (q : Int))
    rw [← htk, ← hwl] at hop
    rw [← htk, ← hpl] at hap
    simp only [Int.toNat_natCast] at hop hap
    have cX : ∀ w', Hp w w' ([] ++ FF b7 be oe N c fs) → w'.cell? ⟨be, oe + j * 2 + 0 * 1, none⟩ = some (.int .i64 (p : Nat)) ∧ w'.cell? ⟨be, oe + j * 2 + 1 * 1, none⟩ = some (.int .i64 (q : Nat)) := by
      intro w' h
      have := (FF_cells h).2.2.2.2 j hj
      rw [hpq] at this
      exact this
    repeat (first | refine WC.seq ?_ | refine WC.reg ?_ | refine WL.pure rfl rfl rfl ?_ | refine WL.nil ?_ | refine WC.skip ?_ | refine WC.block ?_ | refine WC.condT rfl ?_ | refine WC.condF rfl ?_ | refine WL.off rfl rfl rfl ?_ | refine WL.off0 rfl rfl ?_ | refine WC.exit ?_ | refine blk_hit ?_ | refine blk_miss rfl ?_ | refine WC.ret ?_)
    refine WC.mid Unit (fun _ => [(1, .int .i64 (C : Nat)), (7, .pointer (some ⟨b7, 0, none⟩)), (9, .int .i64 (A : Nat)), (11, .slice al lr.length cl), (12, .slice ao on.length co), (13, .slice a13 wl.length c13), (14, .slice a14 pl.length c14), (18, .pointer (some ⟨b18, 0, none⟩)), (20, .int .i64 (nmV V N : Nat)), (21, .pointer (some ⟨b21, 0, none⟩)), (23, .int .i64 (j : Nat)), (24, .int .i64 (p : Nat)), (25, .int .i64 (q : Nat))]) (fun _ w' => Hp w w' ([.row 50 2 (.slice a13 wl.length c13) wl.length (prs wl), .row 50 2 (.slice a14 pl.length c14) pl.length (prs pl), .blk b21 (.cells (ints (fl 20 (nam V N))).toArray 53 (0, 0)), .blk b18 (.cells (gv (gon A fs)).toArray 52 (0, 0)), .row 50 2 (.slice ao on.length co) on.length (prs on), .row 50 2 (.slice al lr.length cl) lr.length (prs lr)] ++ FF b7 be oe N c fs)) ?_ ?_
    · refine WC.regQ (fun w' => Hp w w' ([.row 50 2 (.slice a13 wl.length c13) wl.length (prs wl), .row 50 2 (.slice a14 pl.length c14) pl.length (prs pl), .blk b21 (.cells (ints (fl 20 (nam V N))).toArray 53 (0, 0)), .blk b18 (.cells (gv (gon A fs)).toArray 52 (0, 0)), .row 50 2 (.slice ao on.length co) on.length (prs on), .row 50 2 (.slice al lr.length cl) lr.length (prs lr)] ++ FF b7 be oe N c fs)) mixed (by kernel_rfl) (fun w' hw' => hpB.keep hw') ?_
      repeat (first | refine WQ.pure rfl rfl rfl ?_ | refine WQ.off rfl rfl rfl ?_ | refine WQ.nil ?_)
      refine WQ.load rfl rfl rfl rfl rfl (fun w' h => (FF_cells h).2.2.2.1) ?_
      repeat (first | refine WQ.pure rfl rfl rfl ?_ | refine WQ.off rfl rfl rfl ?_ | refine WQ.nil ?_)
      refine WQ.ix rfl rfl rfl rfl rfl rfl hj ?_
      repeat (first | refine WQ.pure rfl rfl rfl ?_ | refine WQ.off rfl rfl rfl ?_ | refine WQ.nil ?_)
      refine WQ.load rfl rfl rfl rfl rfl (fun w' h => (cX w' h.tail.tail.tail.tail.tail.tail).1) ?_
      repeat (first | refine WQ.pure rfl rfl rfl ?_ | refine WQ.off rfl rfl rfl ?_ | refine WQ.nil ?_)
      refine WQ.load rfl rfl rfl rfl rfl (fun w' h => (FF_cells h).2.2.2.1) ?_
      repeat (first | refine WQ.pure rfl rfl rfl ?_ | refine WQ.off rfl rfl rfl ?_ | refine WQ.nil ?_)
      refine WQ.ix rfl rfl rfl rfl rfl rfl hj ?_
      repeat (first | refine WQ.pure rfl rfl rfl ?_ | refine WQ.off rfl rfl rfl ?_ | refine WQ.nil ?_)
      refine WQ.load rfl rfl rfl rfl rfl (fun w' h => (cX w' h.tail.tail.tail.tail.tail.tail).2) ?_
      repeat (first | refine WQ.pure rfl rfl rfl ?_ | refine WQ.off rfl rfl rfl ?_ | refine WQ.nil ?_)
      intro w' h
      exact ⟨(), ⟨rfl, rfl, rfl, rfl, rfl, rfl, rfl, rfl, rfl, rfl, rfl, rfl, rfl, rfl⟩, h⟩
    rintro ⟨⟩ eC wC hsub hpC
    refine WC.sub hsub ?_
    clear hsub
    repeat (first | refine WC.seq ?_ | refine WC.skip ?_ | refine WC.block ?_)
    refine WC.mid Bool (fun r => [(1, .int .i64 (C : Nat)), (7, .pointer (some ⟨b7, 0, none⟩)), (9, .int .i64 (A : Nat)), (11, .slice al lr.length cl), (12, .slice ao on.length co), (13, .slice a13 wl.length c13), (14, .slice a14 pl.length c14), (18, .pointer (some ⟨b18, 0, none⟩)), (20, .int .i64 (nmV V N : Nat)), (21, .pointer (some ⟨b21, 0, none⟩)), (23, .int .i64 (j : Nat)), (24, .int .i64 (p : Nat)), (25, .int .i64 (q : Nat)), (215, .bool r)]) (fun r w' => w' = wC ∧ r = ((p != A) && (q != A))) ?_ ?_
    · repeat (first | refine WC.seq ?_ | refine WC.reg ?_ | refine WL.pure rfl rfl rfl ?_ | refine WL.nil ?_ | refine WC.skip ?_ | refine WC.block ?_ | refine WC.condT rfl ?_ | refine WC.condF rfl ?_ | refine WL.off rfl rfl rfl ?_ | refine WL.off0 rfl rfl ?_ | refine WC.exit ?_ | refine blk_hit ?_ | refine blk_miss rfl ?_ | refine WC.ret ?_)
      refine WL.split 211 rfl (fun h1 => ?_) (fun h1 => ?_)
      · repeat (first | refine WC.seq ?_ | refine WC.reg ?_ | refine WL.pure rfl rfl rfl ?_ | refine WL.nil ?_ | refine WC.skip ?_ | refine WC.block ?_ | refine WC.condT rfl ?_ | refine WC.condF rfl ?_ | refine WL.off rfl rfl rfl ?_ | refine WL.off0 rfl rfl ?_ | refine WC.exit ?_ | refine blk_hit ?_ | refine blk_miss rfl ?_ | refine WC.ret ?_)
        exact ⟨_, ⟨rfl, rfl, rfl, rfl, rfl, rfl, rfl, rfl, rfl, rfl, rfl, rfl, rfl, rfl, rfl⟩, rfl, by rw [nat_bne] at h1; rw [nat_bne, h1]; rfl⟩
      · repeat (first | refine WC.seq ?_ | refine WC.reg ?_ | refine WL.pure rfl rfl rfl ?_ | refine WL.nil ?_ | refine WC.skip ?_ | refine WC.block ?_ | refine WC.condT rfl ?_ | refine WC.condF rfl ?_ | refine WL.off rfl rfl rfl ?_ | refine WL.off0 rfl rfl ?_ | refine WC.exit ?_ | refine blk_hit ?_ | refine blk_miss rfl ?_ | refine WC.ret ?_)
        exact ⟨_, ⟨rfl, rfl, rfl, rfl, rfl, rfl, rfl, rfl, rfl, rfl, rfl, rfl, rfl, rfl, rfl⟩, rfl, by rw [nat_bne] at h1; rw [h1]; rfl⟩
    rintro r eD wD hsub ⟨rfl, hr⟩
    refine WC.sub hsub ?_
    clear hsub
    refine WC.mid (List Ed × Option Addr × Nat) (fun (wl2, a2, c2) => [(1, .int .i64 (C : Nat)), (7, .pointer (some ⟨b7, 0, none⟩)), (9, .int .i64 (A : Nat)), (11, .slice al lr.length cl), (12, .slice ao on.length co), (13, .slice a2 wl2.length c2), (14, .slice a14 pl.length c14), (18, .pointer (some ⟨b18, 0, none⟩)), (20, .int .i64 (nmV V N : Nat)), (21, .pointer (some ⟨b21, 0, none⟩)), (23, .int .i64 (j : Nat)), (24, .int .i64 (p : Nat)), (25, .int .i64 (q : Nat))]) (fun (wl2, a2, c2) w' => wl2 = outE N A (fs.take (j + 1)) ∧ Hp w w' ([.row 50 2 (.slice a2 wl2.length c2) wl2.length (prs wl2), .row 50 2 (.slice a14 pl.length c14) pl.length (prs pl), .blk b21 (.cells (ints (fl 20 (nam V N))).toArray 53 (0, 0)), .blk b18 (.cells (gv (gon A fs)).toArray 52 (0, 0)), .row 50 2 (.slice ao on.length co) on.length (prs on), .row 50 2 (.slice al lr.length cl) lr.length (prs lr)] ++ FF b7 be oe N c fs)) ?_ ?_
    · refine WC.cond rfl (fun hq2 => ?_) (fun hq2 => ?_)
      · rw [hq2] at hr
        rw [if_pos hr.symm] at hop
        have hpA2 : p ≠ A ∧ q ≠ A := by
          have := hr.symm
          simp only [Bool.and_eq_true, bne_iff_ne, ne_eq] at this
          exact this
        rw [← mgI_out (by omega) hpA2.1, ← mgI_out (by omega) hpA2.2] at hop
        have hlw : wl.length + 1 = (wl ++ [(mgI p N A N, mgI q N A N)]).length := by simp
        have hxw : prs wl ++ pr (mgI p N A N, mgI q N A N) = prs (wl ++ [(mgI p N A N, mgI q N A N)]) := by simp [prs]
        refine WC.regH (fun w' => Hp w w' ([.blk b21 (.cells (ints (fl 20 (nam V N))).toArray 53 (0, 0)), .blk b18 (.cells (gv (gon A fs)).toArray 52 (0, 0)), .row 50 2 (.slice ao on.length co) on.length (prs on), .row 50 2 (.slice al lr.length cl) lr.length (prs lr)] ++ FF b7 be oe N c fs)) mixed (by kernel_rfl) (fun wE hwE hhE => ?_)
        have hpE := hpC.keep hwE
        have hSE := hpE.tail.tail
        refine WH.pure 0 (by kernel_rfl) rfl (by kernel_rfl) rfl rfl rfl hSE ?_
        refine WH.pure 1 (by kernel_rfl) rfl (by kernel_rfl) rfl rfl rfl hSE ?_
        refine WH.pure 2 (by kernel_rfl) rfl (by kernel_rfl) rfl rfl rfl hSE ?_
        refine WH.load 3 (by kernel_rfl) rfl (by kernel_rfl) rfl rfl rfl rfl rfl (fun w' h => (FF_cells h).2.2.1) hSE ?_
        refine WH.pure 4 (by kernel_rfl) rfl (by kernel_rfl) rfl rfl rfl hSE ?_
        refine WH.pure 5 (by kernel_rfl) rfl (by kernel_rfl) rfl rfl rfl hSE ?_
        refine WH.load 6 (by kernel_rfl) rfl (by kernel_rfl) rfl rfl rfl rfl rfl (fun w' h => (FF_cells h).2.2.1) hSE ?_
        refine WH.pure 8 (by kernel_rfl) rfl (by kernel_rfl) rfl rfl rfl hSE ?_
        refine WH.pure 9 (by kernel_rfl) rfl (by kernel_rfl) rfl rfl rfl hSE ?_
        refine WH.load 10 (by kernel_rfl) rfl (by kernel_rfl) rfl rfl rfl rfl rfl (fun w' h => (FF_cells h).2.2.1) hSE ?_
        refine WH.pure 11 (by kernel_rfl) rfl (by kernel_rfl) rfl rfl rfl hSE ?_
        refine WH.pure 12 (by kernel_rfl) rfl (by kernel_rfl) rfl rfl rfl hSE ?_
        refine WH.load 13 (by kernel_rfl) rfl (by kernel_rfl) rfl rfl rfl rfl rfl (fun w' h => (FF_cells h).2.2.1) hSE ?_
        refine WH.one 7 rfl (by kernel_rfl) (WL.callP rfl rfl rfl rfl rfl ent27 (merged_any _ _ _ _ (by omega) (by omega) _) (WL.nil ⟨hSE, ?_⟩))
        refine WH.one 14 rfl (by kernel_rfl) (WL.callP rfl rfl rfl rfl rfl ent27 (merged_any _ _ _ _ (by omega) (by omega) _) (WL.nil ⟨hSE, ?_⟩))
        refine WH.one 15 rfl (by kernel_rfl) (WL.buildA (cs := pr (mgI p N A N, mgI q N A N)) rfl rfl rfl rfl rfl rfl (WL.nil ⟨hSE, ?_⟩))
        refine WH.one 16 rfl (by kernel_rfl) ?_
        refine WL.buildS (cs := pr (mgI p N A N, mgI q N A N)) rfl rfl rfl rfl rfl rfl rfl rfl rfl ?_
        intro bs wF hbs
        have hpF := hpE.new hbs
        refine WL.nil ⟨hpF.tail.tail.tail, ?_⟩
        refine WH.one 17 rfl (by kernel_rfl) ?_
        refine WL.append 1 hpF rfl rfl rfl rfl rfl (by decide) rfl rfl rfl (news := pr (mgI p N A N, mgI q N A N)) (Sl.of_obj (hpF.obj 0 rfl) (fun q u hq => by simpa using hq)) rfl (pr_cells _) (by unfold maxLen; omega) (by show (wl.length + 1) * 16 ≤ _; omega) ?_
        intro a' c' wG hpG hgG
        have hpG := hpG.tail
        rw [hlw, hxw] at hpG
        rw [hlw]
        refine WL.nil ⟨hpG.tail.tail, ?_⟩
        refine WH.one 18 rfl (by kernel_rfl) (WL.pure rfl rfl rfl (WL.nil ⟨hpG.tail.tail, WH.done (by kernel_rfl) ?_⟩))
        exact ⟨(wl ++ [(mgI p N A N, mgI q N A N)], a', c'), ⟨rfl, rfl, rfl, rfl, rfl, rfl, rfl, rfl, rfl, rfl, rfl, rfl, rfl, rfl⟩, hop.symm, hpG⟩
      · rw [hq2] at hr
        rw [if_neg (by rw [← hr]; decide), List.append_nil] at hop
        repeat (first | refine WC.seq ?_ | refine WC.reg ?_ | refine WL.pure rfl rfl rfl ?_ | refine WL.nil ?_ | refine WC.skip ?_ | refine WC.block ?_ | refine WC.condT rfl ?_ | refine WC.condF rfl ?_ | refine WL.off rfl rfl rfl ?_ | refine WL.off0 rfl rfl ?_ | refine WC.exit ?_ | refine blk_hit ?_ | refine blk_miss rfl ?_ | refine WC.ret ?_)
        exact ⟨(wl, a13, c13), ⟨rfl, rfl, rfl, rfl, rfl, rfl, rfl, rfl, rfl, rfl, rfl, rfl, rfl, rfl⟩, hop.symm, hpC⟩
    rintro ⟨wl2, a2, c2⟩ eD wD hsub ⟨hwl2, hpD⟩
    refine WC.sub hsub ?_
    clear hsub hr r
    have cG : ∀ v, v < N → wD.cell? ⟨b18, 0 + v, none⟩ = some (.bool (gon A fs v)) := fun v hv => cell_of_obj (hpD.obj 3 rfl) (by rw [Nat.zero_add]; simpa using gv_at (gon A fs) (show v < 20 by omega))
    have cN : ∀ w', Hp w w' ([.blk b21 (.cells (ints (fl 20 (nam V N))).toArray 53 (0, 0)), .blk b18 (.cells (gv (gon A fs)).toArray 52 (0, 0)), .row 50 2 (.slice ao on.length co) on.length (prs on), .row 50 2 (.slice al lr.length cl) lr.length (prs lr)] ++ FF b7 be oe N c fs) → ∀ v, v < N → w'.cell? ⟨b21, 0 + v * 1, none⟩ = some (.int .i64 (nam V N v : Nat)) := fun w' h v hv => cell_of_obj (h.obj 0 rfl) (by rw [Nat.mul_one, Nat.zero_add]; simpa using fl_at (nam V N) (show v < 20 by omega))
    repeat (first | refine WC.seq ?_ | refine WC.skip ?_ | refine WC.block ?_)
    refine WC.mid Bool (fun r => [(1, .int .i64 (C : Nat)), (7, .pointer (some ⟨b7, 0, none⟩)), (9, .int .i64 (A : Nat)), (11, .slice al lr.length cl), (12, .slice ao on.length co), (13, .slice a2 wl2.length c2), (14, .slice a14 pl.length c14), (18, .pointer (some ⟨b18, 0, none⟩)), (20, .int .i64 (nmV V N : Nat)), (21, .pointer (some ⟨b21, 0, none⟩)), (23, .int .i64 (j : Nat)), (24, .int .i64 (p : Nat)), (25, .int .i64 (q : Nat)), (243, .bool r)]) (fun r w' => w' = wD ∧ r = (V p && V q)) ?_ ?_
    · repeat (first | refine WC.seq ?_ | refine WC.reg ?_ | refine WL.pure rfl rfl rfl ?_ | refine WL.nil ?_ | refine WC.skip ?_ | refine WC.block ?_ | refine WC.condT rfl ?_ | refine WC.condF rfl ?_ | refine WL.off rfl rfl rfl ?_ | refine WL.off0 rfl rfl ?_ | refine WC.exit ?_ | refine blk_hit ?_ | refine blk_miss rfl ?_ | refine WC.ret ?_)
      refine WL.ixA1 rfl rfl rfl rfl rfl rfl rfl (show p < 20 by omega) ?_
      refine WL.load rfl rfl rfl rfl rfl (cG p (by omega)) ?_
      repeat (first | refine WC.seq ?_ | refine WC.reg ?_ | refine WL.pure rfl rfl rfl ?_ | refine WL.nil ?_ | refine WC.skip ?_ | refine WC.block ?_ | refine WC.condT rfl ?_ | refine WC.condF rfl ?_ | refine WL.off rfl rfl rfl ?_ | refine WL.off0 rfl rfl ?_ | refine WC.exit ?_ | refine blk_hit ?_ | refine blk_miss rfl ?_ | refine WC.ret ?_)
      refine WL.split 238 rfl (fun h1 => ?_) (fun h1 => ?_)
      · repeat (first | refine WC.seq ?_ | refine WC.reg ?_ | refine WL.pure rfl rfl rfl ?_ | refine WL.nil ?_ | refine WC.skip ?_ | refine WC.block ?_ | refine WC.condT rfl ?_ | refine WC.condF rfl ?_ | refine WL.off rfl rfl rfl ?_ | refine WL.off0 rfl rfl ?_ | refine WC.exit ?_ | refine blk_hit ?_ | refine blk_miss rfl ?_ | refine WC.ret ?_)
        refine WL.ixA1 rfl rfl rfl rfl rfl rfl rfl (show q < 20 by omega) ?_
        refine WL.load rfl rfl rfl rfl rfl (cG q (by omega)) ?_
        repeat (first | refine WC.seq ?_ | refine WC.reg ?_ | refine WL.pure rfl rfl rfl ?_ | refine WL.nil ?_ | refine WC.skip ?_ | refine WC.block ?_ | refine WC.condT rfl ?_ | refine WC.condF rfl ?_ | refine WL.off rfl rfl rfl ?_ | refine WL.off0 rfl rfl ?_ | refine WC.exit ?_ | refine blk_hit ?_ | refine blk_miss rfl ?_ | refine WC.ret ?_)
        exact ⟨_, ⟨rfl, rfl, rfl, rfl, rfl, rfl, rfl, rfl, rfl, rfl, rfl, rfl, rfl, rfl, rfl⟩, rfl, by rw [← hV1] at h1; rw [← hV1, h1]; rfl⟩
      · repeat (first | refine WC.seq ?_ | refine WC.reg ?_ | refine WL.pure rfl rfl rfl ?_ | refine WL.nil ?_ | refine WC.skip ?_ | refine WC.block ?_ | refine WC.condT rfl ?_ | refine WC.condF rfl ?_ | refine WL.off rfl rfl rfl ?_ | refine WL.off0 rfl rfl ?_ | refine WC.exit ?_ | refine blk_hit ?_ | refine blk_miss rfl ?_ | refine WC.ret ?_)
        exact ⟨_, ⟨rfl, rfl, rfl, rfl, rfl, rfl, rfl, rfl, rfl, rfl, rfl, rfl, rfl, rfl, rfl⟩, rfl, by rw [← hV1] at h1; rw [h1]; rfl⟩
    rintro r eE wE hsub ⟨rfl, hr⟩
    refine WC.sub hsub ?_
    clear hsub
    refine WC.cond rfl (fun hq2 => ?_) (fun hq2 => ?_)
    · rw [hq2] at hr
      rw [if_pos hr.symm] at hap
      have hVp : V p = true ∧ V q = true := by
        have := hr.symm
        simp only [Bool.and_eq_true] at this
        exact this
      have n1 : nmV V p = nam V N p := by rw [nam, if_pos ⟨by omega, hVp.1⟩]
      have n2 : nmV V q = nam V N q := by rw [nam, if_pos ⟨by omega, hVp.2⟩]
      rw [n1, n2] at hap
      have hlp : pl.length + 1 = (pl ++ [(((nam V N p : Nat) : Int), ((nam V N q : Nat) : Int))]).length := by simp
      have hxp : prs pl ++ pr (((nam V N p : Nat) : Int), ((nam V N q : Nat) : Int)) = prs (pl ++ [(((nam V N p : Nat) : Int), ((nam V N q : Nat) : Int))]) := by simp [prs]
      refine WC.mid (Option Addr × Nat) (fun (a', c') => [(1, .int .i64 (C : Nat)), (7, .pointer (some ⟨b7, 0, none⟩)), (9, .int .i64 (A : Nat)), (11, .slice al lr.length cl), (12, .slice ao on.length co), (13, .slice a2 wl2.length c2), (14, .slice a' (pl ++ [(((nam V N p : Nat) : Int), ((nam V N q : Nat) : Int))]).length c'), (18, .pointer (some ⟨b18, 0, none⟩)), (20, .int .i64 (nmV V N : Nat)), (21, .pointer (some ⟨b21, 0, none⟩)), (23, .int .i64 (j : Nat))])
        (fun (a', c') w' => Hp w w' ([.row 50 2 (.slice a2 wl2.length c2) wl2.length (prs wl2), .row 50 2 (.slice a' (pl ++ [(((nam V N p : Nat) : Int), ((nam V N q : Nat) : Int))]).length c') (pl ++ [(((nam V N p : Nat) : Int), ((nam V N q : Nat) : Int))]).length (prs (pl ++ [(((nam V N p : Nat) : Int), ((nam V N q : Nat) : Int))])), .blk b21 (.cells (ints (fl 20 (nam V N))).toArray 53 (0, 0)), .blk b18 (.cells (gv (gon A fs)).toArray 52 (0, 0)), .row 50 2 (.slice ao on.length co) on.length (prs on), .row 50 2 (.slice al lr.length cl) lr.length (prs lr)] ++ FF b7 be oe N c fs)) ?_ ?_
      · refine WC.regH (fun w' => Hp w w' ([.blk b21 (.cells (ints (fl 20 (nam V N))).toArray 53 (0, 0)), .blk b18 (.cells (gv (gon A fs)).toArray 52 (0, 0)), .row 50 2 (.slice ao on.length co) on.length (prs on), .row 50 2 (.slice al lr.length cl) lr.length (prs lr)] ++ FF b7 be oe N c fs)) mixed (by kernel_rfl) (fun wE hwE hhE => ?_)
        have hpE := hpD.keep hwE
        have hSE := hpE.tail.tail
        refine WH.pure 0 (by kernel_rfl) rfl (by kernel_rfl) rfl rfl rfl hSE ?_
        refine WH.pure 1 (by kernel_rfl) rfl (by kernel_rfl) rfl rfl rfl hSE ?_
        refine WH.ixA 2 (by kernel_rfl) rfl (by kernel_rfl) rfl rfl rfl rfl rfl rfl (show p < 20 by omega) hSE ?_
        refine WH.load 3 (by kernel_rfl) rfl (by kernel_rfl) rfl rfl rfl rfl rfl (fun w' h => cN w' h p (by omega)) hSE ?_
        refine WH.pure 4 (by kernel_rfl) rfl (by kernel_rfl) rfl rfl rfl hSE ?_
        refine WH.ixA 5 (by kernel_rfl) rfl (by kernel_rfl) rfl rfl rfl rfl rfl rfl (show q < 20 by omega) hSE ?_
        refine WH.load 6 (by kernel_rfl) rfl (by kernel_rfl) rfl rfl rfl rfl rfl (fun w' h => cN w' h q (by omega)) hSE ?_
        refine WH.one 7 rfl (by kernel_rfl) (WL.buildA (cs := pr (((nam V N p : Nat) : Int), ((nam V N q : Nat) : Int))) rfl rfl rfl rfl rfl rfl (WL.nil ⟨hSE, ?_⟩))
        refine WH.one 8 rfl (by kernel_rfl) ?_
        refine WL.buildS (cs := pr (((nam V N p : Nat) : Int), ((nam V N q : Nat) : Int))) rfl rfl rfl rfl rfl rfl rfl rfl rfl ?_
        intro bs wF hbs
        have hpF := hpE.new hbs
        refine WL.nil ⟨hpF.tail.tail.tail, ?_⟩
        refine WH.one 9 rfl (by kernel_rfl) ?_
        refine WL.append 2 hpF rfl rfl rfl rfl rfl (by decide) rfl rfl rfl (news := pr (((nam V N p : Nat) : Int), ((nam V N q : Nat) : Int))) (Sl.of_obj (hpF.obj 0 rfl) (fun q u hq => by simpa using hq)) rfl (pr_cells _) (by unfold maxLen; omega) (by show (pl.length + 1) * 16 ≤ _; omega) ?_
        intro a' c' wG hpG hgG
        have hpG := hpG.tail
        rw [hlp, hxp] at hpG
        rw [hlp]
        refine WL.nil ⟨hpG.tail.tail, ?_⟩
        refine WH.one 10 rfl (by kernel_rfl) (WL.pure rfl rfl rfl (WL.nil ⟨hpG.tail.tail, WH.done (by kernel_rfl) ?_⟩))
        exact ⟨(a', c'), ⟨rfl, rfl, rfl, rfl, rfl, rfl, rfl, rfl, rfl, rfl, rfl, rfl⟩, hpG⟩
      rintro ⟨a', c'⟩ eF wF hsub hpF
      refine WC.sub hsub ?_
      clear hsub
      repeat (first | refine WC.seq ?_ | refine WC.reg ?_ | refine WL.pure rfl rfl rfl ?_ | refine WL.nil ?_ | refine WC.skip ?_ | refine WC.block ?_ | refine WC.condT rfl ?_ | refine WC.condF rfl ?_ | refine WL.off rfl rfl rfl ?_ | refine WL.off0 rfl rfl ?_ | refine WC.exit ?_ | refine blk_hit ?_ | refine blk_miss rfl ?_ | refine WC.ret ?_)
      exact ⟨(j + 1, (wl2, a2, c2), (_, a', c')), by show fs.length - (j + 1) < fs.length - j; omega, ⟨rfl, rfl, rfl, rfl, rfl, rfl, rfl, rfl, rfl, rfl, congrArg (fun z => some (Value.int .i64 z)) step, rfl⟩, hj, hwl2, hap.symm, hpF⟩
    · rw [hq2] at hr
      rw [if_neg (by rw [← hr]; decide), List.append_nil] at hap
      repeat (first | refine WC.seq ?_ | refine WC.reg ?_ | refine WL.pure rfl rfl rfl ?_ | refine WL.nil ?_ | refine WC.skip ?_ | refine WC.block ?_ | refine WC.condT rfl ?_ | refine WC.condF rfl ?_ | refine WL.off rfl rfl rfl ?_ | refine WL.off0 rfl rfl ?_ | refine WC.exit ?_ | refine blk_hit ?_ | refine blk_miss rfl ?_ | refine WC.ret ?_)
      exact ⟨(j + 1, (wl2, a2, c2), (pl, a14, c14)), by show fs.length - (j + 1) < fs.length - j; omega, ⟨rfl, rfl, rfl, rfl, rfl, rfl, rfl, rfl, rfl, rfl, congrArg (fun z => some (Value.int .i64 z)) step, rfl⟩, hj, hwl2, hap.symm, hpD⟩
  have hj : j = fs.length := by have := of_decide_eq_false hc; omega
  subst hj
  clear hc
  rw [List.take_length] at hwl hpl
  obtain ⟨h1, h2, m1, m2, hI⟩ := nI_lists hmk (show A < N by omega) (V := V) (fun v hv => by rw [hV1]; exact hVs v hv)
  have m1 : mkG ((N - 1 : Nat) : Int) wl = some h1 := by rw [hwl]; exact m1
  have m2 : mkG ((nmV V N : Nat) : Int) pl = some h2 := by rw [hpl]; exact m2
  have hcol := col_contract hmk hmk1 hmk2 hCon C
  have hcb : colD (Ind g') C (full g'.length) < 9223372036854775808 := colD_lt _ (by omega) (by have := lt_pow16 (mkG_gr hmk1).1.len (full_lt g'.length); omega)
  have hIb := nI_le hmk
  have v1 := colV_of hmk (k := C) (by omega)
  have v2 := colV_of hmk1 (k := C) (by omega)
  have v3 := colV_of hmk2 (k := C) (by omega)
  obtain ⟨y1, v4⟩ := apV_of hmk
  obtain ⟨y2, v5⟩ := apV_of m1
  obtain ⟨y3, v6⟩ := apV_of m2
  have lon := (mkG_gr hmk2).2.2.2.2
  have llr := (mkG_gr hmk1).2.2.2.2
  have lwl := (mkG_gr m1).2.2.2.2
  have lpl := (mkG_gr m2).2.2.2.2
  generalize colD (Ind g') C (full g'.length) = X2 at *
  generalize colD (Ind g) C (full g.length) = X1 at *
  generalize colD (Ind h) C (full h.length) = X3 at *
  generalize nI g = Y1 at *
  generalize nI h1 = Y2 at *
  generalize nI h2 = Y3 at *
  have ec : IntKind.i64.wrap ((X1 : Int) + (X3 : Int)) = (X2 : Int) := by rw [wrap_i64_in (by omega) (by omega)]; omega
  have ei : IntKind.i64.wrap ((Y2 : Int) + (Y3 : Int)) = (Y1 : Int) := by rw [wrap_i64_in (by omega) (by omega)]; omega
  obtain ⟨hB1, sF1, _, _, _⟩ := FF_cells hpB
  repeat (first | refine WC.seq ?_ | refine WC.reg ?_ | refine WL.pure rfl rfl rfl ?_ | refine WL.nil ?_ | refine WC.skip ?_ | refine WC.block ?_ | refine WC.condT rfl ?_ | refine WC.condF rfl ?_ | refine WL.off rfl rfl rfl ?_ | refine WL.off0 rfl rfl ?_ | refine WC.exit ?_ | refine blk_hit ?_ | refine blk_miss rfl ?_ | refine WC.ret ?_)
  refine WL.loadB rfl rfl rfl rfl rfl hB1 rfl ?_
  repeat (first | refine WC.seq ?_ | refine WC.reg ?_ | refine WL.pure rfl rfl rfl ?_ | refine WL.nil ?_ | refine WC.skip ?_ | refine WC.block ?_ | refine WC.condT rfl ?_ | refine WC.condF rfl ?_ | refine WL.off rfl rfl rfl ?_ | refine WL.off0 rfl rfl ?_ | refine WC.exit ?_ | refine blk_hit ?_ | refine blk_miss rfl ?_ | refine WC.ret ?_)
  refine WL.loadB rfl rfl rfl rfl rfl hB1 rfl ?_
  repeat (first | refine WC.seq ?_ | refine WC.reg ?_ | refine WL.pure rfl rfl rfl ?_ | refine WL.nil ?_ | refine WC.skip ?_ | refine WC.block ?_ | refine WC.condT rfl ?_ | refine WC.condF rfl ?_ | refine WL.off rfl rfl rfl ?_ | refine WL.off0 rfl rfl ?_ | refine WC.exit ?_ | refine blk_hit ?_ | refine blk_miss rfl ?_ | refine WC.ret ?_)
  refine WL.call rfl rfl rfl rfl rfl ent14 (Colour_any _ c _ fs (C : Nat) wB sF1 hf62 (hT.below hpB.below)) ?_
  rintro _ q1 ⟨hq1, rfl⟩
  rw [v1]
  have hq1 := hpB.call hq1.below
  obtain ⟨hB1, sF1, _, _, _⟩ := FF_cells hq1
  repeat (first | refine WC.seq ?_ | refine WC.reg ?_ | refine WL.pure rfl rfl rfl ?_ | refine WL.nil ?_ | refine WC.skip ?_ | refine WC.block ?_ | refine WC.condT rfl ?_ | refine WC.condF rfl ?_ | refine WL.off rfl rfl rfl ?_ | refine WL.off0 rfl rfl ?_ | refine WC.exit ?_ | refine blk_hit ?_ | refine blk_miss rfl ?_ | refine WC.ret ?_)
  refine WL.loadB rfl rfl rfl rfl rfl hB1 rfl ?_
  repeat (first | refine WC.seq ?_ | refine WC.reg ?_ | refine WL.pure rfl rfl rfl ?_ | refine WL.nil ?_ | refine WC.skip ?_ | refine WC.block ?_ | refine WC.condT rfl ?_ | refine WC.condF rfl ?_ | refine WL.off rfl rfl rfl ?_ | refine WL.off0 rfl rfl ?_ | refine WC.exit ?_ | refine blk_hit ?_ | refine blk_miss rfl ?_ | refine WC.ret ?_)
  refine WL.call rfl rfl rfl rfl rfl ent14 (Colour_any al cl _ lr (C : Nat) q1 (Sl.of_row (hq1.at 5 rfl)) (by omega) (hT.below hq1.below)) ?_
  rintro _ q2 ⟨hq2, rfl⟩
  rw [v2]
  have hq2 := hq1.call hq2.below
  obtain ⟨hB1, sF1, _, _, _⟩ := FF_cells hq2
  repeat (first | refine WC.seq ?_ | refine WC.reg ?_ | refine WL.pure rfl rfl rfl ?_ | refine WL.nil ?_ | refine WC.skip ?_ | refine WC.block ?_ | refine WC.condT rfl ?_ | refine WC.condF rfl ?_ | refine WL.off rfl rfl rfl ?_ | refine WL.off0 rfl rfl ?_ | refine WC.exit ?_ | refine blk_hit ?_ | refine blk_miss rfl ?_ | refine WC.ret ?_)
  refine WL.loadB rfl rfl rfl rfl rfl hB1 rfl ?_
  repeat (first | refine WC.seq ?_ | refine WC.reg ?_ | refine WL.pure rfl rfl rfl ?_ | refine WL.nil ?_ | refine WC.skip ?_ | refine WC.block ?_ | refine WC.condT rfl ?_ | refine WC.condF rfl ?_ | refine WL.off rfl rfl rfl ?_ | refine WL.off0 rfl rfl ?_ | refine WC.exit ?_ | refine blk_hit ?_ | refine blk_miss rfl ?_ | refine WC.ret ?_)
  refine WL.known (d := 274) (congrArg (fun z => some (Value.int .i64 z)) en) ?_
  repeat (first | refine WC.seq ?_ | refine WC.reg ?_ | refine WL.pure rfl rfl rfl ?_ | refine WL.nil ?_ | refine WC.skip ?_ | refine WC.block ?_ | refine WC.condT rfl ?_ | refine WC.condF rfl ?_ | refine WL.off rfl rfl rfl ?_ | refine WL.off0 rfl rfl ?_ | refine WC.exit ?_ | refine blk_hit ?_ | refine blk_miss rfl ?_ | refine WC.ret ?_)
  refine WL.call rfl rfl rfl rfl rfl ent14 (Colour_any ao co _ on (C : Nat) q2 (Sl.of_row (hq2.at 4 rfl)) (by omega) (hT.below hq2.below)) ?_
  rintro _ q3 ⟨hq3, rfl⟩
  rw [v3]
  have hq3 := hq2.call hq3.below
  obtain ⟨hB1, sF1, _, _, _⟩ := FF_cells hq3
  repeat (first | refine WC.seq ?_ | refine WC.reg ?_ | refine WL.pure rfl rfl rfl ?_ | refine WL.nil ?_ | refine WC.skip ?_ | refine WC.block ?_ | refine WC.condT rfl ?_ | refine WC.condF rfl ?_ | refine WL.off rfl rfl rfl ?_ | refine WL.off0 rfl rfl ?_ | refine WC.exit ?_ | refine blk_hit ?_ | refine blk_miss rfl ?_ | refine WC.ret ?_)
  refine WL.loadB rfl rfl rfl rfl rfl hB1 rfl ?_
  repeat (first | refine WC.seq ?_ | refine WC.reg ?_ | refine WL.pure rfl rfl rfl ?_ | refine WL.nil ?_ | refine WC.skip ?_ | refine WC.block ?_ | refine WC.condT rfl ?_ | refine WC.condF rfl ?_ | refine WL.off rfl rfl rfl ?_ | refine WL.off0 rfl rfl ?_ | refine WC.exit ?_ | refine blk_hit ?_ | refine blk_miss rfl ?_ | refine WC.ret ?_)
  refine WL.loadB rfl rfl rfl rfl rfl hB1 rfl ?_
  repeat (first | refine WC.seq ?_ | refine WC.reg ?_ | refine WL.pure rfl rfl rfl ?_ | refine WL.nil ?_ | refine WC.skip ?_ | refine WC.block ?_ | refine WC.condT rfl ?_ | refine WC.condF rfl ?_ | refine WL.off rfl rfl rfl ?_ | refine WL.off0 rfl rfl ?_ | refine WC.exit ?_ | refine blk_hit ?_ | refine blk_miss rfl ?_ | refine WC.ret ?_)
  refine WL.call rfl rfl rfl rfl rfl ent16 (Apart_any _ c _ fs q3 sF1 hf62 (hT.below hq3.below)) ?_
  rintro _ q4 ⟨hq4, rfl⟩
  rw [v4]
  have hq4 := hq3.call hq4.below
  obtain ⟨hB1, sF1, _, _, _⟩ := FF_cells hq4
  repeat (first | refine WC.seq ?_ | refine WC.reg ?_ | refine WL.pure rfl rfl rfl ?_ | refine WL.nil ?_ | refine WC.skip ?_ | refine WC.block ?_ | refine WC.condT rfl ?_ | refine WC.condF rfl ?_ | refine WL.off rfl rfl rfl ?_ | refine WL.off0 rfl rfl ?_ | refine WC.exit ?_ | refine blk_hit ?_ | refine blk_miss rfl ?_ | refine WC.ret ?_)
  refine WL.loadB rfl rfl rfl rfl rfl hB1 rfl ?_
  repeat (first | refine WC.seq ?_ | refine WC.reg ?_ | refine WL.pure rfl rfl rfl ?_ | refine WL.nil ?_ | refine WC.skip ?_ | refine WC.block ?_ | refine WC.condT rfl ?_ | refine WC.condF rfl ?_ | refine WL.off rfl rfl rfl ?_ | refine WL.off0 rfl rfl ?_ | refine WC.exit ?_ | refine blk_hit ?_ | refine blk_miss rfl ?_ | refine WC.ret ?_)
  refine WL.known (d := 292) (congrArg (fun z => some (Value.int .i64 z)) en) ?_
  repeat (first | refine WC.seq ?_ | refine WC.reg ?_ | refine WL.pure rfl rfl rfl ?_ | refine WL.nil ?_ | refine WC.skip ?_ | refine WC.block ?_ | refine WC.condT rfl ?_ | refine WC.condF rfl ?_ | refine WL.off rfl rfl rfl ?_ | refine WL.off0 rfl rfl ?_ | refine WC.exit ?_ | refine blk_hit ?_ | refine blk_miss rfl ?_ | refine WC.ret ?_)
  refine WL.call rfl rfl rfl rfl rfl ent16 (Apart_any a13 c13 _ wl q4 (Sl.of_row (hq4.at 0 rfl)) (by omega) (hT.below hq4.below)) ?_
  rintro _ q5 ⟨hq5, rfl⟩
  rw [v5]
  have hq5 := hq4.call hq5.below
  repeat (first | refine WC.seq ?_ | refine WC.reg ?_ | refine WL.pure rfl rfl rfl ?_ | refine WL.nil ?_ | refine WC.skip ?_ | refine WC.block ?_ | refine WC.condT rfl ?_ | refine WC.condF rfl ?_ | refine WL.off rfl rfl rfl ?_ | refine WL.off0 rfl rfl ?_ | refine WC.exit ?_ | refine blk_hit ?_ | refine blk_miss rfl ?_ | refine WC.ret ?_)
  refine WL.call rfl rfl rfl rfl rfl ent16 (Apart_any a14 c14 _ pl q5 (Sl.of_row (hq5.at 1 rfl)) (by omega) (hT.below hq5.below)) ?_
  rintro _ q6 ⟨hq6, rfl⟩
  rw [v6]
  have hq6 := hq5.call hq6.below
  repeat (first | refine WC.seq ?_ | refine WC.reg ?_ | refine WL.pure rfl rfl rfl ?_ | refine WL.nil ?_ | refine WC.skip ?_ | refine WC.block ?_ | refine WC.condT rfl ?_ | refine WC.condF rfl ?_ | refine WL.off rfl rfl rfl ?_ | refine WL.off0 rfl rfl ?_ | refine WC.exit ?_ | refine blk_hit ?_ | refine blk_miss rfl ?_ | refine WC.ret ?_)
  refine WL.split 307 (b := true) (by simp [W.look]) (fun _ => ?_) (fun h => by cases h)
  repeat (first | refine WC.seq ?_ | refine WC.reg ?_ | refine WL.pure rfl rfl rfl ?_ | refine WL.nil ?_ | refine WC.skip ?_ | refine WC.block ?_ | refine WC.condT rfl ?_ | refine WC.condF rfl ?_ | refine WL.off rfl rfl rfl ?_ | refine WL.off0 rfl rfl ?_ | refine WC.exit ?_ | refine blk_hit ?_ | refine blk_miss rfl ?_ | refine WC.ret ?_)
  refine WL.split 311 (b := true) (by simp [W.look]) (fun _ => ?_) (fun h => by cases h)
  repeat (first | refine WC.seq ?_ | refine WC.reg ?_ | refine WL.pure rfl rfl rfl ?_ | refine WL.nil ?_ | refine WC.skip ?_ | refine WC.block ?_ | refine WC.condT rfl ?_ | refine WC.condF rfl ?_ | refine WL.off rfl rfl rfl ?_ | refine WL.off0 rfl rfl ?_ | refine WC.exit ?_ | refine blk_hit ?_ | refine blk_miss rfl ?_ | refine WC.ret ?_)
  refine WL.split 315 (b := true) (by simp [W.look]) (fun _ => ?_) (fun h => by cases h)
  repeat (first | refine WC.seq ?_ | refine WC.reg ?_ | refine WL.pure rfl rfl rfl ?_ | refine WL.nil ?_ | refine WC.skip ?_ | refine WC.block ?_ | refine WC.condT rfl ?_ | refine WC.condF rfl ?_ | refine WL.off rfl rfl rfl ?_ | refine WL.off0 rfl rfl ?_ | refine WC.exit ?_ | refine blk_hit ?_ | refine blk_miss rfl ?_ | refine WC.ret ?_)
  refine WL.split 322 (b := true) (by simp [W.look, ec]) (fun _ => ?_) (fun h => by cases h)
  repeat (first | refine WC.seq ?_ | refine WC.reg ?_ | refine WL.pure rfl rfl rfl ?_ | refine WL.nil ?_ | refine WC.skip ?_ | refine WC.block ?_ | refine WC.condT rfl ?_ | refine WC.condF rfl ?_ | refine WL.off rfl rfl rfl ?_ | refine WL.off0 rfl rfl ?_ | refine WC.exit ?_ | refine blk_hit ?_ | refine blk_miss rfl ?_ | refine WC.ret ?_)
  refine WL.split 326 (b := true) (by simp [W.look]) (fun _ => ?_) (fun h => by cases h)
  repeat (first | refine WC.seq ?_ | refine WC.reg ?_ | refine WL.pure rfl rfl rfl ?_ | refine WL.nil ?_ | refine WC.skip ?_ | refine WC.block ?_ | refine WC.condT rfl ?_ | refine WC.condF rfl ?_ | refine WL.off rfl rfl rfl ?_ | refine WL.off0 rfl rfl ?_ | refine WC.exit ?_ | refine blk_hit ?_ | refine blk_miss rfl ?_ | refine WC.ret ?_)
  refine WL.split 330 (b := true) (by simp [W.look]) (fun _ => ?_) (fun h => by cases h)
  repeat (first | refine WC.seq ?_ | refine WC.reg ?_ | refine WL.pure rfl rfl rfl ?_ | refine WL.nil ?_ | refine WC.skip ?_ | refine WC.block ?_ | refine WC.condT rfl ?_ | refine WC.condF rfl ?_ | refine WL.off rfl rfl rfl ?_ | refine WL.off0 rfl rfl ?_ | refine WC.exit ?_ | refine blk_hit ?_ | refine blk_miss rfl ?_ | refine WC.ret ?_)
  refine WL.split 334 (b := true) (by simp [W.look]) (fun _ => ?_) (fun h => by cases h)
  repeat (first | refine WC.seq ?_ | refine WC.reg ?_ | refine WL.pure rfl rfl rfl ?_ | refine WL.nil ?_ | refine WC.skip ?_ | refine WC.block ?_ | refine WC.condT rfl ?_ | refine WC.condF rfl ?_ | refine WL.off rfl rfl rfl ?_ | refine WL.off0 rfl rfl ?_ | refine WC.exit ?_ | refine blk_hit ?_ | refine blk_miss rfl ?_ | refine WC.ret ?_)
  refine WL.split 341 (b := true) (by simp [W.look, ei]) (fun _ => ?_) (fun h => by cases h)
  repeat (first | refine WC.seq ?_ | refine WC.reg ?_ | refine WL.pure rfl rfl rfl ?_ | refine WL.nil ?_ | refine WC.skip ?_ | refine WC.block ?_ | refine WC.condT rfl ?_ | refine WC.condF rfl ?_ | refine WL.off rfl rfl rfl ?_ | refine WL.off0 rfl rfl ?_ | refine WC.exit ?_ | refine blk_hit ?_ | refine blk_miss rfl ?_ | refine WC.ret ?_)
  refine WL.call rfl rfl rfl rfl rfl ent19 (fin q6 (hT.below hq6.below) (fun w'' h => (hq6.call h.below).nil')) ?_
  rintro _ q7 ⟨rfl, hq7⟩
  repeat (first | refine WC.seq ?_ | refine WC.reg ?_ | refine WL.pure rfl rfl rfl ?_ | refine WL.nil ?_ | refine WC.skip ?_ | refine WC.block ?_ | refine WC.condT rfl ?_ | refine WC.condF rfl ?_ | refine WL.off rfl rfl rfl ?_ | refine WL.off0 rfl rfl ?_ | refine WC.exit ?_ | refine blk_hit ?_ | refine blk_miss rfl ?_ | refine WC.ret ?_)
  exact Res.one rfl rfl rfl ⟨rfl, hq7⟩
end Go.Proofs.YtdnkkflpgebfbaaDoor
