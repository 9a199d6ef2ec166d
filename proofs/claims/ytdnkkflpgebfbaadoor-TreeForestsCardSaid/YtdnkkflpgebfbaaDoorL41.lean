/- The walk of 'TreeOwn'. -/
import Derived.Test.YtdnkkflpgebfbaaDoorL40
namespace Go.W
open Go.RowKit
/-- A store into a row of one's own. -/
theorem WL.storeRow {P : Program} [T : TT P] {ro : Option Nat} {n : Nat} {l0 rest : List Oper} {N : Nor} {Z : Pan} {e : Env} {w w0 : World} {ty : TypeId} {pos : String} {aft : Array Edge} {g : Option (Nat × Bool)}
    {t E : TypeId} {i : TI} {ad x : Operand} {a : Option Addr} {b o j m c : Nat} {xs : List Value} {v : Value} {L : List Ent} (q : Nat) (hp : Hp w0 w L) (hg : grd l0 e g = some true) (ht : T.ti t = some i) (h1 : i.size = 1)
    (hq : L[q]? = some (.row E 1 (.slice a m c) m xs)) (hj : j < m) (ha : a = some ⟨b, o, none⟩) (had : opv e ad = some (.pointer (some ⟨b, o + j, none⟩))) (hx : opv e x = some v) (hv : v.oneCell' = true)
    (h : ∀ w', Hp w0 w' (L.set q (.row E 1 (.slice a m c) m (xs.set j v))) → WL P ro n l0 N Z rest e w') : WL P ro n l0 N Z (⟨none, .store t ad x, ty, pos, aft, g⟩ :: rest) e w := by
  have hs := hp.sat _ (List.mem_of_getElem? hq)
  obtain ⟨hl, ⟨hv0, hn⟩ | ⟨gb, cap, cur, hv0, hb, hh, hnc, hcm, hcs, htk⟩⟩ := hs
  · omega
  · simp only [Value.slice.injEq] at hv0
    obtain ⟨ea, _, rfl⟩ := hv0
    rw [ha] at ea
    simp only [Option.some.injEq, Addr.mk.injEq] at ea
    obtain ⟨rfl, rfl, _⟩ := ea
    rw [Nat.zero_add] at had
    subst ha
    refine WL.store hg ht h1 had hx hv hh (by omega) (fun w' hw' => h w' ?_)
    refine hp.repl q (x := .row E 1 (.slice (some ⟨b, 0, none⟩) m c) m xs) (y := .row E 1 (.slice (some ⟨b, 0, none⟩) m c) m (xs.set j v)) (by rw [nth_eq]; exact hq) rfl hw'.grown (fun k hk => by simp only [Option.some.injEq] at hk; rw [← hk]; rfl) ?_ (fun k hk => .inl hk)
    refine ⟨by rw [List.length_set]; exact hl, .inr ⟨b, c, cur.setIfInBounds j v, rfl, hb, hw'.at_, hnc, hcm, by simpa using hcs, ?_⟩⟩
    rw [Array.toList_setIfInBounds, Nat.mul_one, List.take_set]
    rw [Nat.mul_one] at htk
    rw [htk]
end Go.W
namespace Go.Proofs.YtdnkkflpgebfbaaDoor
open Go.W Go.Tree
set_option maxRecDepth 100000
attribute [local irreducible] WC WL WQ WS WH

/-- Rows for bags, whatever they hold. -/
def RowsOf (bl : List Bag) (rows : List Ent) : Prop := rows.length = bl.length ∧ ∀ (i : Nat) (b : Bag), bl[i]? = some b → ∃ xs, rows[i]? = some (.row 3 1 (.slice b.1 b.2.2.length b.2.1) b.2.2.length xs)
theorem rowsOf_start (bl : List Bag) : RowsOf bl (bl.map bagE) := ⟨by simp, fun i b h => ⟨_, by simp [h]; rfl⟩⟩
theorem rowsOf_set {bl : List Bag} {rows : List Ent} (h : RowsOf bl rows) {i : Nat} {b : Bag} (hb : bl[i]? = some b) (ys : List Value) : RowsOf bl (rows.set i (.row 3 1 (.slice b.1 b.2.2.length b.2.1) b.2.2.length ys)) := by
  refine ⟨by rw [List.length_set]; exact h.1, fun j c hc => ?_⟩
  by_cases hij : i = j
  · subst hij
    rw [hb] at hc
    simp only [Option.some.injEq] at hc
    subst hc
    have := (List.getElem?_eq_some_iff.1 hb).1
    exact ⟨ys, by rw [List.getElem?_set_self (by rw [h.1]; exact this)]⟩
  · obtain ⟨xs, hx⟩ := h.2 j c hc
    exact ⟨xs, by rw [List.getElem?_set_ne hij]; exact hx⟩

theorem TreeOwn_any (ea : Option Addr) (ce : Nat) (n : Int) (es : List Ed) (w : World) (hs : Sl w ea (prs es)) (hT : Tb w) :
    Ret Tryd.prog 8 [.agg #[.int .i64 n, .slice ea es.length ce]] w fun v w' => v = .bool true ∧ Hp w w' [] := by
  refine enter Tryd.func8 rfl rfl ⟨rfl, rfl⟩ rfl ?_
  repeat (first | refine WC.seq ?_ | refine WC.reg ?_ | refine WL.pure rfl rfl rfl ?_ | refine WL.nil ?_ | refine WC.skip ?_ | refine WC.block ?_ | refine WC.condT rfl ?_ | refine WC.condF rfl ?_ | refine WL.off rfl rfl rfl ?_ | refine WL.off0 rfl rfl ?_ | refine WC.exit ?_ | refine blk_hit ?_ | refine blk_miss rfl ?_ | refine WC.ret ?_)
  refine WL.box rfl rfl rfl ?_
  intro b2 w1 hb2
  have hp1 := (Hp.start w).new hb2
  repeat (first | refine WC.seq ?_ | refine WC.reg ?_ | refine WL.pure rfl rfl rfl ?_ | refine WL.nil ?_ | refine WC.skip ?_ | refine WC.block ?_ | refine WC.condT rfl ?_ | refine WC.condF rfl ?_ | refine WL.off rfl rfl rfl ?_ | refine WL.off0 rfl rfl ?_ | refine WC.exit ?_ | refine blk_hit ?_ | refine blk_miss rfl ?_ | refine WC.ret ?_)
  refine WL.loadN (cs := [.int .i64 n, .slice ea es.length ce]) rfl rfl rfl rfl rfl rfl (fun j v hj => cell_of_obj (hp1.obj 0 rfl) (by rw [Nat.zero_add]; simpa [Value.cells] using hj)) ?_
  refine WL.call rfl rfl rfl rfl rfl ent24 (tame_any ea ce n es 10 (by omega) w1 (hs.hp hp1)) ?_
  rintro _ w2 ⟨N, fs, g, a, c, hN, hmk, rfl, hp2⟩
  have hp2 := (hp1.comb hp2).swap.tail
  obtain ⟨hg, hgn, _, _, hf100⟩ := mkG_gr hmk
  have hgn : g.length = N := by simpa using hgn
  subst hgn
  have hn := hg.len
  have hf62 : fs.length ≤ 4611686018427387904 := by omega
  have hfc : fs.length ≤ c := row_cap (hp2.at 0 rfl)
  have hbol := bestO_len hg
  refine WL.var rfl rfl rfl (fun _ => rfl) rfl rfl (show ∀ u ∈ [Value.int .i64 (g.length : Nat), .slice a fs.length c], u.oneCell' = true from Cells.cons rfl (Cells.cons rfl Cells.nil)) ?_
  intro b3 w3 hb3
  have hp3 := hp2.new hb3
  have hB3 := hp3.obj 0 rfl
  repeat (first | refine WC.seq ?_ | refine WC.reg ?_ | refine WL.pure rfl rfl rfl ?_ | refine WL.nil ?_ | refine WC.skip ?_ | refine WC.block ?_ | refine WC.condT rfl ?_ | refine WC.condF rfl ?_ | refine WL.off rfl rfl rfl ?_ | refine WL.off0 rfl rfl ?_ | refine WC.exit ?_ | refine blk_hit ?_ | refine blk_miss rfl ?_ | refine WC.ret ?_)
  refine WL.loadB rfl rfl rfl rfl rfl hB3 rfl ?_
  refine WL.call rfl rfl rfl rfl rfl ent13 (lines_any a c fs w3 (Sl.of_row (hp3.at 1 rfl)) hfc) ?_
  rintro _ w4 ⟨a4, c4, hp4, rfl⟩
  have htk : fs.take 101 = fs := List.take_of_length_le (by omega)
  rw [htk] at hp4 ⊢
  have hp4 : Hp w w4 [.row 50 2 (.slice a4 fs.length c4) fs.length (prs fs), .blk b3 (.cells #[.int .i64 (g.length : Nat), .slice a fs.length c] 24 (0, 0)), .row 50 2 (.slice a fs.length c) fs.length (prs fs)] := hp3.comb hp4
  generalize hFF : ([.row 50 2 (.slice a4 fs.length c4) fs.length (prs fs), .blk b3 (.cells #[.int .i64 (g.length : Nat), .slice a fs.length c] 24 (0, 0)), .row 50 2 (.slice a fs.length c) fs.length (prs fs)] : List Ent) = F at hp4
  have LF : ∀ w' L, Hp w w' (L ++ F) → w'.heap[b3]? = some (.cells #[.int .i64 (g.length : Nat), .slice a fs.length c] 24 (0, 0)) ∧ Sl w' a (prs fs) ∧ Sl w' a4 (prs fs) ∧ Tb w' := by
    intro w' L h
    rw [← hFF] at h
    exact ⟨(h.sat (.blk b3 (.cells #[.int .i64 (g.length : Nat), .slice a fs.length c] 24 (0, 0))) (by simp)).2, Sl.of_row (h.sat (.row 50 2 (.slice a fs.length c) fs.length (prs fs)) (by simp)), Sl.of_row (h.sat (.row 50 2 (.slice a4 fs.length c4) fs.length (prs fs)) (by simp)), hT.below h.below⟩
  obtain ⟨hB, sF, sE, hT4⟩ := LF w4 [] hp4
  repeat (first | refine WC.seq ?_ | refine WC.reg ?_ | refine WL.pure rfl rfl rfl ?_ | refine WL.nil ?_ | refine WC.skip ?_ | refine WC.block ?_ | refine WC.condT rfl ?_ | refine WC.condF rfl ?_ | refine WL.off rfl rfl rfl ?_ | refine WL.off0 rfl rfl ?_ | refine WC.exit ?_ | refine blk_hit ?_ | refine blk_miss rfl ?_ | refine WC.ret ?_)
  refine WL.loadB rfl rfl rfl rfl rfl hB rfl ?_
  repeat (first | refine WC.seq ?_ | refine WC.reg ?_ | refine WL.pure rfl rfl rfl ?_ | refine WL.nil ?_ | refine WC.skip ?_ | refine WC.block ?_ | refine WC.condT rfl ?_ | refine WC.condF rfl ?_ | refine WL.off rfl rfl rfl ?_ | refine WL.off0 rfl rfl ?_ | refine WC.exit ?_ | refine blk_hit ?_ | refine blk_miss rfl ?_ | refine WC.ret ?_)
  refine WL.loadB rfl rfl rfl rfl rfl hB rfl ?_
  refine WL.call rfl rfl rfl rfl rfl ent25 (Decompose_any a c _ fs w4 sF hf62 hT4) ?_
  intro v5 w5 hD
  unfold DecIs at hD
  rw [hmk] at hD
  obtain ⟨bl, ab, cb, al, cl, hbl, hp5, rfl⟩ := hD
  have hp5 := hp4.comb hp5
  repeat (first | refine WC.seq ?_ | refine WC.reg ?_ | refine WL.pure rfl rfl rfl ?_ | refine WL.nil ?_ | refine WC.skip ?_ | refine WC.block ?_ | refine WC.condT rfl ?_ | refine WC.condF rfl ?_ | refine WL.off rfl rfl rfl ?_ | refine WL.off0 rfl rfl ?_ | refine WC.exit ?_ | refine blk_hit ?_ | refine blk_miss rfl ?_ | refine WC.ret ?_)
  refine WL.var rfl rfl rfl (fun _ => rfl) rfl rfl (show ∀ u ∈ [Value.slice ab bl.length cb, .slice al (linksOf g).length cl], u.oneCell' = true from Cells.cons rfl (Cells.cons rfl Cells.nil)) ?_
  intro b5 w6 hb5
  have hp6 : Hp w w6 (.blk b5 (.cells #[.slice ab bl.length cb, .slice al (linksOf g).length cl] 46 (0, 0)) :: ((.row 32 1 (.slice ab bl.length cb) bl.length (bl.map bagV) :: .row 50 2 (.slice al (linksOf g).length cl) (linksOf g).length (prs (linksOf g)) :: bl.map bagE) ++ F)) := hp5.new hb5
  obtain ⟨hB, sF, sE, hT6⟩ := LF w6 (.blk b5 _ :: (.row 32 1 (.slice ab bl.length cb) bl.length (bl.map bagV) :: .row 50 2 (.slice al (linksOf g).length cl) (linksOf g).length (prs (linksOf g)) :: bl.map bagE)) hp6
  repeat (first | refine WC.seq ?_ | refine WC.reg ?_ | refine WL.pure rfl rfl rfl ?_ | refine WL.nil ?_ | refine WC.skip ?_ | refine WC.block ?_ | refine WC.condT rfl ?_ | refine WC.condF rfl ?_ | refine WL.off rfl rfl rfl ?_ | refine WL.off0 rfl rfl ?_ | refine WC.exit ?_ | refine blk_hit ?_ | refine blk_miss rfl ?_ | refine WC.ret ?_)
  refine WL.loadB rfl rfl rfl rfl rfl hB rfl ?_
  repeat (first | refine WC.seq ?_ | refine WC.reg ?_ | refine WL.pure rfl rfl rfl ?_ | refine WL.nil ?_ | refine WC.skip ?_ | refine WC.block ?_ | refine WC.condT rfl ?_ | refine WC.condF rfl ?_ | refine WL.off rfl rfl rfl ?_ | refine WL.off0 rfl rfl ?_ | refine WC.exit ?_ | refine blk_hit ?_ | refine blk_miss rfl ?_ | refine WC.ret ?_)
  refine WL.loadB rfl rfl rfl rfl rfl hB rfl ?_
  refine WL.call rfl rfl rfl rfl rfl ent28 (Best_any a c _ fs w6 sF hf62 hT6) ?_
  intro v7 w7 hBI
  unfold BestIs at hBI
  rw [hmk] at hBI
  obtain ⟨aB, cB, hp7, rfl⟩ := hBI
  have hp7 : Hp w w7 ([.row 3 1 (.slice aB g.length cB) g.length (ints (bestO g)), .blk b5 (.cells #[.slice ab bl.length cb, .slice al (linksOf g).length cl] 46 (0, 0)), .row 32 1 (.slice ab bl.length cb) bl.length (bl.map bagV), .row 50 2 (.slice al (linksOf g).length cl) (linksOf g).length (prs (linksOf g))] ++ (bl.map bagE ++ F)) := hp6.comb hp7
  have hp7 := Hp.rot _ _ _ hp7
  have hbll : bl.length ≤ 14 := by
    have : bl.length = (bagsOf g).length := by rw [← hbl, List.length_map]
    rw [this]; exact bags_few hg
  have hbsm : ∀ b ∈ bl, b.2.2.length ≤ 16 := fun b hb => bags_small g _ (by rw [← hbl]; exact List.mem_map.2 ⟨b, hb, rfl⟩)
  generalize hMM : ([.row 3 1 (.slice aB g.length cB) g.length (ints (bestO g)), .blk b5 (.cells #[.slice ab bl.length cb, .slice al (linksOf g).length cl] 46 (0, 0)), .row 32 1 (.slice ab bl.length cb) bl.length (bl.map bagV), .row 50 2 (.slice al (linksOf g).length cl) (linksOf g).length (prs (linksOf g))] : List Ent) = M at hp7
  have LM : ∀ w' R, Hp w w' (R ++ (M ++ F)) → w'.heap[b5]? = some (.cells #[.slice ab bl.length cb, .slice al (linksOf g).length cl] 46 (0, 0)) ∧ Sl w' ab (bl.map bagV) := by
    intro w' R h
    rw [← hMM] at h
    exact ⟨(h.sat (.blk b5 (.cells #[.slice ab bl.length cb, .slice al (linksOf g).length cl] 46 (0, 0))) (by simp)).2, Sl.of_row (h.sat (.row 32 1 (.slice ab bl.length cb) bl.length (bl.map bagV)) (by simp))⟩
  repeat (first | refine WC.seq ?_ | refine WC.reg ?_ | refine WL.pure rfl rfl rfl ?_ | refine WL.nil ?_ | refine WC.skip ?_ | refine WC.block ?_ | refine WC.condT rfl ?_ | refine WC.condF rfl ?_ | refine WL.off rfl rfl rfl ?_ | refine WL.off0 rfl rfl ?_ | refine WC.exit ?_ | refine blk_hit ?_ | refine blk_miss rfl ?_ | refine WC.ret ?_)
  refine WC.loop (Nat × List Ent) (fun (i, _) => [(3, .pointer (some ⟨b3, 0, none⟩)), (4, .slice a4 fs.length c4), (5, .pointer (some ⟨b5, 0, none⟩)), (6, .int .i64 (wd g 0)), (7, .int .i64 0), (8, .slice aB g.length cB), (9, .int .i64 0), (10, .int .i64 (i : Nat))])
    (fun (i, rows) w' => i ≤ bl.length ∧ RowsOf bl rows ∧ Hp w w' (rows ++ (M ++ F))) (fun (i, _) => bl.length - i) (0, bl.map bagE) ⟨rfl, rfl, rfl, rfl, rfl, rfl, rfl, rfl, rfl⟩ ⟨Nat.zero_le _, rowsOf_start bl, hp7⟩ ?_
  rintro ⟨i, rows⟩ w8 ⟨hi, hro, hp8⟩
  repeat (first | refine WC.seq ?_ | refine WC.reg ?_ | refine WL.pure rfl rfl rfl ?_ | refine WL.nil ?_ | refine WC.skip ?_ | refine WC.block ?_ | refine WC.condT rfl ?_ | refine WC.condF rfl ?_ | refine WL.off rfl rfl rfl ?_ | refine WL.off0 rfl rfl ?_ | refine WC.exit ?_ | refine blk_hit ?_ | refine blk_miss rfl ?_ | refine WC.ret ?_)
  refine WL.loadB rfl rfl rfl rfl rfl (LM w8 rows hp8).1 rfl ?_
  repeat (first | refine WC.seq ?_ | refine WC.reg ?_ | refine WL.pure rfl rfl rfl ?_ | refine WL.nil ?_ | refine WC.skip ?_ | refine WC.block ?_ | refine WC.condT rfl ?_ | refine WC.condF rfl ?_ | refine WL.off rfl rfl rfl ?_ | refine WL.off0 rfl rfl ?_ | refine WC.exit ?_ | refine blk_hit ?_ | refine blk_miss rfl ?_ | refine WC.ret ?_)
  refine WC.cond rfl (fun hc => ?_) (fun hc => ?_)
  · have hi : i < bl.length := by have := of_decide_eq_true hc; omega
    have step : IntKind.i64.wrap ((i : Int) + 1) = ((i + 1 : Nat) : Int) := by rw [wrap_i64_in (by omega) (by omega)]; omega
    obtain ⟨b, hbi⟩ : ∃ b, bl[i]? = some b := ⟨_, List.getElem?_eq_getElem hi⟩
    have hb16 := hbsm b (List.mem_of_getElem? hbi)
    have hvi := bagV_at hbi
    repeat (first | refine WC.seq ?_ | refine WC.reg ?_ | refine WL.pure rfl rfl rfl ?_ | refine WL.nil ?_ | refine WC.skip ?_ | refine WC.block ?_ | refine WC.condT rfl ?_ | refine WC.condF rfl ?_ | refine WL.off rfl rfl rfl ?_ | refine WL.off0 rfl rfl ?_ | refine WC.exit ?_ | refine blk_hit ?_ | refine blk_miss rfl ?_ | refine WC.ret ?_)
    refine WC.loop (Nat × List Ent) (fun (k, _) => [(3, .pointer (some ⟨b3, 0, none⟩)), (4, .slice a4 fs.length c4), (5, .pointer (some ⟨b5, 0, none⟩)), (6, .int .i64 (wd g 0)), (7, .int .i64 0), (8, .slice aB g.length cB), (9, .int .i64 0), (10, .int .i64 (i : Nat)), (11, .int .i64 (k : Nat))])
      (fun (k, rows) w' => k ≤ b.2.2.length ∧ RowsOf bl rows ∧ Hp w w' (rows ++ (M ++ F))) (fun (k, _) => b.2.2.length - k) (0, rows) ⟨rfl, rfl, rfl, rfl, rfl, rfl, rfl, rfl, rfl, rfl⟩ ⟨Nat.zero_le _, hro, hp8⟩ ?_
    rintro ⟨k, rows⟩ w9 ⟨hk, hro, hp9⟩
    obtain ⟨hB5, sA⟩ := LM w9 rows hp9
    repeat (first | refine WC.seq ?_ | refine WC.reg ?_ | refine WL.pure rfl rfl rfl ?_ | refine WL.nil ?_ | refine WC.skip ?_ | refine WC.block ?_ | refine WC.condT rfl ?_ | refine WC.condF rfl ?_ | refine WL.off rfl rfl rfl ?_ | refine WL.off0 rfl rfl ?_ | refine WC.exit ?_ | refine blk_hit ?_ | refine blk_miss rfl ?_ | refine WC.ret ?_)
    refine WL.loadB rfl rfl rfl rfl rfl hB5 rfl ?_
    repeat (first | refine WC.seq ?_ | refine WC.reg ?_ | refine WL.pure rfl rfl rfl ?_ | refine WL.nil ?_ | refine WC.skip ?_ | refine WC.block ?_ | refine WC.condT rfl ?_ | refine WC.condF rfl ?_ | refine WL.off rfl rfl rfl ?_ | refine WL.off0 rfl rfl ?_ | refine WC.exit ?_ | refine blk_hit ?_ | refine blk_miss rfl ?_ | refine WC.ret ?_)
    refine WL.ixload rfl (fun _ => rfl) rfl rfl rfl rfl rfl rfl rfl hi rfl rfl sA hvi ?_
    intro p1
    repeat (first | refine WC.seq ?_ | refine WC.reg ?_ | refine WL.pure rfl rfl rfl ?_ | refine WL.nil ?_ | refine WC.skip ?_ | refine WC.block ?_ | refine WC.condT rfl ?_ | refine WC.condF rfl ?_ | refine WL.off rfl rfl rfl ?_ | refine WL.off0 rfl rfl ?_ | refine WC.exit ?_ | refine blk_hit ?_ | refine blk_miss rfl ?_ | refine WC.ret ?_)
    refine WC.cond rfl (fun hc2 => ?_) (fun hc2 => ?_)
    · have hk : k < b.2.2.length := by have := of_decide_eq_true hc2; omega
      have step2 : IntKind.i64.wrap ((k : Int) + 1) = ((k + 1 : Nat) : Int) := by rw [wrap_i64_in (by omega) (by omega)]; omega
      obtain ⟨xs, hx⟩ := hro.2 i b hbi
      have hx2 : (rows ++ (M ++ F))[i]? = some (.row 3 1 (.slice b.1 b.2.2.length b.2.1) b.2.2.length xs) := by rw [List.getElem?_append_left (by rw [hro.1]; exact hi)]; exact hx
      have hsat := hp9.sat _ (List.mem_of_getElem? hx2)
      have hxl : k < xs.length := by have := hsat.1; omega
      obtain ⟨bb, bo, hba⟩ := Sl.some (Sl.of_row hsat) (List.getElem?_eq_getElem hxl)
      have hbv : bagV b = .slice (some ⟨bb, bo, none⟩) b.2.2.length b.2.1 := by unfold bagV; rw [hba]
      rw [hbv] at hvi
      repeat (first | refine WC.seq ?_ | refine WC.reg ?_ | refine WL.pure rfl rfl rfl ?_ | refine WL.nil ?_ | refine WC.skip ?_ | refine WC.block ?_ | refine WC.condT rfl ?_ | refine WC.condF rfl ?_ | refine WL.off rfl rfl rfl ?_ | refine WL.off0 rfl rfl ?_ | refine WC.exit ?_ | refine blk_hit ?_ | refine blk_miss rfl ?_ | refine WC.ret ?_)
      refine WL.loadB rfl rfl rfl rfl rfl hB5 rfl ?_
      repeat (first | refine WC.seq ?_ | refine WC.reg ?_ | refine WL.pure rfl rfl rfl ?_ | refine WL.nil ?_ | refine WC.skip ?_ | refine WC.block ?_ | refine WC.condT rfl ?_ | refine WC.condF rfl ?_ | refine WL.off rfl rfl rfl ?_ | refine WL.off0 rfl rfl ?_ | refine WC.exit ?_ | refine blk_hit ?_ | refine blk_miss rfl ?_ | refine WC.ret ?_)
      refine WL.ixload rfl (fun _ => rfl) rfl rfl rfl rfl rfl rfl rfl hi rfl rfl sA hvi ?_
      intro p2
      repeat (first | refine WC.seq ?_ | refine WC.reg ?_ | refine WL.pure rfl rfl rfl ?_ | refine WL.nil ?_ | refine WC.skip ?_ | refine WC.block ?_ | refine WC.condT rfl ?_ | refine WC.condF rfl ?_ | refine WL.off rfl rfl rfl ?_ | refine WL.off0 rfl rfl ?_ | refine WC.exit ?_ | refine blk_hit ?_ | refine blk_miss rfl ?_ | refine WC.ret ?_)
      refine WL.ix1 rfl rfl rfl rfl rfl rfl rfl (j := k) hk ?_
      refine WL.storeRow i hp9 rfl rfl rfl hx2 hk hba rfl rfl rfl (fun wA hpA => ?_)
      have hset : (rows ++ (M ++ F)).set i (.row 3 1 (.slice b.1 b.2.2.length b.2.1) b.2.2.length (xs.set k (.int .i64 (-1)))) = rows.set i (.row 3 1 (.slice b.1 b.2.2.length b.2.1) b.2.2.length (xs.set k (.int .i64 (-1)))) ++ (M ++ F) := List.set_append_left _ _ (by rw [hro.1]; exact hi)
      rw [hset] at hpA
      repeat (first | refine WC.seq ?_ | refine WC.reg ?_ | refine WL.pure rfl rfl rfl ?_ | refine WL.nil ?_ | refine WC.skip ?_ | refine WC.block ?_ | refine WC.condT rfl ?_ | refine WC.condF rfl ?_ | refine WL.off rfl rfl rfl ?_ | refine WL.off0 rfl rfl ?_ | refine WC.exit ?_ | refine blk_hit ?_ | refine blk_miss rfl ?_ | refine WC.ret ?_)
      exact ⟨(k + 1, _), by show b.2.2.length - (k + 1) < b.2.2.length - k; omega, ⟨rfl, rfl, rfl, rfl, rfl, rfl, rfl, rfl, congrArg (fun z => some (Value.int .i64 z)) step2, rfl⟩, hk, rowsOf_set hro hbi _, hpA⟩
    · repeat (first | refine WC.seq ?_ | refine WC.reg ?_ | refine WL.pure rfl rfl rfl ?_ | refine WL.nil ?_ | refine WC.skip ?_ | refine WC.block ?_ | refine WC.condT rfl ?_ | refine WC.condF rfl ?_ | refine WL.off rfl rfl rfl ?_ | refine WL.off0 rfl rfl ?_ | refine WC.exit ?_ | refine blk_hit ?_ | refine blk_miss rfl ?_ | refine WC.ret ?_)
      exact ⟨(i + 1, rows), by show bl.length - (i + 1) < bl.length - i; omega, ⟨rfl, rfl, rfl, rfl, rfl, rfl, rfl, congrArg (fun z => some (Value.int .i64 z)) step, rfl⟩, hi, hro, hp9⟩
  clear hc
  have hp8 : Hp w w8 (.row 3 1 (.slice aB g.length cB) g.length (ints (bestO g)) :: F) := by
    rw [← hMM] at hp8
    have h1 := Hp.rot _ _ _ hp8
    have h2 : Hp w w8 ([.row 3 1 (.slice aB g.length cB) g.length (ints (bestO g))] ++ F) := by
      have key : ∀ (A B : List Ent) (x : Ent), Hp w w8 (x :: (A ++ (B ++ F))) → Hp w w8 (x :: F) := by
        intro A B x h
        refine ⟨h.below, fun y hy => h.sat y ?_, ?_⟩
        · rcases List.mem_cons.1 hy with hy | hy
          · simp [hy]
          · simp [hy]
        · have hs : (x :: F).Sublist (x :: (A ++ (B ++ F))) := List.Sublist.cons_cons _ ((List.sublist_append_right B F).trans (List.sublist_append_right A _))
          exact h.dist.sublist hs
      exact key [_, _, _] rows _ h1
    exact h2
  repeat (first | refine WC.seq ?_ | refine WC.reg ?_ | refine WL.pure rfl rfl rfl ?_ | refine WL.nil ?_ | refine WC.skip ?_ | refine WC.block ?_ | refine WC.condT rfl ?_ | refine WC.condF rfl ?_ | refine WL.off rfl rfl rfl ?_ | refine WL.off0 rfl rfl ?_ | refine WC.exit ?_ | refine blk_hit ?_ | refine blk_miss rfl ?_ | refine WC.ret ?_)
  refine WC.loop (Nat × List Value) (fun (i, _) => [(3, .pointer (some ⟨b3, 0, none⟩)), (4, .slice a4 fs.length c4), (6, .int .i64 (wd g 0)), (7, .int .i64 0), (8, .slice aB g.length cB), (9, .int .i64 0), (12, .int .i64 (i : Nat))])
    (fun (i, xs) w' => i ≤ g.length ∧ Hp w w' (.row 3 1 (.slice aB g.length cB) g.length xs :: F)) (fun (i, _) => g.length - i) (0, ints (bestO g)) ⟨rfl, rfl, rfl, rfl, rfl, rfl, rfl, rfl⟩ ⟨Nat.zero_le _, hp8⟩ ?_
  rintro ⟨j, xs⟩ w9 ⟨hj, hp9⟩
  repeat (first | refine WC.seq ?_ | refine WC.reg ?_ | refine WL.pure rfl rfl rfl ?_ | refine WL.nil ?_ | refine WC.skip ?_ | refine WC.block ?_ | refine WC.condT rfl ?_ | refine WC.condF rfl ?_ | refine WL.off rfl rfl rfl ?_ | refine WL.off0 rfl rfl ?_ | refine WC.exit ?_ | refine blk_hit ?_ | refine blk_miss rfl ?_ | refine WC.ret ?_)
  refine WC.cond rfl (fun hc => ?_) (fun hc => ?_)
  · have hj : j < g.length := by have := of_decide_eq_true hc; omega
    have step : IntKind.i64.wrap ((j : Int) + 1) = ((j + 1 : Nat) : Int) := by rw [wrap_i64_in (by omega) (by omega)]; omega
    have hsat := hp9.at 0 rfl
    have hxl : j < xs.length := by have := hsat.1; omega
    obtain ⟨bb, bo, rfl⟩ := Sl.some (Sl.of_row hsat) (List.getElem?_eq_getElem hxl)
    repeat (first | refine WC.seq ?_ | refine WC.reg ?_ | refine WL.pure rfl rfl rfl ?_ | refine WL.nil ?_ | refine WC.skip ?_ | refine WC.block ?_ | refine WC.condT rfl ?_ | refine WC.condF rfl ?_ | refine WL.off rfl rfl rfl ?_ | refine WL.off0 rfl rfl ?_ | refine WC.exit ?_ | refine blk_hit ?_ | refine blk_miss rfl ?_ | refine WC.ret ?_)
    refine WL.ix1 rfl rfl rfl rfl rfl rfl rfl (j := j) hj ?_
    refine WL.storeRow 0 hp9 rfl rfl rfl rfl hj rfl rfl rfl rfl (fun wA hpA => ?_)
    repeat (first | refine WC.seq ?_ | refine WC.reg ?_ | refine WL.pure rfl rfl rfl ?_ | refine WL.nil ?_ | refine WC.skip ?_ | refine WC.block ?_ | refine WC.condT rfl ?_ | refine WC.condF rfl ?_ | refine WL.off rfl rfl rfl ?_ | refine WL.off0 rfl rfl ?_ | refine WC.exit ?_ | refine blk_hit ?_ | refine blk_miss rfl ?_ | refine WC.ret ?_)
    exact ⟨(j + 1, _), by show g.length - (j + 1) < g.length - j; omega, ⟨rfl, rfl, rfl, rfl, rfl, rfl, congrArg (fun z => some (Value.int .i64 z)) step, rfl⟩, hj, hpA⟩
  have hp9 := hp9.tail
  clear hc hp8
  obtain ⟨hB, sF, sE, hT9⟩ := LF w9 [] hp9
  repeat (first | refine WC.seq ?_ | refine WC.reg ?_ | refine WL.pure rfl rfl rfl ?_ | refine WL.nil ?_ | refine WC.skip ?_ | refine WC.block ?_ | refine WC.condT rfl ?_ | refine WC.condF rfl ?_ | refine WL.off rfl rfl rfl ?_ | refine WL.off0 rfl rfl ?_ | refine WC.exit ?_ | refine blk_hit ?_ | refine blk_miss rfl ?_ | refine WC.ret ?_)
  refine WL.loadB rfl rfl rfl rfl rfl hB rfl ?_
  repeat (first | refine WC.seq ?_ | refine WC.reg ?_ | refine WL.pure rfl rfl rfl ?_ | refine WL.nil ?_ | refine WC.skip ?_ | refine WC.block ?_ | refine WC.condT rfl ?_ | refine WC.condF rfl ?_ | refine WL.off rfl rfl rfl ?_ | refine WL.off0 rfl rfl ?_ | refine WC.exit ?_ | refine blk_hit ?_ | refine blk_miss rfl ?_ | refine WC.ret ?_)
  refine WL.loadB rfl rfl rfl rfl rfl hB rfl ?_
  refine WL.call rfl rfl rfl rfl rfl ent25 (Decompose_any a c _ fs w9 sF hf62 hT9) ?_
  intro vA wA hD
  unfold DecIs at hD
  rw [hmk] at hD
  obtain ⟨bm, am, cm, an, cn, hbm, hpA, rfl⟩ := hD
  have hpA := hp9.comb hpA
  repeat (first | refine WC.seq ?_ | refine WC.reg ?_ | refine WL.pure rfl rfl rfl ?_ | refine WL.nil ?_ | refine WC.skip ?_ | refine WC.block ?_ | refine WC.condT rfl ?_ | refine WC.condF rfl ?_ | refine WL.off rfl rfl rfl ?_ | refine WL.off0 rfl rfl ?_ | refine WC.exit ?_ | refine blk_hit ?_ | refine blk_miss rfl ?_ | refine WC.ret ?_)
  refine WL.var rfl rfl rfl (fun _ => rfl) rfl rfl (show ∀ u ∈ [Value.slice am bm.length cm, .slice an (linksOf g).length cn], u.oneCell' = true from Cells.cons rfl (Cells.cons rfl Cells.nil)) ?_
  intro b13 wB hb13
  have hpB : Hp w wB (.blk b13 (.cells #[.slice am bm.length cm, .slice an (linksOf g).length cn] 46 (0, 0)) :: ((.row 32 1 (.slice am bm.length cm) bm.length (bm.map bagV) :: .row 50 2 (.slice an (linksOf g).length cn) (linksOf g).length (prs (linksOf g)) :: bm.map bagE) ++ F)) := hpA.new hb13
  obtain ⟨hB, sF, sE, hTB⟩ := LF wB (.blk b13 _ :: (.row 32 1 (.slice am bm.length cm) bm.length (bm.map bagV) :: .row 50 2 (.slice an (linksOf g).length cn) (linksOf g).length (prs (linksOf g)) :: bm.map bagE)) hpB
  repeat (first | refine WC.seq ?_ | refine WC.reg ?_ | refine WL.pure rfl rfl rfl ?_ | refine WL.nil ?_ | refine WC.skip ?_ | refine WC.block ?_ | refine WC.condT rfl ?_ | refine WC.condF rfl ?_ | refine WL.off rfl rfl rfl ?_ | refine WL.off0 rfl rfl ?_ | refine WC.exit ?_ | refine blk_hit ?_ | refine blk_miss rfl ?_ | refine WC.ret ?_)
  refine WL.loadB rfl rfl rfl rfl rfl hB rfl ?_
  repeat (first | refine WC.seq ?_ | refine WC.reg ?_ | refine WL.pure rfl rfl rfl ?_ | refine WL.nil ?_ | refine WC.skip ?_ | refine WC.block ?_ | refine WC.condT rfl ?_ | refine WC.condF rfl ?_ | refine WL.off rfl rfl rfl ?_ | refine WL.off0 rfl rfl ?_ | refine WC.exit ?_ | refine blk_hit ?_ | refine blk_miss rfl ?_ | refine WC.ret ?_)
  refine WL.loadB rfl rfl rfl rfl rfl hB rfl ?_
  refine WL.call rfl rfl rfl rfl rfl ent28 (Best_any a c _ fs wB sF hf62 hTB) ?_
  intro vC wC hBI
  unfold BestIs at hBI
  rw [hmk] at hBI
  obtain ⟨aM, cM, hpC, rfl⟩ := hBI
  have hpC := hpB.comb hpC
  obtain ⟨hR, hW⟩ := dec_right hmk
  have hsm := toI_small hbm
  have hbmI : (bm.map toI).length = bm.length := by simp
  have hbmC : (bm.map toI).map (·.2.2) = (bagsOf g).map upz := by rw [toI_bags, hbm]
  have hbml : bm.length ≤ 14 := by
    have : bm.length = (bagsOf g).length := by rw [← hbm, List.length_map]
    rw [this]; exact bags_few hg
  obtain ⟨LL, hpC, L1⟩ : ∃ LL, Hp w wC LL ∧ ∀ w', Hp w w' LL → w'.heap[b3]? = some (.cells #[.int .i64 (g.length : Nat), .slice a fs.length c] 24 (0, 0)) ∧ Sl w' a (prs fs) ∧ Sl w' a4 (prs fs) ∧ Tb w' ∧
      w'.heap[b13]? = some (.cells #[.slice am bm.length cm, .slice an (linksOf g).length cn] 46 (0, 0)) ∧ BagsAt w' am (bm.map toI) ∧ Sl w' an (prs (linksOf g)) ∧ Sl w' aM (ints (bestO g)) := by
    refine ⟨_, hpC, fun w' h => ?_⟩
    obtain ⟨h1, h2, h3, h4⟩ := LF w' (.row 3 1 (.slice aM g.length cM) g.length (ints (bestO g)) :: .blk b13 (.cells #[.slice am bm.length cm, .slice an (linksOf g).length cn] 46 (0, 0)) :: (.row 32 1 (.slice am bm.length cm) bm.length (bm.map bagV) :: .row 50 2 (.slice an (linksOf g).length cn) (linksOf g).length (prs (linksOf g)) :: bm.map bagE)) h
    refine ⟨h1, h2, h3, h4, (h.sat (.blk b13 (.cells #[.slice am bm.length cm, .slice an (linksOf g).length cn] 46 (0, 0))) (by simp)).2, bagsAt_of ?_ ?_, ?_, Sl.of_row (h.sat (.row 3 1 (.slice aM g.length cM) g.length (ints (bestO g))) (by simp))⟩
    · exact Sl.of_row (h.sat (.row 32 1 (.slice am bm.length cm) bm.length (bm.map bagV)) (by simp))
    · intro b hb
      refine Sl.of_bag (h.sat (bagE b) ?_)
      simp only [List.cons_append, List.nil_append, List.mem_cons, List.mem_append, List.mem_map]
      exact .inr (.inr (.inr (.inr (.inl ⟨b, hb, rfl⟩))))
    · exact Sl.of_row (h.sat (.row 50 2 (.slice an (linksOf g).length cn) (linksOf g).length (prs (linksOf g))) (by simp))
  have fin : ∀ w', Tb w' → (∀ w'', Hp w' w'' [] → Hp w w'' []) → Ret Tryd.prog 19 [] w' fun v w'' => v = .bool true ∧ Hp w w'' [] := fun w' hTw hh => (awake_any w' hTw).mono fun v w'' ⟨h1, h2⟩ => ⟨h1, hh w'' h2⟩
  repeat (first | refine WC.seq ?_ | refine WC.reg ?_ | refine WL.pure rfl rfl rfl ?_ | refine WL.nil ?_ | refine WC.skip ?_ | refine WC.block ?_ | refine WC.condT rfl ?_ | refine WC.condF rfl ?_ | refine WL.off rfl rfl rfl ?_ | refine WL.off0 rfl rfl ?_ | refine WC.exit ?_ | refine blk_hit ?_ | refine blk_miss rfl ?_ | refine WC.ret ?_)
  refine WC.loop Nat (fun i => [(3, .pointer (some ⟨b3, 0, none⟩)), (4, .slice a4 fs.length c4), (6, .int .i64 (wd g 0)), (7, .int .i64 0), (9, .int .i64 0), (13, .pointer (some ⟨b13, 0, none⟩)), (14, .int .i64 (wd g 0)), (15, .int .i64 0), (16, .slice aM g.length cM), (17, .int .i64 0), (18, .int .i64 (i : Nat))])
    (fun i w' => i ≤ fs.length ∧ Hp w w' LL) (fun i => fs.length - i) 0 ⟨rfl, rfl, rfl, rfl, rfl, rfl, rfl, rfl, rfl, rfl, rfl, rfl⟩ ⟨Nat.zero_le _, hpC⟩ ?_
  rintro q wD ⟨hq, hpD⟩
  repeat (first | refine WC.seq ?_ | refine WC.reg ?_ | refine WL.pure rfl rfl rfl ?_ | refine WL.nil ?_ | refine WC.skip ?_ | refine WC.block ?_ | refine WC.condT rfl ?_ | refine WC.condF rfl ?_ | refine WL.off rfl rfl rfl ?_ | refine WL.off0 rfl rfl ?_ | refine WC.exit ?_ | refine blk_hit ?_ | refine blk_miss rfl ?_ | refine WC.ret ?_)
  refine WC.cond rfl (fun hc => ?_) (fun hc => ?_)
  · have hq : q < fs.length := by have := of_decide_eq_true hc; omega
    have step : IntKind.i64.wrap ((q : Int) + 1) = ((q + 1 : Nat) : Int) := by rw [wrap_i64_in (by omega) (by omega)]; omega
    obtain ⟨hB, sF, sE, _⟩ := L1 wD hpD
    obtain ⟨be, oe, rfl⟩ := Sl.some sF (prs_get hq).1
    obtain ⟨bf, of', rfl⟩ := Sl.some sE (prs_get hq).1
    have lod : ∀ {b o : Nat} {xs : List Ed} {w2 : World} (hx : Sl w2 (some ⟨b, o, none⟩) (prs xs)) (hi : q < xs.length) , ∀ j v, (pr xs[q])[j]? = some v → w2.cell? ⟨b, o + q * 2 + j, none⟩ = some v := by
      intro b o xs w2 hx hi j v hj
      rw [Nat.add_assoc]
      exact Sl.cell hx (prs_at xs q hi j v hj)
    repeat (first | refine WC.seq ?_ | refine WC.reg ?_ | refine WL.pure rfl rfl rfl ?_ | refine WL.nil ?_ | refine WC.skip ?_ | refine WC.block ?_ | refine WC.condT rfl ?_ | refine WC.condF rfl ?_ | refine WL.off rfl rfl rfl ?_ | refine WL.off0 rfl rfl ?_ | refine WC.exit ?_ | refine blk_hit ?_ | refine blk_miss rfl ?_ | refine WC.ret ?_)
    refine WC.regQ (fun w2 => Hp w w2 LL) mixed (by kernel_rfl) (fun w2 hw2 => hpD.keep hw2) ?_
    repeat (first | refine WQ.pure rfl rfl rfl ?_ | refine WQ.off rfl rfl rfl ?_ | refine WQ.nil ?_)
    refine WQ.load rfl rfl rfl rfl rfl (fun w' h => cell_of_obj (L1 w' h).1 rfl) ?_
    repeat (first | refine WQ.pure rfl rfl rfl ?_ | refine WQ.off rfl rfl rfl ?_ | refine WQ.nil ?_)
    refine WQ.ix rfl rfl rfl rfl rfl rfl hq ?_
    refine WQ.loadN (cs := pr fs[q]) rfl rfl rfl rfl rfl rfl (fun w2 h2 => lod (L1 w2 h2).2.1 hq) ?_
    repeat (first | refine WQ.pure rfl rfl rfl ?_ | refine WQ.off rfl rfl rfl ?_ | refine WQ.nil ?_)
    refine WQ.ix rfl rfl rfl rfl rfl rfl hq ?_
    refine WQ.loadN (cs := pr fs[q]) rfl rfl rfl rfl rfl rfl (fun w2 h2 => lod (L1 w2 h2).2.2.1 hq) ?_
    refine WQ.cmp2 rfl rfl rfl rfl (by kernel_rfl) rfl rfl (.inr ⟨rfl, rfl⟩) ?_
    repeat (first | refine WQ.pure rfl rfl rfl ?_ | refine WQ.off rfl rfl rfl ?_ | refine WQ.nil ?_)
    intro w2 hp2
    repeat (first | refine WC.seq ?_ | refine WC.reg ?_ | refine WL.pure rfl rfl rfl ?_ | refine WL.nil ?_ | refine WC.skip ?_ | refine WC.block ?_ | refine WC.condT rfl ?_ | refine WC.condF rfl ?_ | refine WL.off rfl rfl rfl ?_ | refine WL.off0 rfl rfl ?_ | refine WC.exit ?_ | refine blk_hit ?_ | refine blk_miss rfl ?_ | refine WC.ret ?_)
    refine WC.cond rfl (fun hq => ?_) (fun _ => ?_)
    · simp at hq
    · repeat (first | refine WC.seq ?_ | refine WC.reg ?_ | refine WL.pure rfl rfl rfl ?_ | refine WL.nil ?_ | refine WC.skip ?_ | refine WC.block ?_ | refine WC.condT rfl ?_ | refine WC.condF rfl ?_ | refine WL.off rfl rfl rfl ?_ | refine WL.off0 rfl rfl ?_ | refine WC.exit ?_ | refine blk_hit ?_ | refine blk_miss rfl ?_ | refine WC.ret ?_)
      exact ⟨q + 1, by show fs.length - (q + 1) < fs.length - q; omega, ⟨rfl, rfl, rfl, rfl, rfl, rfl, rfl, rfl, rfl, rfl, congrArg (fun z => some (Value.int .i64 z)) step, rfl⟩, hq, hp2⟩
  · obtain ⟨hB, sF, sE, hTD, hB13, hbA, hbL, sM⟩ := L1 wD hpD
    have hRt := Right_any a4 am an c4 cm cn g fs hmk (bm.map toI) (linksOf g) wD sE hbA hsm (by rw [hbmI]; omega) hbL
    rw [hbmI, hbmC, rgtV, if_pos hR, hW] at hRt
    repeat (first | refine WC.seq ?_ | refine WC.reg ?_ | refine WL.pure rfl rfl rfl ?_ | refine WL.nil ?_ | refine WC.skip ?_ | refine WC.block ?_ | refine WC.condT rfl ?_ | refine WC.condF rfl ?_ | refine WL.off rfl rfl rfl ?_ | refine WL.off0 rfl rfl ?_ | refine WC.exit ?_ | refine blk_hit ?_ | refine blk_miss rfl ?_ | refine WC.ret ?_)
    refine WL.loadB rfl rfl rfl rfl rfl hB rfl ?_
    repeat (first | refine WC.seq ?_ | refine WC.reg ?_ | refine WL.pure rfl rfl rfl ?_ | refine WL.nil ?_ | refine WC.skip ?_ | refine WC.block ?_ | refine WC.condT rfl ?_ | refine WC.condF rfl ?_ | refine WL.off rfl rfl rfl ?_ | refine WL.off0 rfl rfl ?_ | refine WC.exit ?_ | refine blk_hit ?_ | refine blk_miss rfl ?_ | refine WC.ret ?_)
    refine WL.loadN (cs := [.slice am bm.length cm, .slice an (linksOf g).length cn]) rfl rfl rfl rfl rfl rfl (fun j v hj => cell_of_obj hB13 (by rw [Nat.zero_add]; simpa using hj)) ?_
    refine WL.call rfl rfl rfl rfl rfl ent29 hRt ?_
    rintro _ wE ⟨hpE, rfl⟩
    have hpE := hpD.call hpE.below
    obtain ⟨hB, sF, sE, hTE, _, _, _, sM⟩ := L1 wE hpE
    repeat (first | refine WC.seq ?_ | refine WC.reg ?_ | refine WL.pure rfl rfl rfl ?_ | refine WL.nil ?_ | refine WC.skip ?_ | refine WC.block ?_ | refine WC.condT rfl ?_ | refine WC.condF rfl ?_ | refine WL.off rfl rfl rfl ?_ | refine WL.off0 rfl rfl ?_ | refine WC.exit ?_ | refine blk_hit ?_ | refine blk_miss rfl ?_ | refine WC.ret ?_)
    refine WL.split 139 (b := true) (by simp [W.look]) (fun _ => ?_) (fun h => by cases h)
    repeat (first | refine WC.seq ?_ | refine WC.reg ?_ | refine WL.pure rfl rfl rfl ?_ | refine WL.nil ?_ | refine WC.skip ?_ | refine WC.block ?_ | refine WC.condT rfl ?_ | refine WC.condF rfl ?_ | refine WL.off rfl rfl rfl ?_ | refine WL.off0 rfl rfl ?_ | refine WC.exit ?_ | refine blk_hit ?_ | refine blk_miss rfl ?_ | refine WC.ret ?_)
    refine WL.split 144 (b := true) (by simp [W.look]) (fun _ => ?_) (fun h => by cases h)
    repeat (first | refine WC.seq ?_ | refine WC.reg ?_ | refine WL.pure rfl rfl rfl ?_ | refine WL.nil ?_ | refine WC.skip ?_ | refine WC.block ?_ | refine WC.condT rfl ?_ | refine WC.condF rfl ?_ | refine WL.off rfl rfl rfl ?_ | refine WL.off0 rfl rfl ?_ | refine WC.exit ?_ | refine blk_hit ?_ | refine blk_miss rfl ?_ | refine WC.ret ?_)
    refine WL.loadB rfl rfl rfl rfl rfl hB rfl ?_
    repeat (first | refine WC.seq ?_ | refine WC.reg ?_ | refine WL.pure rfl rfl rfl ?_ | refine WL.nil ?_ | refine WC.skip ?_ | refine WC.block ?_ | refine WC.condT rfl ?_ | refine WC.condF rfl ?_ | refine WL.off rfl rfl rfl ?_ | refine WL.off0 rfl rfl ?_ | refine WC.exit ?_ | refine blk_hit ?_ | refine blk_miss rfl ?_ | refine WC.ret ?_)
    refine WL.call rfl rfl rfl rfl rfl ent30 (RBest_any a4 c4 g fs wE sE hf62 hmk) ?_
    rintro _ wG ⟨aC, cC, hpG, rfl⟩
    have hpG' := hpE.call hpG.below
    have hcl : (bestO g).length = g.length := hbol
    have hints := ints_any aM aC cM cC ((bestO g).map fun (q : Nat) => (q : Int)) ((bestO g).map fun (q : Nat) => (q : Int)) wG (by rw [← ints_zs]; exact (L1 wG hpG').2.2.2.2.2.2.2) (by rw [← ints_zs]; exact Sl.of_row (hpG.at 0 rfl)) (by rw [List.length_map, hcl]; omega)
    rw [List.length_map, hcl] at hints
    refine WL.call rfl rfl rfl rfl rfl ent21 hints ?_
    rintro _ wH ⟨hpH, rfl⟩
    rw [decide_eq_true rfl]
    have hpH := hpG'.call hpH.below
    repeat (first | refine WC.seq ?_ | refine WC.reg ?_ | refine WL.pure rfl rfl rfl ?_ | refine WL.nil ?_ | refine WC.skip ?_ | refine WC.block ?_ | refine WC.condT rfl ?_ | refine WC.condF rfl ?_ | refine WL.off rfl rfl rfl ?_ | refine WL.off0 rfl rfl ?_ | refine WC.exit ?_ | refine blk_hit ?_ | refine blk_miss rfl ?_ | refine WC.ret ?_)
    refine WL.call rfl rfl rfl rfl rfl ent19 (fin wH (L1 wH hpH).2.2.2.1 (fun w'' h => (hpH.call h.below).nil')) ?_
    rintro _ wI ⟨rfl, hpI⟩
    repeat (first | refine WC.seq ?_ | refine WC.reg ?_ | refine WL.pure rfl rfl rfl ?_ | refine WL.nil ?_ | refine WC.skip ?_ | refine WC.block ?_ | refine WC.condT rfl ?_ | refine WC.condF rfl ?_ | refine WL.off rfl rfl rfl ?_ | refine WL.off0 rfl rfl ?_ | refine WC.exit ?_ | refine blk_hit ?_ | refine blk_miss rfl ?_ | refine WC.ret ?_)
    exact Res.one rfl rfl rfl ⟨rfl, hpI⟩
end Go.Proofs.YtdnkkflpgebfbaaDoor
