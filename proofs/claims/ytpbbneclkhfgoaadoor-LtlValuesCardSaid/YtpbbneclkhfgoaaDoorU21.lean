/- ltl, twenty-first: next. -/
import Derived.Test.YtpbbneclkhfgoaaDoorUq
import Derived.Test.YtpbbneclkhfgoaaDoorYg
set_option linter.unusedSectionVars false
namespace Go.W
open Go.RowKit
section
variable {P : Program} [T : TT P] {e : Env} {w : World} {ty : TypeId}
theorem yRem {t t2 : TypeId} {x y : Operand} {k : IntKind} {a b : Int} (hx : opv e x = some (.int k a)) (hy : opv e y = some (.int k b)) (hb : b ≠ 0) : Yv P e (.binOp .rem t x y t2) ty w (.int k (a.tmod b)) w := by
  intro ρ hρ d' pos' aft' g'
  simp [execOp, hρ _ _ hx, hρ _ _ hy, eqGuard_at_int, binOp_rem, Op.intDiv, hb]
theorem yQuo {t t2 : TypeId} {x y : Operand} {k : IntKind} {a b : Int} (hx : opv e x = some (.int k a)) (hy : opv e y = some (.int k b)) (hb : b ≠ 0) : Yv P e (.binOp .quo t x y t2) ty w (.int k (k.wrap (a.tdiv b))) w := by
  intro ρ hρ d' pos' aft' g'
  simp [execOp, hρ _ _ hx, hρ _ _ hy, eqGuard_at_int, binOp_quo, Op.intDiv, hb]
end
end Go.W
namespace Go.Proofs.YtpbbneclkhfgoaaDoor
open Go.W Go.Ltl Go.RowKit
set_option maxRecDepth 100000
attribute [local irreducible] WC WL WQ WS WH

/-- A table of rows of numbers that is read. -/
abbrev Nrs := List (Option Addr × Nat × List Nat)
def rsV (rs : Nrs) : List Value := rs.map fun x => .slice x.1 x.2.2.length x.2.1
def rsN (rs : Nrs) : List (List Nat) := rs.map (·.2.2)
structure Tbl (w : World) (a : Option Addr) (rs : Nrs) : Prop where
  tab : Sl w a (rsV rs)
  rows : ∀ x ∈ rs, Sl w x.1 (natL x.2.2)
theorem Tbl.below {w w' : World} {a : Option Addr} {rs : Nrs} (h : Tbl w a rs) (hb : Below w.heap.size w w') : Tbl w' a rs := ⟨h.tab.below hb, fun x hx => (h.rows x hx).below hb⟩
theorem Tbl.hp {w0 w : World} {L : List Ent} {a : Option Addr} {rs : Nrs} (h : Tbl w0 a rs) (hp : Hp w0 w L) : Tbl w a rs := h.below hp.below
theorem rsV_at {rs : Nrs} {i : Nat} (hi : i < rs.length) : (rsV rs)[i]? = some (.slice rs[i].1 rs[i].2.2.length rs[i].2.1) := by
  unfold rsV
  rw [List.getElem?_map, List.getElem?_eq_getElem hi]
  rfl
theorem rsN_at {rs : Nrs} {i : Nat} (hi : i < rs.length) : (rsN rs).getD i [] = rs[i].2.2 := by
  unfold rsN
  rw [List.getD_eq_getElem?_getD, List.getElem?_map, List.getElem?_eq_getElem hi]
  rfl
theorem rsN_len (rs : Nrs) : (rsN rs).length = rs.length := by simp [rsN]
/-- The map of the states by their structure's state and what is wanted. -/
abbrev By := List ((Int × Int) × (Option Addr × Nat × List Nat))
def byR (x : Option Addr × Nat × List Nat) : Value := .slice x.1 x.2.2.length x.2.1
def byV (B : By) : List ((Int × Int) × Value) := B.map fun p => (p.1, byR p.2)
def byG (B : By) (k : Int × Int) : List Nat := ((kGet B k).map (·.2.2)).getD []
def nxF (B : By) (m : Nat) (l : List Nat) : List Nat := l.flatMap fun (t : Nat) => byG B ((t : Int), (m : Int))
theorem byV_get (B : By) (k : Int × Int) : kGet (byV B) k = (kGet B k).map byR := kGet_map (g := id) byR (fun _ _ h => h) B k
/-- The search, read. -/
abbrev Sxo (nx mk : Value) (starts : Nat) (lv : Value) (pairs : Nat) (wv tv fv : Value) : Obj := .cells #[nx, mk, .int .i64 (starts : Nat), lv, .int .i64 (pairs : Nat), wv, tv, fv] 140 (0, 0)
theorem next_any (xb : Nat) (an : Option Addr) (cn : Nat) (rs : Nrs) (mk : Value) (starts : Nat) (lv : Value) (pairs : Nat) (wv tv fv : Value) (mb : Nat) (B : By) (w : World) (v : Nat)
    (hx : w.heap[xb]? = some (Sxo (.slice an rs.length cn) mk starts lv pairs wv tv fv)) (hT : Tbl w an rs) (hb : w.heap[mb]? = some (mapO pKey (byV B))) (hR : ∀ p ∈ B, Sl w p.2.1 (natL p.2.2.2))
    (hp0 : 0 < pairs) (hv : v < rs.length * pairs) (hrs : ∀ x ∈ rs, x.2.2.length ≤ 16) (hB : ∀ k, (byG B k).length ≤ 65536) (hn : rs.length ≤ 16) (hpp : pairs ≤ 4096) :
    Ret Tryd.prog 103 [ptr xb, .map (some mb), .int .i64 (v : Nat)] w fun u w' => ∃ ra rc, u = .slice ra (nxF B (v % pairs) ((rsN rs).getD (v / pairs) [])).length rc ∧
      Hp w w' [Rna (.slice ra (nxF B (v % pairs) ((rsN rs).getD (v / pairs) [])).length rc) (nxF B (v % pairs) ((rsN rs).getD (v / pairs) [])).length (nxF B (v % pairs) ((rsN rs).getD (v / pairs) []))] := by
  have hne : ((pairs : Nat) : Int) ≠ 0 := by omega
  have hvb : v < 65536 := Nat.lt_of_lt_of_le hv (Nat.le_trans (Nat.mul_le_mul hn hpp) (by decide))
  have hq : v / pairs < rs.length := (Nat.div_lt_iff_lt_mul hp0).2 hv
  have e1 := wrap_div (a := v) (b := pairs) (by omega)
  have hc0 : w.cell? ⟨xb, 0, none⟩ = some (.slice an rs.length cn) := cell_of_obj (j := 0) hx rfl
  have hc4 : w.cell? ⟨xb, 4, none⟩ = some (.int .i64 (pairs : Nat)) := cell_of_obj (j := 4) hx rfl
  have hlb : mb < w.heap.size := (Array.getElem?_eq_some_iff.1 hb).1
  rw [rsN_at hq]
  obtain ⟨ta, to, rfl, htc⟩ := hT.tab _ _ (rsV_at hq)
  have hrow := hT.rows _ (List.getElem_mem hq)
  have hrl := hrs _ (List.getElem_mem hq)
  generalize rs[v / pairs] = r at *
  obtain ⟨ra0, rc0, row⟩ := r
  simp only at hrow hrl htc
  refine enter Tryd.func103 rfl rfl ⟨rfl, rfl⟩ rfl ?_
  repeat (first | refine WC.seq ?_ | refine WC.skip ?_ | refine WC.block ?_)
  refine WC.reg ?_
  repeat (first | refine WC.seq ?_ | refine WC.reg ?_ | refine WL.pure rfl rfl rfl ?_ | refine WL.nil ?_ | refine WC.skip ?_ | refine WC.block ?_ | refine WC.condT rfl ?_ | refine WC.condF rfl ?_ | refine WL.off rfl rfl rfl ?_ | refine WL.off0 rfl rfl ?_ | refine WC.exit ?_ | refine blk_hit ?_ | refine blk_miss rfl ?_ | refine WC.ret ?_)
  refine WC.mid Unit (fun _ => [(0, ptr xb), (1, .map (some mb)), (2, .int .i64 (v : Nat)), (7, .slice none 0 0), (22, .slice ra0 row.length rc0), (23, .int .i64 (row.length : Nat)), (24, .int .i64 (0 : Nat))]) (fun _ w' => Hp w w' []) ?_ ?_
  · refine WC.regQ (fun w' => Hp w w' []) mixed (by kernel_rfl) (fun w' hw' => (Hp.start w).keep hw') ?_
    repeat (first | refine WQ.pure rfl rfl rfl ?_ | refine WQ.off rfl rfl rfl ?_ | refine WQ.nil ?_)
    refine WQ.nilC rfl rfl rfl ?_
    repeat (first | refine WQ.pure rfl rfl rfl ?_ | refine WQ.off rfl rfl rfl ?_ | refine WQ.nil ?_)
    refine WQ.load rfl rfl rfl rfl rfl (fun w' h => cell_below h.below hc0) ?_
    repeat (first | refine WQ.pure rfl rfl rfl ?_ | refine WQ.off rfl rfl rfl ?_ | refine WQ.nil ?_)
    refine WQ.nilC rfl rfl rfl ?_
    repeat (first | refine WQ.pure rfl rfl rfl ?_ | refine WQ.off rfl rfl rfl ?_ | refine WQ.nil ?_)
    refine WQ.load rfl rfl rfl rfl rfl (fun w' h => cell_below h.below hc4) ?_
    refine WQ.val rfl rfl (fun w' _ => yQuo rfl rfl hne) ?_
    refine WQ.known (d := 20) (congrArg (fun z => some (Value.int .i64 z)) e1) ?_
    refine WQ.ixload rfl (fun _ => rfl) rfl rfl rfl rfl rfl rfl rfl hq rfl rfl (fun w' h => cell_below h.below htc) ?_
    repeat (first | refine WQ.pure rfl rfl rfl ?_ | refine WQ.off rfl rfl rfl ?_ | refine WQ.nil ?_)
    intro w' hw'
    exact ⟨(), ⟨rfl, rfl, rfl, rfl, rfl, rfl, rfl, rfl⟩, hw'⟩
  rintro ⟨⟩ e2 w2 hsub hp2
  refine WC.sub hsub ?_
  clear hsub e2
  have e3 : ((v : Nat) : Int).tmod ((pairs : Nat) : Int) = ((v % pairs : Nat) : Int) := rfl
  repeat (first | refine WC.seq ?_ | refine WC.reg ?_ | refine WL.pure rfl rfl rfl ?_ | refine WL.nil ?_ | refine WC.skip ?_ | refine WC.block ?_ | refine WC.condT rfl ?_ | refine WC.condF rfl ?_ | refine WL.off rfl rfl rfl ?_ | refine WL.off0 rfl rfl ?_ | refine WC.exit ?_ | refine blk_hit ?_ | refine blk_miss rfl ?_ | refine WC.ret ?_)
  refine WC.loop (Nat × Option Addr × Nat) (fun (i, ra, rc) => [(0, ptr xb), (1, .map (some mb)), (2, .int .i64 (v : Nat)), (7, .slice ra (nxF B (v % pairs) (row.take i)).length rc), (22, .slice ra0 row.length rc0), (23, .int .i64 (row.length : Nat)), (24, .int .i64 (i : Nat))])
    (fun (i, ra, rc) w' => i ≤ row.length ∧ Hp w w' [Rna (.slice ra (nxF B (v % pairs) (row.take i)).length rc) (nxF B (v % pairs) (row.take i)).length (nxF B (v % pairs) (row.take i))]) (fun (i, _, _) => row.length - i) (0, none, 0) ⟨rfl, rfl, rfl, rfl, rfl, rfl, rfl, rfl⟩ ⟨Nat.zero_le _, hp2.nilrow _ _⟩ ?_
  clear hp2
  rintro ⟨i, ra, rc⟩ w3 ⟨hi, hp3⟩
  replace hi : i ≤ row.length := hi
  obtain ⟨acc, hacc⟩ : ∃ acc, acc = nxF B (v % pairs) (row.take i) := ⟨_, rfl⟩
  have hal : acc.length ≤ i * 65536 := by
    have h1 : ∀ l : List Nat, (nxF B (v % pairs) l).length ≤ l.length * 65536 := by
      intro l
      induction l with
      | nil => simp [nxF]
      | cons t l ih => rw [nxF, List.flatMap_cons, List.length_append, List.length_cons, Nat.add_mul, ← nxF]; have := hB ((t : Int), ((v % pairs : Nat) : Int)); omega
    have := h1 (row.take i)
    rw [List.length_take, Nat.min_eq_left hi] at this
    rw [hacc]; exact this
  replace hp3 : Hp w w3 [Rna (.slice ra acc.length rc) acc.length acc] := by rw [hacc]; exact hp3
  have hi16 : i * 65536 ≤ 16 * 65536 := Nat.mul_le_mul_right _ (Nat.le_trans hi hrl)
  simp only [← hacc]
  repeat (first | refine WC.seq ?_ | refine WC.reg ?_ | refine WL.pure rfl rfl rfl ?_ | refine WL.nil ?_ | refine WC.skip ?_ | refine WC.block ?_ | refine WC.condT rfl ?_ | refine WC.condF rfl ?_ | refine WL.off rfl rfl rfl ?_ | refine WL.off0 rfl rfl ?_ | refine WC.exit ?_ | refine blk_hit ?_ | refine blk_miss rfl ?_ | refine WC.ret ?_)
  refine WC.cond rfl (fun h1 => ?_) (fun h1 => ?_)
  · have hi : i < row.length := by have := of_decide_eq_true h1; omega
    have step := wrap_succ (i := i) (n := i + 1) (by omega) (by omega)
    obtain ⟨t, ht⟩ : ∃ t, t = row[i] := ⟨_, rfl⟩
    have htk : nxF B (v % pairs) (row.take (i + 1)) = acc ++ byG B ((t : Int), ((v % pairs : Nat) : Int)) := by
      rw [nxF, List.take_succ_eq_append_getElem hi, List.flatMap_append, List.flatMap_singleton, ← nxF, ← hacc, ← ht]
    have hbt := hB ((t : Int), ((v % pairs : Nat) : Int))
    repeat (first | refine WC.seq ?_ | refine WC.reg ?_ | refine WL.pure rfl rfl rfl ?_ | refine WL.nil ?_ | refine WC.skip ?_ | refine WC.block ?_ | refine WC.condT rfl ?_ | refine WC.condF rfl ?_ | refine WL.off rfl rfl rfl ?_ | refine WL.off0 rfl rfl ?_ | refine WC.exit ?_ | refine blk_hit ?_ | refine blk_miss rfl ?_ | refine WC.ret ?_)
    refine WL.ixload rfl (fun _ => rfl) rfl rfl rfl rfl rfl rfl rfl hi rfl rfl (hrow.hp hp3) (natL_at hi) ?_
    intro q
    rw [← ht]
    repeat (first | refine WC.seq ?_ | refine WC.reg ?_ | refine WL.pure rfl rfl rfl ?_ | refine WL.nil ?_ | refine WC.skip ?_ | refine WC.block ?_ | refine WC.condT rfl ?_ | refine WC.condF rfl ?_ | refine WL.off rfl rfl rfl ?_ | refine WL.off0 rfl rfl ?_ | refine WC.exit ?_ | refine blk_hit ?_ | refine blk_miss rfl ?_ | refine WC.ret ?_)
    refine WL.nilC rfl rfl rfl ?_
    repeat (first | refine WC.seq ?_ | refine WC.reg ?_ | refine WL.pure rfl rfl rfl ?_ | refine WL.nil ?_ | refine WC.skip ?_ | refine WC.block ?_ | refine WC.condT rfl ?_ | refine WC.condF rfl ?_ | refine WL.off rfl rfl rfl ?_ | refine WL.off0 rfl rfl ?_ | refine WC.exit ?_ | refine blk_hit ?_ | refine blk_miss rfl ?_ | refine WC.ret ?_)
    refine WL.load rfl rfl rfl rfl rfl (cell_below hp3.below hc4) ?_
    refine WL.val rfl rfl rfl (yRem rfl rfl hne) ?_
    rw [e3]
    refine WL.buildA (cs := [.int .i64 (t : Nat), .int .i64 (v % pairs : Nat)]) rfl rfl rfl rfl rfl rfl ?_
    refine WL.val rfl rfl rfl (yLookM (k := ((t : Int), ((v % pairs : Nat) : Int))) (keyT_pair rfl rfl) rfl rfl rfl rfl (by rw [hp3.below.block mb hlb]; exact hb)) ?_
    have hlk : ∃ sa sc, lkM (byV B) ((t : Int), ((v % pairs : Nat) : Int)) (Value.slice none 0 0) false = .slice sa (byG B ((t : Int), ((v % pairs : Nat) : Int))).length sc ∧ Sl w sa (natL (byG B ((t : Int), ((v % pairs : Nat) : Int)))) := by
      unfold lkM
      rw [byV_get]
      unfold byG
      rcases kGet_pos B ((t : Int), ((v % pairs : Nat) : Int)) with ⟨h1, _⟩ | ⟨x, h1, _, h3⟩
      · rw [h1]; exact ⟨none, 0, rfl, Sl.nil⟩
      · rw [h1]; exact ⟨x.1, x.2.1, rfl, hR _ (List.mem_of_getElem? h3)⟩
    obtain ⟨sa, sc, hlk1, hlk2⟩ := hlk
    rw [show ti22.zero = Value.slice none 0 0 from rfl, hlk1]
    refine WL.append 0 hp3 rfl rfl rfl rfl rfl (by decide) rfl rfl rfl (hlk2.hp hp3) (by rw [natL_len]; exact (Nat.mul_one _).symm) (natL_cells _) (by unfold maxLen; omega) (by show (_ + _) * 8 ≤ _; omega) ?_
    intro ra2 rc2 w4 hp4 _
    repeat (first | refine WC.seq ?_ | refine WC.reg ?_ | refine WL.pure rfl rfl rfl ?_ | refine WL.nil ?_ | refine WC.skip ?_ | refine WC.block ?_ | refine WC.condT rfl ?_ | refine WC.condF rfl ?_ | refine WL.off rfl rfl rfl ?_ | refine WL.off0 rfl rfl ?_ | refine WC.exit ?_ | refine blk_hit ?_ | refine blk_miss rfl ?_ | refine WC.ret ?_)
    refine ⟨(i + 1, ra2, rc2), (by show row.length - (i + 1) < row.length - i; omega), ?_, hi, ?_⟩
    · simp only [htk]
      rw [List.length_append]
      exact ⟨rfl, rfl, rfl, rfl, rfl, rfl, congrArg (fun z => some (Value.int .i64 z)) step, rfl⟩
    · simp only [htk]
      unfold Rna
      rw [List.length_append, show natL (acc ++ byG B ((t : Int), ((v % pairs : Nat) : Int))) = natL acc ++ natL (byG B ((t : Int), ((v % pairs : Nat) : Int))) from List.map_append]
      exact hp4
  · have hi : i = row.length := by have := of_decide_eq_false h1; omega
    subst hi
    rw [List.take_length] at hacc
    repeat (first | refine WC.seq ?_ | refine WC.reg ?_ | refine WL.pure rfl rfl rfl ?_ | refine WL.nil ?_ | refine WC.skip ?_ | refine WC.block ?_ | refine WC.condT rfl ?_ | refine WC.condF rfl ?_ | refine WL.off rfl rfl rfl ?_ | refine WL.off0 rfl rfl ?_ | refine WC.exit ?_ | refine blk_hit ?_ | refine blk_miss rfl ?_ | refine WC.ret ?_)
    refine Res.one rfl rfl rfl ⟨ra, rc, ?_, ?_⟩
    · rw [← hacc]
    · rw [← hacc]; exact hp3
end Go.Proofs.YtpbbneclkhfgoaaDoor
