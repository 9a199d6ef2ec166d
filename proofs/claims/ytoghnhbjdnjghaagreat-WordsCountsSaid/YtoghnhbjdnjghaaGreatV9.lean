/- Clearing and copying parts of rows; the walk of the removal of neighbours that are equal. -/
import Derived.Test.YtoghnhbjdnjghaaGreatV8
import Derived.Lib.SlicesCompact
set_option linter.unusedSectionVars false
namespace Go.W
open Go.RowKit
theorem zeroCells_one {z : Array Value} (h : ∀ v ∈ z.toList, v.oneCell' = true) (h0 : 0 < z.size) (n : Nat) : ∀ v ∈ (Builtin.zeroCells z n).toList, v.oneCell' = true := by
  intro v hv
  unfold Builtin.zeroCells at hv
  rw [Array.toList_map] at hv
  obtain ⟨i, _, rfl⟩ := List.mem_map.1 hv
  have hlt : i % z.size < z.size := Nat.mod_lt _ h0
  rw [getElem!_pos z (i % z.size) hlt]
  exact h _ (Array.getElem_mem_toList hlt)
section
variable {P : Program} [T : TT P] {ro : Option Nat} {n : Nat} {l0 rest : List Oper} {N : Nor} {Z : Pan} {e : Env} {w w' : World} {op : Op} {ty : TypeId} {pos : String} {aft : Array Edge} {g : Option (Nat × Bool)}
/-- An operation whose value nobody takes. -/
theorem WL.val0 {c : Bool} {v : Value} (hg : grd l0 e g = some c) (hc : c = true) (hy : Yv P e op ty w v w')
    (h : WL P ro n l0 N Z rest e w') : WL P ro n l0 N Z (⟨none, op, ty, pos, aft, g⟩ :: rest) e w := by
  intro a ha
  unfold WL at h
  unfold wpListIn
  rw [if_pos (by rw [grd_wanted ha (o := ⟨none, op, ty, pos, aft, g⟩) hg]; exact hc)]
  refine ⟨fun f _ => fen_fn ro f, ?_⟩
  rw [semAt_ok (hy a.eval ha.agree _ _ _ _) (fun d h => by cases h)]
  exact h _ ha.put_none
theorem yClear {t E : TypeId} {i : TI} {z : Value} {s0 b0 len cap b o tt : Nat} {x : Operand} {arr : Array Value} (ht : T.ti t = some ⟨.slice E, z, s0, b0⟩) (hi : T.ti E = some i) (hzs : i.zero.cells.size = i.size) (hsz : 0 < i.size) (hz1 : ∀ v ∈ i.zero.cells.toList, v.oneCell' = true)
    (hx : opv e x = some (.slice (some ⟨b, o, none⟩) len cap)) (h0 : 0 < len) (hh : w.heap[b]? = some (.cells arr tt (0, 0))) (hfit : o + len * i.size ≤ arr.size) :
    Yv P e (.call ⟨.builtin .clear, #[x], #[t]⟩) ty w (.tuple #[]) (w.setRow b (arr.toList.take o ++ (Builtin.zeroCells i.zero.cells len).toList ++ arr.toList.drop (o + len * i.size)).toArray) := by
  have hu : P.underlying t = some (.slice E) := (T.ok t _ ht).k
  have hzv := (T.ok E i hi).zeroValue w
  have hsl : (Builtin.zeroCells i.zero.cells len).toList.length = len * i.size := by rw [Array.length_toList, size_zeroCells, hzs]
  have hst := run_storeCells_at P b o tt (Builtin.zeroCells i.zero.cells len).toList 0 arr w hh (by rw [hsl]; simpa using hfit) (zeroCells_one hz1 (by omega) len)
  simp only [Nat.add_zero, hsl] at hst
  obtain ⟨m, rfl⟩ : ∃ m, len = m + 1 := ⟨len - 1, by omega⟩
  intro ρ hρ d' pos' aft' g'
  simp [execOp, resolve, invoke, builtin, hρ _ _ hx, Builtin.clear_, run_underlying hu, hzv, hst]
/-- copy, inside a block or from anywhere into a block: what is read is known. -/
theorem yCopy {t E : TypeId} {i : TI} {z : Value} {s0 b0 dl dc sl sc b o tt : Nat} {x y : Operand} {a : Addr} {arr : Array Value} {cs : List Value} (ht : T.ti t = some ⟨.slice E, z, s0, b0⟩) (hi : T.ti E = some i)
    (hx : opv e x = some (.slice (some ⟨b, o, none⟩) dl dc)) (hy : opv e y = some (.slice (some a) sl sc)) (hh : w.heap[b]? = some (.cells arr tt (0, 0))) (hn : cs.length = min sl dl * i.size) (hs : Sl w (some a) cs) (h1 : Cells cs) (hfit : o + cs.length ≤ arr.size) :
    Yv P e (.call ⟨.builtin .copy, #[x, y], #[t, t]⟩) ty w (.int .i64 (min sl dl : Nat)) (w.setRow b (arr.toList.take o ++ cs ++ arr.toList.drop (o + cs.length)).toArray) := by
  have hu : P.underlying t = some (.slice E) := (T.ok t _ ht).k
  obtain ⟨j, hj, hjj⟩ := Option.map_eq_some_iff.1 (T.ok E i hi).info
  simp only [Prod.mk.injEq] at hjj
  obtain ⟨hj1, hj2, hj3⟩ := hjj
  have hsrc : ∀ q v, cs[q]? = some v → w.cell? (a.add q) = some v := by
    intro q v hq
    obtain ⟨b', o', ha', hc⟩ := hs q v hq
    simp only [Option.some.injEq] at ha'
    rw [ha', Addr.add_lit]; exact hc
  have hl := run_loadCells_list (P := P) w a cs hsrc
  rw [hn] at hl
  have hst := run_storeCells_at P b o tt cs 0 arr w hh (by simpa using hfit) h1
  simp only [Nat.add_zero] at hst
  intro ρ hρ d' pos' aft' g'
  have hl2 : (loadCells a (min sl dl * j.size)).run P w = .ok cs.toArray w := by rw [hj2]; exact hl
  simp [execOp, resolve, invoke, builtin, hρ _ _ hx, hρ _ _ hy, Builtin.copy_, run_underlying hu, Builtin.lenOf, Builtin.firstCells, sizeOf, typeInfo, hj, hl2, hst, goInt]
/-- clear, of a part of a block: 'arr2' is the block behind it. -/
theorem WL.clear {t E : TypeId} {i : TI} {z : Value} {s0 b0 len cap b o tt : Nat} {x : Operand} {arr arr2 : Array Value} (hg : grd l0 e g = some true) (ht : T.ti t = some ⟨.slice E, z, s0, b0⟩) (hi : T.ti E = some i) (hzs : i.zero.cells.size = i.size) (hsz : 0 < i.size) (hz1 : ∀ v ∈ i.zero.cells.toList, v.oneCell' = true)
    (hx : opv e x = some (.slice (some ⟨b, o, none⟩) len cap)) (h0 : 0 < len) (hh : w.heap[b]? = some (.cells arr tt (0, 0))) (hfit : o + len * i.size ≤ arr.size)
    (h2 : (arr.toList.take o ++ (Builtin.zeroCells i.zero.cells len).toList ++ arr.toList.drop (o + len * i.size)).toArray = arr2)
    (h : ∀ w', SetB w b (.cells arr2 tt (0, 0)) w' → WL P ro n l0 N Z rest e w') : WL P ro n l0 N Z (⟨none, .call ⟨.builtin .clear, #[x], #[t]⟩, ty, pos, aft, g⟩ :: rest) e w :=
  WL.val0 hg rfl (yClear ht hi hzs hsz hz1 hx h0 hh hfit) (h _ (by rw [← h2]; exact setB_row hh _))
/-- copy into a part of a block. -/
theorem WL.copyB {d : Nat} {t E : TypeId} {i : TI} {z : Value} {s0 b0 dl dc sl sc b o tt : Nat} {x y : Operand} {a : Addr} {arr arr2 : Array Value} {cs : List Value} (hg : grd l0 e g = some true) (hd : Nat.blt d n = true) (ht : T.ti t = some ⟨.slice E, z, s0, b0⟩) (hi : T.ti E = some i)
    (hx : opv e x = some (.slice (some ⟨b, o, none⟩) dl dc)) (hy : opv e y = some (.slice (some a) sl sc)) (hh : w.heap[b]? = some (.cells arr tt (0, 0))) (hn : cs.length = min sl dl * i.size) (hs : Sl w (some a) cs) (h1 : Cells cs) (hfit : o + cs.length ≤ arr.size)
    (h2 : (arr.toList.take o ++ cs ++ arr.toList.drop (o + cs.length)).toArray = arr2)
    (h : ∀ w', SetB w b (.cells arr2 tt (0, 0)) w' → WL P ro n l0 N Z rest ((d, .int .i64 (min sl dl : Nat)) :: e) w') : WL P ro n l0 N Z (⟨some d, .call ⟨.builtin .copy, #[x, y], #[t, t]⟩, ty, pos, aft, g⟩ :: rest) e w :=
  WL.val hg rfl hd (yCopy ht hi hx hy hh hn hs h1 hfit) (h _ (by rw [← h2]; exact setB_row hh _))
end
end Go.W
namespace Go.W
open Go.RowKit Go.Sort
theorem cl_loadO {w0 w : World} {b E : Nat} {d : Array Rp} {t : List Value} {L : List Ent} (h : Hp w0 w (.blk b (.cells (cl d t) E (0, 0)) :: L)) {p j : Nat} (hj : p + j < d.size) :
    ∀ q v, (rc d[p + j]!)[q]? = some v → w.cell? ⟨b, 0 + p * 2 + j * 2 + q, none⟩ = some v := by
  intro q v hq
  have := cl_load h hj q v hq
  rw [Nat.add_mul, ← Nat.add_assoc] at this
  exact this
theorem ySlB {P : Program} [T : TT P] {e : Env} {w : World} {ty : TypeId} {t E : TypeId} {i : TI} {z : Value} {s0 b0 len cap l b : Nat} {x y : Operand} {k : IntKind} (ht : T.ti t = some ⟨.slice E, z, s0, b0⟩) (hi : T.ti E = some i)
    (hx : opv e x = some (.slice (some ⟨b, 0, none⟩) len cap)) (hy : opv e y = some (.int k (l : Nat))) (hh : l ≤ len) (hlc : len ≤ cap) (hl : l < cap) : Yv P e (.slice t x (some y) none none) ty w (.slice (some ⟨b, 0 + l * i.size, none⟩) (len - l) (cap - l)) w := by
  have h := ySlLo (P := P) (w := w) (ty := ty) ht hi hx hy hh hlc
  have e1 : ofs (some ⟨b, 0, none⟩) cap l i.size = some ⟨b, 0 + l * i.size, none⟩ := by
    unfold ofs
    rw [if_neg (by omega)]
    simp [Addr.add_lit]
  rw [e1] at h
  exact h
section
variable {P : Program} [T : TT P] {n : Nat} {l0 rest : List Oper} {C : World → Prop} {M : Env → Prop} {e : Env} {ty : TypeId} {pos : String} {aft : Array Edge} {g : Option (Nat × Bool)}
/-- An element of a part of a slice read, in every world of the class. -/
theorem WQ.ixO {d1 d2 : Nat} {t t2 E : TypeId} {i : TI} {x ix : Operand} {b p len cap j E' : Nat} {k : IntKind} {D : Array Rp} {tl : List Value} {z : Value} {s b2 : Nat} {ty2 : TypeId} {pos2 : String} {aft2 : Array Edge} {g2 : Option (Nat × Bool)} {w0 : World} {L : List Ent}
    (hg : grd l0 e g = some true) (hg2 : ∀ p, grd l0 ((d1, p) :: e) g2 = some true)
    (ht : T.ti t = some ⟨.slice E, z, s, b2⟩) (hi : T.ti E = some i) (htwo : i.size = 2) (ht2 : T.ti t2 = some i) (h1 : isOne i.k = false)
    (hx : opv e x = some (.slice (some ⟨b, 0 + p * 2, none⟩) len cap)) (hix : opv e ix = some (.int k (j : Nat))) (hd1 : Nat.blt d1 n = true) (hd2 : Nat.blt d2 n = true)
    (hC : ∀ w, C w → Hp w0 w (.blk b (.cells (cl D tl) E' (0, 0)) :: L)) (hj : j < len) (hjl : p + j < D.size)
    (h : WQ P n l0 C M rest ((d2, .agg (rc D[p + j]!).toArray) :: (d1, .pointer (some ⟨b, 0 + p * 2 + j * i.size, none⟩)) :: e)) :
    WQ P n l0 C M (⟨some d1, .indexAddr t x ix, ty, pos, aft, g⟩ :: ⟨some d2, .load t2 (.tmp d1), ty2, pos2, aft2, g2⟩ :: rest) e := by
  refine WQ.le fun hle => WQ.ix hg hd1 ht hi hx hix hj ?_
  refine WQ.loadN (cs := rc D[p + j]!) (hg2 _) ht2 h1 (opv_head hd1 hle) hd2 (by rw [htwo]; rfl) ?_ h
  intro w hw q v hq
  have := cl_loadO (hC w hw) hjl q v hq
  rw [htwo]
  exact this
end
end Go.W
namespace Go.Proofs.YtoghnhbjdnjghaaGreat
open Go.W Go.Words Go.RowKit Go.Sort Go.Lib
set_option maxRecDepth 100000
attribute [local irreducible] WC WL WQ WS WH

theorem eq2 {x y : Rp} : (decide (x.1 = y.1) && decide (x.2 = y.2)) = decide (x = y) := by
  rw [Bool.eq_iff_iff]
  simp [Prod.ext_iff]
theorem ofs_lit {b cap k : Nat} (h : k < cap) : ofs (some ⟨b, 0, none⟩) cap k 2 = some ⟨b, 0 + k * 2, none⟩ := by
  unfold ofs
  rw [if_neg (by omega)]
  simp [Addr.add_lit]
theorem comp_cells {d dk : Array Rp} {n kk : Nat} (hI : CompInv d n kk dk) (hd : dk.size = n) (t Zs : List Value) (hZ : Zs.length = (n - kk) * 2) :
    ((cl dk t).toList.take (0 + kk * 2) ++ Zs ++ (cl dk t).toList.drop (0 + kk * 2 + (n - kk) * 2)).toArray = cl (compactUpTo d n).toArray (Zs ++ t) := by
  have hk := hI.lt
  have e0 : dk.toList.take kk = compactUpTo d n := by
    apply List.ext_getElem?
    intro j
    by_cases hj : j < kk
    · rw [hI.low j hj, List.getElem?_take, if_pos hj, getElem!_pos dk j (by omega), Array.getElem?_toList, Array.getElem?_eq_getElem]
    · rw [List.getElem?_take, if_neg hj, List.getElem?_eq_none (by rw [hI.len]; omega)]
  have e1 : (rcs dk.toList).length = n * 2 := by rw [rcs_len, Array.length_toList, hd]
  have e2 : (cl dk t).toList = rcs dk.toList ++ t := rfl
  rw [e2, List.take_append_of_le_length (by omega), Nat.zero_add, rcs_take, e0, show kk * 2 + (n - kk) * 2 = n * 2 by omega, ← e1, List.drop_left' rfl]
  unfold cl
  rw [List.append_assoc]
theorem Compact_any (b n cap : Nat) (t : List Value) (d : Array Rp) (hd : d.size = n) (hn : n ≤ 1000000) (hc : n ≤ cap) (w0 : World) (L : List Ent) (w : World) (hp : Hp w0 w (BD b t d :: L)) :
    Ret Tryz.prog 75 [.slice (some ⟨b, 0, none⟩) n cap] w fun u w' => ∃ t', u = .slice (some ⟨b, 0, none⟩) (compactUpTo d n).length cap ∧
      (compactUpTo d n).length * 2 + t'.length = n * 2 + t.length ∧ Hp w0 w' (BD b t' (compactUpTo d n).toArray :: L) := by
  have hall : (∀ j, j < n → keeps d j = true) → (compactUpTo d n).length = n ∧ (compactUpTo d n).toArray = d := by
    intro h
    rw [compactUpTo_all d n h, ← hd, range_map_get]
    simp
  refine enter Tryz.func75 rfl rfl ⟨rfl, rfl⟩ rfl ?_
  repeat (first | refine WC.seq ?_ | refine WC.reg ?_ | refine WL.pure rfl rfl rfl ?_ | refine WL.nil ?_ | refine WC.skip ?_ | refine WC.block ?_ | refine WC.condT rfl ?_ | refine WC.condF rfl ?_ | refine WL.off rfl rfl rfl ?_ | refine WL.off0 rfl rfl ?_ | refine WC.exit ?_ | refine blk_hit ?_ | refine blk_miss rfl ?_ | refine WC.ret ?_)
  refine WC.cond rfl (fun h2 => ?_) (fun h2 => ?_)
  · have h2 : n < 2 := by have := of_decide_eq_true h2; omega
    obtain ⟨e1, e2⟩ := hall (fun j hj => by
      rcases Nat.eq_zero_or_pos j with rfl | h
      · exact keeps_lt_one d 0 (by decide)
      · omega)
    repeat (first | refine WC.seq ?_ | refine WC.reg ?_ | refine WL.pure rfl rfl rfl ?_ | refine WL.nil ?_ | refine WC.skip ?_ | refine WC.block ?_ | refine WC.condT rfl ?_ | refine WC.condF rfl ?_ | refine WL.off rfl rfl rfl ?_ | refine WL.off0 rfl rfl ?_ | refine WC.exit ?_ | refine blk_hit ?_ | refine blk_miss rfl ?_ | refine WC.ret ?_)
    exact Res.one (v := .slice (some ⟨b, 0, none⟩) n cap) rfl rfl rfl ⟨t, by rw [e1], by rw [e1], by rw [e2]; exact hp⟩
  · have h2 : 2 ≤ n := by have := of_decide_eq_false h2; omega
    repeat (first | refine WC.seq ?_ | refine WC.reg ?_ | refine WL.pure rfl rfl rfl ?_ | refine WL.nil ?_ | refine WC.skip ?_ | refine WC.block ?_ | refine WC.condT rfl ?_ | refine WC.condF rfl ?_ | refine WL.off rfl rfl rfl ?_ | refine WL.off0 rfl rfl ?_ | refine WC.exit ?_ | refine blk_hit ?_ | refine blk_miss rfl ?_ | refine WC.ret ?_)
    refine WC.loop Nat (fun k => [(0, .slice (some ⟨b, 0, none⟩) n cap), (3, .int .i64 (k : Nat))])
      (fun k w' => 1 ≤ k ∧ k ≤ n ∧ (∀ j, j < k → keeps d j = true) ∧ Hp w0 w' (BD b t d :: L)) (fun k => n - k) 1 ⟨rfl, rfl, rfl⟩ ⟨Nat.le_refl _, by omega, keeps_lt_one d, hp⟩ ?_
    clear hp w
    rintro k w ⟨hk1, hkn, hkeep, hp⟩
    repeat (first | refine WC.seq ?_ | refine WC.reg ?_ | refine WL.pure rfl rfl rfl ?_ | refine WL.nil ?_ | refine WC.skip ?_ | refine WC.block ?_ | refine WC.condT rfl ?_ | refine WC.condF rfl ?_ | refine WL.off rfl rfl rfl ?_ | refine WL.off0 rfl rfl ?_ | refine WC.exit ?_ | refine blk_hit ?_ | refine blk_miss rfl ?_ | refine WC.ret ?_)
    refine WC.cond rfl (fun hc1 => ?_) (fun hc1 => ?_)
    · have hkn : k < n := by have := of_decide_eq_true hc1; omega
      have ek : IntKind.i64.wrap ((k : Int) - 1) = ((k - 1 : Nat) : Int) := by rw [wrap_mid (by omega) (by omega)]; omega
      repeat (first | refine WC.seq ?_ | refine WC.reg ?_ | refine WL.pure rfl rfl rfl ?_ | refine WL.nil ?_ | refine WC.skip ?_ | refine WC.block ?_ | refine WC.condT rfl ?_ | refine WC.condF rfl ?_ | refine WL.off rfl rfl rfl ?_ | refine WL.off0 rfl rfl ?_ | refine WC.exit ?_ | refine blk_hit ?_ | refine blk_miss rfl ?_ | refine WC.ret ?_)
      refine WC.mid Bool (fun q => [(0, .slice (some ⟨b, 0, none⟩) n cap), (3, .int .i64 (k : Nat)), (25, .bool q)])
        (fun q w' => q = decide (d[k]! = d[k - 1]!) ∧ Hp w0 w' (BD b t d :: L)) ?_ ?_
      · refine WC.regQ (fun w' => Hp w0 w' (BD b t d :: L)) mixed (by kernel_rfl) (fun w' hw' => hp.keep hw') ?_
        repeat (first | refine WQ.pure rfl rfl rfl ?_ | refine WQ.off rfl rfl rfl ?_ | refine WQ.nil ?_)
        refine WQ.ixD (j := k) rfl (fun _ => rfl) rfl rfl rfl rfl rfl rfl rfl rfl rfl (fun _ h => h) (by omega) (by omega) ?_
        repeat (first | refine WQ.pure rfl rfl rfl ?_ | refine WQ.off rfl rfl rfl ?_ | refine WQ.nil ?_)
        refine WQ.known (d := 22) (congrArg (fun z => some (Value.int .i64 z)) ek) ?_
        refine WQ.ixD (j := k - 1) rfl (fun _ => rfl) rfl rfl rfl rfl rfl rfl rfl rfl rfl (fun _ h => h) (by omega) (by omega) ?_
        refine WQ.sEqR rfl rfl rfl rfl rfl rfl (by decide) (by decide) rfl rfl (by kernel_rfl) (by kernel_rfl) rfl rfl (.inl ⟨rfl, rfl⟩) ?_
        repeat (first | refine WQ.pure rfl rfl rfl ?_ | refine WQ.off rfl rfl rfl ?_ | refine WQ.nil ?_)
        intro w' hp'
        exact ⟨_, ⟨rfl, rfl, rfl, rfl⟩, eq2, hp'⟩
      · rintro q e1 w1 hsub ⟨hq, hp1⟩
        refine WC.sub hsub ?_
        clear hp w
        refine WC.cond rfl (fun hc2 => ?_) (fun hc2 => ?_)
        · have hdup : d[k]! = d[k - 1]! := by rw [hc2] at hq; exact of_decide_eq_true hq.symm
          repeat (first | refine WC.seq ?_ | refine WC.reg ?_ | refine WL.pure rfl rfl rfl ?_ | refine WL.nil ?_ | refine WC.skip ?_ | refine WC.block ?_ | refine WC.condT rfl ?_ | refine WC.condF rfl ?_ | refine WL.off rfl rfl rfl ?_ | refine WL.off0 rfl rfl ?_ | refine WC.exit ?_ | refine blk_hit ?_ | refine blk_miss rfl ?_ | refine WC.ret ?_)
          refine WL.val rfl rfl rfl (ySlB (l := k) rfl rfl rfl rfl (by omega) hc (by omega)) ?_
          repeat (first | refine WC.seq ?_ | refine WC.reg ?_ | refine WL.pure rfl rfl rfl ?_ | refine WL.nil ?_ | refine WC.skip ?_ | refine WC.block ?_ | refine WC.condT rfl ?_ | refine WC.condF rfl ?_ | refine WL.off rfl rfl rfl ?_ | refine WL.off0 rfl rfl ?_ | refine WC.exit ?_ | refine blk_hit ?_ | refine blk_miss rfl ?_ | refine WC.ret ?_)
          refine WC.loop (Nat × Nat × Array Rp) (fun (kk, k2, dk) => [(0, .slice (some ⟨b, 0, none⟩) n cap), (3, .int .i64 (kk : Nat)), (4, .slice (some ⟨b, 0 + k * 2, none⟩) (n - k) (cap - k)), (5, .int .i64 (k2 : Nat))])
            (fun (kk, k2, dk) w' => 1 ≤ k2 ∧ k + k2 ≤ n ∧ CompInv d (k + k2) kk dk ∧ Hp w0 w' (BD b t dk :: L)) (fun (kk, k2, dk) => n - (k + k2)) (k, 1, d) ⟨rfl, rfl, rfl, rfl, rfl⟩ ⟨Nat.le_refl _, by omega, CompInv.start hkeep (keeps_neg (by omega) hdup), hp1⟩ ?_
          clear hp1 w1
          rintro ⟨kk, k2, dk⟩ w1 ⟨h21, h2n, hI, hp1⟩
          have hkl := hI.lt
          have hds := hI.size
          repeat (first | refine WC.seq ?_ | refine WC.reg ?_ | refine WL.pure rfl rfl rfl ?_ | refine WL.nil ?_ | refine WC.skip ?_ | refine WC.block ?_ | refine WC.condT rfl ?_ | refine WC.condF rfl ?_ | refine WL.off rfl rfl rfl ?_ | refine WL.off0 rfl rfl ?_ | refine WC.exit ?_ | refine blk_hit ?_ | refine blk_miss rfl ?_ | refine WC.ret ?_)
          refine WC.cond rfl (fun hc3 => ?_) (fun hc3 => ?_)
          · have h2n : k + k2 < n := by have := of_decide_eq_true hc3; omega
            have ek2 : IntKind.i64.wrap ((k2 : Int) - 1) = ((k2 - 1 : Nat) : Int) := by rw [wrap_mid (by omega) (by omega)]; omega
            have step2 := wrap_succ h2n (by omega)
            have step2 : IntKind.i64.wrap ((k2 : Int) + 1) = ((k2 + 1 : Nat) : Int) := wrap_succ (n := n) (by omega) (by omega)
            have stepk : IntKind.i64.wrap ((kk : Int) + 1) = ((kk + 1 : Nat) : Int) := wrap_succ (n := n) (by omega) (by omega)
            have hx1 : dk[k + k2]! = d[k + k2]! := hI.high _ (by omega)
            have hx2 : dk[k + (k2 - 1)]! = d[k + k2 - 1]! := by rw [show k + (k2 - 1) = k + k2 - 1 by omega]; exact hI.high _ (by omega)
            repeat (first | refine WC.seq ?_ | refine WC.reg ?_ | refine WL.pure rfl rfl rfl ?_ | refine WL.nil ?_ | refine WC.skip ?_ | refine WC.block ?_ | refine WC.condT rfl ?_ | refine WC.condF rfl ?_ | refine WL.off rfl rfl rfl ?_ | refine WL.off0 rfl rfl ?_ | refine WC.exit ?_ | refine blk_hit ?_ | refine blk_miss rfl ?_ | refine WC.ret ?_)
            refine WC.mid Bool (fun q => [(0, .slice (some ⟨b, 0, none⟩) n cap), (3, .int .i64 (kk : Nat)), (4, .slice (some ⟨b, 0 + k * 2, none⟩) (n - k) (cap - k)), (5, .int .i64 (k2 : Nat)), (44, .bool q)])
              (fun q w' => q = !decide (d[k + k2]! = d[k + k2 - 1]!) ∧ Hp w0 w' (BD b t dk :: L)) ?_ ?_
            · refine WC.regQ (fun w' => Hp w0 w' (BD b t dk :: L)) mixed (by kernel_rfl) (fun w' hw' => hp1.keep hw') ?_
              repeat (first | refine WQ.pure rfl rfl rfl ?_ | refine WQ.off rfl rfl rfl ?_ | refine WQ.nil ?_)
              refine WQ.ixO (p := k) (j := k2) rfl (fun _ => rfl) rfl rfl rfl rfl rfl rfl rfl rfl rfl (fun _ h => h) (by omega) (by omega) ?_
              repeat (first | refine WQ.pure rfl rfl rfl ?_ | refine WQ.off rfl rfl rfl ?_ | refine WQ.nil ?_)
              refine WQ.known (d := 41) (congrArg (fun z => some (Value.int .i64 z)) ek2) ?_
              refine WQ.ixO (p := k) (j := k2 - 1) rfl (fun _ => rfl) rfl rfl rfl rfl rfl rfl rfl rfl rfl (fun _ h => h) (by omega) (by omega) ?_
              refine WQ.sEqR rfl rfl rfl rfl rfl rfl (by decide) (by decide) rfl rfl (by kernel_rfl) (by kernel_rfl) rfl rfl (.inr ⟨rfl, rfl⟩) ?_
              repeat (first | refine WQ.pure rfl rfl rfl ?_ | refine WQ.off rfl rfl rfl ?_ | refine WQ.nil ?_)
              intro w' hp'
              exact ⟨_, ⟨rfl, rfl, rfl, rfl, rfl, rfl⟩, by rw [← hx1, ← hx2, eq2], hp'⟩
            · rintro q e2 w2 hsub ⟨hq, hp2⟩
              refine WC.sub hsub ?_
              clear hp1 w1
              refine WC.cond rfl (fun hc4 => ?_) (fun hc4 => ?_)
              · have hne : d[k + k2]! ≠ d[k + k2 - 1]! := by
                  rw [hc4] at hq
                  intro h
                  rw [decide_eq_true h] at hq
                  cases hq
                repeat (first | refine WC.seq ?_ | refine WC.reg ?_ | refine WL.pure rfl rfl rfl ?_ | refine WL.nil ?_ | refine WC.skip ?_ | refine WC.block ?_ | refine WC.condT rfl ?_ | refine WC.condF rfl ?_ | refine WL.off rfl rfl rfl ?_ | refine WL.off0 rfl rfl ?_ | refine WC.exit ?_ | refine blk_hit ?_ | refine blk_miss rfl ?_ | refine WC.ret ?_)
                refine WL.ix rfl rfl rfl rfl rfl (j := k2) (by omega) rfl ?_
                refine WL.loadN (cs := rc dk[k + k2]!) rfl rfl rfl rfl rfl rfl (cl_loadO hp2 (by omega)) ?_
                refine WL.ix rfl rfl rfl rfl rfl (j := kk) (by omega) rfl ?_
                refine WL.storeN rfl rfl rfl rfl rfl (rc_one dk[k + k2]!) (hp2.obj 0 rfl) (cl_room (j := kk) (by omega)) (cl_store (j := kk) (by omega)) (fun w3 hw3 => ?_)
                have hp3 := hp2.set 0 rfl rfl hw3
                repeat (first | refine WC.seq ?_ | refine WC.reg ?_ | refine WL.pure rfl rfl rfl ?_ | refine WL.nil ?_ | refine WC.skip ?_ | refine WC.block ?_ | refine WC.condT rfl ?_ | refine WC.condF rfl ?_ | refine WL.off rfl rfl rfl ?_ | refine WL.off0 rfl rfl ?_ | refine WC.exit ?_ | refine blk_hit ?_ | refine blk_miss rfl ?_ | refine WC.ret ?_)
                refine ⟨(kk + 1, k2 + 1, dk.setIfInBounds kk dk[k + k2]!), (by show n - (k + (k2 + 1)) < n - (k + k2); omega), ⟨rfl, congrArg (fun z => some (Value.int .i64 z)) stepk, rfl, congrArg (fun z => some (Value.int .i64 z)) step2, rfl⟩, by omega, by omega, ?_, hp3⟩
                rw [hx1, ← Nat.add_assoc]
                exact hI.keep (by omega) (keeps_pos hne)
              · have heq : d[k + k2]! = d[k + k2 - 1]! := by
                  rw [hc4] at hq
                  by_cases h : d[k + k2]! = d[k + k2 - 1]!
                  · exact h
                  · rw [decide_eq_false h] at hq
                    cases hq
                repeat (first | refine WC.seq ?_ | refine WC.reg ?_ | refine WL.pure rfl rfl rfl ?_ | refine WL.nil ?_ | refine WC.skip ?_ | refine WC.block ?_ | refine WC.condT rfl ?_ | refine WC.condF rfl ?_ | refine WL.off rfl rfl rfl ?_ | refine WL.off0 rfl rfl ?_ | refine WC.exit ?_ | refine blk_hit ?_ | refine blk_miss rfl ?_ | refine WC.ret ?_)
                refine ⟨(kk, k2 + 1, dk), (by show n - (k + (k2 + 1)) < n - (k + k2); omega), ⟨rfl, rfl, rfl, congrArg (fun z => some (Value.int .i64 z)) step2, rfl⟩, by omega, by omega, ?_, hp2⟩
                rw [← Nat.add_assoc]
                exact hI.skip (keeps_neg (by omega) heq)
          · obtain hend : k + k2 = n := by have := of_decide_eq_false hc3; omega
            rw [hend] at hI hkl
            repeat (first | refine WC.seq ?_ | refine WC.reg ?_ | refine WL.pure rfl rfl rfl ?_ | refine WL.nil ?_ | refine WC.skip ?_ | refine WC.block ?_ | refine WC.condT rfl ?_ | refine WC.condF rfl ?_ | refine WL.off rfl rfl rfl ?_ | refine WL.off0 rfl rfl ?_ | refine WC.exit ?_ | refine blk_hit ?_ | refine blk_miss rfl ?_ | refine WC.ret ?_)
            refine WL.val rfl rfl rfl (ySlB (l := kk) rfl rfl rfl rfl (by omega) hc (by omega)) ?_
            refine WL.clear rfl rfl rfl rfl (by decide) (by decide) rfl (by omega) (hp1.obj 0 rfl) (by rw [cl_size]; show 0 + kk * 2 + (n - kk) * 2 ≤ _; omega) (comp_cells hI (by rw [hds, hd]) t (Builtin.zeroCells (.agg #[st [], st []] : Value).cells (n - kk)).toList (by rw [Array.length_toList, size_zeroCells]; rfl)) (fun w3 hw3 => ?_)
            have hp3 := hp1.set 0 rfl rfl hw3
            repeat (first | refine WC.seq ?_ | refine WC.reg ?_ | refine WL.pure rfl rfl rfl ?_ | refine WL.nil ?_ | refine WC.skip ?_ | refine WC.block ?_ | refine WC.condT rfl ?_ | refine WC.condF rfl ?_ | refine WL.off rfl rfl rfl ?_ | refine WL.off0 rfl rfl ?_ | refine WC.exit ?_ | refine blk_hit ?_ | refine blk_miss rfl ?_ | refine WC.ret ?_)
            refine WL.sliceHi (h := kk) rfl rfl rfl rfl rfl rfl (by omega) ?_
            repeat (first | refine WC.seq ?_ | refine WC.reg ?_ | refine WL.pure rfl rfl rfl ?_ | refine WL.nil ?_ | refine WC.skip ?_ | refine WC.block ?_ | refine WC.condT rfl ?_ | refine WC.condF rfl ?_ | refine WL.off rfl rfl rfl ?_ | refine WL.off0 rfl rfl ?_ | refine WC.exit ?_ | refine blk_hit ?_ | refine blk_miss rfl ?_ | refine WC.ret ?_)
            have hlen := hI.len
            refine Res.one (v := .slice (some ⟨b, 0, none⟩) kk cap) rfl rfl rfl ⟨(Builtin.zeroCells (.agg #[st [], st []] : Value).cells (n - kk)).toList ++ t, by rw [hlen], ?_, hp3⟩
            rw [hlen, List.length_append, Array.length_toList, size_zeroCells, show (Value.agg #[st [], st []]).cells.size = 2 from rfl]
            omega
        · have hne : ¬ d[k]! = d[k - 1]! := by rw [hc2] at hq; exact of_decide_eq_false hq.symm
          have step := wrap_succ hkn (by omega)
          repeat (first | refine WC.seq ?_ | refine WC.reg ?_ | refine WL.pure rfl rfl rfl ?_ | refine WL.nil ?_ | refine WC.skip ?_ | refine WC.block ?_ | refine WC.condT rfl ?_ | refine WC.condF rfl ?_ | refine WL.off rfl rfl rfl ?_ | refine WL.off0 rfl rfl ?_ | refine WC.exit ?_ | refine blk_hit ?_ | refine blk_miss rfl ?_ | refine WC.ret ?_)
          refine ⟨k + 1, by omega, ⟨rfl, congrArg (fun z => some (Value.int .i64 z)) step, rfl⟩, by omega, by omega, fun j hj => ?_, hp1⟩
          rcases Nat.lt_or_ge j k with h | h
          · exact hkeep j h
          · obtain rfl : j = k := by omega
            exact keeps_pos hne
    · obtain rfl : k = n := by have := of_decide_eq_false hc1; omega
      obtain ⟨e1, e2⟩ := hall hkeep
      repeat (first | refine WC.seq ?_ | refine WC.reg ?_ | refine WL.pure rfl rfl rfl ?_ | refine WL.nil ?_ | refine WC.skip ?_ | refine WC.block ?_ | refine WC.condT rfl ?_ | refine WC.condF rfl ?_ | refine WL.off rfl rfl rfl ?_ | refine WL.off0 rfl rfl ?_ | refine WC.exit ?_ | refine blk_hit ?_ | refine blk_miss rfl ?_ | refine WC.ret ?_)
      exact Res.one (v := .slice (some ⟨b, 0, none⟩) k cap) rfl rfl rfl ⟨t, by rw [e1], by rw [e1], by rw [e2]; exact hp⟩
end Go.Proofs.YtoghnhbjdnjghaaGreat
