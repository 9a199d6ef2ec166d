/- ltl, eighth: lists of ints joined; a list searched by a test. -/
import Derived.Test.YtpbbneclkhfgoaaDoorU7
import Derived.Lib.AppendZerosOnto
import Derived.Laws.CopyRow
import Derived.WalkSpells
namespace Go.W
open Go.RowKit
def zs (xs : List Int) : List Value := xs.map (Value.int .i64)
theorem zs_len (xs : List Int) : (zs xs).length = xs.length := by simp [zs]
theorem zs_at {xs : List Int} {i : Nat} (h : i < xs.length) : (zs xs)[i]? = some (.int .i64 xs[i]) := by simp [zs, h]
theorem zs_app (xs ys : List Int) : zs (xs ++ ys) = zs xs ++ zs ys := by simp [zs]
theorem zs_cells (xs : List Int) : Cells (zs xs) := by
  intro v hv
  obtain ⟨x, _, rfl⟩ := List.mem_map.1 hv
  rfl
theorem zs_set (xs : List Int) (i : Nat) (x : Int) : (zs xs).toArray.setIfInBounds i (.int .i64 x) = (zs (xs.set i x)).toArray := by
  simp [zs, List.map_set]
section
variable {P : Program} [T : TT P] {ro : Option Nat} {n : Nat} {l0 rest : List Oper} {N : Nor} {Z : Pan} {e : Env} {w w' : World} {ty : TypeId} {pos : String} {aft : Array Edge} {g : Option (Nat × Bool)}
theorem WL.eqNil {d : Nat} {t t2 E : TypeId} {z : Value} {s0 b0 k c : Nat} {x : Operand} {a : Option Addr} (hg : grd l0 e g = some true) (hd : Nat.blt d n = true) (ht : T.ti t = some ⟨.slice E, z, s0, b0⟩) (hx : opv e x = some (.slice a k c))
    (h : WL P ro n l0 N Z rest ((d, .bool a.isNone) :: e) w) : WL P ro n l0 N Z (⟨some d, .binOp .eql t x (.const (.slice none 0 0)) t2, ty, pos, aft, g⟩ :: rest) e w := by
  have hu : P.underlying t = some (.slice E) := (T.ok t _ ht).k
  refine WL.val hg rfl hd ?_ h
  intro ρ hρ d' pos' aft' g'
  have h2 : ρ (.const (.slice none 0 0)) = .slice none 0 0 := hρ _ _ rfl
  simp [execOp, hρ _ _ hx, h2, eqGuard_at_slice, Lib.run_eql_slice_nil w t E a k c 0 0 hu]
/-- An empty list that is not nil. -/
theorem WL.buildE {d : Nat} {t E : TypeId} {i : TI} {z : Value} {s0 b0 : Nat} (hg : grd l0 e g = some true) (hd : Nat.blt d n = true) (ht : T.ti t = some ⟨.slice E, z, s0, b0⟩) (hi : T.ti E = some i)
    (h : ∀ b w', NewB w b (.cells #[] E) w' → WL P ro n l0 N Z rest ((d, .slice (some ⟨b, 0, none⟩) 0 0) :: e) w') :
    WL P ro n l0 N Z (⟨some d, .buildSlice t 0 #[], ty, pos, aft, g⟩ :: rest) e w := by
  have hu : P.underlying t = some (.slice E) := (T.ok t _ ht).k
  have hs := (T.ok E i hi).sizeOf w
  refine WL.val hg rfl hd ?_ (h _ _ (newB w _))
  intro ρ hρ d' pos' aft' g'
  simp [execOp, Instr.buildSlice, Sem.run_bind, run_underlying hu, Result.andThen_ok, hs, newRow, Instr.fill]
  congr 2
  rw [← Array.toList_inj]; simp
theorem newD {w : World} {o : Obj} : NewB w w.heap.size o (w.drew.alloc o) :=
  ⟨rfl, heap_new w.drew o, grownBy_trans (drewB w) (grown_alloc w.drew o)⟩
theorem WL.capS {d : Nat} {x : Operand} {t t2 E : TypeId} {z : Value} {s0 b0 len cap : Nat} {a : Option Addr} (hg : grd l0 e g = some true) (hd : Nat.blt d n = true) (ht : T.ti t = some ⟨.slice E, z, s0, b0⟩) (hx : opv e x = some (.slice a len cap))
    (h : WL P ro n l0 N Z rest ((d, .int .i64 (cap : Nat)) :: e) w) : WL P ro n l0 N Z (⟨some d, .call ⟨.builtin .cap, #[x], #[t]⟩, t2, pos, aft, g⟩ :: rest) e w := by
  have hu : P.underlying t = some (.slice E) := (T.ok t _ ht).k
  refine WL.val hg rfl hd ?_ h
  intro ρ hρ d' pos' aft' g'
  simp [execOp, resolve, invoke, builtin, hρ _ _ hx, Builtin.cap_, run_underlying hu, goInt]
/-- append(nil, make(.., m)..). -/
theorem WL.appendZ0 {d : Nat} {s x : Operand} {t tn E : TypeId} {i : TI} {z z2 : Value} {s0 b0 s2 b2 m : Nat} {k kn : IntKind}
    (hg : grd l0 e g = some true) (hd : Nat.blt d n = true) (ht : T.ti t = some ⟨.slice E, z, s0, b0⟩) (hi : T.ti E = some i) (htn : T.ti tn = some ⟨.int kn, z2, s2, b2⟩)
    (hzs : i.zero.cells.size = i.size) (hsz : 0 < i.size)
    (hsv : opv e s = some (.slice none 0 0)) (hxv : opv e x = some (.int k (m : Nat))) (h0 : 0 < m) (h63 : m ≤ maxLen) (hb : m * i.bytes ≤ 140737488355328)
    (h : ∀ b cap arr w', NewB w b (.cells arr E (0, 0)) w' → arr.size = cap * i.size → m ≤ cap → cap ≤ maxLen → WL P ro n l0 N Z rest ((d, .slice (some ⟨b, 0, none⟩) m cap) :: e) w') :
    WL P ro n l0 N Z (⟨some d, .call ⟨.builtin .append, #[s, x], #[t, tn]⟩, ty, pos, aft, g⟩ :: rest) e w := by
  have hu : P.underlying t = some (.slice E) := (T.ok t _ ht).k
  have hun : P.underlying tn = some (.int kn) := (T.ok tn _ htn).k
  obtain ⟨j, hj, hjj⟩ := Option.map_eq_some_iff.1 (T.ok E i hi).info
  simp only [Prod.mk.injEq] at hjj
  obtain ⟨hj1, hj2, hj3⟩ := hjj
  have hr := Lib.run_append_nil_zeros (P := P) w t tn ty E j i.zero k kn hu hun hj hj1 m h0 (by omega) (by simp only [maxLen] at h63; omega) (by rw [hj3]; omega)
  refine WL.val hg rfl hd ?_ (h _ (grownCap w m 0 E) (Builtin.zeroCells i.zero.cells m ++ Builtin.zeroCells i.zero.cells (grownCap w m 0 E - m)) _ newD ?_ (grownCap_ge _ _ _ _) (grownCap_le_maxLen _ _ _ _ h63))
  · intro ρ hρ d' pos' aft' g'
    simp [execOp, resolve, invoke, builtin, hρ _ _ hsv, hρ _ _ hxv, hr]
  · have := grownCap_ge w m 0 E
    rw [Array.size_append, size_zeroCells, size_zeroCells, hzs, ← Nat.add_mul]
    congr 1
    omega
/-- append(s, make(.., m)..) where there is no room. -/
theorem WL.appendZ {d : Nat} {s x : Operand} {t tn E : TypeId} {i : TI} {z z2 : Value} {s0 b0 s2 b2 m sl sc : Nat} {a : Addr} {olds : List Value} {k kn : IntKind}
    (hg : grd l0 e g = some true) (hd : Nat.blt d n = true) (ht : T.ti t = some ⟨.slice E, z, s0, b0⟩) (hi : T.ti E = some i) (htn : T.ti tn = some ⟨.int kn, z2, s2, b2⟩)
    (hzs : i.zero.cells.size = i.size) (hsz : 0 < i.size)
    (hsv : opv e s = some (.slice (some a) sl sc)) (hs : Sl w (some a) olds) (hl : olds.length = sl * i.size) (hxv : opv e x = some (.int k (m : Nat))) (h0 : 0 < m) (hroom : sc < sl + m) (h63 : sl + m ≤ maxLen) (hb : (sl + m) * i.bytes ≤ 140737488355328)
    (h : ∀ b cap arr w', NewB w b (.cells arr E (0, 0)) w' → arr.size = cap * i.size → sl + m ≤ cap → cap ≤ maxLen → arr.toList.take (sl * i.size) = olds → WL P ro n l0 N Z rest ((d, .slice (some ⟨b, 0, none⟩) (sl + m) cap) :: e) w') :
    WL P ro n l0 N Z (⟨some d, .call ⟨.builtin .append, #[s, x], #[t, tn]⟩, ty, pos, aft, g⟩ :: rest) e w := by
  have hu : P.underlying t = some (.slice E) := (T.ok t _ ht).k
  have hun : P.underlying tn = some (.int kn) := (T.ok tn _ htn).k
  obtain ⟨j, hj, hjj⟩ := Option.map_eq_some_iff.1 (T.ok E i hi).info
  simp only [Prod.mk.injEq] at hjj
  obtain ⟨hj1, hj2, hj3⟩ := hjj
  have hsrc : ∀ q v, olds[q]? = some v → w.drew.cell? (a.add q) = some v := by
    intro q v hq
    obtain ⟨b', o', ha', hc⟩ := hs q v hq
    simp only [Option.some.injEq] at ha'
    rw [ha', Addr.add_lit]; exact hc
  have hold : (Builtin.firstCells j.size sl (.slice (some a) sl sc)).run P w.drew = .ok olds.toArray w.drew := by
    have h1 := run_loadCells_list (P := P) w.drew a olds hsrc
    simp only [Builtin.firstCells]
    rw [hj2, ← hl]
    exact h1
  have hbm : m * i.bytes ≤ (sl + m) * i.bytes := Nat.mul_le_mul_right _ (by omega)
  have hr := Lib.run_append_grow_zeros (P := P) w t tn ty E j i.zero k kn hu hun hj hj1 (some a) sl sc olds hold m h0 (by omega) hroom (by simp only [maxLen] at h63; omega) (by rw [hj3]; omega) (growslice_fits (by omega) (by rw [hj3]; exact hb))
  have hge := grownCap_ge w (sl + m) sc E
  refine WL.val hg rfl hd ?_ (h _ (grownCap w (sl + m) sc E) (olds.toArray ++ Builtin.zeroCells i.zero.cells m ++ Builtin.zeroCells i.zero.cells (grownCap w (sl + m) sc E - (sl + m))) _ newD ?_ hge (grownCap_le_maxLen _ _ _ _ h63) ?_)
  · intro ρ hρ d' pos' aft' g'
    simp [execOp, resolve, invoke, builtin, hρ _ _ hsv, hρ _ _ hxv, hr]
  · rw [Array.size_append, Array.size_append, size_zeroCells, size_zeroCells, hzs, List.size_toArray, hl, ← Nat.add_mul, ← Nat.add_mul]
    congr 1
    omega
  · rw [Array.toList_append, Array.toList_append, List.append_assoc, ← hl]
    exact List.take_left' rfl
end
/-- A row that is not empty is a block. -/
theorem Hp.unrow {w0 w : World} {E s n : Nat} {v : Value} {xs : List Value} {L : List Ent} (h : Hp w0 w (.row E s v n xs :: L)) (hn : 0 < n) :
    ∃ b cap cur, v = .slice (some ⟨b, 0, none⟩) n cap ∧ n ≤ cap ∧ cap ≤ maxLen ∧ cur.size = cap * s ∧ cur.toList.take (n * s) = xs ∧ Hp w0 w (.blk b (.cells cur E (0, 0)) :: L) := by
  have h1 := List.pairwise_cons.1 h.dist
  obtain ⟨hl, ⟨hv, h0⟩ | ⟨b, cap, cur, hv, hb, hg, hnc, hcm, hcs, ht⟩⟩ := h.sat (.row E s v n xs) (by simp)
  · omega
  · refine ⟨b, cap, cur, hv, hnc, hcm, hcs, ht, h.below, ?_, List.pairwise_cons.2 ⟨fun y hy k hk => h1.1 y hy k ?_, h1.2⟩⟩
    · intro x hx
      rcases List.mem_cons.1 hx with hx | hx
      · subst hx; exact ⟨hb, hg⟩
      · exact h.sat x (by simp [hx])
    · rw [hv]
      simp only [Ent.owns, Value.ownBlock] at hk ⊢
      rw [hk]
/-- A block read as a row of fewer elements than there is room for. -/
theorem Hp.rowN {w0 w : World} {b n cap s : Nat} {arr : Array Value} {E : TypeId} {L : List Ent} (h : Hp w0 w (.blk b (.cells arr E (0, 0)) :: L)) (hs : arr.size = cap * s) (hn : n ≤ cap) (hm : cap ≤ maxLen) :
    Hp w0 w (.row E s (.slice (some ⟨b, 0, none⟩) n cap) n (arr.toList.take (n * s)) :: L) := by
  have h1 := List.pairwise_cons.1 h.dist
  have h2 := h.sat (.blk b (.cells arr E (0, 0))) (by simp)
  refine ⟨h.below, ?_, List.pairwise_cons.2 ⟨fun y hy k hk => h1.1 y hy k ?_, h1.2⟩⟩
  · intro x hx
    rcases List.mem_cons.1 hx with hx | hx
    · subst hx
      refine ⟨?_, .inr ⟨b, cap, arr, rfl, h2.1, h2.2, hn, hm, hs, rfl⟩⟩
      have : n * s ≤ cap * s := Nat.mul_le_mul_right _ hn
      rw [List.length_take, Array.length_toList, hs]
      omega
    · exact h.sat x (by simp [hx])
  · simp only [Ent.owns, Value.ownBlock] at hk ⊢
    simpa using hk
end Go.W
namespace Go.Proofs.YtpbbneclkhfgoaaDoor
open Go.W Go.Ltl Go.RowKit
set_option maxRecDepth 100000
attribute [local irreducible] WC WL WQ WS WH

/-- A row of ints. -/
abbrev Ri (v : Value) (l : List Int) : Ent := .row 3 1 v l.length (zs l)
theorem Grow_any (n : Nat) (hn : n ≤ 1000000) (w : World) :
    Ret Tryd.prog 69 [.slice none 0 0, .int .i64 (n : Nat)] w fun u w' => ∃ pa pc, u = .slice pa 0 pc ∧ Hp w w' [Ri u []] := by
  refine enter Tryd.func69 rfl rfl ⟨rfl, rfl⟩ rfl ?_
  repeat (first | refine WC.seq ?_ | refine WC.reg ?_ | refine WL.pure rfl rfl rfl ?_ | refine WL.nil ?_ | refine WC.skip ?_ | refine WC.block ?_ | refine WC.condT rfl ?_ | refine WC.condF rfl ?_ | refine WL.off rfl rfl rfl ?_ | refine WL.off0 rfl rfl ?_ | refine WC.exit ?_ | refine blk_hit ?_ | refine blk_miss rfl ?_ | refine WC.ret ?_)
  have e1 : IntKind.i64.wrap ((n : Int) - IntKind.i64.wrap (((0 : Nat) : Int) - ((0 : Nat) : Int))) = ((n : Nat) : Int) := by rw [show IntKind.i64.wrap (((0 : Nat) : Int) - ((0 : Nat) : Int)) = 0 from rfl, Int.sub_zero]; exact wrap_mid (by omega) (by omega)
  refine WL.capS rfl rfl rfl rfl ?_
  repeat (first | refine WC.seq ?_ | refine WC.reg ?_ | refine WL.pure rfl rfl rfl ?_ | refine WL.nil ?_ | refine WC.skip ?_ | refine WC.block ?_ | refine WC.condT rfl ?_ | refine WC.condF rfl ?_ | refine WL.off rfl rfl rfl ?_ | refine WL.off0 rfl rfl ?_ | refine WC.exit ?_ | refine blk_hit ?_ | refine blk_miss rfl ?_ | refine WC.ret ?_)
  refine WC.known (d := 1) (congrArg (fun z => some (Value.int .i64 z)) e1) ?_
  refine WC.cond rfl (fun hc => ?_) (fun hc => ?_)
  · have h0 : 0 < n := by have := of_decide_eq_true hc; rw [e1] at this; omega
    repeat (first | refine WC.seq ?_ | refine WC.reg ?_ | refine WL.pure rfl rfl rfl ?_ | refine WL.nil ?_ | refine WC.skip ?_ | refine WC.block ?_ | refine WC.condT rfl ?_ | refine WC.condF rfl ?_ | refine WL.off rfl rfl rfl ?_ | refine WL.off0 rfl rfl ?_ | refine WC.exit ?_ | refine blk_hit ?_ | refine blk_miss rfl ?_ | refine WC.ret ?_)
    refine WL.capS rfl rfl rfl rfl ?_
    repeat (first | refine WC.seq ?_ | refine WC.reg ?_ | refine WL.pure rfl rfl rfl ?_ | refine WL.nil ?_ | refine WC.skip ?_ | refine WC.block ?_ | refine WC.condT rfl ?_ | refine WC.condF rfl ?_ | refine WL.off rfl rfl rfl ?_ | refine WL.off0 rfl rfl ?_ | refine WC.exit ?_ | refine blk_hit ?_ | refine blk_miss rfl ?_ | refine WC.ret ?_)
    refine WL.sliceHi (h := 0) rfl rfl rfl rfl rfl rfl (Nat.le_refl 0) ?_
    repeat (first | refine WC.seq ?_ | refine WC.reg ?_ | refine WL.pure rfl rfl rfl ?_ | refine WL.nil ?_ | refine WC.skip ?_ | refine WC.block ?_ | refine WC.condT rfl ?_ | refine WC.condF rfl ?_ | refine WL.off rfl rfl rfl ?_ | refine WL.off0 rfl rfl ?_ | refine WC.exit ?_ | refine blk_hit ?_ | refine blk_miss rfl ?_ | refine WC.ret ?_)
    refine WL.appendZ0 rfl rfl rfl rfl rfl rfl (by decide) rfl rfl h0 (by unfold maxLen; omega) (by show n * 8 ≤ _; omega) ?_
    intro b cap arr w1 hb hsz hc1 hc2
    have hp1 := ((Hp.start w).new hb).rowN (s := 1) hsz (Nat.zero_le cap) hc2
    rw [Nat.zero_mul, List.take_zero] at hp1
    repeat (first | refine WC.seq ?_ | refine WC.reg ?_ | refine WL.pure rfl rfl rfl ?_ | refine WL.nil ?_ | refine WC.skip ?_ | refine WC.block ?_ | refine WC.condT rfl ?_ | refine WC.condF rfl ?_ | refine WL.off rfl rfl rfl ?_ | refine WL.off0 rfl rfl ?_ | refine WC.exit ?_ | refine blk_hit ?_ | refine blk_miss rfl ?_ | refine WC.ret ?_)
    refine WL.sliceHi (h := 0) rfl rfl rfl rfl rfl rfl (Nat.zero_le cap) ?_
    repeat (first | refine WC.seq ?_ | refine WC.reg ?_ | refine WL.pure rfl rfl rfl ?_ | refine WL.nil ?_ | refine WC.skip ?_ | refine WC.block ?_ | refine WC.condT rfl ?_ | refine WC.condF rfl ?_ | refine WL.off rfl rfl rfl ?_ | refine WL.off0 rfl rfl ?_ | refine WC.exit ?_ | refine blk_hit ?_ | refine blk_miss rfl ?_ | refine WC.ret ?_)
    exact Res.one rfl rfl rfl ⟨_, _, rfl, hp1⟩
  · repeat (first | refine WC.seq ?_ | refine WC.reg ?_ | refine WL.pure rfl rfl rfl ?_ | refine WL.nil ?_ | refine WC.skip ?_ | refine WC.block ?_ | refine WC.condT rfl ?_ | refine WC.condF rfl ?_ | refine WL.off rfl rfl rfl ?_ | refine WL.off0 rfl rfl ?_ | refine WC.exit ?_ | refine blk_hit ?_ | refine blk_miss rfl ?_ | refine WC.ret ?_)
    exact Res.one rfl rfl rfl ⟨none, 0, rfl, (Hp.start w).nilrow _ _⟩
/-- Slices laid one behind the other. -/
abbrev Vs := List (Option Addr × Nat × List Int)
def catV (vs : Vs) : List Value := vs.map fun x => .slice x.1 x.2.2.length x.2.1
def catL (vs : Vs) : List Int := vs.flatMap fun x => x.2.2
theorem catL_take (vs : Vs) {i : Nat} (hi : i < vs.length) : catL (vs.take (i + 1)) = catL (vs.take i) ++ vs[i].2.2 := by
  unfold catL
  rw [List.take_succ_eq_append_getElem hi, List.flatMap_append, List.flatMap_singleton]
theorem catL_le (vs : Vs) (i : Nat) : (catL (vs.take i)).length ≤ (catL vs).length := by
  conv => rhs; rw [← List.take_append_drop i vs]
  unfold catL
  rw [List.flatMap_append, List.length_append]
  omega
theorem Concat_any (a : Option Addr) (c : Nat) (vs : Vs) (hlen : vs.length ≤ 1000) (hsum : (catL vs).length ≤ 1000000) (w : World) (hs : Sl w a (catV vs)) (hv : ∀ x ∈ vs, Sl w x.1 (zs x.2.2)) :
    Ret Tryd.prog 43 [.slice a vs.length c] w fun u w' => ∃ pa pc, u = .slice pa (catL vs).length pc ∧ Hp w w' [Ri u (catL vs)] := by
  have hcat : ∀ {i : Nat} (hi : i < vs.length), (catV vs)[i]? = some (.slice vs[i].1 vs[i].2.2.length vs[i].2.1) := by
    intro i hi
    unfold catV
    rw [List.getElem?_map, List.getElem?_eq_getElem hi]
    rfl
  refine enter Tryd.func43 rfl rfl ⟨rfl, rfl⟩ rfl ?_
  repeat (first | refine WC.seq ?_ | refine WC.reg ?_ | refine WL.pure rfl rfl rfl ?_ | refine WL.nil ?_ | refine WC.skip ?_ | refine WC.block ?_ | refine WC.condT rfl ?_ | refine WC.condF rfl ?_ | refine WL.off rfl rfl rfl ?_ | refine WL.off0 rfl rfl ?_ | refine WC.exit ?_ | refine blk_hit ?_ | refine blk_miss rfl ?_ | refine WC.ret ?_)
  refine WC.loop Nat (fun i => [(0, .slice a vs.length c), (3, .int .i64 ((catL (vs.take i)).length : Nat)), (9, .slice a vs.length c), (10, .int .i64 (vs.length : Nat)), (11, .int .i64 (i : Nat))])
    (fun i w' => i ≤ vs.length ∧ w = w') (fun i => vs.length - i) 0 ⟨rfl, rfl, rfl, rfl, rfl, rfl⟩ ⟨Nat.zero_le _, rfl⟩ ?_
  rintro i w1 ⟨hi, rfl⟩
  repeat (first | refine WC.seq ?_ | refine WC.reg ?_ | refine WL.pure rfl rfl rfl ?_ | refine WL.nil ?_ | refine WC.skip ?_ | refine WC.block ?_ | refine WC.condT rfl ?_ | refine WC.condF rfl ?_ | refine WL.off rfl rfl rfl ?_ | refine WL.off0 rfl rfl ?_ | refine WC.exit ?_ | refine blk_hit ?_ | refine blk_miss rfl ?_ | refine WC.ret ?_)
  refine WC.cond rfl (fun hc => ?_) (fun hc => ?_)
  · have hi : i < vs.length := by have := of_decide_eq_true hc; omega
    have step := wrap_succ hi (by omega)
    have hle := catL_le vs (i + 1)
    have e1 := catL_take vs hi
    have e2 := congrArg List.length e1
    rw [List.length_append] at e2
    have e3 : IntKind.i64.wrap (((catL (vs.take i)).length : Int) + ((vs[i].2.2.length : Nat) : Int)) = (((catL (vs.take (i + 1))).length : Nat) : Int) := by rw [wrap_mid (by omega) (by omega)]; omega
    repeat (first | refine WC.seq ?_ | refine WC.reg ?_ | refine WL.pure rfl rfl rfl ?_ | refine WL.nil ?_ | refine WC.skip ?_ | refine WC.block ?_ | refine WC.condT rfl ?_ | refine WC.condF rfl ?_ | refine WL.off rfl rfl rfl ?_ | refine WL.off0 rfl rfl ?_ | refine WC.exit ?_ | refine blk_hit ?_ | refine blk_miss rfl ?_ | refine WC.ret ?_)
    refine WL.ixload rfl (fun _ => rfl) rfl rfl rfl rfl rfl rfl rfl hi rfl rfl hs (hcat hi) ?_
    intro pp
    repeat (first | refine WC.seq ?_ | refine WC.reg ?_ | refine WL.pure rfl rfl rfl ?_ | refine WL.nil ?_ | refine WC.skip ?_ | refine WC.block ?_ | refine WC.condT rfl ?_ | refine WC.condF rfl ?_ | refine WL.off rfl rfl rfl ?_ | refine WL.off0 rfl rfl ?_ | refine WC.exit ?_ | refine blk_hit ?_ | refine blk_miss rfl ?_ | refine WC.ret ?_)
    refine WC.known (d := 3) (congrArg (fun z => some (Value.int .i64 z)) e3) ?_
    refine WC.cond rfl (fun hc => by have := of_decide_eq_true hc; rw [e3] at this; omega) (fun hc => ?_)
    repeat (first | refine WC.seq ?_ | refine WC.reg ?_ | refine WL.pure rfl rfl rfl ?_ | refine WL.nil ?_ | refine WC.skip ?_ | refine WC.block ?_ | refine WC.condT rfl ?_ | refine WC.condF rfl ?_ | refine WL.off rfl rfl rfl ?_ | refine WL.off0 rfl rfl ?_ | refine WC.exit ?_ | refine blk_hit ?_ | refine blk_miss rfl ?_ | refine WC.ret ?_)
    exact ⟨i + 1, by omega, ⟨rfl, rfl, rfl, rfl, congrArg (fun z => some (Value.int .i64 z)) step, rfl⟩, by omega, rfl⟩
  · obtain rfl : i = vs.length := by have := of_decide_eq_false hc; omega
    rw [List.take_length]
    repeat (first | refine WC.seq ?_ | refine WC.reg ?_ | refine WL.pure rfl rfl rfl ?_ | refine WL.nil ?_ | refine WC.skip ?_ | refine WC.block ?_ | refine WC.condT rfl ?_ | refine WC.condF rfl ?_ | refine WL.off rfl rfl rfl ?_ | refine WL.off0 rfl rfl ?_ | refine WC.exit ?_ | refine blk_hit ?_ | refine blk_miss rfl ?_ | refine WC.ret ?_)
    refine WL.call rfl rfl rfl rfl rfl ent69 (Grow_any _ hsum w) ?_
    rintro _ w1 ⟨pa, pc, rfl, hp1⟩
    repeat (first | refine WC.seq ?_ | refine WC.reg ?_ | refine WL.pure rfl rfl rfl ?_ | refine WL.nil ?_ | refine WC.skip ?_ | refine WC.block ?_ | refine WC.condT rfl ?_ | refine WC.condF rfl ?_ | refine WL.off rfl rfl rfl ?_ | refine WL.off0 rfl rfl ?_ | refine WC.exit ?_ | refine blk_hit ?_ | refine blk_miss rfl ?_ | refine WC.ret ?_)
    refine WC.loop (Nat × Option Addr × Nat) (fun (i, pa, pc) => [(6, .slice pa (catL (vs.take i)).length pc), (25, .slice a vs.length c), (26, .int .i64 (vs.length : Nat)), (27, .int .i64 (i : Nat))])
      (fun (i, pa, pc) w' => i ≤ vs.length ∧ Hp w w' [Ri (.slice pa (catL (vs.take i)).length pc) (catL (vs.take i))]) (fun (i, _, _) => vs.length - i) (0, pa, pc) ⟨rfl, rfl, rfl, rfl, rfl⟩ ⟨Nat.zero_le _, hp1⟩ ?_
    clear hp1 w1
    rintro ⟨i, pa, pc⟩ w1 ⟨hi, hp1⟩
    repeat (first | refine WC.seq ?_ | refine WC.reg ?_ | refine WL.pure rfl rfl rfl ?_ | refine WL.nil ?_ | refine WC.skip ?_ | refine WC.block ?_ | refine WC.condT rfl ?_ | refine WC.condF rfl ?_ | refine WL.off rfl rfl rfl ?_ | refine WL.off0 rfl rfl ?_ | refine WC.exit ?_ | refine blk_hit ?_ | refine blk_miss rfl ?_ | refine WC.ret ?_)
    refine WC.cond rfl (fun hc => ?_) (fun hc => ?_)
    · have hi : i < vs.length := by have := of_decide_eq_true hc; omega
      have step := wrap_succ hi (by omega)
      have hle := catL_le vs (i + 1)
      have e1 := catL_take vs hi
      have e2 := congrArg List.length e1
      rw [List.length_append] at e2
      repeat (first | refine WC.seq ?_ | refine WC.reg ?_ | refine WL.pure rfl rfl rfl ?_ | refine WL.nil ?_ | refine WC.skip ?_ | refine WC.block ?_ | refine WC.condT rfl ?_ | refine WC.condF rfl ?_ | refine WL.off rfl rfl rfl ?_ | refine WL.off0 rfl rfl ?_ | refine WC.exit ?_ | refine blk_hit ?_ | refine blk_miss rfl ?_ | refine WC.ret ?_)
      refine WL.ixload rfl (fun _ => rfl) rfl rfl rfl rfl rfl rfl rfl hi rfl rfl (hs.hp hp1) (hcat hi) ?_
      intro pp
      repeat (first | refine WC.seq ?_ | refine WC.reg ?_ | refine WL.pure rfl rfl rfl ?_ | refine WL.nil ?_ | refine WC.skip ?_ | refine WC.block ?_ | refine WC.condT rfl ?_ | refine WC.condF rfl ?_ | refine WL.off rfl rfl rfl ?_ | refine WL.off0 rfl rfl ?_ | refine WC.exit ?_ | refine blk_hit ?_ | refine blk_miss rfl ?_ | refine WC.ret ?_)
      refine WL.append 0 hp1 rfl rfl rfl rfl rfl (by decide) rfl rfl rfl (news := zs vs[i].2.2) ((hv _ (List.getElem_mem hi)).hp hp1) (by rw [zs_len]; exact (Nat.mul_one _).symm) (zs_cells _) (by unfold maxLen; omega) (by show ((catL (vs.take i)).length + vs[i].2.2.length) * 8 ≤ _; omega) ?_
      intro ra rc w2 hp2 hg2
      repeat (first | refine WC.seq ?_ | refine WC.reg ?_ | refine WL.pure rfl rfl rfl ?_ | refine WL.nil ?_ | refine WC.skip ?_ | refine WC.block ?_ | refine WC.condT rfl ?_ | refine WC.condF rfl ?_ | refine WL.off rfl rfl rfl ?_ | refine WL.off0 rfl rfl ?_ | refine WC.exit ?_ | refine blk_hit ?_ | refine blk_miss rfl ?_ | refine WC.ret ?_)
      refine ⟨(i + 1, ra, rc), (by show vs.length - (i + 1) < vs.length - i; omega), ⟨congrArg (fun z => some (Value.slice ra z rc)) e2.symm, rfl, rfl, congrArg (fun z => some (Value.int .i64 z)) step, rfl⟩, by omega, ?_⟩
      show Hp w w2 [Ri _ _]
      unfold Ri
      rw [e2, e1, zs_app]
      exact hp2
    · obtain rfl : i = vs.length := by have := of_decide_eq_false hc; omega
      rw [List.take_length] at hp1
      repeat (first | refine WC.seq ?_ | refine WC.reg ?_ | refine WL.pure rfl rfl rfl ?_ | refine WL.nil ?_ | refine WC.skip ?_ | refine WC.block ?_ | refine WC.condT rfl ?_ | refine WC.condF rfl ?_ | refine WL.off rfl rfl rfl ?_ | refine WL.off0 rfl rfl ?_ | refine WC.exit ?_ | refine blk_hit ?_ | refine blk_miss rfl ?_ | refine WC.ret ?_)
      repeat (first | refine WC.seq ?_ | refine WC.reg ?_ | refine WL.pure rfl rfl rfl ?_ | refine WL.nil ?_ | refine WC.skip ?_ | refine WC.block ?_ | refine WC.condT rfl ?_ | refine WC.condF rfl ?_ | refine WL.off rfl rfl rfl ?_ | refine WL.off0 rfl rfl ?_ | refine WC.exit ?_ | refine blk_hit ?_ | refine blk_miss rfl ?_ | refine WC.ret ?_)
      exact Res.one (v := .slice pa (catL vs).length pc) rfl rfl (congrArg (fun z : Nat => some (Value.slice pa z pc)) (by rw [List.take_length])) ⟨pa, pc, rfl, hp1⟩


theorem IndexFunc_any (a : Option Addr) (cap : Nat) (l : List Int) (hl : l.length ≤ 1000000) {f : FuncId} (hE : Ents Tryd.prog f) (p : Int → Bool) (hf : ∀ (z : Int) (w : World), Ret Tryd.prog f [.int .i64 z] w fun v w' => v = .bool (p z) ∧ w' = w) (w : World) (hs : Sl w a (zs l)) :
    Ret Tryd.prog 70 [.slice a l.length cap, .func (.func f) #[] #[]] w fun v w' => (∃ z : Int, v = .int .i64 z ∧ (0 ≤ z ↔ l.any p = true)) ∧ w' = w := by
  refine enter Tryd.func70 rfl rfl ⟨rfl, rfl⟩ rfl ?_
  repeat (first | refine WC.seq ?_ | refine WC.reg ?_ | refine WL.pure rfl rfl rfl ?_ | refine WL.nil ?_ | refine WC.skip ?_ | refine WC.block ?_ | refine WC.condT rfl ?_ | refine WC.condF rfl ?_ | refine WL.off rfl rfl rfl ?_ | refine WL.off0 rfl rfl ?_ | refine WC.exit ?_ | refine blk_hit ?_ | refine blk_miss rfl ?_ | refine WC.ret ?_)
  refine WC.loop Nat (fun i => [(0, .slice a l.length cap), (1, .func (.func f) #[] #[]), (7, .int .i64 (l.length : Nat)), (8, .int .i64 (i : Nat))]) (fun i w' => i ≤ l.length ∧ (l.take i).any p = false ∧ w' = w) (fun i => l.length - i) 0 ⟨rfl, rfl, rfl, rfl, rfl⟩ ⟨Nat.zero_le _, by simp, rfl⟩ ?_
  rintro i w1 ⟨hi, hno, rfl⟩
  repeat (first | refine WC.seq ?_ | refine WC.reg ?_ | refine WL.pure rfl rfl rfl ?_ | refine WL.nil ?_ | refine WC.skip ?_ | refine WC.block ?_ | refine WC.condT rfl ?_ | refine WC.condF rfl ?_ | refine WL.off rfl rfl rfl ?_ | refine WL.off0 rfl rfl ?_ | refine WC.exit ?_ | refine blk_hit ?_ | refine blk_miss rfl ?_ | refine WC.ret ?_)
  refine WC.cond rfl (fun hc => ?_) (fun hc => ?_)
  · have hi : i < l.length := by have := of_decide_eq_true hc; omega
    have step := wrap_succ (i := i) (n := i + 1) (by omega) (by omega)
    repeat (first | refine WC.seq ?_ | refine WC.reg ?_ | refine WL.pure rfl rfl rfl ?_ | refine WL.nil ?_ | refine WC.skip ?_ | refine WC.block ?_ | refine WC.condT rfl ?_ | refine WC.condF rfl ?_ | refine WL.off rfl rfl rfl ?_ | refine WL.off0 rfl rfl ?_ | refine WC.exit ?_ | refine blk_hit ?_ | refine blk_miss rfl ?_ | refine WC.ret ?_)
    refine WL.ixload rfl (fun _ => rfl) rfl rfl rfl rfl rfl rfl rfl hi rfl rfl hs (zs_at hi) ?_
    intro q
    refine WL.call rfl rfl rfl rfl rfl hE (hf l[i] w1) ?_
    rintro v w2 ⟨rfl, rfl⟩
    repeat (first | refine WC.seq ?_ | refine WC.reg ?_ | refine WL.pure rfl rfl rfl ?_ | refine WL.nil ?_ | refine WC.skip ?_ | refine WC.block ?_ | refine WC.condT rfl ?_ | refine WC.condF rfl ?_ | refine WL.off rfl rfl rfl ?_ | refine WL.off0 rfl rfl ?_ | refine WC.exit ?_ | refine blk_hit ?_ | refine blk_miss rfl ?_ | refine WC.ret ?_)
    refine WC.cond rfl (fun h1 => ?_) (fun h1 => ?_)
    · repeat (first | refine WC.seq ?_ | refine WC.reg ?_ | refine WL.pure rfl rfl rfl ?_ | refine WL.nil ?_ | refine WC.skip ?_ | refine WC.block ?_ | refine WC.condT rfl ?_ | refine WC.condF rfl ?_ | refine WL.off rfl rfl rfl ?_ | refine WL.off0 rfl rfl ?_ | refine WC.exit ?_ | refine blk_hit ?_ | refine blk_miss rfl ?_ | refine WC.ret ?_)
      exact Res.one rfl rfl rfl ⟨⟨_, rfl, ⟨fun _ => List.any_eq_true.2 ⟨_, List.getElem_mem hi, h1⟩, fun _ => by omega⟩⟩, rfl⟩
    · repeat (first | refine WC.seq ?_ | refine WC.reg ?_ | refine WL.pure rfl rfl rfl ?_ | refine WL.nil ?_ | refine WC.skip ?_ | refine WC.block ?_ | refine WC.condT rfl ?_ | refine WC.condF rfl ?_ | refine WL.off rfl rfl rfl ?_ | refine WL.off0 rfl rfl ?_ | refine WC.exit ?_ | refine blk_hit ?_ | refine blk_miss rfl ?_ | refine WC.ret ?_)
      refine ⟨i + 1, (by show l.length - (i + 1) < l.length - i; omega), ⟨rfl, rfl, rfl, congrArg (fun z => some (Value.int .i64 z)) step, rfl⟩, by omega, ?_, rfl⟩
      rw [List.take_succ_eq_append_getElem hi, List.any_append, hno, List.any_cons, h1]
      rfl
  · have hi : i = l.length := by have := of_decide_eq_false hc; omega
    repeat (first | refine WC.seq ?_ | refine WC.reg ?_ | refine WL.pure rfl rfl rfl ?_ | refine WL.nil ?_ | refine WC.skip ?_ | refine WC.block ?_ | refine WC.condT rfl ?_ | refine WC.condF rfl ?_ | refine WL.off rfl rfl rfl ?_ | refine WL.off0 rfl rfl ?_ | refine WC.exit ?_ | refine blk_hit ?_ | refine blk_miss rfl ?_ | refine WC.ret ?_)
    refine Res.one rfl rfl rfl ⟨⟨_, rfl, ⟨fun h => by omega, fun h => ?_⟩⟩, rfl⟩
    rw [hi, List.take_of_length_le (Nat.le_refl _), h] at hno
    cases hno
theorem ContainsFunc_any (a : Option Addr) (cap : Nat) (l : List Int) (hl : l.length ≤ 1000000) {f : FuncId} (hE : Ents Tryd.prog f) (p : Int → Bool) (hf : ∀ (z : Int) (w : World), Ret Tryd.prog f [.int .i64 z] w fun v w' => v = .bool (p z) ∧ w' = w) (w : World) (hs : Sl w a (zs l)) :
    Ret Tryd.prog 45 [.slice a l.length cap, .func (.func f) #[] #[]] w fun v w' => v = .bool (l.any p) ∧ w' = w := by
  refine enter Tryd.func45 rfl rfl ⟨rfl, rfl⟩ rfl ?_
  repeat (first | refine WC.seq ?_ | refine WC.reg ?_ | refine WL.pure rfl rfl rfl ?_ | refine WL.nil ?_ | refine WC.skip ?_ | refine WC.block ?_ | refine WC.condT rfl ?_ | refine WC.condF rfl ?_ | refine WL.off rfl rfl rfl ?_ | refine WL.off0 rfl rfl ?_ | refine WC.exit ?_ | refine blk_hit ?_ | refine blk_miss rfl ?_ | refine WC.ret ?_)
  refine WL.call rfl rfl rfl rfl rfl ent70 (IndexFunc_any a cap l hl hE p hf w hs) ?_
  rintro v w2 ⟨⟨z, rfl, hz⟩, rfl⟩
  repeat (first | refine WC.seq ?_ | refine WC.reg ?_ | refine WL.pure rfl rfl rfl ?_ | refine WL.nil ?_ | refine WC.skip ?_ | refine WC.block ?_ | refine WC.condT rfl ?_ | refine WC.condF rfl ?_ | refine WL.off rfl rfl rfl ?_ | refine WL.off0 rfl rfl ?_ | refine WC.exit ?_ | refine blk_hit ?_ | refine blk_miss rfl ?_ | refine WC.ret ?_)
  refine Res.one rfl rfl rfl ⟨?_, rfl⟩
  congr 1
  rw [Bool.eq_iff_iff, decide_eq_true_iff]
  exact hz
def markB (z : Int) : Bool := decide (0 ≤ z) && decide (z ≤ 15)
theorem isMark_any (z : Int) (w : World) : Ret Tryd.prog 47 [.int .i64 z] w fun v w' => v = .bool (markB z) ∧ w' = w := by
  refine enter Tryd.func47 rfl rfl ⟨rfl, rfl⟩ rfl ?_
  repeat (first | refine WC.seq ?_ | refine WC.reg ?_ | refine WL.pure rfl rfl rfl ?_ | refine WL.nil ?_ | refine WC.skip ?_ | refine WC.block ?_ | refine WC.condT rfl ?_ | refine WC.condF rfl ?_ | refine WL.off rfl rfl rfl ?_ | refine WL.off0 rfl rfl ?_ | refine WC.exit ?_ | refine blk_hit ?_ | refine blk_miss rfl ?_ | refine WC.ret ?_)
  refine WL.split 5 rfl (fun h1 => ?_) (fun h1 => ?_)
  · repeat (first | refine WC.seq ?_ | refine WC.reg ?_ | refine WL.pure rfl rfl rfl ?_ | refine WL.nil ?_ | refine WC.skip ?_ | refine WC.block ?_ | refine WC.condT rfl ?_ | refine WC.condF rfl ?_ | refine WL.off rfl rfl rfl ?_ | refine WL.off0 rfl rfl ?_ | refine WC.exit ?_ | refine blk_hit ?_ | refine blk_miss rfl ?_ | refine WC.ret ?_)
    refine Res.one rfl rfl rfl ⟨?_, rfl⟩
    unfold markB
    rw [h1, Bool.true_and]
  · repeat (first | refine WC.seq ?_ | refine WC.reg ?_ | refine WL.pure rfl rfl rfl ?_ | refine WL.nil ?_ | refine WC.skip ?_ | refine WC.block ?_ | refine WC.condT rfl ?_ | refine WC.condF rfl ?_ | refine WL.off rfl rfl rfl ?_ | refine WL.off0 rfl rfl ?_ | refine WC.exit ?_ | refine blk_hit ?_ | refine blk_miss rfl ?_ | refine WC.ret ?_)
    refine Res.one rfl rfl rfl ⟨?_, rfl⟩
    unfold markB
    rw [h1, Bool.false_and]
theorem value1_any (z : Int) (w : World) : Ret Tryd.prog 46 [.int .i64 z] w fun v w' => v = .bool (!markB z) ∧ w' = w := by
  refine enter Tryd.func46 rfl rfl ⟨rfl, rfl⟩ rfl ?_
  repeat (first | refine WC.seq ?_ | refine WC.reg ?_ | refine WL.pure rfl rfl rfl ?_ | refine WL.nil ?_ | refine WC.skip ?_ | refine WC.block ?_ | refine WC.condT rfl ?_ | refine WC.condF rfl ?_ | refine WL.off rfl rfl rfl ?_ | refine WL.off0 rfl rfl ?_ | refine WC.exit ?_ | refine blk_hit ?_ | refine blk_miss rfl ?_ | refine WC.ret ?_)
  refine WL.call rfl rfl rfl rfl rfl ent47 (isMark_any z w) ?_
  rintro v w2 ⟨rfl, rfl⟩
  repeat (first | refine WC.seq ?_ | refine WC.reg ?_ | refine WL.pure rfl rfl rfl ?_ | refine WL.nil ?_ | refine WC.skip ?_ | refine WC.block ?_ | refine WC.condT rfl ?_ | refine WC.condF rfl ?_ | refine WL.off rfl rfl rfl ?_ | refine WL.off0 rfl rfl ?_ | refine WC.exit ?_ | refine blk_hit ?_ | refine blk_miss rfl ?_ | refine WC.ret ?_)
  exact Res.one rfl rfl rfl ⟨rfl, rfl⟩
theorem struct1_any (z : Int) (w : World) : Ret Tryd.prog 84 [.int .i64 z] w fun v w' => v = .bool (!markB z) ∧ w' = w := by
  refine enter Tryd.func84 rfl rfl ⟨rfl, rfl⟩ rfl ?_
  repeat (first | refine WC.seq ?_ | refine WC.reg ?_ | refine WL.pure rfl rfl rfl ?_ | refine WL.nil ?_ | refine WC.skip ?_ | refine WC.block ?_ | refine WC.condT rfl ?_ | refine WC.condF rfl ?_ | refine WL.off rfl rfl rfl ?_ | refine WL.off0 rfl rfl ?_ | refine WC.exit ?_ | refine blk_hit ?_ | refine blk_miss rfl ?_ | refine WC.ret ?_)
  refine WL.call rfl rfl rfl rfl rfl ent47 (isMark_any z w) ?_
  rintro v w2 ⟨rfl, rfl⟩
  repeat (first | refine WC.seq ?_ | refine WC.reg ?_ | refine WL.pure rfl rfl rfl ?_ | refine WL.nil ?_ | refine WC.skip ?_ | refine WC.block ?_ | refine WC.condT rfl ?_ | refine WC.condF rfl ?_ | refine WL.off rfl rfl rfl ?_ | refine WL.off0 rfl rfl ?_ | refine WC.exit ?_ | refine blk_hit ?_ | refine blk_miss rfl ?_ | refine WC.ret ?_)
  exact Res.one rfl rfl rfl ⟨rfl, rfl⟩
def lassoB (n m : Nat) : Bool := decide (n ≤ 65536) && decide (1 ≤ m) && decide (m ≤ 65536)
theorem isLasso_any (a1 a2 : Option Addr) (n1 c1 n2 c2 : Nat) (w : World) : Ret Tryd.prog 44 [.slice a1 n1 c1, .slice a2 n2 c2] w fun v w' => v = .bool (lassoB n1 n2) ∧ w' = w := by
  refine enter Tryd.func44 rfl rfl ⟨rfl, rfl⟩ rfl ?_
  repeat (first | refine WC.seq ?_ | refine WC.reg ?_ | refine WL.pure rfl rfl rfl ?_ | refine WL.nil ?_ | refine WC.skip ?_ | refine WC.block ?_ | refine WC.condT rfl ?_ | refine WC.condF rfl ?_ | refine WL.off rfl rfl rfl ?_ | refine WL.off0 rfl rfl ?_ | refine WC.exit ?_ | refine blk_hit ?_ | refine blk_miss rfl ?_ | refine WC.ret ?_)
  refine WL.split 8 rfl (fun h1 => ?_) (fun h1 => ?_)
  · have h1 : n1 ≤ 65536 := by have := of_decide_eq_true h1; omega
    repeat (first | refine WC.seq ?_ | refine WC.reg ?_ | refine WL.pure rfl rfl rfl ?_ | refine WL.nil ?_ | refine WC.skip ?_ | refine WC.block ?_ | refine WC.condT rfl ?_ | refine WC.condF rfl ?_ | refine WL.off rfl rfl rfl ?_ | refine WL.off0 rfl rfl ?_ | refine WC.exit ?_ | refine blk_hit ?_ | refine blk_miss rfl ?_ | refine WC.ret ?_)
    refine WL.split 13 rfl (fun h2 => ?_) (fun h2 => ?_)
    · have h2 : 1 ≤ n2 := by have := of_decide_eq_true h2; omega
      repeat (first | refine WC.seq ?_ | refine WC.reg ?_ | refine WL.pure rfl rfl rfl ?_ | refine WL.nil ?_ | refine WC.skip ?_ | refine WC.block ?_ | refine WC.condT rfl ?_ | refine WC.condF rfl ?_ | refine WL.off rfl rfl rfl ?_ | refine WL.off0 rfl rfl ?_ | refine WC.exit ?_ | refine blk_hit ?_ | refine blk_miss rfl ?_ | refine WC.ret ?_)
      refine Res.one rfl rfl rfl ⟨?_, rfl⟩
      congr 1
      unfold lassoB
      rw [decide_eq_true h1, decide_eq_true h2, Bool.eq_iff_iff]
      simp
      omega
    · have h2 : ¬ 1 ≤ n2 := by have := of_decide_eq_false h2; omega
      repeat (first | refine WC.seq ?_ | refine WC.reg ?_ | refine WL.pure rfl rfl rfl ?_ | refine WL.nil ?_ | refine WC.skip ?_ | refine WC.block ?_ | refine WC.condT rfl ?_ | refine WC.condF rfl ?_ | refine WL.off rfl rfl rfl ?_ | refine WL.off0 rfl rfl ?_ | refine WC.exit ?_ | refine blk_hit ?_ | refine blk_miss rfl ?_ | refine WC.ret ?_)
      refine Res.one rfl rfl rfl ⟨?_, rfl⟩
      congr 1
      unfold lassoB
      rw [decide_eq_true h1, decide_eq_false h2]
      rfl
  · have h1 : ¬ n1 ≤ 65536 := by have := of_decide_eq_false h1; omega
    repeat (first | refine WC.seq ?_ | refine WC.reg ?_ | refine WL.pure rfl rfl rfl ?_ | refine WL.nil ?_ | refine WC.skip ?_ | refine WC.block ?_ | refine WC.condT rfl ?_ | refine WC.condF rfl ?_ | refine WL.off rfl rfl rfl ?_ | refine WL.off0 rfl rfl ?_ | refine WC.exit ?_ | refine blk_hit ?_ | refine blk_miss rfl ?_ | refine WC.ret ?_)
    refine Res.one rfl rfl rfl ⟨?_, rfl⟩
    congr 1
    unfold lassoB
    rw [decide_eq_false h1]
    rfl
end Go.Proofs.YtpbbneclkhfgoaaDoor
