/- The walk of a sort of at most twelve factors. -/
import Derived.Test.YtagfpnnplgkkoaaR26
import Derived.Test.YtagfpnnplgkkoaaQf
namespace Go.Poly
open Go.W Go.Tree
/-- A factor in memory: the slice and the list that it leads to, and the exponent. -/
abbrev FE := (Value × List Nat) × Nat
def fc (e : FE) : List Value := [e.1.1, .int .i64 (e.2 : Nat)]
def fcs (l : List FE) : List Value := l.flatMap fc
theorem fcs_len (l : List FE) : (fcs l).length = l.length * 2 := by
  unfold fcs
  induction l with
  | nil => rfl
  | cons e l ih => rw [List.flatMap_cons, List.length_append, ih, List.length_cons, Nat.succ_mul]; simp [fc]; omega
theorem fcs_at : ∀ (l : List FE) (j : Nat) (h : j < l.length) (q : Nat) (u : Value), (fc l[j])[q]? = some u → (fcs l)[j * 2 + q]? = some u := by
  intro l
  induction l with
  | nil => intro j h; simp at h
  | cons e l ih =>
    intro j h q u hq
    unfold fcs
    rw [List.flatMap_cons]
    cases j with
    | zero =>
      have hq2 : q < (fc e).length := (List.getElem?_eq_some_iff.1 hq).1
      rw [Nat.zero_mul, Nat.zero_add, List.getElem?_append_left hq2]
      exact hq
    | succ j =>
      rw [List.getElem?_append_right (by simp [fc]; omega)]
      have e1 : (j + 1) * 2 + q - (fc e).length = j * 2 + q := by simp [fc]; omega
      rw [e1]
      exact ih j (by simpa using h) q u (by simpa using hq)
theorem fcs_set : ∀ (l : List FE) (t : List Value) (j : Nat) (e : FE), j < l.length → (fcs l ++ t).take (j * 2) ++ fc e ++ (fcs l ++ t).drop (j * 2 + 2) = fcs (l.set j e) ++ t := by
  intro l
  induction l with
  | nil => intro t j e h; simp at h
  | cons x l ih =>
    intro t j e h
    cases j with
    | zero => simp [fcs, fc]
    | succ j =>
      have hj : j < l.length := by simpa using h
      have h1 := ih t j e hj
      have e2 : fcs (x :: l) ++ t = x.1.1 :: .int .i64 (x.2 : Nat) :: (fcs l ++ t) := by simp [fcs, fc]
      have e3 : fcs ((x :: l).set (j + 1) e) ++ t = x.1.1 :: .int .i64 (x.2 : Nat) :: (fcs (l.set j e) ++ t) := by simp [fcs, fc]
      rw [e2, e3, ← h1, show (j + 1) * 2 = j * 2 + 1 + 1 by omega, List.take_succ_cons, List.take_succ_cons, show j * 2 + 1 + 1 + 2 = (j * 2 + 2) + 1 + 1 by omega, List.drop_succ_cons, List.drop_succ_cons]
      simp
end Go.Poly
namespace Go.W
open Go.RowKit
/-- A row with cells, as its block. -/
theorem Hp.toBlkS {w0 w : World} {E s n : Nat} {v : Value} {xs : List Value} {L : List Ent} (h : Hp w0 w (.row E s v n xs :: L)) (hn : 0 < n) :
    ∃ (b cap : Nat) (t : List Value), v = .slice (some ⟨b, 0, none⟩) n cap ∧ n ≤ cap ∧ cap ≤ maxLen ∧ t.length + n * s = cap * s ∧ Hp w0 w (.blk b (.cells (xs ++ t).toArray E (0, 0)) :: L) := by
  have h1 := List.pairwise_cons.1 h.dist
  obtain ⟨hl, ⟨_, hz⟩ | ⟨b, cap, cur, hv, hb, hh, hnc, hcm, hsz, ht⟩⟩ := h.sat (.row E s v n xs) (by simp)
  · omega
  have hle : n * s ≤ cap * s := Nat.mul_le_mul_right _ hnc
  refine ⟨b, cap, cur.toList.drop (n * s), hv, hnc, hcm, by rw [List.length_drop, Array.length_toList]; omega, h.below, ?_, List.pairwise_cons.2 ⟨fun y hy k hk => h1.1 y hy k ?_, h1.2⟩⟩
  · intro x hx
    rcases List.mem_cons.1 hx with hx | hx
    · subst hx
      refine ⟨hb, ?_⟩
      rw [hh, ← ht, List.take_append_drop]
    · exact h.sat x (by simp [hx])
  · simp only [Ent.owns] at hk ⊢
    rw [hv, ← hk]; rfl
theorem Hp.ofBlkS {w0 w : World} {E s b cap m : Nat} {xs t : List Value} {L : List Ent} (h : Hp w0 w (.blk b (.cells (xs ++ t).toArray E (0, 0)) :: L)) (hl : xs.length + t.length = cap * s) (hc : cap ≤ maxLen) (hm : xs.length = m * s) (hmc : m ≤ cap) :
    Hp w0 w (.row E s (.slice (some ⟨b, 0, none⟩) m cap) m xs :: L) := by
  have := h.toRowN (m := cap) (s := s) m (by simp; omega) hc hmc
  have e : (xs ++ t).toArray.toList.take (m * s) = xs := by rw [← hm]; simp
  rwa [e] at this
section
variable {P : Program} [T : TT P] {n : Nat} {l0 rest : List Oper} {M : Env → Prop} {e : Env} {w : World} {ty : TypeId} {pos : String} {aft : Array Edge} {g : Option (Nat × Bool)}
theorem WS.loadN {d : Nat} {t : TypeId} {i : TI} {x : Operand} {b o : Nat} {cs : List Value} (hg : grd l0 e g = some true) (ht : T.ti t = some i) (h1 : isOne i.k = false) (hx : opv e x = some (.pointer (some ⟨b, o, none⟩))) (hd : Nat.blt d n = true)
    (hl : cs.length = i.size) (hc : ∀ j v, cs[j]? = some v → w.cell? ⟨b, o + j, none⟩ = some v) (h : WS P n l0 w M rest ((d, .agg cs.toArray) :: e)) : WS P n l0 w M (⟨some d, .load t x, ty, pos, aft, g⟩ :: rest) e :=
  WS.val hg hd (run_loadN ht h1 hl hx (fun j v hj => by rw [Addr.add_lit]; exact hc j v hj)) h
end
section
variable {P : Program} [T : TT P] {n : Nat} {l0 : List Oper} {S : World → Prop} {N : Nor} {Z : Pan} {e : Env} {w : World} {fuel : Nat} {listed : Array Bool}
theorem WH.ixS {d : Nat} {t ty E : TypeId} {pos : String} {aft : Array Edge} {g : Option (Nat × Bool)} {ti : TI} {x ix : Operand} {b o len cap j : Nat} {k : IntKind} {z : Value} {s b2 : Nat} (i : Nat) (hs : Region.noSelect l0.toArray = true) (hi : nth l0 i = some ⟨some d, .indexAddr t x ix, ty, pos, aft, g⟩)
    (hB : takeB l0.toArray listed i = true) (hg : grd l0 e g = some true) (hd : Nat.blt d n = true) (ht : T.ti t = some ⟨.slice E, z, s, b2⟩) (hE : T.ti E = some ti)
    (hx : opv e x = some (.slice (some ⟨b, o, none⟩) len cap)) (hix : opv e ix = some (.int k (j : Nat))) (hj : j < len) (hS : S w)
    (h : WH P n l0 S N Z fuel (listed.setIfInBounds i true) ((d, .pointer (some ⟨b, o + j * ti.size, none⟩)) :: e) w) : WH P n l0 S N Z (fuel + 1) listed e w := by
  refine WH.take i hs hi hB hg hd (fun w _ => ?_) hS h
  have hu : P.underlying t = some (.slice E) := (T.ok t _ ht).k
  intro ρ hρ d' pos' aft' g'
  have hsz := (T.ok E ti hE).sizeOf w
  have c1 : (0 : Int) ≤ (j : Int) ∧ (j : Int) < (len : Int) := ⟨by omega, by omega⟩
  simp only [execOp, hρ _ _ hx, hρ _ _ hix, Instr.indexAt, asIntOf, Sem.run_bind, Sem.run_pure, Result.andThen_ok, run_underlying hu]
  rw [if_pos c1]
  simp [hsz, Addr.add_lit]
end
end Go.W
namespace Go.Proofs.Ytagfpnnplgkkoaa
open Go.W Go.Poly Go.Tree Go.RowKit
set_option maxRecDepth 100000
attribute [local irreducible] WC WL WQ WS WH

/-- A factor's place in a block reads as the factor. -/
theorem fcell {w0 w : World} {b E : Nat} {fs : List FE} {t : List Value} {L : List Ent} (h : Hp w0 w (.blk b (.cells (fcs fs ++ t).toArray E (0, 0)) :: L)) {j : Nat} (hj : j < fs.length) :
    ∀ q v, (fc fs[j])[q]? = some v → w.cell? ⟨b, 0 + j * 2 + q, none⟩ = some v := by
  intro q v hq
  refine cell_of_obj (h.obj 0 rfl) ?_
  have h1 := fcs_at fs j hj q v hq
  rw [Nat.zero_add]
  simp only [List.getElem?_toArray]
  rw [List.getElem?_append_left (List.getElem?_eq_some_iff.1 h1).1]
  exact h1

theorem insertion_any (b n cap : Nat) (t : List Value) (fs0 : List FE) (hn : fs0.length = n) (hn2 : n ≤ 1000) (htl : ∀ e ∈ fs0, e.1.1.oneCell' = true) (G : FuncId) (ca : Array Value) (cf : FE → FE → Int) (hE : Ents Try.prog G) (w0 w : World) (L : List Ent) (hp : Hp w0 w (.blk b (.cells (fcs fs0 ++ t).toArray 59 (0, 0)) :: L))
    (hG : ∀ (x y : FE) (o : Obj) (w' : World), x ∈ fs0 → y ∈ fs0 → Hp w0 w' (.blk b o :: L) → Ret Try.prog G ([.agg (fc x).toArray, .agg (fc y).toArray] ++ ca.toList) w' fun u w'' => u = .int .i64 (cf x y) ∧ Hp w' w'' []) :
    Ret Try.prog 114 [.slice (some ⟨b, 0, none⟩) n cap, .int .i64 0, .int .i64 (n : Nat), .func (.func G) #[] ca] w fun _ w' =>
      Hp w0 w' (.blk b (.cells (fcs (isrt (fun x y => decide (cf x y < 0)) (n - 1) fs0) ++ t).toArray 59 (0, 0)) :: L) := by
  refine enter Try.func114 rfl rfl ⟨rfl, rfl⟩ rfl ?_
  repeat (first | refine WC.seq ?_ | refine WC.reg ?_ | refine WL.pure rfl rfl rfl ?_ | refine WL.nil ?_ | refine WC.skip ?_ | refine WC.block ?_ | refine WC.condT rfl ?_ | refine WC.condF rfl ?_ | refine WL.off rfl rfl rfl ?_ | refine WL.off0 rfl rfl ?_ | refine WC.exit ?_ | refine blk_hit ?_ | refine blk_miss rfl ?_ | refine WC.ret ?_)
  refine WC.loop Nat (fun i => [(0, .slice (some ⟨b, 0, none⟩) n cap), (1, .int .i64 0), (2, .int .i64 (n : Nat)), (3, .func (.func G) #[] ca), (8, .int .i64 (i + 1 : Nat))])
    (fun i w' => (i = 0 ∨ i < n) ∧ Hp w0 w' (.blk b (.cells (fcs (isrt (fun x y => decide (cf x y < 0)) i fs0) ++ t).toArray 59 (0, 0)) :: L)) (fun i => n - i) 0 ⟨rfl, rfl, rfl, rfl, rfl, rfl⟩ ⟨.inl rfl, hp⟩ ?_
  rintro i w1 ⟨hi, hp1⟩
  have hperm := isrt_perm (fun x y => decide (cf x y < 0)) i fs0
  have hnext : isrt (fun x y => decide (cf x y < 0)) (i + 1) fs0 = sinkG (fun x y => decide (cf x y < 0)) (i + 1) (isrt (fun x y => decide (cf x y < 0)) i fs0) := rfl
  repeat (first | refine WC.seq ?_ | refine WC.reg ?_ | refine WL.pure rfl rfl rfl ?_ | refine WL.nil ?_ | refine WC.skip ?_ | refine WC.block ?_ | refine WC.condT rfl ?_ | refine WC.condF rfl ?_ | refine WL.off rfl rfl rfl ?_ | refine WL.off0 rfl rfl ?_ | refine WC.exit ?_ | refine blk_hit ?_ | refine blk_miss rfl ?_ | refine WC.ret ?_)
  refine WC.cond rfl (fun hc => ?_) (fun hc => ?_)
  · have hi : i + 1 < n := by have := of_decide_eq_true hc; omega
    have step : IntKind.i64.wrap (((i + 1 : Nat) : Int) + 1) = ((i + 1 + 1 : Nat) : Int) := by rw [wrap_i64_in (by omega) (by omega)]; omega
    obtain ⟨S, hS⟩ : ∃ S, isrt (fun x y => decide (cf x y < 0)) (i + 1) fs0 = S := ⟨_, rfl⟩
    rw [hS] at hnext
    generalize isrt (fun x y => decide (cf x y < 0)) i fs0 = fs1 at *
    repeat (first | refine WC.seq ?_ | refine WC.reg ?_ | refine WL.pure rfl rfl rfl ?_ | refine WL.nil ?_ | refine WC.skip ?_ | refine WC.block ?_ | refine WC.condT rfl ?_ | refine WC.condF rfl ?_ | refine WL.off rfl rfl rfl ?_ | refine WL.off0 rfl rfl ?_ | refine WC.exit ?_ | refine blk_hit ?_ | refine blk_miss rfl ?_ | refine WC.ret ?_)
    refine WC.loop (Nat × List FE) (fun (j, fs) => [(0, .slice (some ⟨b, 0, none⟩) n cap), (1, .int .i64 0), (2, .int .i64 (n : Nat)), (3, .func (.func G) #[] ca), (8, .int .i64 (i + 1 : Nat)), (9, .int .i64 (j : Nat))])
      (fun (j, fs) w' => j < n ∧ fs.Perm fs0 ∧ sinkG (fun x y => decide (cf x y < 0)) j fs = S ∧ Hp w0 w' (.blk b (.cells (fcs fs ++ t).toArray 59 (0, 0)) :: L)) (fun (j, _) => j) (i + 1, fs1) ⟨rfl, rfl, rfl, rfl, rfl, rfl, rfl⟩ ⟨hi, hperm, hnext.symm, hp1⟩ ?_
    clear hp1 hnext hperm
    rintro ⟨j, fs⟩ w2 ⟨hj, hperm, hS2, hp2⟩
    have hfl : fs.length = n := by rw [hperm.length_eq, hn]
    have hjf : j < fs.length := by omega
    repeat (first | refine WC.seq ?_ | refine WC.skip ?_ | refine WC.block ?_)
    refine WC.mid Unit (fun _ => [(0, .slice (some ⟨b, 0, none⟩) n cap), (1, .int .i64 0), (2, .int .i64 (n : Nat)), (3, .func (.func G) #[] ca), (8, .int .i64 (i + 1 : Nat)), (9, .int .i64 (j : Nat)), (34, .bool (sinkB (fun x y => decide (cf x y < 0)) fs j))]) (fun _ w' => Hp w0 w' (.blk b (.cells (fcs fs ++ t).toArray 59 (0, 0)) :: L)) ?_ ?_
    · refine WC.regS 14 mixed (by kernel_rfl) rfl rfl (fun w3 hw3 hh3 => ?_)
      have hp3 := hp2.keep hw3
      repeat (first | refine WS.pure rfl rfl rfl ?_ | refine WS.off rfl rfl rfl ?_ | refine WS.nil ?_)
      refine WS.split 21 rfl (fun h1 => ?_) (fun h1 => ?_)
      · have h1 : 0 < j := by have := of_decide_eq_true h1; omega
        obtain ⟨k, rfl⟩ : ∃ k, j = k + 1 := ⟨j - 1, by omega⟩
        have ek : IntKind.i64.wrap (((k + 1 : Nat) : Int) - 1) = ((k : Nat) : Int) := by rw [wrap_mid (by omega) (by omega)]; omega
        have hkf : k < fs.length := by omega
        have hB : sinkB (fun x y => decide (cf x y < 0)) fs (k + 1) = decide (cf fs[k + 1] fs[k] < 0) := by
          simp only [sinkB, List.getElem?_eq_getElem hjf, List.getElem?_eq_getElem hkf]
        repeat (first | refine WS.pure rfl rfl rfl ?_ | refine WS.off rfl rfl rfl ?_ | refine WS.nil ?_)
        refine WS.ix rfl rfl rfl rfl rfl hj rfl ?_
        refine WS.loadN rfl rfl rfl rfl rfl rfl (fcell hp3 hjf) ?_
        repeat (first | refine WS.pure rfl rfl rfl ?_ | refine WS.off rfl rfl rfl ?_ | refine WS.nil ?_)
        refine WS.known (d := 29) (congrArg (fun z => some (Value.int .i64 z)) ek) ?_
        refine WS.ix rfl rfl rfl rfl rfl (show k < n by omega) rfl ?_
        refine WS.loadN rfl rfl rfl rfl rfl rfl (fcell hp3 hkf) ?_
        repeat (first | refine WS.pure rfl rfl rfl ?_ | refine WS.off rfl rfl rfl ?_ | refine WS.nil ?_)
        refine WL.call rfl rfl rfl rfl rfl hE (hG fs[k + 1] fs[k] _ w3 (hperm.subset (List.getElem_mem hjf)) (hperm.subset (List.getElem_mem hkf)) hp3) ?_
        rintro _ w4 ⟨rfl, hp4⟩
        have hp4 := hp3.call hp4.below
        repeat (first | refine WC.seq ?_ | refine WC.reg ?_ | refine WL.pure rfl rfl rfl ?_ | refine WL.nil ?_ | refine WC.skip ?_ | refine WC.block ?_ | refine WC.condT rfl ?_ | refine WC.condF rfl ?_ | refine WL.off rfl rfl rfl ?_ | refine WL.off0 rfl rfl ?_ | refine WC.exit ?_ | refine blk_hit ?_ | refine blk_miss rfl ?_ | refine WC.ret ?_)
        exact ⟨(), ⟨rfl, rfl, rfl, rfl, rfl, rfl, congrArg (fun b => some (Value.bool b)) hB.symm, rfl⟩, hp4⟩
      · have h1 : j = 0 := by have := of_decide_eq_false h1; omega
        subst h1
        repeat (first | refine WS.pure rfl rfl rfl ?_ | refine WS.off rfl rfl rfl ?_ | refine WS.nil ?_)
        repeat (first | refine WC.seq ?_ | refine WC.reg ?_ | refine WL.pure rfl rfl rfl ?_ | refine WL.nil ?_ | refine WC.skip ?_ | refine WC.block ?_ | refine WC.condT rfl ?_ | refine WC.condF rfl ?_ | refine WL.off rfl rfl rfl ?_ | refine WL.off0 rfl rfl ?_ | refine WC.exit ?_ | refine blk_hit ?_ | refine blk_miss rfl ?_ | refine WC.ret ?_)
        exact ⟨(), ⟨rfl, rfl, rfl, rfl, rfl, rfl, rfl, rfl⟩, hp3⟩
    rintro ⟨⟩ e3 w3 hsub hp3
    refine WC.sub hsub ?_
    clear hsub hp2
    repeat (first | refine WC.seq ?_ | refine WC.reg ?_ | refine WL.pure rfl rfl rfl ?_ | refine WL.nil ?_ | refine WC.skip ?_ | refine WC.block ?_ | refine WC.condT rfl ?_ | refine WC.condF rfl ?_ | refine WL.off rfl rfl rfl ?_ | refine WL.off0 rfl rfl ?_ | refine WC.exit ?_ | refine blk_hit ?_ | refine blk_miss rfl ?_ | refine WC.ret ?_)
    refine WC.cond rfl (fun h1 => ?_) (fun h1 => ?_)
    · obtain ⟨k, rfl⟩ : ∃ k, j = k + 1 := by
        cases j with
        | zero => cases h1
        | succ k => exact ⟨k, rfl⟩
      have ek : IntKind.i64.wrap (((k + 1 : Nat) : Int) - 1) = ((k : Nat) : Int) := by rw [wrap_mid (by omega) (by omega)]; omega
      have hkf : k < fs.length := by omega
      have hkn : k < n := by omega
      rw [sinkG, if_pos h1] at hS2
      have hsw : sw fs k = (fs.set (k + 1) fs[k]).set k fs[k + 1] := by
        unfold sw
        rw [List.getElem?_eq_getElem hjf, List.getElem?_eq_getElem hkf]
      have fin : ∀ w', Hp w0 w' (.blk b (.cells (fcs ((fs.set (k + 1) fs[k]).set k fs[k + 1]) ++ t).toArray 59 (0, 0)) :: L) → Hp w0 w' (.blk b (.cells (fcs (sw fs k) ++ t).toArray 59 (0, 0)) :: L) := fun w' h => by rw [hsw]; exact h
      have hcl : ∀ (x : FE), x ∈ fs → ∀ v ∈ (fc x).toArray.toList, v.oneCell' = true := by
        intro x hx v hv
        simp only [fc, List.mem_cons, List.not_mem_nil, or_false] at hv
        rcases hv with rfl | rfl
        · exact htl x (hperm.subset hx)
        · rfl
      have hc1 := hcl fs[k] (List.getElem_mem hkf)
      have hc2 := hcl fs[k + 1] (List.getElem_mem hjf)
      have h8 : (fcs fs).length = n * 2 := by rw [fcs_len, hfl]
      have st1 : ((fcs fs ++ t).toArray.toList.take (0 + (k + 1) * 2) ++ (fc fs[k]).toArray.toList ++ (fcs fs ++ t).toArray.toList.drop (0 + (k + 1) * 2 + (fc fs[k]).toArray.size)).toArray = (fcs (fs.set (k + 1) fs[k]) ++ t).toArray := by
        rw [Nat.zero_add]; exact congrArg List.toArray (fcs_set fs t (k + 1) fs[k] hjf)
      have st2 : ((fcs (fs.set (k + 1) fs[k]) ++ t).toArray.toList.take (0 + k * 2) ++ (fc fs[k + 1]).toArray.toList ++ (fcs (fs.set (k + 1) fs[k]) ++ t).toArray.toList.drop (0 + k * 2 + (fc fs[k + 1]).toArray.size)).toArray = (fcs ((fs.set (k + 1) fs[k]).set k fs[k + 1]) ++ t).toArray := by
        rw [Nat.zero_add]; exact congrArg List.toArray (fcs_set (fs.set (k + 1) fs[k]) t k fs[k + 1] (by rw [List.length_set]; exact hkf))
      have h9 : (fcs (fs.set (k + 1) fs[k])).length = n * 2 := by rw [fcs_len, List.length_set, hfl]
      repeat (first | refine WC.seq ?_ | refine WC.reg ?_ | refine WL.pure rfl rfl rfl ?_ | refine WL.nil ?_ | refine WC.skip ?_ | refine WC.block ?_ | refine WC.condT rfl ?_ | refine WC.condF rfl ?_ | refine WL.off rfl rfl rfl ?_ | refine WL.off0 rfl rfl ?_ | refine WC.exit ?_ | refine blk_hit ?_ | refine blk_miss rfl ?_ | refine WC.ret ?_)
      refine WC.mid Unit (fun _ => [(0, .slice (some ⟨b, 0, none⟩) n cap), (1, .int .i64 0), (2, .int .i64 (n : Nat)), (3, .func (.func G) #[] ca), (8, .int .i64 (i + 1 : Nat)), (9, .int .i64 (k + 1 : Nat))]) (fun _ w' => Hp w0 w' (.blk b (.cells (fcs (sw fs k) ++ t).toArray 59 (0, 0)) :: L)) ?_ ?_
      · refine WC.regH (fun _ => True) mixed (by kernel_rfl) (fun w6 hw6 hh6 => ?_)
        have kh6 := hp3.keep hw6
        refine WH.pure 0 (by kernel_rfl) rfl (by kernel_rfl) rfl rfl rfl trivial ?_
        refine WH.pure 1 (by kernel_rfl) rfl (by kernel_rfl) rfl rfl rfl trivial ?_
        refine WH.pure 2 (by kernel_rfl) rfl (by kernel_rfl) rfl rfl rfl trivial ?_
        refine WH.pure 3 (by kernel_rfl) rfl (by kernel_rfl) rfl rfl rfl trivial ?_
        refine WH.pure 4 (by kernel_rfl) rfl (by kernel_rfl) rfl rfl rfl trivial ?_
        refine WH.known (d := 41) (congrArg (fun z => some (Value.int .i64 z)) ek) ?_
        refine WH.pure 5 (by kernel_rfl) rfl (by kernel_rfl) rfl rfl rfl trivial ?_
        refine WH.pure 6 (by kernel_rfl) rfl (by kernel_rfl) rfl rfl rfl trivial ?_
        refine WH.pure 7 (by kernel_rfl) rfl (by kernel_rfl) rfl rfl rfl trivial ?_
        refine WH.known (d := 44) (congrArg (fun z => some (Value.int .i64 z)) ek) ?_
        refine WH.ixS 8 (by kernel_rfl) rfl (by kernel_rfl) rfl rfl rfl rfl rfl rfl hkn trivial ?_
        refine WH.pure 10 (by kernel_rfl) rfl (by kernel_rfl) rfl rfl rfl trivial ?_
        refine WH.pure 11 (by kernel_rfl) rfl (by kernel_rfl) rfl rfl rfl trivial ?_
        refine WH.ixS 12 (by kernel_rfl) rfl (by kernel_rfl) rfl rfl rfl rfl rfl rfl hj trivial ?_
        refine WH.two 9 13 rfl rfl (by kernel_rfl) ?_ ?_
        · refine WL.loadN rfl rfl rfl rfl rfl rfl (fcell kh6 hkf) (WL.nil ⟨trivial, ?_⟩)
          refine WH.one 13 rfl (by kernel_rfl) ?_
          refine WL.loadN rfl rfl rfl rfl rfl rfl (fcell kh6 hjf) (WL.nil ⟨trivial, ?_⟩)
          refine WH.ixS 14 (by kernel_rfl) rfl (by kernel_rfl) rfl rfl rfl rfl rfl rfl hj trivial ?_
          refine WH.one 15 rfl (by kernel_rfl) ?_
          refine WL.storeN rfl rfl rfl rfl rfl hc1 (kh6.obj 0 rfl) (by show 0 + (k + 1) * 2 + 2 ≤ _; simp [h8]; omega) st1 (fun w7 hw7 => WL.nil ⟨trivial, ?_⟩)
          have hp7 := kh6.set 0 rfl rfl hw7
          refine WH.ixS 16 (by kernel_rfl) rfl (by kernel_rfl) rfl rfl rfl rfl rfl rfl hkn trivial ?_
          refine WH.one 17 rfl (by kernel_rfl) ?_
          refine WL.storeN rfl rfl rfl rfl rfl hc2 (hp7.obj 0 rfl) (by show 0 + k * 2 + 2 ≤ _; simp [h9]; omega) st2 (fun w8 hw8 => WL.nil ⟨trivial, ?_⟩)
          have hp8 := hp7.set 0 rfl rfl hw8
          refine WH.done (by kernel_rfl) ?_
          exact ⟨(), ⟨rfl, rfl, rfl, rfl, rfl, rfl, rfl⟩, fin _ hp8⟩
        · refine WL.loadN rfl rfl rfl rfl rfl rfl (fcell kh6 hjf) (WL.nil ⟨trivial, ?_⟩)
          refine WH.one 9 rfl (by kernel_rfl) ?_
          refine WL.loadN rfl rfl rfl rfl rfl rfl (fcell kh6 hkf) (WL.nil ⟨trivial, ?_⟩)
          refine WH.ixS 14 (by kernel_rfl) rfl (by kernel_rfl) rfl rfl rfl rfl rfl rfl hj trivial ?_
          refine WH.one 15 rfl (by kernel_rfl) ?_
          refine WL.storeN rfl rfl rfl rfl rfl hc1 (kh6.obj 0 rfl) (by show 0 + (k + 1) * 2 + 2 ≤ _; simp [h8]; omega) st1 (fun w7 hw7 => WL.nil ⟨trivial, ?_⟩)
          have hp7 := kh6.set 0 rfl rfl hw7
          refine WH.ixS 16 (by kernel_rfl) rfl (by kernel_rfl) rfl rfl rfl rfl rfl rfl hkn trivial ?_
          refine WH.one 17 rfl (by kernel_rfl) ?_
          refine WL.storeN rfl rfl rfl rfl rfl hc2 (hp7.obj 0 rfl) (by show 0 + k * 2 + 2 ≤ _; simp [h9]; omega) st2 (fun w8 hw8 => WL.nil ⟨trivial, ?_⟩)
          have hp8 := hp7.set 0 rfl rfl hw8
          refine WH.done (by kernel_rfl) ?_
          exact ⟨(), ⟨rfl, rfl, rfl, rfl, rfl, rfl, rfl⟩, fin _ hp8⟩
      rintro ⟨⟩ e6 w6 hsub hp6
      refine WC.sub hsub ?_
      clear hsub
      repeat (first | refine WC.seq ?_ | refine WC.reg ?_ | refine WL.pure rfl rfl rfl ?_ | refine WL.nil ?_ | refine WC.skip ?_ | refine WC.block ?_ | refine WC.condT rfl ?_ | refine WC.condF rfl ?_ | refine WL.off rfl rfl rfl ?_ | refine WL.off0 rfl rfl ?_ | refine WC.exit ?_ | refine blk_hit ?_ | refine blk_miss rfl ?_ | refine WC.ret ?_)
      exact ⟨(k, sw fs k), by show k < k + 1; omega, ⟨rfl, rfl, rfl, rfl, rfl, congrArg (fun z => some (Value.int .i64 z)) ek, rfl⟩, hkn, (sw_perm fs k).trans hperm, hS2, hp6⟩
    · have hfs : fs = S := by
        rw [← hS2]
        cases j with
        | zero => rfl
        | succ k => rw [sinkG, if_neg (by rw [h1]; exact Bool.noConfusion)]
      subst hfs
      repeat (first | refine WC.seq ?_ | refine WC.reg ?_ | refine WL.pure rfl rfl rfl ?_ | refine WL.nil ?_ | refine WC.skip ?_ | refine WC.block ?_ | refine WC.condT rfl ?_ | refine WC.condF rfl ?_ | refine WL.off rfl rfl rfl ?_ | refine WL.off0 rfl rfl ?_ | refine WC.exit ?_ | refine blk_hit ?_ | refine blk_miss rfl ?_ | refine WC.ret ?_)
      refine ⟨i + 1, by show n - (i + 1) < n - i; omega, ⟨rfl, rfl, rfl, rfl, congrArg (fun z => some (Value.int .i64 z)) step, rfl⟩, .inr hi, ?_⟩
      rw [hS]; exact hp3
  · have hi : i = n - 1 := by have := of_decide_eq_false hc; omega
    subst hi
    repeat (first | refine WC.seq ?_ | refine WC.reg ?_ | refine WL.pure rfl rfl rfl ?_ | refine WL.nil ?_ | refine WC.skip ?_ | refine WC.block ?_ | refine WC.condT rfl ?_ | refine WC.condF rfl ?_ | refine WL.off rfl rfl rfl ?_ | refine WL.off0 rfl rfl ?_ | refine WC.exit ?_ | refine blk_hit ?_ | refine blk_miss rfl ?_ | refine WC.ret ?_)
    exact Res.zero rfl rfl hp1
end Go.Proofs.Ytagfpnnplgkkoaa
