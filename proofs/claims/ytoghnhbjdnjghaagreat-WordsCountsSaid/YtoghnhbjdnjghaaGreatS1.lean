/- The walks of a sort: insertion, the heap, the reversal. -/
import Derived.Test.YtoghnhbjdnjghaaGreatV2
import Derived.Sort.AssemblyPlain
namespace Go.W
open Go.RowKit Go.Sort
/-! Elements of two cells in a block, as an array. -/
def cl (d : Array Rp) (t : List Value) : Array Value := (rcs d.toList ++ t).toArray
theorem cl_size (d : Array Rp) (t : List Value) : (cl d t).size = d.size * 2 + t.length := by
  unfold cl
  rw [List.size_toArray, List.length_append, rcs_len, Array.length_toList]
theorem rc_one (r : Rp) : ∀ v ∈ (rc r).toArray.toList, v.oneCell' = true := by
  intro v hv
  simp only [rc, List.mem_cons, List.not_mem_nil, or_false] at hv
  rcases hv with rfl | rfl <;> rfl
theorem rcs_set : ∀ (l : List Rp) (t : List Value) (j : Nat) (e : Rp), j < l.length → (rcs l ++ t).take (j * 2) ++ rc e ++ (rcs l ++ t).drop (j * 2 + 2) = rcs (l.set j e) ++ t := by
  intro l
  induction l with
  | nil => intro t j e h; simp at h
  | cons x l ih =>
    intro t j e h
    cases j with
    | zero => simp [rcs, rc]
    | succ j =>
      have hj : j < l.length := by simpa using h
      have h1 := ih t j e hj
      have e2 : rcs (x :: l) ++ t = st x.1 :: st x.2 :: (rcs l ++ t) := by simp [rcs, rc]
      have e3 : rcs ((x :: l).set (j + 1) e) ++ t = st x.1 :: st x.2 :: (rcs (l.set j e) ++ t) := by simp [rcs, rc]
      rw [e2, e3, ← h1, show (j + 1) * 2 = j * 2 + 1 + 1 by omega, List.take_succ_cons, List.take_succ_cons, show j * 2 + 1 + 1 + 2 = (j * 2 + 2) + 1 + 1 by omega, List.drop_succ_cons, List.drop_succ_cons]
      simp
theorem bang {d : Array Rp} {j : Nat} (hj : j < d.size) : d[j]! = d.toList[j]'(by simpa using hj) := by
  rw [getElem!_pos d j hj, Array.getElem_toList]
theorem cl_room {d : Array Rp} {t : List Value} {j : Nat} {x : Rp} (h : j < d.size) : 0 + j * 2 + (rc x).toArray.size ≤ (cl d t).size := by
  rw [cl_size]
  show 0 + j * 2 + 2 ≤ _
  omega
theorem cl_store {d : Array Rp} {t : List Value} {j : Nat} {x : Rp} (h : j < d.size) :
    ((cl d t).toList.take (0 + j * 2) ++ (rc x).toArray.toList ++ (cl d t).toList.drop (0 + j * 2 + (rc x).toArray.size)).toArray = cl (d.setIfInBounds j x) t := by
  have h1 := rcs_set d.toList t j x (by simpa using h)
  unfold cl
  rw [Array.toList_setIfInBounds, ← h1, Nat.zero_add]
  rfl
theorem cl_load {w0 w : World} {b E : Nat} {d : Array Rp} {t : List Value} {L : List Ent} (h : Hp w0 w (.blk b (.cells (cl d t) E (0, 0)) :: L)) {j : Nat} (hj : j < d.size) :
    ∀ q v, (rc d[j]!)[q]? = some v → w.cell? ⟨b, 0 + j * 2 + q, none⟩ = some v := by
  intro q v hq
  rw [bang hj] at hq
  refine cell_of_obj (h.obj 0 rfl) ?_
  have h1 := rcs_at d.toList j (by simpa using hj) q v hq
  rw [Nat.zero_add]
  unfold cl
  simp only [List.getElem?_toArray]
  rw [List.getElem?_append_left (List.getElem?_eq_some_iff.1 h1).1]
  exact h1
section
variable {P : Program} [T : TT P] {n : Nat} {l0 : List Oper} {S : World → Prop} {N : Nor} {Z : Pan} {e : Env} {w : World} {fuel : Nat} {listed : Array Bool}
theorem WH.ixS {d : Nat} {t ty E : TypeId} {pos : String} {aft : Array Edge} {g : Option (Nat × Bool)} {ti : TI} {x ix : Operand} {b o len cap j : Nat} {k : IntKind} {z : Value} {s b2 : Nat} (i : Nat) (hs : Region.noSelect l0.toArray = true) (hi : nth l0 i = some ⟨some d, .indexAddr t x ix, ty, pos, aft, g⟩)
    (hB : takeB l0.toArray listed i = true) (hg : grd l0 e g = some true) (hd : Nat.blt d n = true) (ht : T.ti t = some ⟨.slice E, z, s, b2⟩) (hE : T.ti E = some ti)
    (hx : opv e x = some (.slice (some ⟨b, o, none⟩) len cap)) (hix : opv e ix = some (.int k (j : Nat))) (hj : j < len) (hS : S w)
    (h : WH P n l0 S N Z fuel (listed.setIfInBounds i true) ((d, .pointer (some ⟨b, o + j * ti.size, none⟩)) :: e) w) : WH P n l0 S N Z (fuel + 1) listed e w := by
  refine WH.take i hs hi hB hg hd (fun w _ => ?_) hS h
  have hu : P.underlying t = some (.slice E) := (T.ok t _ ht).k
  intro ρ hρ d' pos' aft' g'
  have hsz := (T.ok E ti hE).sizeOf w
  have c1 : (0 : Int) ≤ (j : Int) ∧ (j : Int) < (len : Int) := ⟨by omega, by omega⟩
  simp only [execOp, hρ _ _ hx, hρ _ _ hix, Instr.indexAt, asIntOf, Sem.run_bind, Sem.run_pure, Result.andThen_ok, run_underlying hu]
  rw [if_pos c1]
  simp [hsz, Addr.add_lit]
end
section
variable {P : Program} [T : TT P] {n : Nat} {l0 rest : List Oper} {C : World → Prop} {M : Env → Prop} {e : Env} {ty : TypeId} {pos : String} {aft : Array Edge} {g : Option (Nat × Bool)}
/-- An element read, in every world of the class. -/
theorem WQ.ixD {d1 d2 : Nat} {t t2 E : TypeId} {i : TI} {x ix : Operand} {b len cap j E' : Nat} {k : IntKind} {D : Array Rp} {tl : List Value} {z : Value} {s b2 : Nat} {ty2 : TypeId} {pos2 : String} {aft2 : Array Edge} {g2 : Option (Nat × Bool)} {w0 : World} {L : List Ent}
    (hg : grd l0 e g = some true) (hg2 : ∀ p, grd l0 ((d1, p) :: e) g2 = some true)
    (ht : T.ti t = some ⟨.slice E, z, s, b2⟩) (hi : T.ti E = some i) (htwo : i.size = 2) (ht2 : T.ti t2 = some i) (h1 : isOne i.k = false)
    (hx : opv e x = some (.slice (some ⟨b, 0, none⟩) len cap)) (hix : opv e ix = some (.int k (j : Nat))) (hd1 : Nat.blt d1 n = true) (hd2 : Nat.blt d2 n = true)
    (hC : ∀ w, C w → Hp w0 w (.blk b (.cells (cl D tl) E' (0, 0)) :: L)) (hj : j < len) (hjl : j < D.size)
    (h : WQ P n l0 C M rest ((d2, .agg (rc D[j]!).toArray) :: (d1, .pointer (some ⟨b, 0 + j * i.size, none⟩)) :: e)) :
    WQ P n l0 C M (⟨some d1, .indexAddr t x ix, ty, pos, aft, g⟩ :: ⟨some d2, .load t2 (.tmp d1), ty2, pos2, aft2, g2⟩ :: rest) e := by
  refine WQ.le fun hle => WQ.ix hg hd1 ht hi hx hix hj ?_
  refine WQ.loadN (cs := rc D[j]!) (hg2 _) ht2 h1 (opv_head hd1 hle) hd2 (by rw [htwo]; rfl) ?_ h
  intro w hw q v hq
  have := cl_load (hC w hw) hjl q v hq
  rw [htwo]
  exact this
end
end Go.W
namespace Go.Sort
theorem insInner_go {α : Type} [Inhabited α] {lt : α → α → Bool} {a j : Nat} {d : Array α} (h : (decide (j + 1 > a) && lt d[j + 1]! d[j]!) = true) : insInner lt a (j + 1) d = insInner lt a j (swp d (j + 1) j) := by rw [insInner, if_pos h]
theorem insInner_stop {α : Type} [Inhabited α] {lt : α → α → Bool} {a j : Nat} {d : Array α} (h : ¬ (j > a ∧ lt d[j]! d[j - 1]! = true)) : insInner lt a j d = d := by
  cases j with
  | zero => rfl
  | succ j => rw [insInner, if_neg (by simpa using h)]
theorem insOuter_go {α : Type} [Inhabited α] {lt : α → α → Bool} {a b i : Nat} {d : Array α} (h : i < b) : insOuter lt a b i d = insOuter lt a b (i + 1) (insInner lt a i d) := by rw [insOuter, if_pos h]
theorem insOuter_stop {α : Type} [Inhabited α] {lt : α → α → Bool} {a b i : Nat} {d : Array α} (h : ¬ i < b) : insOuter lt a b i d = d := by rw [insOuter, if_neg h]
end Go.Sort
namespace Go.Proofs.YtoghnhbjdnjghaaGreat
open Go.W Go.Words Go.RowKit Go.Sort
set_option maxRecDepth 100000
attribute [local irreducible] WC WL WQ WS WH

abbrev BD (b : Nat) (t : List Value) (d : Array Rp) : Ent := .blk b (.cells (cl d t) 56 (0, 0))
/-- As many elements as there are, and all of a kind. -/
structure Okd (n : Nat) (SS : Rp → Prop) (d : Array Rp) : Prop where
  sz : d.size = n
  all : ∀ i, i < n → SS d[i]!
theorem Okd.swp {n : Nat} {SS : Rp → Prop} {d : Array Rp} (h : Okd n SS d) {i j : Nat} (hi : i < n) (hj : j < n) : Okd n SS (swp d i j) := by
  have hs := size_swp d i j
  refine ⟨hs.trans h.sz, fun k hk => ?_⟩
  by_cases h1 : k = j
  · subst h1
    rw [swp_right d i k (by rw [h.sz]; exact hj)]
    exact h.all i hi
  · by_cases h2 : k = i
    · subst h2
      rw [swp_left d k j (by rw [h.sz]; exact hi) h1]
      exact h.all j hj
    · rw [swp_other d i j k h2 h1]
      exact h.all k hk
def ltO (cf : Rp → Rp → Int) : Rp → Rp → Bool := fun x y => decide (cf x y < 0)
/-- What is asked of a comparison. -/
def CmpOk (b : Nat) (t : List Value) (G : FuncId) (ca : Array Value) (cf : Rp → Rp → Int) (SS : Rp → Prop) (w0 : World) (L : List Ent) : Prop :=
  ∀ (x y : Rp) (d : Array Rp) (w' : World), SS x → SS y → Hp w0 w' (BD b t d :: L) → Ret Tryz.prog G ([.agg (rc x).toArray, .agg (rc y).toArray] ++ ca.toList) w' fun u w'' => u = .int .i64 (cf x y) ∧ Hp w' w'' []
theorem CmpOk.q {b : Nat} {t : List Value} {G : FuncId} {ca : Array Value} {cf : Rp → Rp → Int} {SS : Rp → Prop} {w0 : World} {L : List Ent} (h : CmpOk b t G ca cf SS w0 L) {x y : Rp} {d : Array Rp} (hx : SS x) (hy : SS y) :
    ∀ w', Hp w0 w' (BD b t d :: L) → Ret Tryz.prog G ([.agg (rc x).toArray, .agg (rc y).toArray] ++ ca.toList) w' fun u w'' => u = .int .i64 (cf x y) ∧ Hp w0 w'' (BD b t d :: L) :=
  fun w' hw => (h x y d w' hx hy hw).mono fun u w'' ⟨h1, h2⟩ => ⟨h1, by have := hw.comb h2; rwa [List.nil_append] at this⟩

section
variable (b n cap : Nat) (t : List Value) (G : FuncId) (ca : Array Value) (cf : Rp → Rp → Int) (hE : Ents Tryz.prog G) (SS : Rp → Prop) (w0 : World) (L : List Ent) (hG : CmpOk b t G ca cf SS w0 L) (hn : n ≤ 1000000000)
include hE hG hn

set_option maxHeartbeats 1000000 in
theorem insertion_any (d : Array Rp) (hd : Okd n SS d) (a e : Nat) (hae : a ≤ e) (hen : e ≤ n) (w : World) (hp : Hp w0 w (BD b t d :: L)) :
    Ret Tryz.prog 104 [.slice (some ⟨b, 0, none⟩) n cap, .int .i64 (a : Nat), .int .i64 (e : Nat), .func (.func G) #[] ca] w fun _ w' => Okd n SS (insertionSort (ltO cf) d a e) ∧ Hp w0 w' (BD b t (insertionSort (ltO cf) d a e) :: L) := by
  have e1 := wrap_succ (i := a) (n := 1000000001) (by omega) (by omega)
  refine enter Tryz.func104 rfl rfl ⟨rfl, rfl⟩ rfl ?_
  repeat (first | refine WC.seq ?_ | refine WC.reg ?_ | refine WL.pure rfl rfl rfl ?_ | refine WL.nil ?_ | refine WC.skip ?_ | refine WC.block ?_ | refine WC.condT rfl ?_ | refine WC.condF rfl ?_ | refine WL.off rfl rfl rfl ?_ | refine WL.off0 rfl rfl ?_ | refine WC.exit ?_ | refine blk_hit ?_ | refine blk_miss rfl ?_ | refine WC.ret ?_)
  refine WC.loop (Nat × Array Rp) (fun (i, _) => [(0, .slice (some ⟨b, 0, none⟩) n cap), (1, .int .i64 (a : Nat)), (2, .int .i64 (e : Nat)), (3, .func (.func G) #[] ca), (8, .int .i64 (i : Nat))])
    (fun (i, d1) w' => a < i ∧ i ≤ n + 1 ∧ Okd n SS d1 ∧ insertionSort (ltO cf) d a e = insOuter (ltO cf) a e i d1 ∧ Hp w0 w' (BD b t d1 :: L)) (fun (i, _) => n + 1 - i) (a + 1, d) ⟨rfl, rfl, rfl, rfl, congrArg (fun z => some (Value.int .i64 z)) e1, rfl⟩ ⟨by omega, by omega, hd, rfl, hp⟩ ?_
  clear hp w
  rintro ⟨i, d1⟩ w ⟨hai, hin, hd1, hI, hp⟩
  repeat (first | refine WC.seq ?_ | refine WC.reg ?_ | refine WL.pure rfl rfl rfl ?_ | refine WL.nil ?_ | refine WC.skip ?_ | refine WC.block ?_ | refine WC.condT rfl ?_ | refine WC.condF rfl ?_ | refine WL.off rfl rfl rfl ?_ | refine WL.off0 rfl rfl ?_ | refine WC.exit ?_ | refine blk_hit ?_ | refine blk_miss rfl ?_ | refine WC.ret ?_)
  refine WC.cond rfl (fun hc => ?_) (fun hc => ?_)
  · have hi : i < e := by have := of_decide_eq_true hc; omega
    have step := wrap_succ (i := i) (n := 1000000001) (by omega) (by omega)
    rw [insOuter_go hi] at hI
    repeat (first | refine WC.seq ?_ | refine WC.reg ?_ | refine WL.pure rfl rfl rfl ?_ | refine WL.nil ?_ | refine WC.skip ?_ | refine WC.block ?_ | refine WC.condT rfl ?_ | refine WC.condF rfl ?_ | refine WL.off rfl rfl rfl ?_ | refine WL.off0 rfl rfl ?_ | refine WC.exit ?_ | refine blk_hit ?_ | refine blk_miss rfl ?_ | refine WC.ret ?_)
    refine WC.loop (Nat × Array Rp) (fun (j, _) => [(0, .slice (some ⟨b, 0, none⟩) n cap), (1, .int .i64 (a : Nat)), (2, .int .i64 (e : Nat)), (3, .func (.func G) #[] ca), (8, .int .i64 (i : Nat)), (9, .int .i64 (j : Nat))])
      (fun (j, d2) w' => a ≤ j ∧ j ≤ i ∧ Okd n SS d2 ∧ insInner (ltO cf) a i d1 = insInner (ltO cf) a j d2 ∧ Hp w0 w' (BD b t d2 :: L)) (fun (j, _) => j) (i, d1) ⟨rfl, rfl, rfl, rfl, rfl, rfl, rfl⟩ ⟨by omega, Nat.le_refl _, hd1, rfl, hp⟩ ?_
    clear hp w
    rintro ⟨j, d2⟩ w ⟨haj, hji, hd2, hJ, hp⟩
    have hsz := hd2.sz
    have ex : insInner (ltO cf) a j d2 = d2 → ∀ w', Hp w0 w' (BD b t d2 :: L) → Okd n SS (insInner (ltO cf) a i d1) ∧ insInner (ltO cf) a i d1 = d2 := fun h w' _ => ⟨by rw [hJ, h]; exact hd2, hJ.trans h⟩
    refine WC.seq ?_
    refine WC.seq ?_
    refine WC.mid Bool (fun q => [(0, .slice (some ⟨b, 0, none⟩) n cap), (1, .int .i64 (a : Nat)), (2, .int .i64 (e : Nat)), (3, .func (.func G) #[] ca), (8, .int .i64 (i : Nat)), (9, .int .i64 (j : Nat)), (34, .bool q)])
      (fun q w' => (q = true ↔ j > a ∧ ltO cf d2[j]! d2[j - 1]! = true) ∧ Hp w0 w' (BD b t d2 :: L)) ?_ ?_
    · refine WC.regQ (fun w' => Hp w0 w' (BD b t d2 :: L)) mixed (by kernel_rfl) (fun w' hw' => hp.keep hw') ?_
      repeat (first | refine WQ.pure rfl rfl rfl ?_ | refine WQ.off rfl rfl rfl ?_ | refine WQ.nil ?_)
      refine WQ.split 21 rfl (fun h1 => ?_) (fun h1 => ?_)
      · have h1 : a < j := by have := of_decide_eq_true h1; omega
        have ej : IntKind.i64.wrap ((j : Int) - 1) = ((j - 1 : Nat) : Int) := by rw [wrap_mid (by omega) (by omega)]; omega
        repeat (first | refine WQ.pure rfl rfl rfl ?_ | refine WQ.off rfl rfl rfl ?_ | refine WQ.nil ?_)
        refine WQ.ixD rfl (fun _ => rfl) rfl rfl rfl rfl rfl rfl rfl rfl rfl (fun _ h => h) (show j < n by omega) (by omega) ?_
        repeat (first | refine WQ.pure rfl rfl rfl ?_ | refine WQ.off rfl rfl rfl ?_ | refine WQ.nil ?_)
        refine WQ.known (d := 29) (congrArg (fun z => some (Value.int .i64 z)) ej) ?_
        refine WQ.ixD rfl (fun _ => rfl) rfl rfl rfl rfl rfl rfl rfl rfl rfl (fun _ h => h) (show j - 1 < n by omega) (by omega) ?_
        refine WQ.call rfl rfl rfl rfl rfl hE (hG.q (hd2.all j (by omega)) (hd2.all (j - 1) (by omega))) ?_
        repeat (first | refine WQ.pure rfl rfl rfl ?_ | refine WQ.off rfl rfl rfl ?_ | refine WQ.nil ?_)
        intro w' hp'
        refine ⟨_, ⟨rfl, rfl, rfl, rfl, rfl, rfl, rfl, rfl⟩, ?_, hp'⟩
        exact ⟨fun h => ⟨h1, h⟩, fun h => h.2⟩
      · have h1 : ¬ a < j := by have := of_decide_eq_false h1; omega
        repeat (first | refine WQ.pure rfl rfl rfl ?_ | refine WQ.off rfl rfl rfl ?_ | refine WQ.nil ?_)
        intro w' hp'
        exact ⟨false, ⟨rfl, rfl, rfl, rfl, rfl, rfl, rfl, rfl⟩, ⟨fun h => (by cases h), fun h => absurd h.1 h1⟩, hp'⟩
    clear hp w
    rintro q e3 w hsub ⟨hq, hp⟩
    refine WC.sub hsub ?_
    clear hsub e3
    refine WC.cond rfl (fun hc2 => ?_) (fun hc2 => ?_)
    · obtain ⟨h1, h2⟩ := hq.1 hc2
      obtain ⟨k, rfl⟩ : ∃ k, j = k + 1 := ⟨j - 1, by omega⟩
      rw [Nat.add_sub_cancel] at h2
      rw [insInner_go (by rw [h2, decide_eq_true h1]; rfl)] at hJ
      have ek : IntKind.i64.wrap (((k + 1 : Nat) : Int) - 1) = ((k : Nat) : Int) := by rw [wrap_mid (by omega) (by omega)]; omega
      repeat (first | refine WC.seq ?_ | refine WC.reg ?_ | refine WL.pure rfl rfl rfl ?_ | refine WL.nil ?_ | refine WC.skip ?_ | refine WC.block ?_ | refine WC.condT rfl ?_ | refine WC.condF rfl ?_ | refine WL.off rfl rfl rfl ?_ | refine WL.off0 rfl rfl ?_ | refine WC.exit ?_ | refine blk_hit ?_ | refine blk_miss rfl ?_ | refine WC.ret ?_)
      refine WC.mid Unit (fun _ => [(0, .slice (some ⟨b, 0, none⟩) n cap), (1, .int .i64 (a : Nat)), (2, .int .i64 (e : Nat)), (3, .func (.func G) #[] ca), (8, .int .i64 (i : Nat)), (9, .int .i64 (k + 1 : Nat))]) (fun _ w' => Hp w0 w' (BD b t (Go.Sort.swp (d2) (k + 1) (k)) :: L)) ?_ ?_
      · refine WC.regH (fun _ => True) mixed (by kernel_rfl) (fun w6 hw6 hh6 => ?_)
        have kh6 := (hp).keep hw6
        refine WH.pure 0 (by kernel_rfl) rfl (by kernel_rfl) rfl rfl rfl trivial ?_
        refine WH.pure 1 (by kernel_rfl) rfl (by kernel_rfl) rfl rfl rfl trivial ?_
        refine WH.pure 2 (by kernel_rfl) rfl (by kernel_rfl) rfl rfl rfl trivial ?_
        refine WH.pure 3 (by kernel_rfl) rfl (by kernel_rfl) rfl rfl rfl trivial ?_
        refine WH.pure 4 (by kernel_rfl) rfl (by kernel_rfl) rfl rfl rfl trivial ?_
        refine WH.known (d := 41) (congrArg (fun z => some (Value.int .i64 z)) ek) ?_
        refine WH.pure 5 (by kernel_rfl) rfl (by kernel_rfl) rfl rfl rfl trivial ?_
        refine WH.pure 6 (by kernel_rfl) rfl (by kernel_rfl) rfl rfl rfl trivial ?_
        refine WH.pure 7 (by kernel_rfl) rfl (by kernel_rfl) rfl rfl rfl trivial ?_
        refine WH.known (d := 44) (congrArg (fun z => some (Value.int .i64 z)) ek) ?_
        refine WH.ixS 8 (by kernel_rfl) rfl (by kernel_rfl) rfl rfl rfl rfl rfl rfl (by omega) trivial ?_
        refine WH.pure 10 (by kernel_rfl) rfl (by kernel_rfl) rfl rfl rfl trivial ?_
        refine WH.pure 11 (by kernel_rfl) rfl (by kernel_rfl) rfl rfl rfl trivial ?_
        refine WH.ixS 12 (by kernel_rfl) rfl (by kernel_rfl) rfl rfl rfl rfl rfl rfl (by omega) trivial ?_
        refine WH.two 9 13 rfl rfl (by kernel_rfl) ?_ ?_
        · refine WL.loadN rfl rfl rfl rfl rfl rfl (cl_load kh6 (j := k) (by omega)) (WL.nil ⟨trivial, ?_⟩)
          refine WH.one 13 rfl (by kernel_rfl) ?_
          refine WL.loadN rfl rfl rfl rfl rfl rfl (cl_load kh6 (j := k + 1) (by omega)) (WL.nil ⟨trivial, ?_⟩)
          refine WH.ixS 14 (by kernel_rfl) rfl (by kernel_rfl) rfl rfl rfl rfl rfl rfl (by omega) trivial ?_
          refine WH.one 15 rfl (by kernel_rfl) ?_
          refine WL.storeN rfl rfl rfl rfl rfl (rc_one (d2)[k]!) (kh6.obj 0 rfl) (cl_room (by omega)) (cl_store (j := k + 1) (by omega)) (fun w7 hw7 => WL.nil ⟨trivial, ?_⟩)
          have hp7 := kh6.set 0 rfl rfl hw7
          refine WH.ixS 16 (by kernel_rfl) rfl (by kernel_rfl) rfl rfl rfl rfl rfl rfl (by omega) trivial ?_
          refine WH.one 17 rfl (by kernel_rfl) ?_
          refine WL.storeN rfl rfl rfl rfl rfl (rc_one (d2)[k + 1]!) (hp7.obj 0 rfl) (cl_room (by rw [Array.size_setIfInBounds]; omega)) (cl_store (j := k) (by rw [Array.size_setIfInBounds]; omega)) (fun w8 hw8 => WL.nil ⟨trivial, ?_⟩)
          have hp8 := hp7.set 0 rfl rfl hw8
          refine WH.done (by kernel_rfl) ?_
          exact ⟨(), ⟨rfl, rfl, rfl, rfl, rfl, rfl, rfl⟩, hp8⟩
        · refine WL.loadN rfl rfl rfl rfl rfl rfl (cl_load kh6 (j := k + 1) (by omega)) (WL.nil ⟨trivial, ?_⟩)
          refine WH.one 9 rfl (by kernel_rfl) ?_
          refine WL.loadN rfl rfl rfl rfl rfl rfl (cl_load kh6 (j := k) (by omega)) (WL.nil ⟨trivial, ?_⟩)
          refine WH.ixS 14 (by kernel_rfl) rfl (by kernel_rfl) rfl rfl rfl rfl rfl rfl (by omega) trivial ?_
          refine WH.one 15 rfl (by kernel_rfl) ?_
          refine WL.storeN rfl rfl rfl rfl rfl (rc_one (d2)[k]!) (kh6.obj 0 rfl) (cl_room (by omega)) (cl_store (j := k + 1) (by omega)) (fun w7 hw7 => WL.nil ⟨trivial, ?_⟩)
          have hp7 := kh6.set 0 rfl rfl hw7
          refine WH.ixS 16 (by kernel_rfl) rfl (by kernel_rfl) rfl rfl rfl rfl rfl rfl (by omega) trivial ?_
          refine WH.one 17 rfl (by kernel_rfl) ?_
          refine WL.storeN rfl rfl rfl rfl rfl (rc_one (d2)[k + 1]!) (hp7.obj 0 rfl) (cl_room (by rw [Array.size_setIfInBounds]; omega)) (cl_store (j := k) (by rw [Array.size_setIfInBounds]; omega)) (fun w8 hw8 => WL.nil ⟨trivial, ?_⟩)
          have hp8 := hp7.set 0 rfl rfl hw8
          refine WH.done (by kernel_rfl) ?_
          exact ⟨(), ⟨rfl, rfl, rfl, rfl, rfl, rfl, rfl⟩, hp8⟩
      rintro ⟨⟩ e6 w6 hsub hp6
      refine WC.sub hsub ?_
      clear hsub e6
      repeat (first | refine WC.seq ?_ | refine WC.reg ?_ | refine WL.pure rfl rfl rfl ?_ | refine WL.nil ?_ | refine WC.skip ?_ | refine WC.block ?_ | refine WC.condT rfl ?_ | refine WC.condF rfl ?_ | refine WL.off rfl rfl rfl ?_ | refine WL.off0 rfl rfl ?_ | refine WC.exit ?_ | refine blk_hit ?_ | refine blk_miss rfl ?_ | refine WC.ret ?_)
      exact ⟨(k, swp d2 (k + 1) k), by show k < k + 1; omega, ⟨rfl, rfl, rfl, rfl, rfl, congrArg (fun z => some (Value.int .i64 z)) ek, rfl⟩, by omega, by omega, hd2.swp (by omega) (by omega), hJ, hp6⟩
    · obtain ⟨k1, k2⟩ := ex (insInner_stop fun h => by have := hq.2 h; rw [hc2] at this; cases this) w hp
      rw [k2] at hI
      repeat (first | refine WC.seq ?_ | refine WC.reg ?_ | refine WL.pure rfl rfl rfl ?_ | refine WL.nil ?_ | refine WC.skip ?_ | refine WC.block ?_ | refine WC.condT rfl ?_ | refine WC.condF rfl ?_ | refine WL.off rfl rfl rfl ?_ | refine WL.off0 rfl rfl ?_ | refine WC.exit ?_ | refine blk_hit ?_ | refine blk_miss rfl ?_ | refine WC.ret ?_)
      exact ⟨(i + 1, d2), by show n + 1 - (i + 1) < n + 1 - i; omega, ⟨rfl, rfl, rfl, rfl, congrArg (fun z => some (Value.int .i64 z)) step, rfl⟩, by omega, by omega, hd2, hI, hp⟩
  · have hi : ¬ i < e := by have := of_decide_eq_false hc; omega
    rw [insOuter_stop hi] at hI
    repeat (first | refine WC.seq ?_ | refine WC.reg ?_ | refine WL.pure rfl rfl rfl ?_ | refine WL.nil ?_ | refine WC.skip ?_ | refine WC.block ?_ | refine WC.condT rfl ?_ | refine WC.condF rfl ?_ | refine WL.off rfl rfl rfl ?_ | refine WL.off0 rfl rfl ?_ | refine WC.exit ?_ | refine blk_hit ?_ | refine blk_miss rfl ?_ | refine WC.ret ?_)
    refine Res.zero rfl rfl ?_
    rw [hI]
    exact ⟨hd1, hp⟩
end
end Go.Proofs.YtoghnhbjdnjghaaGreat
