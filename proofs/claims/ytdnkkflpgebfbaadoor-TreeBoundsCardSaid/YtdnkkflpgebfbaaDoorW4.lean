/- W, fourth part: slices that are made and grown; parts of slices; literals; elements of arrays. -/
import Derived.Test.YtdnkkflpgebfbaaDoorW3
set_option linter.unusedVariables false
set_option linter.unusedSectionVars false
namespace Go.W
open Go.RowKit

theorem owns_shape {w : World} {B E s n : Nat} {v : Value} {xs : List Value} (h : w.ownsRow B E s v n xs) : ∃ a cap, v = .slice a n cap := by
  obtain ⟨hl, ⟨hv, hn⟩ | ⟨g, cap, cur, hv, _⟩⟩ := h
  · exact ⟨none, 0, by rw [hv, hn]⟩
  · exact ⟨_, _, hv⟩

/-- Only numbers, truth values, addresses .. (no structs): what a cell may hold. -/
def Cells (cs : List Value) : Prop := ∀ u ∈ cs, u.oneCell' = true
theorem Cells.ints (k : IntKind) (xs : List Int) : Cells (xs.map (Value.int k)) := by
  intro u hu
  obtain ⟨x, _, rfl⟩ := List.mem_map.1 hu
  rfl
theorem Cells.append {a b : List Value} (ha : Cells a) (hb : Cells b) : Cells (a ++ b) := fun u hu => by
  rcases List.mem_append.1 hu with h | h
  · exact ha u h
  · exact hb u h
theorem Cells.cons {v : Value} {b : List Value} (ha : v.oneCell' = true) (hb : Cells b) : Cells (v :: b) := fun u hu => by
  rcases List.mem_cons.1 hu with h | h
  · rw [h]; exact ha
  · exact hb u h
theorem Cells.nil : Cells [] := fun u hu => by cases hu
theorem Cells.take {a : List Value} (h : Cells a) (n : Nat) : Cells (a.take n) := fun u hu => h u (List.mem_of_mem_take hu)
theorem Cells.drop {a : List Value} (h : Cells a) (n : Nat) : Cells (a.drop n) := fun u hu => h u (List.mem_of_mem_drop hu)

section
variable {P : Program} [T : TT P] {ro : Option Nat} {n : Nat} {l0 rest : List Oper} {N R : Nor} {X : Ext} {Z : Pan} {e : Env} {w : World} {ty : TypeId} {pos : String} {aft : Array Edge} {g : Option (Nat × Bool)}

theorem run_append2 {t ty' E : TypeId} {i : TI} {z : Value} {s0 b0 B : Nat} {v : Value} {k m c : Nat} {xs news : List Value} {a : Option Addr} (ht : T.ti t = some ⟨.slice E, z, s0, b0⟩) (hi : T.ti E = some i)
    (hzs : i.zero.cells.size = i.size) (hsz : 0 < i.size)
    (hown : w.ownsRow B E i.size v k xs) (hs : Sl w a news) (hl : news.length = m * i.size) (h1 : Cells news)
    (h63 : k + m ≤ maxLen) (hbytes : (k + m) * i.bytes ≤ 140737488355328) (hbase : B ≤ w.heap.size) :
    ∃ v' w', (Builtin.append_ #[t, t] ty' #[v, .slice a m c]).run P w = .ok v' w' ∧ w'.ownsRow B E i.size v' (k + m) (xs ++ news) ∧ w.grownBy w' v.ownBlock ∧
      (v'.ownBlock = none ∨ v'.ownBlock = v.ownBlock ∨ ∃ q, v'.ownBlock = some q ∧ w.heap.size ≤ q) := by
  have hu : P.underlying t = some (.slice E) := (T.ok t _ ht).k
  obtain ⟨j, hj, hjj⟩ := Option.map_eq_some_iff.1 (T.ok E i hi).info
  simp only [Prod.mk.injEq] at hjj
  obtain ⟨hj1, hj2, hj3⟩ := hjj
  cases a with
  | none =>
    have hn : news = [] := by
      cases news with
      | nil => rfl
      | cons u r => obtain ⟨b, o, hb, _⟩ := hs 0 u rfl; cases hb
    subst hn
    have hm : m = 0 := by
      simp only [List.length_nil] at hl
      rcases Nat.mul_eq_zero.1 hl.symm with h | h
      · exact h
      · omega
    subst hm
    refine ⟨v, w, ?_, by simpa using hown, World.grownBy.refl w _, .inr (.inl rfl)⟩
    obtain ⟨_, ⟨hv, hn⟩ | ⟨g', cap, cur, hv, hb, hg, hnc, hcm, hcs, htk⟩⟩ := hown
    · subst hv
      simp [Builtin.append_, run_underlying hu, sizeOf, typeInfo, hj, Builtin.lenOf, Builtin.firstCells]
    · subst hv
      simp [Builtin.append_, run_underlying hu, sizeOf, typeInfo, hj, Builtin.lenOf, Builtin.firstCells, hnc, storeCells]
  | some ad =>
    have hnews : ∀ (q : Nat) (u : Value), news[q]? = some u → w.cell? (ad.add q) = some u := by
      intro q u hq
      obtain ⟨b, o, hb, hc⟩ := hs q u hq
      simp only [Option.some.injEq] at hb
      rw [hb, Addr.add_lit]
      exact hc
    obtain ⟨v', w', hr, ho, hg, hnil⟩ := run_append_own (P := P) w B t ty' E j i.zero i.size i.bytes hu hj hj1 hj2 hj3 hzs hsz v k xs hown ad m c news hl hnews h1 h63 hbytes hbase
    refine ⟨v', w', hr, ho, hg, ?_⟩
    obtain ⟨hlx, ⟨hv, hn⟩ | ⟨g', cap, cur, hv, hb, hgg, hnc, hcm, hcs, htk⟩⟩ := hown
    · subst hv
      subst hn
      have hx0 : xs = [] := List.eq_nil_of_length_eq_zero (by simpa using hlx)
      subst hx0
      obtain ⟨v2, w2, hr2, ho2, _, _⟩ := run_append_own (P := P) w w.heap.size t ty' E j i.zero i.size i.bytes hu hj hj1 hj2 hj3 hzs hsz (.slice none 0 0) 0 [] (World.ownsRow_nil w _ _ _) ad m c news hl hnews h1 h63 hbytes (Nat.le_refl _)
      rw [hr] at hr2
      simp only [Result.ok.injEq] at hr2
      rw [← hr2.1, ← hr2.2] at ho2
      cases hb : v'.ownBlock with
      | none => exact .inl rfl
      | some q => exact .inr (.inr ⟨q, rfl, (World.ownsRow.lt ho2 q hb).1⟩)
    · subst hv
      by_cases hroom : k + m ≤ cap
      · have hfit : k * j.size + news.length ≤ cur.size := by rw [hl, hcs, hj2, ← Nat.add_mul]; exact Nat.mul_le_mul_right _ hroom
        have hr2 := run_append_room (P := P) w t ty' E j hu hj g' k cap cur hgg ad m c news (by rw [hl, hj2]) hnews h1 hroom hfit
        rw [hr] at hr2
        simp only [Result.ok.injEq] at hr2
        rw [hr2.1]
        exact .inr (.inl rfl)
      · have holds : ∀ q u, xs[q]? = some u → w.cell? ((⟨g', 0, none⟩ : Addr).add q) = some u :=
          World.ownsRow.cells (v := .slice (some ⟨g', 0, none⟩) k cap) (n := k) (base := B) (size := i.size) (e := E) ⟨hlx, .inr ⟨g', cap, cur, rfl, hb, hgg, hnc, hcm, hcs, htk⟩⟩ rfl
        have h63' : ((k + m : Nat) : Int) ≤ 9223372036854775807 := by simp only [maxLen] at h63; omega
        have hr2 := run_append_grow (P := P) w t ty' E j i.zero hu hj hj1 ⟨g', 0, none⟩ k cap xs (by rw [hlx, hj2]) holds ad m c news (by rw [hl, hj2]) hnews (by omega) h63' (growslice_fits (by omega) (by rw [hj3]; exact hbytes))
        rw [hr] at hr2
        simp only [Result.ok.injEq] at hr2
        rw [hr2.1]
        exact .inr (.inr ⟨_, rfl, Nat.le_refl _⟩)

/-- append, to a slice that is one's own. -/
theorem WL.append {d : Nat} {s x : Operand} {t E : TypeId} {i : TI} {z : Value} {s0 b0 : Nat} {w0 : World} {L : List Ent} {v : Value} {k_ m c : Nat} {xs news : List Value} {a : Option Addr}
    (q : Nat) (hp : Hp w0 w L) (hg : grd l0 e g = some true) (hd : Nat.blt d n = true) (ht : T.ti t = some ⟨.slice E, z, s0, b0⟩) (hi : T.ti E = some i)
    (hzs : i.zero.cells.size = i.size) (hsz : 0 < i.size)
    (hsv : opv e s = some v) (hxv : opv e x = some (.slice a m c))
    (hq : nth L q = some (.row E i.size v k_ xs)) (hs : Sl w a news) (hl : news.length = m * i.size) (h1 : Cells news)
    (h63 : k_ + m ≤ maxLen) (hbytes : (k_ + m) * i.bytes ≤ 140737488355328)
    (h : ∀ a' cap' w', Hp w0 w' (L.set q (.row E i.size (.slice a' (k_ + m) cap') (k_ + m) (xs ++ news))) → w.grownBy w' v.ownBlock → WL P ro n l0 N Z rest ((d, .slice a' (k_ + m) cap') :: e) w') :
    WL P ro n l0 N Z (⟨some d, .call ⟨.builtin .append, #[s, x], #[t, t]⟩, ty, pos, aft, g⟩ :: rest) e w := by
  obtain ⟨v', w', hr, ho, hgr, hob⟩ := run_append2 (c := c) (ty' := ty) ht hi hzs hsz (hp.at q hq) hs hl h1 h63 hbytes hp.below.size
  obtain ⟨a', cap', rfl⟩ := owns_shape ho
  refine WL.val (w' := w') hg rfl hd ?_ (h a' cap' w' (hp.repl q hq rfl hgr (fun k hk => hk) ho (by
    intro k hk
    rcases hob with hob | hob | ⟨r, hob, hr⟩
    · rw [show (Ent.row E i.size (.slice a' (k_ + m) cap') (k_ + m) (xs ++ news)).owns k ↔ (Value.slice a' (k_ + m) cap').ownBlock = some k from Iff.rfl, hob] at hk; cases hk
    · exact .inl (by rw [show (Ent.row E i.size v k_ xs).owns k ↔ v.ownBlock = some k from Iff.rfl, ← hob]; exact hk)
    · refine .inr ?_
      rw [show (Ent.row E i.size (.slice a' (k_ + m) cap') (k_ + m) (xs ++ news)).owns k ↔ (Value.slice a' (k_ + m) cap').ownBlock = some k from Iff.rfl, hob] at hk
      simp only [Option.some.injEq] at hk
      rw [← hk]; exact hr)) hgr)
  intro ρ hρ d' pos' aft' g'
  simp [execOp, resolve, invoke, builtin, hρ _ _ hsv, hρ _ _ hxv, hr]

/-- make. -/
theorem WL.make {d : Nat} {x y : Operand} {t E : TypeId} {i : TI} {z : Value} {s0 b0 m : Nat} {kl kc : IntKind}
    (hg : grd l0 e g = some true) (hd : Nat.blt d n = true) (ht : T.ti t = some ⟨.slice E, z, s0, b0⟩) (hi : T.ti E = some i) (h1 : i.size = 1) (hone : i.zero.cells = #[i.zero])
    (hx : opv e x = some (.int kl (m : Nat))) (hy : opv e y = some (.int kc (m : Nat))) (hb : i.bytes * m ≤ 281474976710656) (h63 : m ≤ maxLen)
    (h : ∀ b w', NewB w b (.cells (List.replicate m i.zero).toArray E) w' → WL P ro n l0 N Z rest ((d, .slice (some ⟨b, 0, none⟩) m m) :: e) w') :
    WL P ro n l0 N Z (⟨some d, .makeSlice t x y, ty, pos, aft, g⟩ :: rest) e w := by
  have hu : P.underlying t = some (.slice E) := (T.ok t _ ht).k
  obtain ⟨j, hj, hjj⟩ := Option.map_eq_some_iff.1 (T.ok E i hi).info
  simp only [Prod.mk.injEq] at hjj
  obtain ⟨hj1, hj2, hj3⟩ := hjj
  have hb' : (j.bytes : Int) * (m : Int) ≤ 281474976710656 := by
    rw [hj3]
    have h : ((i.bytes * m : Nat) : Int) ≤ 281474976710656 := by omega
    rwa [Int.natCast_mul] at h
  have h63' : (m : Int) ≤ 9223372036854775807 := by simp only [maxLen] at h63; omega
  have hr := run_make (P := P) w t E j i.zero hu hj hj1 kl kc m m (by omega) (Int.le_refl _) hb' h63'
  simp only [Int.toNat_natCast, hj2, h1, Nat.mul_one, hone] at hr
  have hc : madeCells #[i.zero] m = (List.replicate m i.zero).toArray := by
    rw [← Array.toList_inj, toList_madeCells_one]
  rw [hc] at hr
  refine WL.val hg rfl hd ?_ (h _ _ (newB w _))
  intro ρ hρ d' pos' aft' g'
  simp [execOp, hρ _ _ hx, hρ _ _ hy, hr]

/-- 'x[:h]'. -/
theorem WL.sliceHi {d : Nat} {t E : TypeId} {i : TI} {z : Value} {s0 b0 len cap h : Nat} {x y : Operand} {a : Option Addr} {k : IntKind}
    (hg : grd l0 e g = some true) (hd : Nat.blt d n = true) (ht : T.ti t = some ⟨.slice E, z, s0, b0⟩) (hi : T.ti E = some i)
    (hx : opv e x = some (.slice a len cap)) (hy : opv e y = some (.int k (h : Nat))) (hh : h ≤ cap)
    (hn : WL P ro n l0 N Z rest ((d, .slice a h cap) :: e) w) :
    WL P ro n l0 N Z (⟨some d, .slice t x none (some y) none, ty, pos, aft, g⟩ :: rest) e w := by
  have hu : P.underlying t = some (.slice E) := (T.ok t _ ht).k
  have hel : P.elem t = E := by simp [Program.elem, hu]
  have hu' : P.underlying t = some (.slice (P.elem t)) := by rw [hel]; exact hu
  have hsz := (T.ok E i hi).sizeOf w
  have hr := run_slice_h (P := P) w t a len cap hu' k h (by omega) (by omega)
  rw [hel, hsz] at hr
  have hval : sliced a 0 (h : Int).toNat cap i.size = .slice a h cap := by
    simp only [sliced, Nat.zero_mul, Nat.sub_zero, Int.toNat_natCast]
    congr 1
    split
    · rfl
    · cases a with
      | none => rfl
      | some p => simp [Addr.add_zero']
  have hval2 : sliced a 0 h cap i.size = .slice a h cap := by simpa using hval
  refine WL.val hg rfl hd ?_ hn
  intro ρ hρ d' pos' aft' g'
  simp only [execOp, hρ _ _ hx, Option.map_none, Option.map_some, hρ _ _ hy, Sem.run_bind]
  rw [run_sliceAt_slice w t _ _ _ _ hu', hr, Result.andThen_ok, hval]
  rfl

/-- 'x[l:]'. -/
theorem WL.sliceLo {d : Nat} {t E : TypeId} {i : TI} {z : Value} {s0 b0 len cap l : Nat} {x y : Operand} {a : Option Addr} {k : IntKind}
    (hg : grd l0 e g = some true) (hd : Nat.blt d n = true) (ht : T.ti t = some ⟨.slice E, z, s0, b0⟩) (hi : T.ti E = some i)
    (hx : opv e x = some (.slice a len cap)) (hy : opv e y = some (.int k (l : Nat))) (hh : l ≤ len) (hlc : len ≤ cap)
    (hn : ∀ a', (∀ w' cs, Sl w' a cs → cs.length ≤ len * i.size → Sl w' a' (cs.drop (l * i.size))) → WL P ro n l0 N Z rest ((d, .slice a' (len - l) (cap - l)) :: e) w) :
    WL P ro n l0 N Z (⟨some d, .slice t x (some y) none none, ty, pos, aft, g⟩ :: rest) e w := by
  have hu : P.underlying t = some (.slice E) := (T.ok t _ ht).k
  have hel : P.elem t = E := by simp [Program.elem, hu]
  have hu' : P.underlying t = some (.slice (P.elem t)) := by rw [hel]; exact hu
  have hsz := (T.ok E i hi).sizeOf w
  have hr := run_slice_l (P := P) w t a len cap hu' k l (by omega) (by omega)
  rw [hel, hsz] at hr
  refine WL.val hg rfl hd ?_ (hn (if cap = l then a else a.map (·.add (l * i.size))) ?_)
  · intro ρ hρ d' pos' aft' g'
    simp only [execOp, hρ _ _ hx, Option.map_none, Option.map_some, hρ _ _ hy, Sem.run_bind]
    rw [run_sliceAt_slice w t _ _ _ _ hu', hr]
    simp [sliced]
  · intro w' cs hs hcl q u hq
    rw [List.getElem?_drop] at hq
    obtain ⟨b, o, ha, hc⟩ := hs _ u hq
    have hlt : l * i.size + q < cs.length := (List.getElem?_eq_some_iff.1 hq).1
    have hne : cap ≠ l := by
      intro hcl2
      have h1 : len = l := by omega
      rw [h1] at hcl
      omega
    rw [if_neg hne, ha]
    refine ⟨b, o + l * i.size, by simp [Addr.add_lit], ?_⟩
    rw [Nat.add_assoc]; exact hc

theorem Sl.take {a : Option Addr} {cs : List Value} (h : Sl w a cs) (m : Nat) : Sl w a (cs.take m) := by
  intro i u hi
  rw [List.getElem?_take] at hi
  split at hi
  · exact h i u hi
  · cases hi
theorem Sl.part {a : Option Addr} {cs ds : List Value} (h : Sl w a cs) (hd : ∀ (i : Nat) (u : Value), ds[i]? = some u → cs[i]? = some u) : Sl w a ds := fun i u hi => h i u (hd i u hi)

/-- A remainder, by a number that is not 0. -/
theorem WL.rem {d : Nat} {t t2 : TypeId} {x y : Operand} {k : IntKind} {a b : Int} (hg : grd l0 e g = some true) (hd : Nat.blt d n = true) (hx : opv e x = some (.int k a)) (hy : opv e y = some (.int k b)) (hb : b ≠ 0)
    (h : WL P ro n l0 N Z rest ((d, .int k (a.tmod b)) :: e) w) : WL P ro n l0 N Z (⟨some d, .binOp .rem t x y t2, ty, pos, aft, g⟩ :: rest) e w := by
  refine WL.val hg rfl hd ?_ h
  intro ρ hρ d' pos' aft' g'
  simp [execOp, hρ _ _ hx, hρ _ _ hy, eqGuard_at_int, binOp_rem, Op.intDiv, hb]
theorem WL.quo {d : Nat} {t t2 : TypeId} {x y : Operand} {k : IntKind} {a b : Int} (hg : grd l0 e g = some true) (hd : Nat.blt d n = true) (hx : opv e x = some (.int k a)) (hy : opv e y = some (.int k b)) (hb : b ≠ 0)
    (h : WL P ro n l0 N Z rest ((d, .int k (k.wrap (a.tdiv b))) :: e) w) : WL P ro n l0 N Z (⟨some d, .binOp .quo t x y t2, ty, pos, aft, g⟩ :: rest) e w := by
  refine WL.val hg rfl hd ?_ h
  intro ρ hρ d' pos' aft' g'
  simp [execOp, hρ _ _ hx, hρ _ _ hy, eqGuard_at_int, binOp_quo, Op.intDiv, hb]

/-- The address of an array's element, at a number. -/
theorem run_ixA {t E : TypeId} {i : TI} {z : Value} {s0 b0 m b o j : Nat} {x ix : Operand} {k : IntKind} (ht : T.ti t = some ⟨.array m E, z, s0, b0⟩) (hi : T.ti E = some i)
    (hx : opv e x = some (.pointer (some ⟨b, o, none⟩))) (hix : opv e ix = some (.int k (j : Nat))) (hj : j < m) : Yv P e (.indexAddr t x ix) ty w (.pointer (some ⟨b, o + j * i.size, none⟩)) w := by
  have hu : P.underlying t = some (.array m E) := (T.ok t _ ht).k
  intro ρ hρ d' pos' aft' g'
  have hsz := (T.ok E i hi).sizeOf w
  have c1 : (0 : Int) ≤ (j : Int) ∧ (j : Int) < (m : Int) := ⟨by omega, by omega⟩
  simp only [execOp, hρ _ _ hx, hρ _ _ hix, Instr.indexAt, asIntOf, Sem.run_bind, Sem.run_pure, Result.andThen_ok, run_underlying hu, Instr.sureAddr]
  rw [if_pos c1]
  simp [hsz, Addr.add_lit]
theorem WL.ixA {d : Nat} {t E : TypeId} {i : TI} {z : Value} {s0 b0 m b o j : Nat} {x ix : Operand} {k : IntKind} (hg : grd l0 e g = some true) (hd : Nat.blt d n = true) (ht : T.ti t = some ⟨.array m E, z, s0, b0⟩) (hi : T.ti E = some i)
    (hx : opv e x = some (.pointer (some ⟨b, o, none⟩))) (hix : opv e ix = some (.int k (j : Nat))) (hj : j < m)
    (h : WL P ro n l0 N Z rest ((d, .pointer (some ⟨b, o + j * i.size, none⟩)) :: e) w) : WL P ro n l0 N Z (⟨some d, .indexAddr t x ix, ty, pos, aft, g⟩ :: rest) e w :=
  WL.val hg rfl hd (run_ixA ht hi hx hix hj) h

theorem WL.ixA1 {d : Nat} {t E : TypeId} {i : TI} {z : Value} {s0 b0 m b o j : Nat} {x ix : Operand} {k : IntKind} (hg : grd l0 e g = some true) (hd : Nat.blt d n = true) (ht : T.ti t = some ⟨.array m E, z, s0, b0⟩) (hi : T.ti E = some i) (hs : i.size = 1)
    (hx : opv e x = some (.pointer (some ⟨b, o, none⟩))) (hix : opv e ix = some (.int k (j : Nat))) (hj : j < m)
    (h : WL P ro n l0 N Z rest ((d, .pointer (some ⟨b, o + j, none⟩)) :: e) w) : WL P ro n l0 N Z (⟨some d, .indexAddr t x ix, ty, pos, aft, g⟩ :: rest) e w :=
  WL.ixA hg hd ht hi hx hix hj (by rw [hs, Nat.mul_one]; exact h)
theorem WL.ix1 {d : Nat} {t E : TypeId} {i : TI} {x ix : Operand} {b o len cap j : Nat} {k : IntKind} {z : Value} {s b2 : Nat}
    (hg : grd l0 e g = some true) (hd : Nat.blt d n = true) (ht : T.ti t = some ⟨.slice E, z, s, b2⟩) (hi : T.ti E = some i) (hs : i.size = 1)
    (hx : opv e x = some (.slice (some ⟨b, o, none⟩) len cap)) (hix : opv e ix = some (.int k (j : Nat))) (hj : j < len)
    (h : WL P ro n l0 N Z rest ((d, .pointer (some ⟨b, o + j, none⟩)) :: e) w) :
    WL P ro n l0 N Z (⟨some d, .indexAddr t x ix, ty, pos, aft, g⟩ :: rest) e w :=
  WL.ix hg ht hi hx hix hj hd (by rw [hs, Nat.mul_one]; exact h)
theorem WS.ix1 {d : Nat} {M : Env → Prop} {t E : TypeId} {i : TI} {x ix : Operand} {b o len cap j : Nat} {k : IntKind} {z : Value} {s b2 : Nat}
    (hg : grd l0 e g = some true) (hd : Nat.blt d n = true) (ht : T.ti t = some ⟨.slice E, z, s, b2⟩) (hi : T.ti E = some i) (hs : i.size = 1)
    (hx : opv e x = some (.slice (some ⟨b, o, none⟩) len cap)) (hix : opv e ix = some (.int k (j : Nat))) (hj : j < len)
    (h : WS P n l0 w M rest ((d, .pointer (some ⟨b, o + j, none⟩)) :: e)) :
    WS P n l0 w M (⟨some d, .indexAddr t x ix, ty, pos, aft, g⟩ :: rest) e :=
  WS.ix hg ht hi hx hix hj hd (by rw [hs, Nat.mul_one]; exact h)

/-- An array's element, at a number. -/
theorem run_ixV {t E : TypeId} {i : TI} {z v : Value} {s0 b0 m j : Nat} {x ix : Operand} {k : IntKind} {cs : Array Value} (ht : T.ti t = some ⟨.array m E, z, s0, b0⟩) (hi : T.ti E = some i) (h1 : isOne i.k = true) (hs : i.size = 1)
    (hx : opv e x = some (.agg cs)) (hix : opv e ix = some (.int k (j : Nat))) (hj : j < m) (hv : cs[j]? = some v) : Yv P e (.index t x ix) ty w v w := by
  have hu : P.underlying t = some (.array m E) := (T.ok t _ ht).k
  intro ρ hρ d' pos' aft' g'
  have hsz := (T.ok E i hi).sizeOf w
  rw [hs] at hsz
  have hag : i.k.isAgg = false := by cases hk2 : i.k <;> rw [hk2] at h1 <;> first | rfl | (simp [isOne] at h1)
  have hagg := (T.ok E i hi).isAgg w
  rw [hag] at hagg
  have c1 : (0 : Int) ≤ (j : Int) ∧ (j : Int) < (m : Int) := ⟨by omega, by omega⟩
  simp only [execOp, hρ _ _ hx, hρ _ _ hix, Instr.index, asIntOf, Sem.run_bind, Sem.run_pure, Result.andThen_ok, run_underlying hu]
  rw [if_pos c1]
  simp [hsz, part, hagg, hv]
theorem WL.ixV {d : Nat} {t E : TypeId} {i : TI} {z v : Value} {s0 b0 m j : Nat} {x ix : Operand} {k : IntKind} {cs : Array Value} (hg : grd l0 e g = some true) (hd : Nat.blt d n = true) (ht : T.ti t = some ⟨.array m E, z, s0, b0⟩) (hi : T.ti E = some i) (h1 : isOne i.k = true) (hs : i.size = 1)
    (hx : opv e x = some (.agg cs)) (hix : opv e ix = some (.int k (j : Nat))) (hj : j < m) (hv : cs[j]? = some v)
    (h : WL P ro n l0 N Z rest ((d, v) :: e) w) : WL P ro n l0 N Z (⟨some d, .index t x ix, ty, pos, aft, g⟩ :: rest) e w :=
  WL.val hg rfl hd (run_ixV ht hi h1 hs hx hix hj hv) h

/-! ### Literals -/
def setL : List Value → Nat → Value → Option (List Value)
  | [], _, _ => none
  | _ :: xs, 0, v => some (v :: xs)
  | x :: xs, k + 1, v => match setL xs k v with
    | some r => some (x :: r)
    | none => none
def putL : List Value → Nat → List Value → Option (List Value)
  | xs, _, [] => some xs
  | xs, k, v :: vs => match setL xs k v with
    | some r => putL r (k + 1) vs
    | none => none
theorem setL_eq : ∀ (xs : List Value) (k : Nat) (v : Value) (r : List Value), setL xs k v = some r → r = xs.set k v ∧ k < xs.length := by
  intro xs
  induction xs with
  | nil => intro k v r h; simp [setL] at h
  | cons x xs ih =>
    intro k v r h
    cases k with
    | zero => simp only [setL, Option.some.injEq] at h; exact ⟨by rw [← h]; rfl, by simp⟩
    | succ k =>
      simp only [setL] at h
      cases hs : setL xs k v with
      | none => rw [hs] at h; cases h
      | some r' =>
        rw [hs] at h
        simp only [Option.some.injEq] at h
        obtain ⟨h1, h2⟩ := ih k v r' hs
        exact ⟨by rw [← h, h1]; rfl, by simp; omega⟩
theorem putL_eq : ∀ (vs : List Value) (xs : List Value) (k j : Nat) (r : List Value), putL xs (k + j) vs = some r →
    (vs.zipIdx j).foldl (fun (cs : List Value) (p : Value × Nat) => cs.set (k + p.2) p.1) xs = r ∧ r.length = xs.length ∧ (vs ≠ [] → k + j + vs.length ≤ xs.length) := by
  intro vs
  induction vs with
  | nil => intro xs k j r h; simp only [putL, Option.some.injEq] at h; exact ⟨by simpa using h, by rw [h], by simp⟩
  | cons v vs ih =>
    intro xs k j r h
    simp only [putL] at h
    cases hs : setL xs (k + j) v with
    | none => rw [hs] at h; cases h
    | some r' =>
      rw [hs] at h
      obtain ⟨h1, h2⟩ := setL_eq xs (k + j) v r' hs
      obtain ⟨h3, h4, h5⟩ := ih r' k (j + 1) r (by simpa [Nat.add_assoc] using h)
      refine ⟨?_, by rw [h4, h1]; simp, ?_⟩
      · simp only [List.zipIdx_cons, List.foldl_cons]
        rw [← h1]; exact h3
      · intro _
        simp only [List.length_cons]
        cases vs with
        | nil => simp; omega
        | cons u us =>
          have := h5 (by simp)
          rw [h1] at this
          simp only [List.length_set, List.length_cons] at this ⊢
          omega

def fillL (place : Nat → Option (Nat × Nat)) : List Value → List (Nat × Value) → Option (List Value)
  | cs, [] => some cs
  | cs, (i, v) :: r => match place i with
    | none => none
    | some (off, size) => match Nat.beq v.cells.toList.length size with
      | true => match v.cells.toList with
        | [] => none
        | u :: us => match putL cs off (u :: us) with
          | some cs' => fillL place cs' r
          | none => none
      | false => none
theorem foldl_arr (off : Nat) : ∀ (l : List (Value × Nat)) (cs : Array Value), (l.foldl (fun (cs : Array Value) (p : Value × Nat) => cs.setIfInBounds (off + p.2) p.1) cs).toList =
    l.foldl (fun (cs : List Value) (p : Value × Nat) => cs.set (off + p.2) p.1) cs.toList := by
  intro l
  induction l with
  | nil => intro cs; rfl
  | cons p l ih => intro cs; simp only [List.foldl_cons]; rw [ih]; simp
theorem fill_eq (place : Nat → Option (Nat × Nat)) : ∀ (ps : List (Nat × Value)) (cs : Array Value) (r : List Value), fillL place cs.toList ps = some r → Instr.fill place cs ps = some r.toArray := by
  intro ps
  induction ps with
  | nil => intro cs r h; simp only [fillL, Option.some.injEq] at h; rw [← h]; simp [Instr.fill]
  | cons p ps ih =>
    intro cs r h
    obtain ⟨i, v⟩ := p
    simp only [fillL] at h
    simp only [Instr.fill]
    cases hp : place i with
    | none => rw [hp] at h; cases h
    | some q =>
      obtain ⟨off, size⟩ := q
      rw [hp] at h
      simp only at h
      cases hb : Nat.beq v.cells.toList.length size with
      | false => rw [hb] at h; cases h
      | true =>
        rw [hb] at h
        simp only at h
        have hsz := Nat.eq_of_beq_eq_true hb
        cases hv : v.cells.toList with
        | nil => rw [hv] at h; cases h
        | cons u us =>
          rw [hv] at h
          simp only at h
          cases hq : putL cs.toList off (u :: us) with
          | none => rw [hq] at h; cases h
          | some cs' =>
            rw [hq] at h
            obtain ⟨h1, h2, h3⟩ := putL_eq (u :: us) cs.toList off 0 cs' (by simpa using hq)
            have hle := h3 (by simp)
            have hlen : v.cells.size = (u :: us).length := by rw [← hv]; simp
            have e1 : ¬ (v.cells.size ≠ size ∨ off + v.cells.size > cs.size) := by
              intro hh
              rcases hh with hh | hh
              · exact hh (by rw [← hsz]; simp)
              · simp only [Array.length_toList] at hle; omega
            have e1' : (decide (v.cells.size ≠ size) || decide (off + v.cells.size > cs.size)) = false := by simpa using e1
            simp only [e1', Bool.false_eq_true, if_false]
            have e2 : (v.cells.zipIdx.foldl (fun (cs : Array Value) (x : Value × Nat) => cs.setIfInBounds (off + x.2) x.1) cs) = cs'.toArray := by
              rw [← Array.foldl_toList, ← Array.toList_inj, foldl_arr]
              rw [Array.toList_zipIdx, hv]
              exact h1
            have := ih cs'.toArray r (by simpa using h)
            rw [← e2] at this
            exact this

def partsV (e : Env) : List (Nat × Operand) → Option (List (Nat × Value))
  | [] => some []
  | (i, x) :: r => match opv e x with
    | some v => match partsV e r with
      | some q => some ((i, v) :: q)
      | none => none
    | none => none
theorem partsV_eq {ρ : Operand → Value} (h : Agree e ρ) : ∀ (ps : List (Nat × Operand)) (r : List (Nat × Value)), partsV e ps = some r → ps.map (fun p => (p.1, ρ p.2)) = r := by
  intro ps
  induction ps with
  | nil => intro r hr; simp only [partsV, Option.some.injEq] at hr; rw [← hr]; rfl
  | cons p ps ih =>
    intro r hr
    obtain ⟨i, x⟩ := p
    simp only [partsV] at hr
    cases h1 : opv e x with
    | none => rw [h1] at hr; cases hr
    | some v =>
      rw [h1] at hr
      cases h2 : partsV e ps with
      | none => rw [h2] at hr; cases hr
      | some q =>
        rw [h2] at hr
        simp only [Option.some.injEq] at hr
        rw [← hr, List.map_cons, ih q h2, h x v h1]

def zerosL : Nat → List Value → List Value
  | 0, _ => []
  | k + 1, z => z ++ zerosL k z
theorem zerosL_eq (z : Array Value) (hz : 0 < z.size) : ∀ k, zerosL k z.toList = (madeCells z (k * z.size)).toList := by
  intro k
  have hlen : ∀ k, (zerosL k z.toList).length = k * z.size := by
    intro k
    induction k with
    | zero => simp [zerosL]
    | succ k ih => simp only [zerosL, List.length_append, ih, Array.length_toList, Nat.add_mul]; omega
  have hget : ∀ k i, i < k * z.size → (zerosL k z.toList)[i]? = some (z[i % z.size]!) := by
    intro k
    induction k with
    | zero => intro i hi; simp at hi
    | succ k ih =>
      intro i hi
      simp only [zerosL]
      by_cases h1 : i < z.size
      · rw [List.getElem?_append_left (by simpa using h1), Nat.mod_eq_of_lt h1]
        simp [h1]
      · rw [List.getElem?_append_right (by simp; omega)]
        simp only [Array.length_toList]
        rw [ih (i - z.size) (by rw [Nat.add_mul, Nat.one_mul] at hi; omega)]
        congr 2
        rw [Nat.mod_eq_sub_mod (show i ≥ z.size by omega)]
  apply List.ext_getElem?
  intro i
  by_cases hi : i < k * z.size
  · rw [hget k i hi]
    simp [madeCells, hi]
  · rw [List.getElem?_eq_none (by rw [hlen]; omega), List.getElem?_eq_none (by simp [madeCells]; omega)]

/-- A slice literal. -/
theorem WL.buildS {d : Nat} {t E : TypeId} {i : TI} {z : Value} {s0 b0 m : Nat} {parts : Array (Nat × Operand)} {ps : List (Nat × Value)} {cs : List Value}
    (hg : grd l0 e g = some true) (hd : Nat.blt d n = true) (ht : T.ti t = some ⟨.slice E, z, s0, b0⟩) (hi : T.ti E = some i) (hz : i.zero.cells.size = i.size) (hsz : Nat.blt 0 (m * i.size) = true) (hle : Nat.ble (m * i.size) 16777216 = true)
    (hp : partsV e parts.toList = some ps) (hf : fillL (fun j => some (j * i.size, i.size)) (zerosL m i.zero.cells.toList) ps = some cs)
    (h : ∀ b w', NewB w b (.cells cs.toArray E) w' → WL P ro n l0 N Z rest ((d, .slice (some ⟨b, 0, none⟩) m m) :: e) w') :
    WL P ro n l0 N Z (⟨some d, .buildSlice t m parts, ty, pos, aft, g⟩ :: rest) e w := by
  have hu : P.underlying t = some (.slice E) := (T.ok t _ ht).k
  have hs := (T.ok E i hi).sizeOf w
  have hzv := (T.ok E i hi).zeroValue w
  have h0 : 0 < m * i.size := by simpa [Nat.blt_eq] using hsz
  have hle' : m * i.size ≤ 16777216 := by simpa using hle
  have hpos : 0 < i.zero.cells.size := by rw [hz]; exact Nat.pos_of_mul_pos_left h0
  refine WL.val hg rfl hd ?_ (h _ _ (newB w _))
  intro ρ hρ d' pos' aft' g'
  have hparts : (parts.map fun (x : Nat × Operand) => (x.1, ρ x.2)).toList = ps := by rw [Array.toList_map]; exact partsV_eq hρ _ _ hp
  have hfill := fill_eq (fun j => some (j * i.size, i.size)) ps (madeCells i.zero.cells (m * i.size)) cs (by rw [← hz, ← zerosL_eq _ hpos, hz]; exact hf)
  have n1 : ¬ (m * i.size > 2 ^ 24) := by omega
  have n2 : ¬ (m * i.size = 0) := by omega
  have hm : (Array.range (m * i.size)).map (fun x => i.zero.cells[x % i.zero.cells.size]!) = madeCells i.zero.cells (m * i.size) := rfl
  have hfill' : Instr.fill (fun j => some (j * i.size, i.size)) ((Array.range (m * i.size)).map (fun x => i.zero.cells[x % i.zero.cells.size]!)) (parts.map fun (x : Nat × Operand) => (x.1, ρ x.2)).toList = some cs.toArray := by
    rw [hparts, hm]; exact hfill
  simp only [execOp, Instr.buildSlice, Sem.run_bind, run_underlying hu, Result.andThen_ok, hs, if_neg n1, if_neg n2, hzv, Sem.run_pure, hfill', newRow, run_newObj]
  rfl

/-- A struct or an array literal. -/
def placeV (tt : Nat → Option TI) (t : TypeId) : Nat → Option (Nat × Nat) := fun j => match tt t with
  | some ⟨.struct fs, _, _, _⟩ => match nth fs j with
    | some (o, ft) => match tt ft with
      | some fi => some (o, fi.size)
      | none => none
    | none => none
  | some ⟨.array _ E, _, _, _⟩ => match tt E with
    | some fi => some (j * fi.size, fi.size)
    | none => none
  | _ => none

theorem WL.buildA {d : Nat} {t E : TypeId} {i : TI} {z : Value} {s0 b0 m : Nat} {parts : Array (Nat × Operand)} {ps : List (Nat × Value)} {cs : List Value}
    (hg : grd l0 e g = some true) (hd : Nat.blt d n = true) (ht : T.ti t = some ⟨.array m E, z, s0, b0⟩) (hi : T.ti E = some i)
    (hp : partsV e parts.toList = some ps) (hf : fillL (fun j => some (j * i.size, i.size)) z.cells.toList ps = some cs)
    (h : WL P ro n l0 N Z rest ((d, .agg cs.toArray) :: e) w) :
    WL P ro n l0 N Z (⟨some d, .build t parts, ty, pos, aft, g⟩ :: rest) e w := by
  have hu : P.underlying t = some (.array m E) := (T.ok t _ ht).k
  have hs := (T.ok E i hi).sizeOf w
  have hzv := (T.ok t _ ht).zeroValue w
  refine WL.val hg rfl hd ?_ h
  intro ρ hρ d' pos' aft' g'
  have hparts : (parts.map fun (x : Nat × Operand) => (x.1, ρ x.2)).toList = ps := by rw [Array.toList_map]; exact partsV_eq hρ _ _ hp
  have hfill := fill_eq (fun j => some (j * i.size, i.size)) ps z.cells cs hf
  rw [← hparts] at hfill
  simp only [execOp, Instr.build, Sem.run_bind, run_underlying hu, Result.andThen_ok, hs, hzv, Sem.run_map, hfill, Sem.run_pure]

theorem run_mapM_fields (w : World) : ∀ (l : List Field), (∀ f ∈ l, ∃ i, T.ti f.type = some i) →
    (l.mapM (fun f => (do pure (f.offset, ← sizeOf f.type) : Sem (Nat × Nat)))).run P w = .ok (l.map fun f => (f.offset, ((T.ti f.type).map (·.size)).getD 0)) w := by
  intro l
  induction l with
  | nil => intro _; simp
  | cons f l ih =>
    intro h
    obtain ⟨i, hi⟩ := h f (by simp)
    have hs := (T.ok f.type i hi).sizeOf w
    have ih' := ih (fun g hg => h g (by simp [hg]))
    simp only [List.mapM_cons, Sem.run_bind, hs, Result.andThen_ok, Sem.run_pure, ih', List.map_cons, hi, Option.map_some, Option.getD_some]

theorem WL.buildT {d : Nat} {t : TypeId} {fs : List (Nat × TypeId)} {z : Value} {s0 b0 : Nat} {parts : Array (Nat × Operand)} {ps : List (Nat × Value)} {cs : List Value}
    (hg : grd l0 e g = some true) (hd : Nat.blt d n = true) (ht : T.ti t = some ⟨.struct fs, z, s0, b0⟩) (hfs : (fs.all fun f => (T.ti f.2).isSome) = true)
    (hp : partsV e parts.toList = some ps) (hf : fillL (fun j => nth (fs.map fun f => (f.1, ((T.ti f.2).map (·.size)).getD 0)) j) z.cells.toList ps = some cs)
    (h : WL P ro n l0 N Z rest ((d, .agg cs.toArray) :: e) w) :
    WL P ro n l0 N Z (⟨some d, .build t parts, ty, pos, aft, g⟩ :: rest) e w := by
  obtain ⟨farr, hu, hff⟩ := (T.ok t _ ht).k
  have hzv := (T.ok t _ ht).zeroValue w
  refine WL.val hg rfl hd ?_ h
  intro ρ hρ d' pos' aft' g'
  have hparts : (parts.map fun (x : Nat × Operand) => (x.1, ρ x.2)).toList = ps := by rw [Array.toList_map]; exact partsV_eq hρ _ _ hp
  have hfill := fill_eq _ ps z.cells cs hf
  rw [← hparts] at hfill
  have hall : ∀ f ∈ farr.toList, ∃ i, T.ti f.type = some i := by
    intro f hfm
    have h1 : (f.offset, f.type) ∈ fs := by rw [← hff]; exact List.mem_map.2 ⟨f, hfm, rfl⟩
    have h2 := List.all_eq_true.1 hfs _ h1
    exact Option.isSome_iff_exists.1 h2
  have hm := run_mapM_fields (P := P) w farr.toList hall
  have hplaces : (fun j => nth (fs.map fun f => (f.1, ((T.ti f.2).map (·.size)).getD 0)) j) = fun j => (farr.toList.map fun f => (f.offset, ((T.ti f.type).map (·.size)).getD 0))[j]? := by
    funext j
    rw [nth_eq, ← hff, List.map_map]
    rfl
  rw [hplaces] at hfill
  have hm' : (farr.mapM (fun f => (do Pure.pure (f.offset, ← sizeOf f.type) : Sem (Nat × Nat)))).run P w = .ok (farr.toList.map fun f => (f.offset, ((T.ti f.type).map (·.size)).getD 0)).toArray w := by
    rw [Array.mapM_eq_mapM_toList, Sem.run_map, hm]
    rfl
  have hfill2 : Instr.fill (fun x => ((farr.toList.map fun f => (f.offset, ((T.ti f.type).map (·.size)).getD 0)).toArray)[x]?) z.cells (parts.map fun (x : Nat × Operand) => (x.1, ρ x.2)).toList = some cs.toArray := by
    rw [← hfill]; congr 1; funext j; simp
  simp only [execOp, Instr.build, Sem.run_bind, run_underlying hu, Result.andThen_ok, hzv, Sem.run_map, hm']
  simp only [hfill2, Sem.run_pure, Result.andThen_ok]
end
end Go.W
