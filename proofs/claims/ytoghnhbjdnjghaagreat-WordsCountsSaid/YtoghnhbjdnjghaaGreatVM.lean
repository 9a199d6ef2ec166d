/- Maps whose keys are pairs of strings: look, put, delete, range. -/
import Derived.Test.YtoghnhbjdnjghaaGreatVC
import Derived.WideKeyRuns
import Derived.Maps.RangeRun
set_option linter.unusedSectionVars false
namespace Go.W
open Go.RowKit Go.ChangeMaps
def rv (r : Rp) : Value := .agg #[st r.1, st r.2]
theorem rv_inj {a b : Rp} (h : rv a = rv b) : a = b := by
  unfold rv at h
  simp only [Value.agg.injEq, Array.mk.injEq, List.cons.injEq, and_true] at h
  exact Prod.ext (st_inj h.1) (st_inj h.2)
/-- A type of two strings. -/
structure RTy (P : Program) (t E : TypeId) : Prop where
  ex : ∃ f1 f2 : Field, P.underlying t = some (.struct #[f1, f2]) ∧ f1.type = E ∧ f2.type = E ∧ f1.name ≠ "_" ∧ f2.name ≠ "_" ∧ f1.offset = 0 ∧ f2.offset = 1
  str : P.underlying E = some .string
  held : P.stoodInHeld t = false
/-- A map as a set: all its keys have a property. -/
structure KM (Q : Rp → Prop) (es : Array MapEntry) (clock : Nat) : Prop where
  all : ∀ e ∈ es.toList, e.born < clock ∧ ∃ r, e.key = rv r ∧ e.val = .bool true ∧ Q r
  borns : (es.toList.map (·.born)).Nodup
  keys : (es.toList.map (·.key)).Nodup
theorem KM.none (Q : Rp → Prop) (c : Nat) : KM Q #[] c := ⟨fun e he => (by cases he), List.nodup_nil, List.nodup_nil⟩
theorem KM.mono {Q Q' : Rp → Prop} {es : Array MapEntry} {c : Nat} (h : KM Q es c) (hq : ∀ e ∈ es.toList, ∀ r, e.key = rv r → Q r → Q' r) : KM Q' es c :=
  ⟨fun e he => by obtain ⟨h1, r, h2, h3, h4⟩ := h.all e he; exact ⟨h1, r, h2, h3, hq e he r h2 h4⟩, h.borns, h.keys⟩
theorem filter_size (p : MapEntry → Bool) (xs : Array MapEntry) : (xs.filter p).size = (xs.toList.filter p).length := by rw [← Array.toList_filter, Array.length_toList]
section
variable {P : Program} [T : TT P] {kt E : TypeId} {e : Env} {ty : TypeId}
theorem check_rv (hR : RTy P kt E) (b : Bool) (m : Nat) (r : Rp) (w : World) : (Instr.checkKey b (m + 2) kt (rv r)).run P w = .ok () w := by
  obtain ⟨f1, f2, hu, h1, h2, n1, n2, o1, o2⟩ := hR.ex
  have hE := hR.str
  have hag : (isAgg E).run P w = .ok false w := by simp [isAgg, run_underlying hE]
  have hq : ∀ x : Str, (Instr.checkKey b (m + 1) E (st x)).run P w = .ok () w := fun x => by simp [Instr.checkKey, run_underlying hE, st]
  rw [rv, Instr.checkKey]
  simp only [Sem.run_bind, run_underlying hu, Result.andThen_ok]
  simp [part, h1, h2, n1, n2, o1, o2, hag, hq]
theorem equal_rv (hR : RTy P kt E) (a b : Rp) (w : World) : (Op.equal kt (rv a) (rv b)).run P w = .ok (decide (a = b)) w := by
  obtain ⟨f1, f2, hu, h1, h2, n1, n2, o1, o2⟩ := hR.ex
  have h := run_eqR (w := w) hu hR.str h1 h2 n1 n2 o1 o2 hR.held a.1 a.2 b.1 b.2 9998
  have e1 : (decide (a.1 = b.1) && decide (a.2 = b.2)) = decide (a = b) := by
    rw [Bool.eq_iff_iff]
    simp [Prod.ext_iff]
  rw [← e1]
  exact h
theorem find_rv (hR : RTy P kt E) (r : Rp) : ∀ (es : List MapEntry) (i : Nat), (∀ e ∈ es, ∃ q, e.key = rv q ∧ e.val = .bool true) →
    ((∀ w, (Instr.findAsking kt (rv r) es i).run P w = .ok none w) ∧ ∀ e ∈ es, e.key ≠ rv r) ∨ ∃ j e, es[j]? = some e ∧ e.key = rv r ∧ ∀ w, (Instr.findAsking kt (rv r) es i).run P w = .ok (some (i + j, .bool true)) w := by
  intro es
  induction es with
  | nil => intro i _; exact .inl ⟨fun w => rfl, fun e he => (by cases he)⟩
  | cons x es ih =>
    intro i h
    obtain ⟨q, hk, hv⟩ := h x (by simp)
    by_cases hq : r = q
    · subst hq
      refine .inr ⟨0, x, rfl, hk, fun w => ?_⟩
      have := equal_rv hR r r w
      simp only [Instr.findAsking, Sem.run_bind, hk, this, Result.andThen_ok, decide_true, if_true, hv]
      rfl
    · have e2 : ∀ w, (Instr.findAsking kt (rv r) (x :: es) i).run P w = (Instr.findAsking kt (rv r) es (i + 1)).run P w := by
        intro w
        have := equal_rv hR r q w
        rw [decide_eq_false hq] at this
        simp only [Instr.findAsking, Sem.run_bind, hk, this, Result.andThen_ok, Bool.false_eq_true, if_false]
      rcases ih (i + 1) (fun y hy => h y (by simp [hy])) with ⟨h1, h2⟩ | ⟨j, y, h1, h2, h3⟩
      · refine .inl ⟨fun w => by rw [e2, h1], ?_⟩
        intro e he
        rcases List.mem_cons.1 he with he | he
        · rw [he, hk]
          exact fun h => hq (rv_inj h).symm
        · exact h2 e he
      · exact .inr ⟨j + 1, y, by simpa using h1, h2, fun w => by rw [e2, h3]; congr 3; omega⟩
theorem findK {Q : Rp → Prop} {es : Array MapEntry} {c : Nat} (hR : RTy P kt E) (r : Rp) (h : KM Q es c) :
    ((∀ w, (Instr.findKey kt (rv r) es.toList).run P w = .ok none w) ∧ ∀ e ∈ es.toList, e.key ≠ rv r) ∨ ∃ j e, es[j]? = some e ∧ e.key = rv r ∧ ∀ w, (Instr.findKey kt (rv r) es.toList).run P w = .ok (some (j, .bool true)) w := by
  obtain ⟨f1, f2, hu, _⟩ := hR.ex
  have e1 : ∀ w, (Instr.findKey kt (rv r) es.toList).run P w = (Instr.findAsking kt (rv r) es.toList).run P w := fun w => run_findKey_eq w (by rw [hu]) (rv r) es.toList
  rcases find_rv hR r es.toList 0 (fun e he => by obtain ⟨_, q, h2, h3, _⟩ := h.all e he; exact ⟨q, h2, h3⟩) with ⟨h1, h2⟩ | ⟨j, e, h1, h2, h3⟩
  · exact .inl ⟨fun w => by rw [e1]; exact h1 w, h2⟩
  · exact .inr ⟨j, e, by simpa using h1, h2, fun w => by rw [e1, h3 w, Nat.zero_add]⟩
theorem yLook {t vt : TypeId} {b : Nat} {z : Value} {s0 b0 c : Nat} {iv : TI} {Q : Rp → Prop} {es : Array MapEntry} (r : Rp) (hR : RTy P kt E) (ht : T.ti t = some ⟨.map kt vt, z, s0, b0⟩) (hv : T.ti vt = some iv) (hz : iv.zero = .bool false)
    (h : KM Q es c) : ∃ q : Bool, (q = true → Q r) ∧ ∀ (e : Env) (ty : TypeId) (x ix : Operand) (w : World), opv e x = some (.map (some b)) → opv e ix = some (rv r) → w.heap[b]? = some (.map es c) → Yv P e (.lookup t x ix false) ty w (.bool q) w := by
  have hu : P.underlying t = some (.map kt vt) := (T.ok t _ ht).k
  have hobj : ∀ w : World, w.heap[b]? = some (.map es c) → (getObj b).run P w = .ok (.map es c) w := fun w hb => by simp [getObj, Sem.run, hb]
  rcases findK hR r h with ⟨h1, h2⟩ | ⟨j, y, h1, h2, h3⟩
  · refine ⟨false, fun h => (by cases h), fun e ty x ix w hx hix hb => ?_⟩
    have hzv := (T.ok vt iv hv).zeroValue w
    have hc := check_rv hR es.isEmpty 9998 r w
    intro ρ hρ d' pos' aft' g'
    simp [execOp, hρ _ _ hx, hρ _ _ hix, Instr.lookup, run_underlying hu, hobj w hb, hc, h1 w, hzv, hz]
  · refine ⟨true, fun _ => ?_, fun e ty x ix w hx hix hb => ?_⟩
    · have hy : y ∈ es.toList := by rw [List.mem_iff_getElem?]; exact ⟨j, by simpa using h1⟩
      obtain ⟨_, q, k1, _, k2⟩ := h.all y hy
      rw [h2] at k1
      rw [rv_inj k1]
      exact k2
    · have hc := check_rv hR es.isEmpty 9998 r w
      intro ρ hρ d' pos' aft' g'
      simp [execOp, hρ _ _ hx, hρ _ _ hix, Instr.lookup, run_underlying hu, hobj w hb, hc, h3 w]
theorem yMapUp {t vt : TypeId} {b : Nat} {z : Value} {s0 b0 c : Nat} {m k x : Operand} {Q : Rp → Prop} {es : Array MapEntry} {r : Rp} {w : World} (hR : RTy P kt E) (ht : T.ti t = some ⟨.map kt vt, z, s0, b0⟩)
    (hm : opv e m = some (.map (some b))) (hk : opv e k = some (rv r)) (hx : opv e x = some (.bool true)) (hb : w.heap[b]? = some (.map es c)) (h : KM Q es c) (hr : Q r) :
    ∃ es' c', KM Q es' c' ∧ Ys P e (.mapUpdate t m k x) ty w (w.putObj b (.map es' c')) := by
  have hu : P.underlying t = some (.map kt vt) := (T.ok t _ ht).k
  have hobj : (getObj b).run P w = .ok (.map es c) w := by simp [getObj, Sem.run, hb]
  have hset : ∀ o, (setObj b o).run P w = .ok () (w.putObj b o) := fun o => by simp [setObj, Sem.run, hb, World.putObj]
  have hc := check_rv hR false 9998 r w
  rcases findK hR r h with ⟨h1, h2⟩ | ⟨j, y, h1, h2, h3⟩
  · refine ⟨es.push { key := rv r, val := .bool true, born := c }, c + 1, ⟨?_, ?_, ?_⟩, ?_⟩
    · intro a ha
      simp only [Array.toList_push, List.mem_append, List.mem_singleton] at ha
      rcases ha with ha | ha
      · obtain ⟨k1, k2⟩ := h.all a ha
        exact ⟨Nat.lt_succ_of_lt k1, k2⟩
      · subst ha
        exact ⟨Nat.lt_succ_self _, r, rfl, rfl, hr⟩
    · rw [Array.toList_push, List.map_append, List.nodup_append]
      refine ⟨h.borns, by simp, ?_⟩
      intro a ha b' hb'
      obtain ⟨y, hy, rfl⟩ := List.mem_map.1 ha
      simp only [List.map_cons, List.map_nil, List.mem_singleton] at hb'
      have := (h.all y hy).1
      omega
    · rw [Array.toList_push, List.map_append, List.nodup_append]
      refine ⟨h.keys, by simp, ?_⟩
      intro a ha b' hb'
      obtain ⟨y, hy, rfl⟩ := List.mem_map.1 ha
      simp only [List.map_cons, List.map_nil, List.mem_singleton] at hb'
      rw [hb']
      exact h2 y hy
    · intro ρ hρ d' pos' aft' g'
      simp [execOp, hρ _ _ hm, hρ _ _ hk, hρ _ _ hx, Instr.mapUpdate, run_underlying hu, hobj, hc, h1 w, hset]
  · have hsame : ∀ a ∈ es.toList, a.key = rv r → a.val = .bool true := by
      intro a ha _
      obtain ⟨_, q, _, k2, _⟩ := h.all a ha
      exact k2
    have hmod : (es.modify j fun e => { e with key := rv r, val := .bool true }) = es := by
      obtain ⟨hjl, hjy⟩ := Array.getElem?_eq_some_iff.1 h1
      apply Array.ext
      · simp
      · intro q q1 q2
        rw [Array.getElem_modify]
        split
        · rename_i hq
          subst hq
          rw [hjy]
          have hv := hsame y (by rw [List.mem_iff_getElem?]; exact ⟨j, by simpa using h1⟩) h2
          rw [← h2, ← hv]
        · rfl
    refine ⟨es, c, h, ?_⟩
    intro ρ hρ d' pos' aft' g'
    have hst : Instr.sameBits 10000 (rv r) (rv r) = true := by simp [rv, st, Instr.sameBits, sb_beq]
    simp [execOp, hρ _ _ hm, hρ _ _ hk, hρ _ _ hx, Instr.mapUpdate, run_underlying hu, hobj, hc, h3 w, hset, h1, h2, Instr.keyThatStays, hst, hmod]
theorem yDel {t vt : TypeId} {b : Nat} {z : Value} {s0 b0 c : Nat} {m k : Operand} {Q : Rp → Prop} {es : Array MapEntry} {r : Rp} {w : World} (hR : RTy P kt E) (ht : T.ti t = some ⟨.map kt vt, z, s0, b0⟩)
    (hm : opv e m = some (.map (some b))) (hk : opv e k = some (rv r)) (hb : w.heap[b]? = some (.map es c)) (h : KM Q es c) :
    ∃ es', KM Q es' c ∧ (∀ a ∈ es'.toList, a ∈ es.toList ∧ a.key ≠ rv r) ∧ (∀ p : MapEntry → Bool, (es'.filter p).size ≤ (es.filter p).size) ∧ Yv P e (.call ⟨.builtin .delete, #[m, k], #[t, kt]⟩) ty w (.tuple #[]) (w.putObj b (.map es' c)) := by
  have hu : P.underlying t = some (.map kt vt) := (T.ok t _ ht).k
  have hobj : (getObj b).run P w = .ok (.map es c) w := by simp [getObj, Sem.run, hb]
  have hset : ∀ o, (setObj b o).run P w = .ok () (w.putObj b o) := fun o => by simp [setObj, Sem.run, hb, World.putObj]
  have hc := check_rv hR es.isEmpty 9998 r w
  rcases findK hR r h with ⟨h1, h2⟩ | ⟨j, y, h1, h2, h3⟩
  · refine ⟨es, h, fun a ha => ⟨ha, h2 a ha⟩, fun p => Nat.le_refl _, ?_⟩
    intro ρ hρ d' pos' aft' g'
    simp [execOp, resolve, invoke, builtin, hρ _ _ hm, hρ _ _ hk, Builtin.delete_, run_underlying hu, hobj, hc, h1 w, hset]
  · obtain ⟨hjl, hjy⟩ := Array.getElem?_eq_some_iff.1 h1
    have hl : (es.eraseIdxIfInBounds j).toList = es.toList.eraseIdx j := by simp [Array.eraseIdxIfInBounds, hjl]
    have hsub : ∀ a ∈ (es.eraseIdxIfInBounds j).toList, a ∈ es.toList := fun a ha => by rw [hl] at ha; exact List.mem_of_mem_eraseIdx ha
    refine ⟨es.eraseIdxIfInBounds j, ⟨fun a ha => h.all a (hsub a ha), ?_, ?_⟩, fun a ha => ⟨hsub a ha, ?_⟩, fun p => ?_, ?_⟩
    · rw [hl]
      exact h.borns.sublist ((List.eraseIdx_sublist _ _).map _)
    · rw [hl]
      exact h.keys.sublist ((List.eraseIdx_sublist _ _).map _)
    · rw [hl] at ha
      obtain ⟨i, hi, hia⟩ := List.mem_eraseIdx_iff_getElem?.1 ha
      intro hka
      have hn := List.pairwise_iff_getElem.1 (List.nodup_iff_pairwise_ne.1 h.keys)
      have e1 : (es.toList.map (·.key))[i]? = some (rv r) := by rw [List.getElem?_map, hia]; simp [hka]
      have e2 : (es.toList.map (·.key))[j]? = some (rv r) := by rw [List.getElem?_map, Array.getElem?_toList, h1]; simp [h2]
      obtain ⟨i1, e1⟩ := List.getElem?_eq_some_iff.1 e1
      obtain ⟨j1, e2⟩ := List.getElem?_eq_some_iff.1 e2
      rcases Nat.lt_or_gt_of_ne hi with hlt | hlt
      · exact hn i j i1 j1 hlt (by rw [e1, e2])
      · exact hn j i j1 i1 hlt (by rw [e1, e2])
    · rw [filter_size, filter_size, hl]
      exact ((List.eraseIdx_sublist es.toList j).filter p).length_le
    · intro ρ hρ d' pos' aft' g'
      simp [execOp, resolve, invoke, builtin, hρ _ _ hm, hρ _ _ hk, Builtin.delete_, run_underlying hu, hobj, hc, h3 w, hset]
end
end Go.W
namespace Go.W
open Go.RowKit Go.ChangeMaps
theorem Hp.bring {w0 w : World} {L : List Ent} (h : Hp w0 w L) (k : Nat) {x : Ent} (hk : nth L k = some x) : Hp w0 w (x :: L.eraseIdx k) := by
  rw [nth_eq] at hk
  obtain ⟨hlt, hx⟩ := List.getElem?_eq_some_iff.1 hk
  refine ⟨h.below, ?_, List.pairwise_cons.2 ⟨?_, h.dist.sublist (List.eraseIdx_sublist _ _)⟩⟩
  · intro y hy
    rcases List.mem_cons.1 hy with hy | hy
    · subst hy
      exact h.sat _ (List.mem_of_getElem? hk)
    · exact h.sat _ (List.mem_of_mem_eraseIdx hy)
  · intro y hy
    obtain ⟨i, hi, hiy⟩ := List.mem_eraseIdx_iff_getElem?.1 hy
    exact apart_at h.dist (fun e => hi e.symm) hk hiy
theorem setB_block {w w1 : World} {b : Nat} {o o' : Obj} (h1 : w1 = w ∨ w1 = w.drew) (h : w.heap[b]? = some o) : SetB w b o' (setBlock w1 b o') := by
  have hlt := (Array.getElem?_eq_some_iff.1 h).1
  rcases h1 with rfl | rfl
  · exact setB_put h
  · have hs := setB_put (w := w.drew) (o' := o') (b := b) (o := o) h
    exact ⟨hs.at_, ⟨hs.grown.os, hs.grown.tape, hs.grown.output, hs.grown.size, fun k hk hne => hs.grown.block k hk hne⟩⟩
section
variable {P : Program} [T : TT P] {ro : Option Nat} {n : Nat} {l0 rest : List Oper} {N : Nor} {Z : Pan} {e : Env} {w : World} {ty : TypeId} {pos : String} {aft : Array Edge} {g : Option (Nat × Bool)}
theorem WL.rangeM {d b : Nat} {t kt vt : TypeId} {z : Value} {s0 b0 c : Nat} {x : Operand} {es : Array MapEntry} (hg : grd l0 e g = some true) (hd : Nat.blt d n = true) (ht : T.ti t = some ⟨.map kt vt, z, s0, b0⟩)
    (hx : opv e x = some (.map (some b))) (hb : w.heap[b]? = some (.map es c)) (h : ∀ ib w', NewB w ib (.mapIter (some b) c #[] c) w' → WL P ro n l0 N Z rest ((d, .pointer (some ⟨ib, 0, none⟩)) :: e) w') :
    WL P ro n l0 N Z (⟨some d, .range t x, ty, pos, aft, g⟩ :: rest) e w := by
  have hu : P.underlying t = some (.map kt vt) := (T.ok t _ ht).k
  refine WL.val hg rfl hd ?_ (h _ _ (newB w _))
  intro ρ hρ d' pos' aft' g'
  have := run_range_map (P := P) w t kt vt b es c hu hb
  simp [execOp, hρ _ _ hx, this]
theorem WL.nextM {d ib mb : Nat} {c : Nat} {x : Operand} {es : Array MapEntry} {seen : Array Nat} (hg : grd l0 e g = some true) (hd : Nat.blt d n = true)
    (hx : opv e x = some (.pointer (some ⟨ib, 0, none⟩))) (hr : w.heap[ib]? = some (.mapIter (some mb) c seen c)) (hb : w.heap[mb]? = some (.map es c)) (hold : ∀ x ∈ es.toList, x.born < c)
    (h0 : (leftOf es seen).size = 0 → WL P ro n l0 N Z rest ((d, .tuple #[.bool false]) :: e) w)
    (h1 : ∀ a ∈ (leftOf es seen).toList, ∀ w', SetB w ib (.mapIter (some mb) c (seen.push a.born) c) w' → WL P ro n l0 N Z rest ((d, .tuple #[.bool true, a.key, a.val]) :: e) w') :
    WL P ro n l0 N Z (⟨some d, .next x false, ty, pos, aft, g⟩ :: rest) e w := by
  rcases run_next_at (P := P) w ty ib mb c c seen es c hr hb hold (Nat.le_refl _) with ⟨k1, k2⟩ | ⟨a, ha, w1, hw1, k2⟩
  · refine WL.val hg rfl hd ?_ (h0 k1)
    intro ρ hρ d' pos' aft' g'
    simp [execOp, hρ _ _ hx, k2]
  · refine WL.val hg rfl hd ?_ (h1 a ha _ (setB_block hw1 hr))
    intro ρ hρ d' pos' aft' g'
    simp [execOp, hρ _ _ hx, k2]
theorem WL.entryM {d ib mb : Nat} {c : Nat} {x : Operand} {es : Array MapEntry} {seen : Array Nat} {a : MapEntry} (hg : grd l0 e g = some true) (hd : Nat.blt d n = true)
    (hx : opv e x = some (.pointer (some ⟨ib, 0, none⟩))) (hr : w.heap[ib]? = some (.mapIter (some mb) c (seen.push a.born) c)) (hb : w.heap[mb]? = some (.map es c)) (ha : a ∈ es.toList) (hn : (es.toList.map (·.born)).Nodup)
    (h : WL P ro n l0 N Z rest ((d, .tuple #[a.key, a.val]) :: e) w) :
    WL P ro n l0 N Z (⟨some d, .entry x, ty, pos, aft, g⟩ :: rest) e w := by
  have k := run_entry_at (P := P) w ib mb c seen es c a hr hb ha hn
  refine WL.val hg rfl hd ?_ h
  intro ρ hρ d' pos' aft' g'
  simp [execOp, hρ _ _ hx, k]
theorem WL.delM {kt E t vt : TypeId} {b : Nat} {z : Value} {s0 b0 c : Nat} {m k : Operand} {Q : Rp → Prop} {es : Array MapEntry} (r : Rp) (hg : grd l0 e g = some true) (hR : RTy P kt E) (ht : T.ti t = some ⟨.map kt vt, z, s0, b0⟩)
    (hm : opv e m = some (.map (some b))) (hk : opv e k = some (rv r)) (hb : w.heap[b]? = some (.map es c)) (h : KM Q es c)
    (hn : ∀ es2 w', KM Q es2 c → (∀ a ∈ es2.toList, a ∈ es.toList ∧ a.key ≠ rv r) → (∀ p : MapEntry → Bool, (es2.filter p).size ≤ (es.filter p).size) → SetB w b (.map es2 c) w' → WL P ro n l0 N Z rest e w') :
    WL P ro n l0 N Z (⟨none, .call ⟨.builtin .delete, #[m, k], #[t, kt]⟩, ty, pos, aft, g⟩ :: rest) e w := by
  obtain ⟨es2, k1, k2, k3, k4⟩ := yDel (e := e) (ty := ty) hR ht hm hk hb h
  exact WL.val0 hg rfl k4 (hn es2 _ k1 k2 k3 (setB_put hb))
theorem WL.mapUpM {kt E t vt : TypeId} {b : Nat} {z : Value} {s0 b0 c : Nat} {m k x : Operand} {Q : Rp → Prop} {es : Array MapEntry} (r : Rp) (hg : grd l0 e g = some true) (hR : RTy P kt E) (ht : T.ti t = some ⟨.map kt vt, z, s0, b0⟩)
    (hm : opv e m = some (.map (some b))) (hk : opv e k = some (rv r)) (hx : opv e x = some (.bool true)) (hb : w.heap[b]? = some (.map es c)) (h : KM Q es c) (hr : Q r)
    (hn : ∀ es' c' w', KM Q es' c' → SetB w b (.map es' c') w' → WL P ro n l0 N Z rest e w') :
    WL P ro n l0 N Z (⟨none, .mapUpdate t m k x, ty, pos, aft, g⟩ :: rest) e w := by
  obtain ⟨es', c', k1, k2⟩ := yMapUp (e := e) (ty := ty) hR ht hm hk hx hb h hr
  exact WL.skip hg rfl k2 (hn es' c' _ k1 (setB_put hb))
end
end Go.W
namespace Go.Proofs.YtoghnhbjdnjghaaGreat
open Go.W
theorem rty : RTy Tryz.prog 56 9 := ⟨⟨_, _, Tryz.underlying56, rfl, rfl, by decide, by decide, rfl, rfl⟩, Tryz.underlying9, by kernel_rfl⟩
end Go.Proofs.YtoghnhbjdnjghaaGreat
