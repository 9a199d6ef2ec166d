/- W, sixth part: maps with numbers for keys, whose values hang on the key alone. -/
import Derived.Test.YtdnkkflpgebfbaaDoorW5
set_option linter.unusedVariables false
set_option linter.unusedSectionVars false
namespace Go.W
open Go.RowKit

def MapOK (V : Nat → Value) (es : Array MapEntry) : Prop := ∀ x ∈ es.toList, ∃ S : Nat, x.key = .int .i64 S ∧ x.val = V S

def Has (es : Array MapEntry) (S : Nat) : Prop := ∃ x ∈ es.toList, x.key = .int .i64 S
theorem findNow_ok {V : Nat → Value} (S : Nat) : ∀ (es : List MapEntry) (i : Nat), (∀ x ∈ es, ∃ S : Nat, x.key = .int .i64 S ∧ x.val = V S) →
    (Instr.findNow (.int .i64) (.int .i64 S) es i = some none ∧ ¬ ∃ x ∈ es, x.key = .int .i64 S) ∨ ∃ j x, es[j]? = some x ∧ x.key = .int .i64 S ∧ Instr.findNow (.int .i64) (.int .i64 S) es i = some (some (i + j, V S)) := by
  intro es
  induction es with
  | nil => intro i _; exact .inl ⟨rfl, fun ⟨x, hx, _⟩ => by cases hx⟩
  | cons x es ih =>
    intro i h
    obtain ⟨S', hk, hv⟩ := h x (by simp)
    by_cases hS : S = S'
    · subst hS
      refine .inr ⟨0, x, rfl, hk, ?_⟩
      simp [Instr.findNow, hk, Instr.sameNow, hv]
    · have e1 : ((S : Int) == (S' : Int)) = false := by simp; omega
      have e2 : Instr.findNow (.int .i64) (.int .i64 S) (x :: es) i = Instr.findNow (.int .i64) (.int .i64 S) es (i + 1) := by
        simp [Instr.findNow, hk, Instr.sameNow, e1]
      rw [e2]
      rcases ih (i + 1) (fun y hy => h y (by simp [hy])) with ⟨h1, h2⟩ | ⟨j, y, h1, h2, h3⟩
      · refine .inl ⟨h1, ?_⟩
        rintro ⟨y, hy, hyk⟩
        rcases List.mem_cons.1 hy with hy | hy
        · rw [hy, hk] at hyk
          simp only [Value.int.injEq, true_and] at hyk
          omega
        · exact h2 ⟨y, hy, hyk⟩
      · exact .inr ⟨j + 1, y, by simpa using h1, h2, by rw [h3]; congr 3; omega⟩

section
variable {P : Program} [T : TT P] {ro : Option Nat} {n : Nat} {l0 rest : List Oper} {N R : Nor} {X : Ext} {Z : Pan} {e : Env} {w : World} {ty : TypeId} {pos : String} {aft : Array Edge} {g : Option (Nat × Bool)}

theorem checkKey_int {kt : TypeId} {i : TI} (hk : T.ti kt = some i) (hi : i.k = .int .i64) (b : Bool) (m : Nat) (S : Nat) : (Instr.checkKey b (m + 1) kt (.int .i64 S)).run P w = .ok () w := by
  have hu := (T.ok kt i hk).k
  rw [hi] at hu
  simp only [kOk] at hu
  simp [Instr.checkKey, run_underlying hu]

theorem findKey_run {kt : TypeId} {i : TI} (hk : T.ti kt = some i) (hi : i.k = .int .i64) {V : Nat → Value} (S : Nat) (es : Array MapEntry) (h : MapOK V es) :
    ((Instr.findKey kt (.int .i64 S) es.toList).run P w = .ok none w ∧ ¬ Has es S) ∨ ∃ j x, es[j]? = some x ∧ x.key = .int .i64 S ∧ (Instr.findKey kt (.int .i64 S) es.toList).run P w = .ok (some (j, V S)) w := by
  have hu := (T.ok kt i hk).k
  rw [hi] at hu
  simp only [kOk] at hu
  rcases findNow_ok S es.toList 0 h with ⟨h1, h2⟩ | ⟨j, x, h1, h2, h3⟩
  · left
    exact ⟨by simp [Instr.findKey, run_underlying hu, h1], h2⟩
  · right
    refine ⟨j, x, by simpa using h1, h2, ?_⟩
    rw [Nat.zero_add] at h3
    simp [Instr.findKey, run_underlying hu, h3]

theorem WL.lookup {d b : Nat} {t kt vt : TypeId} {i iv : TI} {z : Value} {s0 b0 S clock : Nat} {x ix : Operand} {V : Nat → Value} {es : Array MapEntry}
    (hg : grd l0 e g = some true) (hd : Nat.blt d n = true) (ht : T.ti t = some ⟨.map kt vt, z, s0, b0⟩) (hk : T.ti kt = some i) (hi : i.k = .int .i64) (hv : T.ti vt = some iv)
    (hx : opv e x = some (.map (some b))) (hix : opv e ix = some (.int .i64 S)) (hb : w.heap[b]? = some (.map es clock)) (hes : MapOK V es)
    (h1 : WL P ro n l0 N Z rest ((d, .tuple #[V S, .bool true]) :: e) w) (h2 : ¬ Has es S → WL P ro n l0 N Z rest ((d, .tuple #[iv.zero, .bool false]) :: e) w) :
    WL P ro n l0 N Z (⟨some d, .lookup t x ix true, ty, pos, aft, g⟩ :: rest) e w := by
  have hu : P.underlying t = some (.map kt vt) := (T.ok t _ ht).k
  have hz := (T.ok vt iv hv).zeroValue w
  have hc := checkKey_int (w := w) hk hi es.isEmpty 9999 S
  have hobj : (getObj b).run P w = .ok (.map es clock) w := by simp [getObj, Sem.run, hb]
  rcases findKey_run (w := w) hk hi S es hes with ⟨hf, hno⟩ | ⟨j, y, _, _, hf⟩
  · refine WL.val hg rfl hd ?_ (h2 hno)
    intro ρ hρ d' pos' aft' g'
    simp [execOp, hρ _ _ hx, hρ _ _ hix, Instr.lookup, run_underlying hu, hobj, hc, hf, hz]
  · refine WL.val hg rfl hd ?_ h1
    intro ρ hρ d' pos' aft' g'
    simp [execOp, hρ _ _ hx, hρ _ _ hix, Instr.lookup, run_underlying hu, hobj, hc, hf]

theorem run_update {b : Nat} {t kt vt : TypeId} {i : TI} {z : Value} {s0 b0 S clock : Nat} {V : Nat → Value} {es : Array MapEntry}
    (ht : T.ti t = some ⟨.map kt vt, z, s0, b0⟩) (hk : T.ti kt = some i) (hi : i.k = .int .i64) (hb : w.heap[b]? = some (.map es clock)) (hes : MapOK V es) :
    ∃ es' clock', (Instr.mapUpdate t (.map (some b)) (.int .i64 S) (V S)).run P w = .ok () (w.putObj b (.map es' clock')) ∧ MapOK V es' ∧ Has es' S ∧ ∀ S', Has es S' → Has es' S' := by
  have hu : P.underlying t = some (.map kt vt) := (T.ok t _ ht).k
  have hc := checkKey_int (w := w) hk hi false 9999 S
  have hobj : (getObj b).run P w = .ok (.map es clock) w := by simp [getObj, Sem.run, hb]
  have hset : ∀ o, (setObj b o).run P w = .ok () (w.putObj b o) := fun o => by simp [setObj, Sem.run, hb, World.putObj]
  rcases findKey_run (w := w) hk hi S es hes with ⟨hf, _⟩ | ⟨j, y, hj, hy, hf⟩
  · refine ⟨es.push { key := .int .i64 S, val := V S, born := clock }, clock + 1, ?_, ?_, ⟨{ key := .int .i64 S, val := V S, born := clock }, by simp, rfl⟩, fun S' ⟨x, hx, hk⟩ => ⟨x, by simp [hx], hk⟩⟩
    · simp [Instr.mapUpdate, run_underlying hu, hobj, hc, hf, hset]
    · intro x hx
      simp only [Array.toList_push, List.mem_append, List.mem_singleton] at hx
      rcases hx with hx | hx
      · exact hes x hx
      · exact ⟨S, by rw [hx], by rw [hx]⟩
  · refine ⟨es.modify j fun e => { e with key := .int .i64 S, val := V S }, clock, ?_, ?_, ?_, ?_⟩
    · simp [Instr.mapUpdate, run_underlying hu, hobj, hc, hf, hset, hj, hy, Instr.keyThatStays, Instr.sameBits]
    · intro x hx
      obtain ⟨q, hq, rfl⟩ := List.mem_iff_getElem.1 hx
      simp only [Array.getElem_toList, Array.getElem_modify]
      split
      · exact ⟨S, rfl, rfl⟩
      · exact hes _ (by simp)
    · obtain ⟨hjl, hjy⟩ := Array.getElem?_eq_some_iff.1 hj
      refine ⟨{ y with key := .int .i64 S, val := V S }, ?_, rfl⟩
      rw [List.mem_iff_getElem]
      refine ⟨j, by simpa using hjl, ?_⟩
      simp [Array.getElem_modify, hjy]
    · rintro S' ⟨x, hx, hk⟩
      obtain ⟨q, hq, rfl⟩ := List.mem_iff_getElem.1 hx
      by_cases hqj : q = j
      · subst hqj
        obtain ⟨hjl, hjy⟩ := Array.getElem?_eq_some_iff.1 hj
        have hkk : es[q].key = .int .i64 S' := by simpa using hk
        rw [hjy, hy] at hkk
        refine ⟨{ y with key := .int .i64 S, val := V S }, ?_, hkk⟩
        rw [List.mem_iff_getElem]
        refine ⟨q, by simpa using hjl, ?_⟩
        simp [Array.getElem_modify, hjy]
      · have hql : q < es.size := by simpa using hq
        refine ⟨es[q], ?_, by simpa using hk⟩
        rw [List.mem_iff_getElem]
        refine ⟨q, by simpa using hql, ?_⟩
        have : ¬ j = q := fun h => hqj h.symm
        simp [Array.getElem_modify, this]

theorem WL.mapSet {b : Nat} {t kt vt : TypeId} {i : TI} {z v : Value} {s0 b0 S clock : Nat} {m k x : Operand} {V : Nat → Value} {es : Array MapEntry}
    (hg : grd l0 e g = some true) (ht : T.ti t = some ⟨.map kt vt, z, s0, b0⟩) (hk : T.ti kt = some i) (hi : i.k = .int .i64)
    (hm : opv e m = some (.map (some b))) (hkk : opv e k = some (.int .i64 S)) (hx : opv e x = some v) (hv : v = V S) (hb : w.heap[b]? = some (.map es clock)) (hes : MapOK V es)
    (h : ∀ es' clock' w', MapOK V es' → Has es' S → (∀ S', Has es S' → Has es' S') → SetB w b (.map es' clock') w' → WL P ro n l0 N Z rest e w') :
    WL P ro n l0 N Z (⟨none, .mapUpdate t m k x, ty, pos, aft, g⟩ :: rest) e w := by
  subst hv
  obtain ⟨es', c', hr, hok, hh1, hh2⟩ := run_update (P := P) (S := S) ht hk hi hb hes
  refine WL.skip hg rfl ?_ (h es' c' _ hok hh1 hh2 (setB_put hb))
  intro ρ hρ d' pos' aft' g'
  simp [execOp, hρ _ _ hm, hρ _ _ hkk, hρ _ _ hx, hr]
theorem WL.mapIns {b : Nat} {t kt vt : TypeId} {i : TI} {z v : Value} {s0 b0 S clock : Nat} {m k x : Operand} {V : Nat → Value} {es : Array MapEntry}
    (hg : grd l0 e g = some true) (ht : T.ti t = some ⟨.map kt vt, z, s0, b0⟩) (hk : T.ti kt = some i) (hi : i.k = .int .i64)
    (hm : opv e m = some (.map (some b))) (hkk : opv e k = some (.int .i64 S)) (hx : opv e x = some v) (hv : v = V S) (hb : w.heap[b]? = some (.map es clock)) (hes : MapOK V es)
    (h : ∀ es' clock' w', MapOK V es' → Has es' S → (∀ S', Has es S' → Has es' S') → SetB w b (.map es' clock') w' → WL P ro n l0 N Z rest e w') :
    WL P ro n l0 N Z (⟨none, .insert t m k x, ty, pos, aft, g⟩ :: rest) e w := by
  subst hv
  obtain ⟨es', c', hr, hok, hh1, hh2⟩ := run_update (P := P) (S := S) ht hk hi hb hes
  refine WL.skip hg rfl ?_ (h es' c' _ hok hh1 hh2 (setB_put hb))
  intro ρ hρ d' pos' aft' g'
  simp [execOp, hρ _ _ hm, hρ _ _ hkk, hρ _ _ hx, hr]
theorem WL.makeMap {d : Nat} {t : TypeId} (hg : grd l0 e g = some true) (hd : Nat.blt d n = true)
    (h : ∀ b w', NewB w b (.map #[] 0) w' → WL P ro n l0 N Z rest ((d, .map (some b)) :: e) w') :
    WL P ro n l0 N Z (⟨some d, .makeMap t none, ty, pos, aft, g⟩ :: rest) e w := by
  refine WL.val hg rfl hd ?_ (h _ _ (newB w _))
  intro ρ hρ d' pos' aft' g'
  simp [execOp, Instr.makeMap]
end
end Go.W
