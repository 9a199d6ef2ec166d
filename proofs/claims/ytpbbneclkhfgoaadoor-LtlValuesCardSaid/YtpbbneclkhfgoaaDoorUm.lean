/- Maps as lists of keys and values, in the order of their making; nothing is deleted. -/
import Derived.Test.YtpbbneclkhfgoaaDoorU20
set_option linter.unusedSectionVars false
namespace Go.W
open Go.RowKit

/-- The entries of a map. -/
def mEs {K : Type} (kv : K → Value) : List (K × Value) → Nat → List MapEntry
  | [], _ => []
  | p :: r, i => { key := kv p.1, val := p.2, born := i } :: mEs kv r (i + 1)
def kGet {K V : Type} [DecidableEq K] : List (K × V) → K → Option V
  | [], _ => none
  | p :: r, k => if k = p.1 then some p.2 else kGet r k
def kPos {K V : Type} [DecidableEq K] : List (K × V) → K → Nat
  | [], _ => 0
  | p :: r, k => if k = p.1 then 0 else kPos r k + 1
def kPut {K V : Type} [DecidableEq K] : List (K × V) → K → V → List (K × V)
  | [], k, v => [(k, v)]
  | p :: r, k, v => if k = p.1 then (p.1, v) :: r else p :: kPut r k v
def kTouch {K V : Type} [DecidableEq K] (l : List (K × V)) (k : K) (z : V) : List (K × V) := if (kGet l k).isSome then l else l ++ [(k, z)]
def mapO {K : Type} (kv : K → Value) (l : List (K × Value)) : Obj := .map (mEs kv l 0).toArray l.length
section
variable {K V : Type} [DecidableEq K]
theorem mEs_len (kv : K → Value) : ∀ (l : List (K × Value)) (i : Nat), (mEs kv l i).length = l.length
  | [], _ => rfl
  | p :: r, i => by rw [mEs, List.length_cons, List.length_cons, mEs_len kv r]
theorem mEs_at (kv : K → Value) : ∀ (l : List (K × Value)) (i j : Nat), (mEs kv l i)[j]? = l[j]?.map fun p => { key := kv p.1, val := p.2, born := i + j }
  | [], _, _ => by simp [mEs]
  | p :: r, i, 0 => by simp [mEs]
  | p :: r, i, j + 1 => by simp only [mEs, List.getElem?_cons_succ, mEs_at kv r]; congr 1; funext q; simp; omega
theorem mEs_snoc (kv : K → Value) : ∀ (l : List (K × Value)) (i : Nat) (k : K) (v : Value), mEs kv (l ++ [(k, v)]) i = mEs kv l i ++ [{ key := kv k, val := v, born := i + l.length }]
  | [], _, _, _ => by simp [mEs]
  | p :: r, i, k, v => by simp only [List.cons_append, mEs, mEs_snoc kv r, List.length_cons]; congr 4; omega
theorem kGet_pos : ∀ (l : List (K × V)) (k : K), (kGet l k = none ∧ kPos l k = l.length) ∨ ∃ v, kGet l k = some v ∧ kPos l k < l.length ∧ l[kPos l k]? = some (k, v)
  | [], k => .inl ⟨rfl, rfl⟩
  | p :: r, k => by
    unfold kGet kPos
    by_cases h : k = p.1
    · subst h
      simp only [if_true]
      exact .inr ⟨p.2, rfl, Nat.succ_pos _, rfl⟩
    · simp only [if_neg h]
      rcases kGet_pos r k with ⟨h1, h2⟩ | ⟨v, h1, h2, h3⟩
      · exact .inl ⟨h1, by rw [h2]; rfl⟩
      · exact .inr ⟨v, h1, by rw [List.length_cons]; omega, by rw [List.getElem?_cons_succ]; exact h3⟩
theorem kPut_none : ∀ (l : List (K × V)) (k : K) (v : V), kGet l k = none → kPut l k v = l ++ [(k, v)]
  | [], k, v, _ => rfl
  | p :: r, k, v, h => by
    unfold kGet at h
    unfold kPut
    split at h
    · cases h
    · rename_i hk
      rw [if_neg hk, kPut_none r k v h]; rfl
theorem kPut_some : ∀ (l : List (K × V)) (k : K) (v u : V), kGet l k = some u → kPut l k v = l.set (kPos l k) (k, v)
  | [], k, v, u, h => by cases h
  | p :: r, k, v, u, h => by
    unfold kGet at h
    unfold kPut kPos
    by_cases hk : k = p.1
    · simp only [if_pos hk, List.set_cons_zero]; rw [hk]
    · rw [if_neg hk] at h
      simp only [if_neg hk, List.set_cons_succ, kPut_some r k v u h]
theorem kGet_put : ∀ (l : List (K × V)) (k q : K) (v : V), kGet (kPut l k v) q = if q = k then some v else kGet l q
  | [], k, q, v => by simp [kPut, kGet]
  | p :: r, k, q, v => by
    unfold kPut
    by_cases hk : k = p.1
    · rw [if_pos hk]
      unfold kGet
      by_cases hq : q = k
      · rw [if_pos (hq.trans hk), if_pos hq]
      · rw [if_neg (fun h => hq (h.trans hk.symm)), if_neg hq]
        rw [if_neg (fun h => hq (h.trans hk.symm))]
    · rw [if_neg hk]
      unfold kGet
      by_cases hq : q = p.1
      · rw [if_pos hq, if_pos hq, if_neg (fun h => hk (h.symm.trans hq))]
      · rw [if_neg hq, if_neg hq, kGet_put r k q v]
theorem kGet_snoc : ∀ (l : List (K × V)) (k q : K) (v : V), kGet l k = none → kGet (l ++ [(k, v)]) q = if q = k then some v else kGet l q := by
  intro l k q v h
  rw [← kPut_none l k v h, kGet_put]
theorem kPos_snoc : ∀ (l : List (K × V)) (k : K) (v : V), kGet l k = none → kPos (l ++ [(k, v)]) k = l.length
  | [], k, v, _ => by simp [kPos]
  | p :: r, k, v, h => by
    unfold kGet at h
    split at h
    · cases h
    · rename_i hk
      simp only [List.cons_append, kPos, if_neg hk, kPos_snoc r k v h, List.length_cons]
theorem kTouch_pos (l : List (K × V)) (k : K) (z : V) : kPos (kTouch l k z) k = kPos l k := by
  unfold kTouch
  rcases kGet_pos l k with ⟨h1, h2⟩ | ⟨v, h1, h2, h3⟩
  · rw [h1]; simp only [Option.isSome_none, Bool.false_eq_true, if_false]
    rw [kPos_snoc l k z h1, h2]
  · rw [h1]; rfl
theorem kTouch_put (l : List (K × V)) (k : K) (z v : V) : (kTouch l k z).set (kPos l k) (k, v) = kPut l k v := by
  unfold kTouch
  rcases kGet_pos l k with ⟨h1, h2⟩ | ⟨u, h1, h2, h3⟩
  · rw [h1, kPut_none l k v h1, h2]; simp
  · rw [h1, kPut_some l k v u h1]; simp
theorem kTouch_lt (l : List (K × V)) (k : K) (z : V) : kPos l k < (kTouch l k z).length := by
  unfold kTouch
  rcases kGet_pos l k with ⟨h1, h2⟩ | ⟨u, h1, h2, h3⟩
  · rw [h1, h2]; simp
  · rw [h1]; exact h2
theorem kTouch_at (l : List (K × V)) (k : K) (z : V) : ∃ u, (kTouch l k z)[kPos l k]? = some (k, u) := by
  unfold kTouch
  rcases kGet_pos l k with ⟨h1, h2⟩ | ⟨u, h1, h2, h3⟩
  · exact ⟨z, by rw [h1, h2]; simp⟩
  · exact ⟨u, by rw [h1]; exact h3⟩
theorem kGet_map {J U : Type} [DecidableEq J] (g : K → J) (f : V → U) (hg : ∀ a b, g a = g b → a = b) : ∀ (l : List (K × V)) (k : K), kGet (l.map fun p => (g p.1, f p.2)) (g k) = (kGet l k).map f
  | [], k => rfl
  | p :: r, k => by
    simp only [List.map_cons, kGet]
    by_cases h : k = p.1
    · rw [if_pos h, if_pos (by rw [h])]; rfl
    · rw [if_neg h, if_neg (fun e => h (hg _ _ e)), kGet_map g f hg r k]
theorem kPos_map {J U : Type} [DecidableEq J] (g : K → J) (f : V → U) (hg : ∀ a b, g a = g b → a = b) : ∀ (l : List (K × V)) (k : K), kPos (l.map fun p => (g p.1, f p.2)) (g k) = kPos l k
  | [], k => rfl
  | p :: r, k => by
    simp only [List.map_cons, kPos]
    by_cases h : k = p.1
    · rw [if_pos h, if_pos (by rw [h])]
    · rw [if_neg h, if_neg (fun e => h (hg _ _ e)), kPos_map g f hg r k]
theorem kPut_map {J U : Type} [DecidableEq J] (g : K → J) (f : V → U) (hg : ∀ a b, g a = g b → a = b) : ∀ (l : List (K × V)) (k : K) (v : V), kPut (l.map fun p => (g p.1, f p.2)) (g k) (f v) = (kPut l k v).map fun p => (g p.1, f p.2)
  | [], k, v => rfl
  | p :: r, k, v => by
    simp only [List.map_cons, kPut]
    by_cases h : k = p.1
    · rw [if_pos h, if_pos (by rw [h])]; rfl
    · rw [if_neg h, if_neg (fun e => h (hg _ _ e)), kPut_map g f hg r k v]; rfl
theorem kTouch_map {J U : Type} [DecidableEq J] (g : K → J) (f : V → U) (hg : ∀ a b, g a = g b → a = b) (l : List (K × V)) (k : K) (v : V) : kTouch (l.map fun p => (g p.1, f p.2)) (g k) (f v) = (kTouch l k v).map fun p => (g p.1, f p.2) := by
  unfold kTouch
  rw [kGet_map g f hg]
  cases kGet l k <;> simp
theorem kTouch_get (l : List (K × V)) (k : K) (z : V) : (kTouch l k z)[kPos l k]? = some (k, (kGet l k).getD z) := by
  unfold kTouch
  rcases kGet_pos l k with ⟨h1, h2⟩ | ⟨u, h1, h2, h3⟩
  · rw [h1, h2]; simp
  · rw [h1]; exact h3
/-- A type of keys. -/
structure KeyT (P : Program) (kt : TypeId) (kv : K → Value) : Prop where
  check : ∀ (b : Bool) (k : K) (w : World), (Instr.checkKey b 10000 kt (kv k)).run P w = .ok () w
  find : ∀ (l : List (K × Value)) (k : K) (w : World), (Instr.findKey kt (kv k) (mEs kv l 0)).run P w = .ok ((kGet l k).map fun v => (kPos l k, v)) w
  stays : ∀ (k : K), Instr.sameBits 10000 (kv k) (kv k) = true

variable {P : Program} [T : TT P] {e : Env} {ty : TypeId} {w : World} {kt vt t : TypeId} {kv : K → Value} {z : Value} {s0 b0 b : Nat} {iv : TI} {l : List (K × Value)} {k : K}
theorem get_mapO (hb : w.heap[b]? = some (mapO kv l)) : (getObj b).run P w = .ok (.map (mEs kv l 0).toArray l.length) w := by
  unfold mapO at hb; simp [getObj, Sem.run, hb]
theorem set_mapO {o : Obj} (hb : w.heap[b]? = some (mapO kv l)) : (setObj b o).run P w = .ok () (w.putObj b o) := by unfold mapO at hb; simp [setObj, Sem.run, hb, World.putObj]
/-- What a lookup gives. -/
def lkM (l : List (K × Value)) (k : K) (z : Value) : Bool → Value
  | true => .tuple #[(kGet l k).getD z, .bool (kGet l k).isSome]
  | false => (kGet l k).getD z
theorem yLookM {c : Bool} {x ix : Operand} (hK : KeyT P kt kv) (ht : T.ti t = some ⟨.map kt vt, z, s0, b0⟩) (hv : T.ti vt = some iv)
    (hx : opv e x = some (.map (some b))) (hix : opv e ix = some (kv k)) (hb : w.heap[b]? = some (mapO kv l)) : Yv P e (.lookup t x ix c) ty w (lkM l k iv.zero c) w := by
  have hu : P.underlying t = some (.map kt vt) := (T.ok t _ ht).k
  have hz := (T.ok vt iv hv).zeroValue w
  have hobj := get_mapO (P := P) hb
  have hc := hK.check (mEs kv l 0).toArray.isEmpty k w
  have hf := hK.find l k w
  intro ρ hρ d' pos' aft' g'
  cases hq : kGet l k with
  | none =>
    rw [hq] at hf
    cases c <;> simp_all [execOp, hρ _ _ hx, hρ _ _ hix, Instr.lookup, run_underlying hu, lkM]
  | some q =>
    rw [hq] at hf
    cases c <;> simp_all [execOp, hρ _ _ hx, hρ _ _ hix, Instr.lookup, run_underlying hu, lkM]
theorem mod_same (l : List (K × Value)) (k : K) (u : Value) (h : l[kPos l k]? = some (k, u)) : (mEs kv l 0).toArray.modify (kPos l k) (fun e => { e with key := kv k }) = (mEs kv l 0).toArray := by
  apply Array.ext'
  rw [Array.toList_modify]
  apply List.ext_getElem?
  intro j
  rw [List.getElem?_modify, List.toList_toArray, mEs_at]
  by_cases hj : kPos l k = j
  · subst hj
    rw [h]; simp
  · simp [hj]
theorem mod_put (l : List (K × Value)) (k : K) (u v : Value) (h : l[kPos l k]? = some (k, u)) : (mEs kv l 0).toArray.modify (kPos l k) (fun e => { e with key := kv k, val := v }) = (mEs kv (l.set (kPos l k) (k, v)) 0).toArray := by
  apply Array.ext'
  rw [Array.toList_modify]
  apply List.ext_getElem?
  intro j
  rw [List.getElem?_modify, List.toList_toArray, List.toList_toArray, mEs_at, mEs_at, List.getElem?_set]
  by_cases hj : kPos l k = j
  · subst hj
    have hlt := (List.getElem?_eq_some_iff.1 h).1
    rw [h]; simp [hlt]
  · simp [hj]
theorem mod_val (l : List (K × Value)) (k : K) (i : Nat) (u v : Value) (h : l[i]? = some (k, u)) : (mEs kv l 0).toArray.modify i (fun e => { e with val := v }) = (mEs kv (l.set i (k, v)) 0).toArray := by
  apply Array.ext'
  rw [Array.toList_modify]
  apply List.ext_getElem?
  intro j
  rw [List.getElem?_modify, List.toList_toArray, List.toList_toArray, mEs_at, mEs_at, List.getElem?_set]
  by_cases hj : i = j
  · subst hj
    have hlt := (List.getElem?_eq_some_iff.1 h).1
    rw [h]; simp [hlt]
  · simp [hj]
theorem push_mEs (l : List (K × Value)) (k : K) (v : Value) : (mEs kv l 0).toArray.push { key := kv k, val := v, born := l.length } = (mEs kv (l ++ [(k, v)]) 0).toArray := by
  apply Array.ext'
  rw [Array.toList_push, List.toList_toArray, List.toList_toArray, mEs_snoc, Nat.zero_add]
theorem upM {v : Value} (hK : KeyT P kt kv) (ht : T.ti t = some ⟨.map kt vt, z, s0, b0⟩) (hb : w.heap[b]? = some (mapO kv l)) :
    (Instr.mapUpdate t (.map (some b)) (kv k) v).run P w = .ok () (w.putObj b (mapO kv (kPut l k v))) := by
  have hu : P.underlying t = some (.map kt vt) := (T.ok t _ ht).k
  have hobj := get_mapO (P := P) hb
  have hset : ∀ o, (setObj b o).run P w = .ok () (w.putObj b o) := fun o => set_mapO hb
  have hc := hK.check false k w
  have hf := hK.find l k w
  rcases kGet_pos l k with ⟨h1, h2⟩ | ⟨u, h1, h2, h3⟩
  · rw [h1] at hf
    rw [kPut_none l k v h1]
    unfold mapO
    rw [← push_mEs]
    simp [Instr.mapUpdate, run_underlying hu, hobj, hc, hf, hset]
  · rw [h1] at hf
    rw [kPut_some l k v u h1]
    unfold mapO
    rw [← mod_put l k u v h3]
    have he : (mEs kv l 0)[kPos l k]? = some { key := kv k, val := u, born := kPos l k } := by rw [mEs_at, h3]; simp
    have hs := hK.stays k
    simp [Instr.mapUpdate, run_underlying hu, hobj, hc, hf, hset, he, Instr.keyThatStays, hs]
theorem yMapSet {m q x : Operand} {v : Value} (hK : KeyT P kt kv) (ht : T.ti t = some ⟨.map kt vt, z, s0, b0⟩) (hm : opv e m = some (.map (some b))) (hk : opv e q = some (kv k)) (hx : opv e x = some v) (hb : w.heap[b]? = some (mapO kv l)) :
    Ys P e (.mapUpdate t m q x) ty w (w.putObj b (mapO kv (kPut l k v))) := by
  intro ρ hρ d' pos' aft' g'
  have := upM (v := v) (k := k) hK ht hb
  simp [execOp, hρ _ _ hm, hρ _ _ hk, hρ _ _ hx, this]
theorem yMapEnt {m q : Operand} (hK : KeyT P kt kv) (ht : T.ti t = some ⟨.map kt vt, z, s0, b0⟩) (hv : T.ti vt = some iv) (hm : opv e m = some (.map (some b))) (hk : opv e q = some (kv k)) (hb : w.heap[b]? = some (mapO kv l)) :
    Yv P e (.mapEntry t m q) ty w (.tuple #[(kGet l k).getD iv.zero, .int .i64 (kPos l k : Nat)]) (w.putObj b (mapO kv (kTouch l k iv.zero))) := by
  have hu : P.underlying t = some (.map kt vt) := (T.ok t _ ht).k
  have hz := (T.ok vt iv hv).zeroValue w
  have hobj := get_mapO (P := P) hb
  have hset : ∀ o, (setObj b o).run P w = .ok () (w.putObj b o) := fun o => set_mapO hb
  have hc := hK.check false k w
  have hf := hK.find l k w
  intro ρ hρ d' pos' aft' g'
  unfold kTouch
  rcases kGet_pos l k with ⟨h1, h2⟩ | ⟨u, h1, h2, h3⟩
  · rw [h1] at hf ⊢
    unfold mapO
    rw [h2]
    simp only [Option.isSome_none, Bool.false_eq_true, if_false]
    rw [← push_mEs]
    simp [execOp, hρ _ _ hm, hρ _ _ hk, Instr.mapEntry, run_underlying hu, hobj, hc, hf, hset, hz, goInt]
  · rw [h1] at hf ⊢
    unfold mapO
    have he : (mEs kv l 0)[kPos l k]? = some { key := kv k, val := u, born := kPos l k } := by rw [mEs_at, h3]; simp
    have hs := hK.stays k
    have hmod := mod_same (kv := kv) l k u h3
    simp [execOp, hρ _ _ hm, hρ _ _ hk, Instr.mapEntry, run_underlying hu, hobj, hc, hf, hset, he, Instr.keyThatStays, hs, goInt]
    have hmod' : ((mEs kv l 0).modify (kPos l k) fun e => { e with key := kv k }) = mEs kv l 0 := by simpa using hmod
    rw [hmod']
theorem findIdx_mEs (kv : K → Value) : ∀ (l : List (K × Value)) (i j : Nat), j < l.length → (mEs kv l i).findIdx? (fun e => ((e.born : Nat) : Int) == ((i + j : Nat) : Int)) = some j := by
  intro l
  induction l with
  | nil => intro i j h; exact absurd h (Nat.not_lt_zero _)
  | cons p r ih =>
    intro i j h
    cases j with
    | zero => simp [mEs, List.findIdx?_cons]
    | succ j =>
      have := ih (i + 1) j (by simpa using h)
      rw [mEs, List.findIdx?_cons]
      have h1 : (((i : Nat) : Int) == ((i + (j + 1) : Nat) : Int)) = false := by simp; omega
      simp only [h1, Bool.false_eq_true, if_false]
      rw [show i + (j + 1) = i + 1 + j by omega, this]
      rfl
theorem yEntSt {m s x : Operand} {v zz : Value} (hm : opv e m = some (.map (some b))) (hs : opv e s = some (.int .i64 (kPos l k : Nat))) (hx : opv e x = some v) (hb : w.heap[b]? = some (mapO kv (kTouch l k zz))) :
    Ys P e (.entryStore t m s x) ty w (w.putObj b (mapO kv (kPut l k v))) := by
  have hobj := get_mapO (P := P) hb
  have hset : ∀ o, (setObj b o).run P w = .ok () (w.putObj b o) := fun o => set_mapO hb
  have hlt := kTouch_lt l k zz
  obtain ⟨u, hu⟩ := kTouch_at l k zz
  have hi := findIdx_mEs kv (kTouch l k zz) 0 (kPos l k) hlt
  rw [Nat.zero_add] at hi
  have hi' : (mEs kv (kTouch l k zz) 0).toArray.findIdx? (fun e => ((e.born : Nat) : Int) == ((kPos l k : Nat) : Int)) = some (kPos l k) := by rw [List.findIdx?_toArray]; exact hi
  have hmod := mod_val (kv := kv) (kTouch l k zz) k (kPos l k) u v hu
  rw [kTouch_put] at hmod
  have hlen : (kTouch l k zz).length = (kPut l k v).length := by rw [← kTouch_put l k zz v, List.length_set]
  intro ρ hρ d' pos' aft' g'
  simp only [execOp, hρ _ _ hm, hρ _ _ hs, hρ _ _ hx, Instr.entryStore, Sem.run_bind, hobj, Result.andThen_ok, asInt, asIntOf, Sem.run_pure]
  simp only [hi', hset, hmod, Result.andThen_ok, Sem.run_pure]
  unfold mapO
  rw [hlen]
end
/-! ### Keys -/
def iKey (i : Int) : Value := .int .i64 i
def pKey (p : Int × Int) : Value := .agg #[.int .i64 p.1, .int .i64 p.2]
section
variable {P : Program} [T : TT P]
theorem findNow_i (k : Int) : ∀ (l : List (Int × Value)) (i j : Nat), Instr.findNow (.int .i64) (iKey k) (mEs iKey l i) j = some ((kGet l k).map fun v => (j + kPos l k, v)) := by
  intro l
  induction l with
  | nil => intro i j; rfl
  | cons p r ih =>
    intro i j
    unfold mEs kGet kPos
    by_cases h : k = p.1
    · simp [Instr.findNow, Instr.sameNow, iKey, h]
    · have e1 : (k == p.1) = false := by simpa using h
      simp only [Instr.findNow, Instr.sameNow, iKey, e1, if_true, if_neg h]
      have := ih (i + 1) (j + 1)
      simp only [iKey] at this
      rw [this]
      congr 2
      funext v
      congr 1
      omega
theorem check_i {E : TypeId} {z : Value} {s0 b0 : Nat} (hk : T.ti E = some ⟨.int .i64, z, s0, b0⟩) (b : Bool) (m : Nat) (x : Int) (w : World) : (Instr.checkKey b (m + 1) E (.int .i64 x)).run P w = .ok () w := by
  have hu : P.underlying E = some (.int .i64) := (T.ok E _ hk).k
  simp [Instr.checkKey, run_underlying hu]
theorem same_i (m : Nat) (x : Int) : Instr.sameBits m (.int .i64 x) (.int .i64 x) = true := by cases m <;> simp [Instr.sameBits]
theorem same_p (m : Nat) (x y : Int) : Instr.sameBits (m + 1) (.agg #[.int .i64 x, .int .i64 y]) (.agg #[.int .i64 x, .int .i64 y]) = true := by simp [Instr.sameBits, same_i]
theorem keyT_int {kt : TypeId} {z : Value} {s0 b0 : Nat} (hk : T.ti kt = some ⟨.int .i64, z, s0, b0⟩) : KeyT P kt iKey where
  check b k w := check_i hk b 9999 k w
  find l k w := by
    have hu : P.underlying kt = some (.int .i64) := (T.ok kt _ hk).k
    have := findNow_i k l 0 0
    simp only [Nat.zero_add] at this
    simp [Instr.findKey, run_underlying hu, this]
  stays k := same_i 10000 k
theorem findA_p {kt E : TypeId} {z z2 : Value} {s0 b0 b2 : Nat} (hk : T.ti kt = some ⟨.array 2 E, z, s0, b0⟩) (hE : T.ti E = some ⟨.int .i64, z2, 1, b2⟩) (k : Int × Int) (w : World) : ∀ (l : List ((Int × Int) × Value)) (i j : Nat),
    (Instr.findAsking kt (pKey k) (mEs pKey l i) j).run P w = .ok ((kGet l k).map fun v => (j + kPos l k, v)) w := by
  intro l
  induction l with
  | nil => intro i j; rfl
  | cons p r ih =>
    intro i j
    have h1 := run_eq2 (w := w) hk hE k.1 k.2 p.1.1 p.1.2 9998
    have h1' : (Op.equal kt (pKey k) (pKey p.1)).run P w = .ok (k.1 == p.1.1 && k.2 == p.1.2) w := h1
    unfold mEs kGet kPos
    simp only [Instr.findAsking, Sem.run_bind, h1', Result.andThen_ok]
    by_cases h : k = p.1
    · have e1 : (k.1 == p.1.1 && k.2 == p.1.2) = true := by rw [h]; simp
      simp only [e1, if_true, if_pos h, Sem.run_pure, Option.map_some, Nat.add_zero]
    · have e1 : (k.1 == p.1.1 && k.2 == p.1.2) = false := by
        rw [Bool.eq_false_iff]
        intro h2
        simp only [Bool.and_eq_true, beq_iff_eq] at h2
        exact h (Prod.ext h2.1 h2.2)
      simp only [e1, Bool.false_eq_true, if_false, if_neg h]
      rw [ih (i + 1) (j + 1)]
      congr 2
      funext v
      congr 1
      omega
theorem keyT_pair {kt E : TypeId} {z z2 : Value} {s0 b0 b2 : Nat} (hk : T.ti kt = some ⟨.array 2 E, z, s0, b0⟩) (hE : T.ti E = some ⟨.int .i64, z2, 1, b2⟩) : KeyT P kt pKey where
  check b k w := by
    have hu : P.underlying kt = some (.array 2 E) := (T.ok kt _ hk).k
    have hi : P.underlying E = some (.int .i64) := (T.ok E _ hE).k
    have hs := (T.ok E _ hE).sizeOf w
    have hag := (T.ok E _ hE).isAgg w
    simp only [TK.isAgg] at hag hs
    have hq : ∀ x : Int, (Instr.checkKey b 9999 E (.int .i64 x)).run P w = .ok () w := fun x => check_i hE b 9998 x w
    rw [pKey, Instr.checkKey]
    simp only [Sem.run_bind, run_underlying hu, Result.andThen_ok]
    simp [List.range', hs, part, hag, hq]
  find l k w := by
    have hu : P.underlying kt = some (.array 2 E) := (T.ok kt _ hk).k
    have h0 := findA_p hk hE k w l 0 0
    simp only [Nat.zero_add] at h0
    have h1 : Instr.findNow (.array 2 E) (pKey k) (mEs pKey l 0) 0 = none ∨ (l = [] ∧ Instr.findNow (.array 2 E) (pKey k) (mEs pKey l 0) 0 = some none) := by
      cases l with
      | nil => exact .inr ⟨rfl, rfl⟩
      | cons p r => exact .inl (by simp [mEs, Instr.findNow, Instr.sameNow])
    rcases h1 with h1 | ⟨rfl, h1⟩
    · simp only [Instr.findKey, Sem.run_bind, run_underlying hu, Result.andThen_ok, h1]
      exact h0
    · simp [Instr.findKey, run_underlying hu, h1, kGet]
  stays k := same_p 9999 k.1 k.2
end
end Go.W
