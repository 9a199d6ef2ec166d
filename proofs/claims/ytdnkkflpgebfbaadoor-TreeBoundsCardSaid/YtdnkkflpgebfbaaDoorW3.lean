/- W, third part: what is known of the heap; new blocks, loads, stores, calls, the entry into a function and its end. -/
import Derived.Test.YtdnkkflpgebfbaaDoorW2
import Derived.Shelf.Abstract
set_option linter.unusedVariables false
set_option linter.unusedSectionVars false
namespace Go.W
open Go.RowKit

/-! ### What is known of the heap -/
inductive Ent where
  | blk (b : Nat) (o : Obj)
  | row (E size : Nat) (v : Value) (n : Nat) (xs : List Value)
  | many (bs : List (Nat × Obj))
def Ent.owns : Ent → Nat → Prop
  | .blk b _ => fun k => b = k
  | .row _ _ v _ _ => fun k => v.ownBlock = some k
  | .many bs => fun k => ∃ o, (k, o) ∈ bs
def Ent.sat (B : Nat) (w : World) : Ent → Prop
  | .blk b o => B ≤ b ∧ w.heap[b]? = some o
  | .row E s v n xs => w.ownsRow B E s v n xs
  | .many bs => (bs.map (·.1)).Nodup ∧ ∀ b o, (b, o) ∈ bs → B ≤ b ∧ w.heap[b]? = some o

def Apart (x y : Ent) : Prop := ∀ k, x.owns k → ¬ y.owns k
theorem Apart.symm {x y : Ent} (h : Apart x y) : Apart y x := fun k hy hx => h k hx hy

structure Hp (w0 w : World) (L : List Ent) : Prop where
  below : Below w0.heap.size w0 w
  sat : ∀ x ∈ L, x.sat w0.heap.size w
  dist : L.Pairwise Apart

theorem Ent.sat.lt {B : Nat} {w : World} {x : Ent} (h : x.sat B w) {k : Nat} (hk : x.owns k) : B ≤ k ∧ k < w.heap.size := by
  cases x with
  | blk b o =>
    simp only [Ent.owns] at hk
    subst hk
    exact ⟨h.1, (Array.getElem?_eq_some_iff.1 h.2).1⟩
  | row E s v n xs => exact World.ownsRow.lt h k hk
  | many bs =>
    obtain ⟨o, ho⟩ := hk
    have := h.2 k o ho
    exact ⟨this.1, (Array.getElem?_eq_some_iff.1 this.2).1⟩

theorem Ent.sat.kept {B : Nat} {w w' : World} {row : Option Nat} {x : Ent} (h : x.sat B w) (hg : w.grownBy w' row) (hne : ∀ k, x.owns k → row ≠ some k) : x.sat B w' := by
  cases x with
  | blk b o =>
    refine ⟨h.1, ?_⟩
    rw [hg.block b (Array.getElem?_eq_some_iff.1 h.2).1 (fun e1 => hne b rfl e1.symm)]
    exact h.2
  | row E s v n xs =>
    refine World.ownsRow.kept h hg ?_
    by_cases hv : v.ownBlock = none
    · exact .inl hv
    · obtain ⟨k, hk⟩ := Option.ne_none_iff_exists'.1 hv
      exact .inr (by rw [hk]; exact fun e1 => hne k hk e1.symm)
  | many bs =>
    refine ⟨h.1, fun b o hbo => ?_⟩
    have hb := h.2 b o hbo
    refine ⟨hb.1, ?_⟩
    rw [hg.block b (Array.getElem?_eq_some_iff.1 hb.2).1 (fun e1 => hne b ⟨o, hbo⟩ e1.symm)]
    exact hb.2

theorem grownBy_of_below {w w' : World} (h : Below w.heap.size w w') (row : Option Nat) : w.grownBy w' row := ⟨h.os, h.tape, h.output, h.size, fun k hk _ => h.block k hk⟩
theorem below_of_grownBy {w w' : World} {B : Nat} {row : Option Nat} (h : w.grownBy w' row) (hB : B ≤ w.heap.size) (hr : ∀ k, row = some k → B ≤ k) : Below B w w' :=
  ⟨h.os, h.tape, h.output, h.size, fun k hk => h.block k (by omega) (fun e1 => by have := hr k e1.symm; omega)⟩
theorem grownBy_trans {a b c : World} {row : Option Nat} (h : a.grownBy b row) (k : b.grownBy c row) : a.grownBy c row :=
  ⟨k.os.trans h.os, k.tape.trans h.tape, k.output.trans h.output, Nat.le_trans h.size k.size, fun i hi hne => (k.block i (Nat.lt_of_lt_of_le hi h.size) hne).trans (h.block i hi hne)⟩

section
variable {w0 w w' : World} {L : List Ent}
theorem Hp.start (w : World) : Hp w w [] := ⟨Below.refl _ _, (fun x hx => by cases hx), List.Pairwise.nil⟩
theorem Hp.keep (h : Hp w0 w L) (hg : w.grownBy w' none) : Hp w0 w' L :=
  ⟨h.below.trans (below_of_grownBy hg h.below.size (fun k e1 => by cases e1)), fun x hx => (h.sat x hx).kept hg (fun k _ e1 => by cases e1), h.dist⟩
theorem Hp.call (h : Hp w0 w L) (hb : Below w.heap.size w w') : Hp w0 w' L := h.keep (grownBy_of_below hb _)
theorem Hp.push (h : Hp w0 w L) (hg : w.grownBy w' none) (x : Ent) (hs : x.sat w0.heap.size w') (hf : ∀ k, x.owns k → w.heap.size ≤ k) : Hp w0 w' (x :: L) := by
  have hk := h.keep hg
  refine ⟨hk.below, ?_, ?_⟩
  · intro y hy
    cases hy with
    | head => exact hs
    | tail _ hy => exact hk.sat y hy
  · refine List.Pairwise.cons ?_ h.dist
    intro y hy k hx1 hy1
    have := ((h.sat y hy).lt hy1).2
    have := hf k hx1
    omega
theorem Hp.tail {x : Ent} (h : Hp w0 w (x :: L)) : Hp w0 w L := ⟨h.below, fun y hy => h.sat y (List.mem_cons_of_mem _ hy), (List.pairwise_cons.1 h.dist).2⟩
theorem Hp.drop1 {x y : Ent} (h : Hp w0 w (x :: y :: L)) : Hp w0 w (x :: L) := by
  refine ⟨h.below, fun z hz => h.sat z ?_, ?_⟩
  · rcases List.mem_cons.1 hz with hz | hz
    · simp [hz]
    · simp [hz]
  · have h1 := List.pairwise_cons.1 h.dist
    exact List.pairwise_cons.2 ⟨fun z hz => h1.1 z (by simp [hz]), (List.pairwise_cons.1 h1.2).2⟩
theorem Hp.nil' (h : Hp w0 w L) : Hp w0 w [] := ⟨h.below, (fun x hx => by cases hx), List.Pairwise.nil⟩
theorem apart_at {L : List Ent} (hd : L.Pairwise Apart) {i j : Nat} {x y : Ent} (hij : i ≠ j) (hi : L[i]? = some x) (hj : L[j]? = some y) : Apart x y := by
  rw [List.pairwise_iff_getElem] at hd
  obtain ⟨hi1, hi2⟩ := List.getElem?_eq_some_iff.1 hi
  obtain ⟨hj1, hj2⟩ := List.getElem?_eq_some_iff.1 hj
  rcases Nat.lt_or_gt_of_ne hij with hlt | hlt
  · have := hd i j hi1 hj1 hlt
    rw [hi2, hj2] at this
    exact this
  · have := hd j i hj1 hi1 hlt
    rw [hi2, hj2] at this
    exact this.symm
/-- In another order, or only a part of it: by a list of places. -/
theorem Hp.perm (h : Hp w0 w L) (ps : List Nat) {L' : List Ent} (hL : ps.map (fun i => nth L i) = L'.map some) (hn : (ps.Pairwise (· ≠ ·))) : Hp w0 w L' := by
  have hat : ∀ (i : Nat) (x : Ent), L'[i]? = some x → ∃ p : Nat, ps[i]? = some p ∧ L[p]? = some x := by
    intro i x hx
    have h1 : (L'.map some)[i]? = some (some x) := by simp [hx]
    rw [← hL, List.getElem?_map, Option.map_eq_some_iff] at h1
    obtain ⟨p, hp, hpx⟩ := h1
    exact ⟨p, hp, by rw [← nth_eq]; exact hpx⟩
  refine ⟨h.below, ?_, ?_⟩
  · intro x hx
    obtain ⟨i, hi, rfl⟩ := List.mem_iff_getElem.1 hx
    obtain ⟨p, _, hp⟩ := hat i _ (List.getElem?_eq_getElem hi)
    exact h.sat _ (List.mem_of_getElem? hp)
  · rw [List.pairwise_iff_getElem]
    intro i j hi hj hij
    obtain ⟨p, hp1, hp2⟩ := hat i _ (List.getElem?_eq_getElem hi)
    obtain ⟨q, hq1, hq2⟩ := hat j _ (List.getElem?_eq_getElem hj)
    refine apart_at h.dist ?_ hp2 hq2
    obtain ⟨hp3, hp4⟩ := List.getElem?_eq_some_iff.1 hp1
    obtain ⟨hq3, hq4⟩ := List.getElem?_eq_some_iff.1 hq1
    have := (List.pairwise_iff_getElem.1 hn) i j hp3 hq3 hij
    rw [hp4, hq4] at this
    exact this
def pick (L : List Ent) : List Nat → List Ent
  | [] => []
  | p :: ps => match nth L p with
    | some x => x :: pick L ps
    | none => pick L ps
theorem Hp.pick (h : Hp w0 w L) (ps : List Nat) (hn : (ps.Pairwise (· ≠ ·))) : Hp w0 w (pick L ps) := by
  have key : ∀ (ps : List Nat), ps.Pairwise (· ≠ ·) → ∃ qs : List Nat, qs.Sublist ps ∧ qs.map (fun i => nth L i) = (W.pick L ps).map some := by
    intro ps
    induction ps with
    | nil => intro _; exact ⟨[], List.Sublist.refl _, rfl⟩
    | cons p ps ih =>
      intro hp
      obtain ⟨qs, h1, h2⟩ := ih (List.pairwise_cons.1 hp).2
      simp only [W.pick]
      cases hn : nth L p with
      | none => exact ⟨qs, h1.cons _, h2⟩
      | some x => exact ⟨p :: qs, h1.cons_cons _, by simp [hn, h2]⟩
  obtain ⟨qs, h1, h2⟩ := key ps hn
  exact h.perm qs h2 (hn.sublist h1)
theorem Hp.at (h : Hp w0 w L) (i : Nat) {x : Ent} (hi : nth L i = some x) : x.sat w0.heap.size w := h.sat x (by rw [nth_eq] at hi; exact List.mem_of_getElem? hi)
theorem Hp.obj (h : Hp w0 w L) (i : Nat) {b : Nat} {o : Obj} (hi : nth L i = some (.blk b o)) : w.heap[b]? = some o := (h.at i hi).2
/-- An entry turns: whatever else is known stays. -/
theorem Hp.repl (h : Hp w0 w L) (i : Nat) {x y : Ent} {L' : List Ent} {row : Option Nat} (hi : nth L i = some x) (hL : L.set i y = L') (hg : w.grownBy w' row) (hr : ∀ k, row = some k → x.owns k) (hy : y.sat w0.heap.size w')
    (ho : ∀ k, y.owns k → x.owns k ∨ w.heap.size ≤ k) : Hp w0 w' L' := by
  subst hL
  have hi' := hi
  rw [nth_eq] at hi'
  obtain ⟨hi1, hi2⟩ := List.getElem?_eq_some_iff.1 hi'
  have hxs := h.sat x (List.mem_of_getElem? hi')
  have other : ∀ (j : Nat) (hj : j < L.length), j ≠ i → Apart L[j] x := fun j hj hji => apart_at h.dist hji (List.getElem?_eq_getElem hj) hi'
  have fresh : ∀ (j : Nat) (hj : j < L.length), j ≠ i → Apart L[j] y := by
    intro j hj hji k hk1 hk2
    rcases ho k hk2 with ho | ho
    · exact other j hj hji k hk1 ho
    · have := ((h.sat L[j] (List.getElem_mem hj)).lt hk1).2
      omega
  refine ⟨h.below.trans (below_of_grownBy hg h.below.size (fun k e1 => (hxs.lt (hr k e1)).1)), ?_, ?_⟩
  · intro z hz
    obtain ⟨j, hj, hjz⟩ := List.mem_iff_getElem.1 hz
    rw [List.length_set] at hj
    by_cases hji : j = i
    · subst hji
      rw [List.getElem_set_self] at hjz
      rw [← hjz]; exact hy
    · rw [List.getElem_set_ne (Ne.symm hji)] at hjz
      subst hjz
      exact (h.sat L[j] (List.getElem_mem hj)).kept hg (fun k hk e1 => other j hj hji k hk (hr k e1))
  · rw [List.pairwise_iff_getElem]
    intro p q hp hq hpq
    have hp' : p < L.length := by simpa using hp
    have hq' : q < L.length := by simpa using hq
    by_cases hpi : p = i
    · subst hpi
      rw [List.getElem_set_self, List.getElem_set_ne (by omega)]
      exact (fresh q hq' (by omega)).symm
    · by_cases hqi : q = i
      · subst hqi
        rw [List.getElem_set_self, List.getElem_set_ne (by omega)]
        exact fresh p hp' (by omega)
      · rw [List.getElem_set_ne (Ne.symm hpi), List.getElem_set_ne (Ne.symm hqi)]
        exact apart_at h.dist (by omega) (List.getElem?_eq_getElem hp') (List.getElem?_eq_getElem hq')
/-- A block joins the bunch behind it. -/
theorem Hp.join {b : Nat} {o : Obj} {bs : List (Nat × Obj)} (h : Hp w0 w (.blk b o :: .many bs :: L)) : Hp w0 w (.many ((b, o) :: bs) :: L) := by
  have h1 := List.pairwise_cons.1 h.dist
  have h2 := List.pairwise_cons.1 h1.2
  refine ⟨h.below, ?_, List.pairwise_cons.2 ⟨?_, h2.2⟩⟩
  · intro x hx
    rcases List.mem_cons.1 hx with hx | hx
    · subst hx
      refine ⟨List.nodup_cons.2 ⟨fun hm => ?_, (h.sat (.many bs) (by simp)).1⟩, fun b' o' hb => ?_⟩
      · obtain ⟨⟨b2, o2⟩, hm1, hm2⟩ := List.mem_map.1 hm
        exact h1.1 (.many bs) (by simp) b rfl ⟨o2, by rw [← (show b2 = b from hm2)]; exact hm1⟩
      rcases List.mem_cons.1 hb with hb | hb
      · simp only [Prod.mk.injEq] at hb
        rw [hb.1, hb.2]
        exact h.sat (.blk b o) (by simp)
      · exact (h.sat (.many bs) (by simp)).2 b' o' hb
    · exact h.sat x (by simp [hx])
  · intro y hy k hk hyk
    obtain ⟨o', ho'⟩ := hk
    rcases List.mem_cons.1 ho' with hb | hb
    · simp only [Prod.mk.injEq] at hb
      exact h1.1 y (by simp [hy]) k hb.1.symm hyk
    · exact h2.1 y hy k ⟨o', hb⟩ hyk
theorem Hp.part {b : Nat} {o : Obj} {bs : List (Nat × Obj)} (h : Hp w0 w (.many ((b, o) :: bs) :: L)) : Hp w0 w (.blk b o :: .many bs :: L) := by
  have h1 := List.pairwise_cons.1 h.dist
  have hs := h.sat (.many ((b, o) :: bs)) (by simp)
  have hnd := List.nodup_cons.1 hs.1
  refine ⟨h.below, ?_, List.pairwise_cons.2 ⟨?_, List.pairwise_cons.2 ⟨?_, h1.2⟩⟩⟩
  · intro x hx
    rcases List.mem_cons.1 hx with hx | hx
    · subst hx; exact hs.2 b o (by simp)
    · rcases List.mem_cons.1 hx with hx | hx
      · subst hx; exact ⟨hnd.2, fun b' o' hb => hs.2 b' o' (by simp [hb])⟩
      · exact h.sat x (by simp [hx])
  · intro y hy k hk hyk
    simp only [Ent.owns] at hk
    subst hk
    rcases List.mem_cons.1 hy with hy | hy
    · subst hy
      obtain ⟨o2, ho2⟩ := hyk
      exact hnd.1 (List.mem_map.2 ⟨(b, o2), ho2, rfl⟩)
    · exact h1.1 y hy b ⟨o, by simp⟩ hyk
  · intro y hy k hk hyk
    obtain ⟨o2, ho2⟩ := hk
    exact h1.1 y hy k ⟨o2, by simp [ho2]⟩ hyk
theorem Hp.none' (h : Hp w0 w L) : Hp w0 w (.many [] :: L) := by
  refine ⟨h.below, ?_, List.pairwise_cons.2 ⟨?_, h.dist⟩⟩
  · intro x hx
    rcases List.mem_cons.1 hx with hx | hx
    · subst hx; exact ⟨List.nodup_nil, fun b o hb => by cases hb⟩
    · exact h.sat x hx
  · rintro y _ k ⟨o, ho⟩
    cases ho
end

/-! ### Slices that are only read: the cells behind a slice's address. -/
def Sl (w : World) (a : Option Addr) (cs : List Value) : Prop :=
  ∀ (i : Nat) (u : Value), cs[i]? = some u → ∃ b o, a = some ⟨b, o, none⟩ ∧ w.cell? ⟨b, o + i, none⟩ = some u
theorem cell_below {w w' : World} {p : Addr} {u : Value} (hb : Below w.heap.size w w') (h : w.cell? p = some u) : w'.cell? p = some u := by
  rw [hb.cell (World.block_lt_of_cell? w p h)]; exact h
theorem Sl.below {w w' : World} {a : Option Addr} {cs : List Value} (h : Sl w a cs) (hb : Below w.heap.size w w') : Sl w' a cs := by
  intro i u hi
  obtain ⟨b, o, ha, hc⟩ := h i u hi
  exact ⟨b, o, ha, cell_below hb hc⟩
theorem Sl.hp {w0 w : World} {L : List Ent} {a : Option Addr} {cs : List Value} (h : Sl w0 a cs) (hp : Hp w0 w L) : Sl w a cs := h.below hp.below
theorem cell_of_obj {w : World} {b j : Nat} {arr : Array Value} {t : TypeId} {fr : Nat × Nat} {u : Value} (h : w.heap[b]? = some (.cells arr t fr)) (hj : arr[j]? = some u) : w.cell? ⟨b, j, none⟩ = some u := by
  rw [cell_of_row w b j arr t fr h]; exact hj
theorem Sl.of_obj {w : World} {b : Nat} {arr : Array Value} {t : TypeId} {fr : Nat × Nat} {cs : List Value} (h : w.heap[b]? = some (.cells arr t fr)) (hcs : ∀ (i : Nat) (u : Value), cs[i]? = some u → arr[i]? = some u) : Sl w (some ⟨b, 0, none⟩) cs := by
  intro i u hi
  exact ⟨b, 0, rfl, by rw [Nat.zero_add]; exact cell_of_obj h (hcs i u hi)⟩
theorem Sl.of_row {w : World} {B E s n c : Nat} {a : Option Addr} {xs : List Value} (h : w.ownsRow B E s (.slice a n c) n xs) : Sl w a xs := by
  obtain ⟨hl, h | ⟨g, cap, cur, hv, hb, hg, hnc, hcm, hcs, ht⟩⟩ := h
  · obtain ⟨hv, hn⟩ := h
    intro i u hi
    have : xs = [] := List.eq_nil_of_length_eq_zero (by rw [hl, hn]; simp)
    rw [this] at hi; cases hi
  · simp only [Value.slice.injEq] at hv
    rw [hv.1]
    refine Sl.of_obj hg ?_
    intro i u hi
    rw [← ht] at hi
    rw [List.getElem?_take] at hi
    split at hi
    · simpa using hi
    · cases hi
theorem Sl.nil {w : World} {a : Option Addr} : Sl w a [] := fun i u hi => by cases hi

/-! ### Calls -/
def Ret (P : Program) (f : FuncId) (args : List Value) (w : World) (R : Value → World → Prop) : Prop :=
  Calls P f args.toArray w fun e w' => ∃ v, e = .returned v ∧ R v w'
theorem Ret.mono {P : Program} {f : FuncId} {args : List Value} {w : World} {R R' : Value → World → Prop} (h : Ret P f args w R) (hr : ∀ v w', R v w' → R' v w') : Ret P f args w R' :=
  Calls.mono h fun e w' ⟨v, he, hv⟩ => ⟨v, he, hr v w' hv⟩
def Ents (P : Program) (f : FuncId) : Prop := ∀ args w, (callFunc f args).run P w = .ok (.enter f args) w
/-- A function that only computes. -/
def Pur (P : Program) (f : FuncId) (args : List Value) (v : Value) : Prop := ∀ w, Ret P f args w fun u w' => u = v ∧ w' = w
/-- A function that only computes, where the world is as it must be. -/
def PurAt (P : Program) (f : FuncId) (args : List Value) (w : World) (v : Value) : Prop := Ret P f args w fun u w' => u = v ∧ w' = w

section
variable {P : Program} [T : TT P] {ro : Option Nat} {n : Nat} {l0 rest : List Oper} {N : Nor} {Z : Pan} {e : Env} {w : World} {ty : TypeId} {pos : String} {aft : Array Edge} {g : Option (Nat × Bool)}

theorem callee_run {fo : Operand} {f : FuncId} {fi ca : Array Value} {args : Array Operand} {tys : Array TypeId} {vs all : List Value}
    (hf : opv e fo = some (.func (.func f) fi ca)) (ha : opvs e args.toList = some vs) (hall : fi.toList ++ vs ++ ca.toList = all) (hE : Ents P f) :
    ∀ ρ, Agree e ρ → ∀ d pos aft g, (execOp ρ ⟨d, .call ⟨.value fo, args, tys⟩, ty, pos, aft, g⟩).run P w = .ok (.enter f all.toArray) w := by
  intro ρ hρ d pos aft g
  have e1 : args.map ρ = vs.toArray := opvs_arr hρ ha
  have e2 : fi ++ vs.toArray ++ ca = all.toArray := by rw [← hall, ← Array.toList_inj]; simp
  simp only [execOp, resolve, hρ _ _ hf, Deferred.ofValue, Sem.run_bind, Sem.run_pure, Result.andThen_ok, invoke, e1, e2]
  exact hE _ _

theorem WL.call {d : Nat} {fo : Operand} {f : FuncId} {fi ca : Array Value} {args : Array Operand} {tys : Array TypeId} {vs all : List Value} {R : Value → World → Prop}
    (hg : grd l0 e g = some true) (hf : opv e fo = some (.func (.func f) fi ca)) (ha : opvs e args.toList = some vs) (hall : fi.toList ++ vs ++ ca.toList = all) (hd : Nat.blt d n = true) (hE : Ents P f)
    (hc : Ret P f all w R) (h : ∀ v w', R v w' → WL P ro n l0 N Z rest ((d, v) :: e) w') :
    WL P ro n l0 N Z (⟨some d, .call ⟨.value fo, args, tys⟩, ty, pos, aft, g⟩ :: rest) e w := by
  intro a ka
  unfold wpListIn
  rw [if_pos (by rw [grd_wanted ka (o := ⟨some d, .call ⟨.value fo, args, tys⟩, ty, pos, aft, g⟩) hg])]
  refine ⟨fun f _ => fen_fn ro f, ?_⟩
  rw [semAt_ok (callee_run (P := P) (w := w) (ty := ty) hf ha hall hE a.eval ka.agree _ _ _ _) (fun d h => by cases h)]
  rw [Oper.uponIn_enter]
  refine ⟨fun h => (by rw [fen_depth] at h; cases h), CallsIn.mono (fen_calls hc) ?_⟩
  rintro en w' ⟨v, rfl, hv⟩
  exact h v w' hv _ (ka.put hd)

theorem WL.callP {d : Nat} {fo : Operand} {f : FuncId} {fi ca : Array Value} {args : Array Operand} {tys : Array TypeId} {vs all : List Value} {v : Value}
    (hg : grd l0 e g = some true) (hf : opv e fo = some (.func (.func f) fi ca)) (ha : opvs e args.toList = some vs) (hall : fi.toList ++ vs ++ ca.toList = all) (hd : Nat.blt d n = true) (hE : Ents P f)
    (hc : Ret P f all w fun u w' => u = v ∧ w' = w) (h : WL P ro n l0 N Z rest ((d, v) :: e) w) :
    WL P ro n l0 N Z (⟨some d, .call ⟨.value fo, args, tys⟩, ty, pos, aft, g⟩ :: rest) e w :=
  WL.call hg hf ha hall hd hE hc (by rintro v' w' ⟨rfl, rfl⟩; exact h)

/-! ### Memory -/
theorem grown_alloc (w : World) (o : Obj) : w.grownBy (w.alloc o) none := World.grownBy_alloc w o none
theorem heap_new (w : World) (o : Obj) : (w.alloc o).heap[w.heap.size]? = some o := heap_alloc_new w o

/-- A new block's world: by what is known of it. -/
structure NewB (w : World) (b : Nat) (o : Obj) (w' : World) : Prop where
  num : b = w.heap.size
  at_ : w'.heap[b]? = some o
  grown : w.grownBy w' none
theorem newB (w : World) (o : Obj) : NewB w w.heap.size o (w.alloc o) := ⟨rfl, heap_new w o, grown_alloc w o⟩
theorem Hp.new {w0 w' : World} {L : List Ent} {b : Nat} {o : Obj} (h : Hp w0 w L) (hn : NewB w b o w') : Hp w0 w' (.blk b o :: L) :=
  h.push hn.grown (.blk b o) ⟨by rw [hn.num]; exact h.below.size, hn.at_⟩ (fun k hk => by simp only [Ent.owns] at hk; rw [← hk, hn.num]; exact Nat.le_refl _)

/-- A block written: by what is known of the new world. -/
structure SetB (w : World) (b : Nat) (o : Obj) (w' : World) : Prop where
  at_ : w'.heap[b]? = some o
  grown : w.grownBy w' (some b)
theorem Hp.set {w0 w' : World} {L L' : List Ent} {b : Nat} {o o' : Obj} (h : Hp w0 w L) (i : Nat) (hi : nth L i = some (.blk b o)) (hL : L.set i (.blk b o') = L') (hs : SetB w b o' w') : Hp w0 w' L' :=
  h.repl i hi hL hs.grown (fun k hk => by simp only [Option.some.injEq] at hk; exact hk) ⟨(h.at i hi).1, hs.at_⟩ (fun k hk => .inl hk)

theorem setB_cell {w : World} {b j : Nat} {arr : Array Value} {t : TypeId} (h : w.heap[b]? = some (.cells arr t (0, 0))) (v : Value) :
    SetB w b (.cells (arr.setIfInBounds j v) t (0, 0)) (w.setCell ⟨b, j, none⟩ v) := by
  obtain ⟨hlt, hb⟩ := Array.getElem?_eq_some_iff.1 h
  refine ⟨?_, ⟨rfl, rfl, rfl, by simp [World.setCell], fun k hk hne => ?_⟩⟩
  · simp only [World.setCell, Array.getElem?_modify]
    rw [h]; simp
  · simp only [World.setCell]
    rw [Array.getElem?_modify]
    have : b ≠ k := fun h' => hne (by rw [h'])
    simp [this]

theorem run_alloc {t : TypeId} {i : TI} (ht : T.ti t = some i) :
    ∀ ρ : Operand → Value, ∀ d pos aft g, (execOp ρ ⟨d, .alloc t, ty, pos, aft, g⟩).run P w = .ok (.value (.pointer (some ⟨w.heap.size, 0, none⟩))) (w.alloc (.cells i.zero.cells t)) := by
  intro ρ d pos aft g
  have hz := (T.ok t i ht).zeroValue w
  simp [execOp, Instr.alloc, hz, newVar, newRow]

theorem WL.alloc {d : Nat} {t : TypeId} {i : TI} (hg : grd l0 e g = some true) (ht : T.ti t = some i) (hd : Nat.blt d n = true)
    (h : ∀ b w', NewB w b (.cells i.zero.cells t) w' → WL P ro n l0 N Z rest ((d, .pointer (some ⟨b, 0, none⟩)) :: e) w') :
    WL P ro n l0 N Z (⟨some d, .alloc t, ty, pos, aft, g⟩ :: rest) e w :=
  WL.val hg rfl hd (fun ρ _ => run_alloc ht ρ) (h _ _ (newB w _))

theorem WL.box {d : Nat} {t : TypeId} {x : Operand} {v : Value} (hg : grd l0 e g = some true) (hx : opv e x = some v) (hd : Nat.blt d n = true)
    (h : ∀ b w', NewB w b (.cells v.cells t) w' → WL P ro n l0 N Z rest ((d, .pointer (some ⟨b, 0, none⟩)) :: e) w') :
    WL P ro n l0 N Z (⟨some d, .box t x, ty, pos, aft, g⟩ :: rest) e w :=
  WL.val hg rfl hd (fun ρ hρ d pos aft g => by simp [execOp, Instr.box, hρ _ _ hx, newVar, newRow]) (h _ _ (newB w _))

theorem run_load1 {t : TypeId} {i : TI} {x : Operand} {p : Addr} {v : Value} (ht : T.ti t = some i) (h1 : isOne i.k = true) (hx : opv e x = some (.pointer (some p))) (hc : w.cell? p = some v) :
    Yv P e (.load t x) ty w v w := by
  intro ρ hρ d pos aft g
  have hag : i.k.isAgg = false := by cases hk2 : i.k <;> rw [hk2] at h1 <;> first | rfl | (simp [isOne] at h1)
  have hagg := (T.ok t i ht).isAgg w
  rw [hag] at hagg
  simp [execOp, hρ _ _ hx, Instr.loadAt, Instr.sureAddr, loadVar, hagg, hc]
theorem WL.load {d : Nat} {t : TypeId} {i : TI} {x : Operand} {p : Addr} {v : Value} (hg : grd l0 e g = some true) (ht : T.ti t = some i) (h1 : isOne i.k = true) (hx : opv e x = some (.pointer (some p))) (hd : Nat.blt d n = true)
    (hc : w.cell? p = some v) (h : WL P ro n l0 N Z rest ((d, v) :: e) w) : WL P ro n l0 N Z (⟨some d, .load t x, ty, pos, aft, g⟩ :: rest) e w :=
  WL.val hg rfl hd (run_load1 ht h1 hx hc) h
/-- A load out of a block of one's own. -/
theorem WL.loadB {d b j : Nat} {t t' : TypeId} {i : TI} {x : Operand} {arr : Array Value} {fr : Nat × Nat} {v : Value} (hg : grd l0 e g = some true) (ht : T.ti t = some i) (h1 : isOne i.k = true)
    (hx : opv e x = some (.pointer (some ⟨b, j, none⟩))) (hd : Nat.blt d n = true)
    (hc : w.heap[b]? = some (.cells arr t' fr)) (hv : nth arr.toList j = some v) (h : WL P ro n l0 N Z rest ((d, v) :: e) w) : WL P ro n l0 N Z (⟨some d, .load t x, ty, pos, aft, g⟩ :: rest) e w :=
  WL.load hg ht h1 hx hd (cell_of_obj hc (by rw [nth_eq] at hv; simpa using hv)) h

theorem run_loadN {t : TypeId} {i : TI} {x : Operand} {p : Addr} {cs : List Value} (ht : T.ti t = some i) (h1 : isOne i.k = false) (hl : cs.length = i.size) (hx : opv e x = some (.pointer (some p)))
    (hc : ∀ j v, cs[j]? = some v → w.cell? (p.add j) = some v) : Yv P e (.load t x) ty w (.agg cs.toArray) w := by
  intro ρ hρ d pos aft g
  have hag : i.k.isAgg = true := by cases hk2 : i.k <;> rw [hk2] at h1 <;> first | rfl | (simp [isOne] at h1)
  have hagg := (T.ok t i ht).isAgg w
  have hs := (T.ok t i ht).sizeOf w
  rw [hag] at hagg
  rw [← hl] at hs
  have hr := run_loadCells_list (P := P) w p cs hc
  simp [execOp, hρ _ _ hx, Instr.loadAt, Instr.sureAddr, loadVar, hagg, hs, hr]
theorem WL.loadN {d : Nat} {t : TypeId} {i : TI} {x : Operand} {b o : Nat} {cs : List Value} (hg : grd l0 e g = some true) (ht : T.ti t = some i) (h1 : isOne i.k = false) (hx : opv e x = some (.pointer (some ⟨b, o, none⟩))) (hd : Nat.blt d n = true)
    (hl : cs.length = i.size) (hc : ∀ j v, cs[j]? = some v → w.cell? ⟨b, o + j, none⟩ = some v) (h : WL P ro n l0 N Z rest ((d, .agg cs.toArray) :: e) w) : WL P ro n l0 N Z (⟨some d, .load t x, ty, pos, aft, g⟩ :: rest) e w :=
  WL.val hg rfl hd (run_loadN ht h1 hl hx (fun j v hj => by rw [Addr.add_lit]; exact hc j v hj)) h

theorem stored_ok {w : World} {b j : Nat} {arr : Array Value} {t : TypeId} {v : Value} (hh : w.heap[b]? = some (.cells arr t (0, 0))) (hj : j < arr.size) (hv : v.oneCell' = true) (m : Mode) :
    (store ⟨b, j, none⟩ v m).run P w = .ok () (w.setCell ⟨b, j, none⟩ v) := by
  rw [run_store P w _ _ _ hv]
  have hc : w.cell? ⟨b, j, none⟩ = some arr[j] := cell_of_obj hh (by simp [hj])
  have hf : w.frozen? ⟨b, j, none⟩ = false := frozen_of_row w b j arr t hh
  simp [hc, hf]

def one (v : Value) : Bool := v.oneCell'
theorem run_store1 {t : TypeId} {i : TI} {a x : Operand} {b j : Nat} {arr : Array Value} {t' : TypeId} {v : Value} (ht : T.ti t = some i) (h1 : i.size = 1)
    (ha : opv e a = some (.pointer (some ⟨b, j, none⟩))) (hx : opv e x = some v) (hv : v.oneCell' = true)
    (hh : w.heap[b]? = some (.cells arr t' (0, 0))) (hj : j < arr.size) : Ys P e (.store t a x) ty w (w.setCell ⟨b, j, none⟩ v) := by
  intro ρ hρ d pos aft g
  have hs := (T.ok t i ht).sizeOf w
  rw [h1] at hs
  have hvc : v.cells = #[v] := by cases v <;> first | rfl | (simp [Value.oneCell'] at hv)
  have hst := stored_ok (P := P) hh hj hv .plain
  simp [execOp, hρ _ _ ha, hρ _ _ hx, Instr.storeAt, Instr.sureAddr, storeVar, hs, hvc, storeCells, Addr.add_zero', hst]
/-- A store into a block of one's own. -/
theorem WL.store {t : TypeId} {i : TI} {a x : Operand} {b j : Nat} {arr : Array Value} {t' : TypeId} {v : Value} (hg : grd l0 e g = some true) (ht : T.ti t = some i) (h1 : i.size = 1)
    (ha : opv e a = some (.pointer (some ⟨b, j, none⟩))) (hx : opv e x = some v) (hv : v.oneCell' = true)
    (hh : w.heap[b]? = some (.cells arr t' (0, 0))) (hj : j < arr.size)
    (h : ∀ w', SetB w b (.cells (arr.setIfInBounds j v) t' (0, 0)) w' → WL P ro n l0 N Z rest e w') : WL P ro n l0 N Z (⟨none, .store t a x, ty, pos, aft, g⟩ :: rest) e w :=
  WL.skip hg rfl (run_store1 ht h1 ha hx hv hh hj) (h _ (setB_cell hh v))

theorem setB_row {w : World} {b : Nat} {arr : Array Value} {t : TypeId} (h : w.heap[b]? = some (.cells arr t (0, 0))) (cs : Array Value) : SetB w b (.cells cs t (0, 0)) (w.setRow b cs) :=
  ⟨setRow_heap w b arr cs t _ h, ⟨rfl, rfl, rfl, by simp, fun k _ hne => setRow_other w b k cs (fun e1 => hne (by rw [e1]))⟩⟩

theorem run_storeN {t : TypeId} {i : TI} {a x : Operand} {b j : Nat} {arr : Array Value} {t' : TypeId} {vs : Array Value} (ht : T.ti t = some i) (h1 : vs.size = i.size)
    (ha : opv e a = some (.pointer (some ⟨b, j, none⟩))) (hx : opv e x = some (.agg vs)) (hv : ∀ v ∈ vs.toList, v.oneCell' = true)
    (hh : w.heap[b]? = some (.cells arr t' (0, 0))) (hj : j + vs.size ≤ arr.size) : Ys P e (.store t a x) ty w (w.setRow b (arr.toList.take j ++ vs.toList ++ arr.toList.drop (j + vs.size)).toArray) := by
  intro ρ hρ d pos aft g
  have hs := (T.ok t i ht).sizeOf w
  rw [← h1] at hs
  have hst := run_storeCells_at P b j t' vs.toList 0 arr w hh (by simpa using hj) hv
  simp only [Nat.add_zero, Array.length_toList] at hst
  simp [execOp, hρ _ _ ha, hρ _ _ hx, Instr.storeAt, Instr.sureAddr, storeVar, hs, Value.cells, hst]
/-- A store of a struct or an array: 'arr2' is the block behind it. -/
theorem WL.storeN {t : TypeId} {i : TI} {a x : Operand} {b j : Nat} {arr arr2 : Array Value} {t' : TypeId} {vs : Array Value} (hg : grd l0 e g = some true) (ht : T.ti t = some i)
    (ha : opv e a = some (.pointer (some ⟨b, j, none⟩))) (hx : opv e x = some (.agg vs)) (h1 : vs.size = i.size) (hv : ∀ v ∈ vs.toList, v.oneCell' = true)
    (hh : w.heap[b]? = some (.cells arr t' (0, 0))) (hj : j + vs.size ≤ arr.size) (h2 : (arr.toList.take j ++ vs.toList ++ arr.toList.drop (j + vs.size)).toArray = arr2)
    (h : ∀ w', SetB w b (.cells arr2 t' (0, 0)) w' → WL P ro n l0 N Z rest e w') : WL P ro n l0 N Z (⟨none, .store t a x, ty, pos, aft, g⟩ :: rest) e w :=
  WL.skip hg rfl (run_storeN ht h1 ha hx hv hh hj) (h _ (by rw [← h2]; exact setB_row hh _))

theorem newB_set {w w1 w2 : World} {b : Nat} {o o2 : Obj} (h : NewB w b o w1) (k : SetB w1 b o2 w2) : NewB w b o2 w2 :=
  ⟨h.num, k.at_, ⟨k.grown.os.trans h.grown.os, k.grown.tape.trans h.grown.tape, k.grown.output.trans h.grown.output, Nat.le_trans h.grown.size k.grown.size, fun i hi _ =>
    (k.grown.block i (Nat.lt_of_lt_of_le hi h.grown.size) (fun e1 => by simp only [Option.some.injEq] at e1; rw [h.num] at e1; omega)).trans (h.grown.block i hi (by simp))⟩⟩

/-- A local that is laid in memory and given its value. -/
theorem WL.var {d : Nat} {t : TypeId} {i : TI} {x : Operand} {v : Value} {ty2 : TypeId} {pos2 : String} {aft2 : Array Edge} (hg : grd l0 e g = some true) (ht : T.ti t = some i) (hd : Nat.blt d n = true)
    (hx : ∀ b, opv ((d, .pointer (some ⟨b, 0, none⟩)) :: e) x = some v)
    (h1 : v.cells.size = i.size) (h2 : i.zero.cells.size = i.size) (hv : ∀ u ∈ v.cells.toList, u.oneCell' = true)
    (h : ∀ b w', NewB w b (.cells v.cells t) w' → WL P ro n l0 N Z rest ((d, .pointer (some ⟨b, 0, none⟩)) :: e) w') :
    WL P ro n l0 N Z (⟨some d, .alloc t, ty, pos, aft, g⟩ :: ⟨none, .store t (.tmp d) x, ty2, pos2, aft2, none⟩ :: rest) e w := by
  refine WL.le fun hle => WL.alloc (T := T) (i := i) hg ht hd ?_
  intro b w' hn
  have hs := (T.ok t i ht).sizeOf w'
  have hrow := run_storeCells_at P b 0 t v.cells.toList 0 i.zero.cells w' hn.at_ (by simp [h1, h2]) hv
  simp only [Nat.add_zero, Array.length_toList, List.take_zero, List.nil_append, Nat.zero_add] at hrow
  have harr : (v.cells.toList ++ i.zero.cells.toList.drop v.cells.size).toArray = v.cells := by
    rw [List.drop_eq_nil_of_le (by simp [h1, h2])]; simp
  rw [harr] at hrow
  refine WL.skip (w' := w'.setRow b v.cells) rfl rfl ?_ (h b _ (newB_set hn (setB_row hn.at_ _)))
  intro ρ hρ d' pos' aft' g'
  have ea : ρ (.tmp d) = .pointer (some ⟨b, 0, none⟩) := hρ _ _ (opv_head hd hle)
  simp [execOp, ea, hρ _ _ (hx b), Instr.storeAt, Instr.sureAddr, storeVar, hs, h1, hrow]

/-- An element of a slice, read: the address and the load at once. -/
theorem WL.ixload {d1 d2 : Nat} {t t2 E : TypeId} {i : TI} {x ix : Operand} {a : Option Addr} {len cap j : Nat} {k : IntKind} {cs : List Value} {v z : Value} {s b2 : Nat} {ty2 : TypeId} {pos2 : String} {aft2 : Array Edge} {g2 : Option (Nat × Bool)}
    (hg : grd l0 e g = some true) (hg2 : ∀ p, grd l0 ((d1, p) :: e) g2 = some true)
    (ht : T.ti t = some ⟨.slice E, z, s, b2⟩) (hi : T.ti E = some i) (hone : i.size = 1) (ht2 : T.ti t2 = some i) (h1 : isOne i.k = true)
    (hx : opv e x = some (.slice a len cap)) (hix : opv e ix = some (.int k (j : Nat))) (hj : j < len) (hd1 : Nat.blt d1 n = true) (hd2 : Nat.blt d2 n = true)
    (hs : Sl w a cs) (hv : cs[j]? = some v)
    (h : ∀ p, WL P ro n l0 N Z rest ((d2, v) :: (d1, p) :: e) w) :
    WL P ro n l0 N Z (⟨some d1, .indexAddr t x ix, ty, pos, aft, g⟩ :: ⟨some d2, .load t2 (.tmp d1), ty2, pos2, aft2, g2⟩ :: rest) e w := by
  obtain ⟨b, o, rfl, hc⟩ := hs j v hv
  have hu : P.underlying t = some (.slice E) := (T.ok t _ ht).k
  have hsz := (T.ok E i hi).sizeOf w
  rw [hone] at hsz
  refine WL.le fun hle => WL.val (v := .pointer (some ⟨b, o + j, none⟩)) (w' := w) hg rfl hd1 ?_ (WL.load (hg2 _) ht2 h1 (opv_head hd1 hle) hd2 hc (h _))
  intro ρ hρ d' pos' aft' g'
  have c1 : (0 : Int) ≤ (j : Int) ∧ (j : Int) < (len : Int) := ⟨by omega, by omega⟩
  simp only [execOp, hρ _ _ hx, hρ _ _ hix, Instr.indexAt, asIntOf, Sem.run_bind, Sem.run_pure, Result.andThen_ok, run_underlying hu]
  rw [if_pos c1]
  simp [hsz, Addr.add_lit]

/-- .. of a struct or an array. -/
theorem WL.ixloadN {d1 d2 : Nat} {t t2 E : TypeId} {i : TI} {x ix : Operand} {a : Option Addr} {len cap j : Nat} {k : IntKind} {cs cs' : List Value} {z : Value} {s b2 sz : Nat} {ty2 : TypeId} {pos2 : String} {aft2 : Array Edge} {g2 : Option (Nat × Bool)}
    (hg : grd l0 e g = some true) (hg2 : ∀ p, grd l0 ((d1, p) :: e) g2 = some true)
    (ht : T.ti t = some ⟨.slice E, z, s, b2⟩) (hi : T.ti E = some i) (hsz : i.size = sz) (hpos : Nat.blt 0 sz = true) (ht2 : T.ti t2 = some i) (h1 : isOne i.k = false)
    (hx : opv e x = some (.slice a len cap)) (hix : opv e ix = some (.int k (j : Nat))) (hj : j < len) (hd1 : Nat.blt d1 n = true) (hd2 : Nat.blt d2 n = true)
    (hs : Sl w a cs) (hl : cs'.length = sz) (hv : ∀ (q : Nat) (u : Value), cs'[q]? = some u → cs[j * sz + q]? = some u)
    (h : ∀ p, WL P ro n l0 N Z rest ((d2, .agg cs'.toArray) :: (d1, p) :: e) w) :
    WL P ro n l0 N Z (⟨some d1, .indexAddr t x ix, ty, pos, aft, g⟩ :: ⟨some d2, .load t2 (.tmp d1), ty2, pos2, aft2, g2⟩ :: rest) e w := by
  have hpos' : 0 < sz := by simpa [Nat.blt_eq] using hpos
  have h0 : cs'[0]? = some (cs'[0]'(by omega)) := by simp
  obtain ⟨b, o, rfl, _⟩ := hs _ _ (hv 0 _ h0)
  have hu : P.underlying t = some (.slice E) := (T.ok t _ ht).k
  have hszr := (T.ok E i hi).sizeOf w
  rw [hsz] at hszr
  refine WL.le fun hle => WL.val (v := .pointer (some ⟨b, o + j * sz, none⟩)) (w' := w) hg rfl hd1 ?_ (WL.loadN (b := b) (o := o + j * sz) (hg2 _) ht2 h1 (opv_head hd1 hle) hd2 (by rw [hl, hsz]) ?_ (h _))
  · intro ρ hρ d' pos' aft' g'
    have c1 : (0 : Int) ≤ (j : Int) ∧ (j : Int) < (len : Int) := ⟨by omega, by omega⟩
    simp only [execOp, hρ _ _ hx, hρ _ _ hix, Instr.indexAt, asIntOf, Sem.run_bind, Sem.run_pure, Result.andThen_ok, run_underlying hu]
    rw [if_pos c1]
    simp [hszr, Addr.add_lit]
  · intro q u hq
    obtain ⟨b', o', hb, hc⟩ := hs _ _ (hv q u hq)
    simp only [Option.some.injEq, Addr.mk.injEq] at hb
    rw [Nat.add_assoc, hb.1, hb.2.1]; exact hc

/-- The address of an element of a slice that starts a block. -/
theorem WL.ix {d : Nat} {t E : TypeId} {i : TI} {x ix : Operand} {b o len cap j : Nat} {k : IntKind} {z : Value} {s b2 : Nat}
    (hg : grd l0 e g = some true) (ht : T.ti t = some ⟨.slice E, z, s, b2⟩) (hi : T.ti E = some i)
    (hx : opv e x = some (.slice (some ⟨b, o, none⟩) len cap)) (hix : opv e ix = some (.int k (j : Nat))) (hj : j < len) (hd : Nat.blt d n = true)
    (h : WL P ro n l0 N Z rest ((d, .pointer (some ⟨b, o + j * i.size, none⟩)) :: e) w) :
    WL P ro n l0 N Z (⟨some d, .indexAddr t x ix, ty, pos, aft, g⟩ :: rest) e w := by
  have hu : P.underlying t = some (.slice E) := (T.ok t _ ht).k
  have hsz := (T.ok E i hi).sizeOf w
  refine WL.val (w' := w) hg rfl hd ?_ h
  intro ρ hρ d' pos' aft' g'
  have c1 : (0 : Int) ≤ (j : Int) ∧ (j : Int) < (len : Int) := ⟨by omega, by omega⟩
  simp only [execOp, hρ _ _ hx, hρ _ _ hix, Instr.indexAt, asIntOf, Sem.run_bind, Sem.run_pure, Result.andThen_ok, run_underlying hu]
  rw [if_pos c1]
  simp [hsz, Addr.add_lit]
end

/-! ### Entry and end -/
def envArgs : Nat → List Value → Env
  | _, [] => []
  | i, v :: vs => (i, v) :: envArgs (i + 1) vs

theorem look_envArgs (vs : List Value) : ∀ i t v, look (envArgs i vs) t = some v → ∃ j, t = i + j ∧ vs[j]? = some v := by
  induction vs with
  | nil => intro i t v h; simp [envArgs, look] at h
  | cons u vs ih =>
    intro i t v h
    rw [envArgs] at h
    rcases look_cons h with ⟨h1, _, h2⟩ | ⟨_, h1⟩
    · exact ⟨0, by rw [Nat.add_zero]; exact h1.symm, by simp [h2]⟩
    · obtain ⟨j, hj, hv⟩ := ih _ _ _ h1
      exact ⟨j + 1, by omega, by simpa using hv⟩

/-- What a function hands back: of a frame known in part. -/
def Res (P : Program) (fn : Func) (R : Value → World → Prop) : Nor := fun e w => marks e = [] ∧
  ∃ v, (∀ tm : Array Value, (∀ t u, look e t = some u → tm.getD t undef = u) → (results fn tm).run P w = .ok v w) ∧ R v w

/-- The blocks for the rounds' deferred calls, shut one after the other. -/
def shut : List Nat → World → World
  | [], w => w
  | d :: ds, w => shut ds (w.putObj d (.deferred none))
def Opened (ds : List Nat) (w : World) : Prop := ds.Nodup ∧ ∀ d ∈ ds, w.heap[d]? = some (.deferred (some []))
/-- .. where loops over functions have left marks. -/
def ResM (P : Program) (fn : Func) (R : Value → World → Prop) : Nor := fun e w => Opened (marks e) w ∧
  ∃ v, (∀ tm : Array Value, (∀ t u, look e t = some u → tm.getD t undef = u) → (results fn tm).run P (shut (marks e) w) = .ok v (shut (marks e) w)) ∧ R v (shut (marks e) w)
theorem Res.toM {P : Program} {fn : Func} {R : Value → World → Prop} {e : Env} {w : World} (h : Res P fn R e w) : ResM P fn R e w := by
  obtain ⟨h1, v, hv, hR⟩ := h
  unfold ResM
  rw [h1]
  exact ⟨⟨List.nodup_nil, fun d hd => by cases hd⟩, v, hv, hR⟩

theorem leaves_marks {P : Program} {fn : Func} {tmps : Array Value} {R : Ending → World → Prop} {v : Value} : ∀ (ds : List Nat) (w : World), Opened ds w →
    (results fn tmps).run P (shut ds w) = .ok v (shut ds w) → R (.returned v) (shut ds w) → LeavesInM Fence.wide 0 P fn tmps R (ds.map markOf) .returning w := by
  intro ds
  induction ds with
  | nil => intro w _ hv hR; exact ⟨v, hv, hR⟩
  | cons d ds ih =>
    intro w ho hv hR
    have hd := ho.2 d (by simp)
    refine ⟨by simp, .inl ⟨d, w.putObj d (.deferred none), rfl, run_takeDeferred hd, ih _ ⟨(List.nodup_cons.1 ho.1).2, fun d' hd' => ?_⟩ hv hR⟩⟩
    rw [World.putObj_heap_other (fun e1 => (List.nodup_cons.1 ho.1).1 (by rw [← e1]; exact hd'))]
    exact ho.2 d' (by simp [hd'])

theorem enterM {P : Program} {f : FuncId} {fn : Func} {c : Code} {args : List Value} {n : Nat} {w : World} {R : Value → World → Prop} {e : Env}
    (hf : P.funcs[f]? = some fn) (hb : fn.body = some c) (hn : fn.ntmps = n) (hl : Nat.ble args.length n = true ∧ Nat.ble n 1000000000 = true) (he : envArgs 0 args = e)
    (h : WC P none n c (ResM P fn R) (ResM P fn R) (fun _ _ _ => False) (fun _ _ => False) e w) : Ret P f args w R := by
  refine (callsIn_wide (n := 0)).1 (callsIn_of_wp_marks (F := Fence.wide) hf hb trivial ?_)
  have hl' : args.length ≤ n := by simpa using hl.1
  have hk : Kn n e { tmps := args.toArray ++ Array.replicate (fn.ntmps - args.toArray.size) undef, defers := [] } := by
    have hle : n ≤ 1000000000 := by simpa using hl.2
    refine ⟨hle, by simp [hn]; omega, ?_, ?_⟩
    · rw [← he]
      have : marks (envArgs 0 args) = [] := by
        have : ∀ (vs : List Value) (i : Nat), i + vs.length ≤ 1000000000 → marks (envArgs i vs) = [] := by
          intro vs
          induction vs with
          | nil => intro i _; rfl
          | cons u vs ih =>
            intro i hi
            simp only [List.length_cons] at hi
            rw [envArgs, marks_cons (by omega)]
            exact ih (i + 1) (by omega)
        exact this args 0 (by omega)
      rw [this]; rfl
    intro t v ht
    rw [← he] at ht
    obtain ⟨j, hj, hv⟩ := look_envArgs args 0 t v ht
    have hjt : t = j := by omega
    subst hjt
    rw [Array.getD_eq_getD_getElem?]
    have hlt : t < args.length := (List.getElem?_eq_some_iff.1 hv).1
    have : (args.toArray ++ Array.replicate (fn.ntmps - args.toArray.size) undef)[t]? = some v := by
      rw [Array.getElem?_append_left (by simpa using hlt)]; simpa using hv
    rw [this]; rfl
  refine wpIn_mono (h _ hk) ?_
  intro ex a' w' hq
  have key : ∀ e', Kn n e' a' → ResM P fn R e' w' → LeavesInM Fence.wide 0 P fn a'.tmps (fun e w' => ∃ v, e = .returned v ∧ R v w') a'.defers .returning w' := by
    rintro e' hk' ⟨ho, v, hv, hR⟩
    rw [hk'.defers]
    exact leaves_marks _ _ ho (hv _ hk'.slot) ⟨v, rfl, hR⟩
  cases ex with
  | normal => obtain ⟨e', hk', hr⟩ := hq; exact key e' hk' hr
  | ret => obtain ⟨e', hk', hr⟩ := hq; exact key e' hk' hr
  | exit i => obtain ⟨_, _, hf⟩ := hq; exact hf.elim
  | panic ch => exact hq.2.elim
  | goto l => exact hq.elim
  | outgrown => exact hq.elim
theorem enter {P : Program} {f : FuncId} {fn : Func} {c : Code} {args : List Value} {n : Nat} {w : World} {R : Value → World → Prop} {e : Env}
    (hf : P.funcs[f]? = some fn) (hb : fn.body = some c) (hn : fn.ntmps = n) (hl : Nat.ble args.length n = true ∧ Nat.ble n 1000000000 = true) (he : envArgs 0 args = e)
    (h : WC P none n c (Res P fn R) (Res P fn R) (fun _ _ _ => False) (fun _ _ => False) e w) : Ret P f args w R :=
  enterM hf hb hn hl he (h.mono (fun _ _ h => h.toM) (fun _ _ h => h.toM) (fun _ _ _ h => h))

section
variable {P : Program} {fn : Func} {R : Value → World → Prop} {e : Env} {w : World}
theorem Res.zero (hm : marks e = []) (hr : fn.results = #[]) (h : R (.tuple #[]) w) : Res P fn R e w := ⟨hm, _, fun tm _ => results_none hr tm P w, h⟩
theorem Res.one {t : Nat} {v : Value} (hm : marks e = []) (hr : fn.results = #[.tmp t]) (hv : look e t = some v) (h : R v w) : Res P fn R e w :=
  ⟨hm, v, fun tm ht => by rw [results_tmp hr, ht t v hv], h⟩
theorem Res.two {t1 t2 : Nat} {v1 v2 : Value} (hm : marks e = []) (hr : fn.results = #[.tmp t1, .tmp t2]) (h1 : look e t1 = some v1) (h2 : look e t2 = some v2) (h : R (.tuple #[v1, v2]) w) : Res P fn R e w :=
  ⟨hm, _, fun tm ht => by rw [results_tmp2 hr, ht t1 v1 h1, ht t2 v2 h2], h⟩
theorem Res.three {t1 t2 t3 : Nat} {v1 v2 v3 : Value} (hm : marks e = []) (hr : fn.results = #[.tmp t1, .tmp t2, .tmp t3]) (h1 : look e t1 = some v1) (h2 : look e t2 = some v2) (h3 : look e t3 = some v3) (h : R (.tuple #[v1, v2, v3]) w) : Res P fn R e w :=
  ⟨hm, _, fun tm ht => by rw [results_tmp3 hr, ht t1 v1 h1, ht t2 v2 h2, ht t3 v3 h3], h⟩
/-- A result that lies in a block. -/
theorem Res.cell [T : TT P] {t b : Nat} {ty ty2 : TypeId} {i : TI} {cs : Array Value} {fr : Nat × Nat} (hm : marks e = []) (hr : fn.results = #[.cell t ty]) (ht : T.ti ty = some i) (h1 : isOne i.k = false) (hs : cs.size = i.size)
    (hv : look e t = some (.pointer (some ⟨b, 0, none⟩))) (hh : w.heap[b]? = some (.cells cs ty2 fr)) (h : R (.agg cs) w) : Res P fn R e w := by
  refine ⟨hm, _, fun tm htm => ?_, h⟩
  have hag : i.k.isAgg = true := by cases hk2 : i.k <;> rw [hk2] at h1 <;> first | rfl | (simp [isOne] at h1)
  have hagg := (T.ok ty i ht).isAgg w
  rw [hag] at hagg
  have hsz := (T.ok ty i ht).sizeOf w
  rw [← hs] at hsz
  have hc := run_loadCells_list (P := P) w ⟨b, 0, none⟩ cs.toList (fun j v hj => by rw [Addr.add_lit, Nat.zero_add]; exact cell_of_obj hh (by simpa using hj))
  simp only [Array.length_toList] at hc
  have hv2 := htm t _ hv
  rw [Array.getD_eq_getD_getElem?] at hv2
  simp [results, hr, hv2, asAddr, loadVar, hagg, hsz, hc]
end

/-! ### Regions that draw their order -/
theorem drewB (w : World) : w.grownBy { w with drawn := w.drawn + 1 } none := ⟨rfl, rfl, rfl, Nat.le_refl _, fun _ _ _ => rfl⟩

section
variable {P : Program} {ops : Array Oper} {md : Region.Mode} {C : World → Prop} {ro : Option Nat}
theorem wpOpIn_of_val {i : Nat} {o : Oper} {a : Act} {K : Act → World → Prop} {Q' : Exit → Act → World → Prop} {w : World} (ho : ops[i]? = some o) (hw : Region.wanted o (yielded ops a.tmps) = true)
    (h : o.uponIn (fen ro) 0 P a K Q' ((execOp a.eval o).run P w)) (hd : ∀ d w', (execOp a.eval o).run P w ≠ .ok (.defer d) w') (hh : ∀ x w', (execOp a.eval o).run P w ≠ .halt x w') : wpOpIn (fen ro) 0 P ops Q' i K a w := by
  unfold wpOpIn
  simp only [ho, hw, if_true]
  refine ⟨fun f _ => fen_fn ro f, ?_⟩
  cases hr : (execOp a.eval o).run P w with
  | ok x w' =>
    rw [semAt_ok hr (fun d e1 => hd d w' (by rw [hr, e1]))]
    rw [hr] at h; exact h
  | halt x w' => exact absurd hr (hh x w')
theorem wpOpIn_of_qOp {i : Nat} {a : Act} {K : Act → Prop} {K' : Act → World → Prop} {Q' : Exit → Act → World → Prop} {w : World} (hC : C w) (h : ∀ a w', C w' → K a → K' a w') (hh : qOp P ops C i K a) : wpOpIn (fen ro) 0 P ops Q' i K' a w := by
  unfold qOp at hh
  cases ho : ops[i]? with
  | none => unfold wpOpIn; rw [ho] at hh ⊢; exact h _ _ hC hh
  | some o =>
    rw [ho] at hh
    simp only at hh
    by_cases hw : Region.wanted o (yielded ops a.tmps) = true
    · rw [if_pos hw] at hh
      obtain ⟨v, h1, h2⟩ := hh
      have h3 := h1 w hC
      unfold Oper.quietAt at h3
      refine wpOpIn_of_val ho hw ?_ (fun d w' e1 => by rw [e1] at h3; exact h3) (fun x w' e1 => by rw [e1] at h3; exact h3)
      generalize (execOp a.eval o).run P w = r at *
      cases r with
      | ok x w' =>
        cases x <;> simp only [Oper.quietUpon] at h3
        case value u => obtain ⟨e1, e2⟩ := h3; rw [e1, e2]; exact h _ _ hC h2
        case skip => obtain ⟨e1, e2⟩ := h3; rw [e1, Oper.uponIn_skip, ← e2]; exact h _ _ hC h2
        case enter f args =>
          obtain ⟨e1, hc⟩ := h3
          rw [e1, Oper.uponIn_enter]
          exact ⟨fun h => (by rw [fen_depth] at h; cases h), CallsIn.mono (fen_calls hc) fun e w'' ⟨he, hw''⟩ => by subst he; exact h _ _ hw'' h2⟩
      | halt x w' => simp only [Oper.quietUpon] at h3
    · unfold wpOpIn
      rw [if_neg hw] at hh
      rw [ho]
      simp only
      rw [if_neg hw]
      exact ⟨fun f _ => fen_fn ro f, h _ _ hC hh⟩
theorem wpAnyIn_of_quiet {Q : Act → Prop} {Q' : Exit → Act → World → Prop} (hQ : ∀ a w, C w → Q a → Q' .normal a w) : ∀ (fuel : Nat) (listed : Array Bool) (a : Act) (w : World), C w →
    wpAnyQ P md ops C Q fuel listed a → wpAnyIn (fen ro) 0 P md ops Q' fuel listed a w
  | 0, _, _, _, hw, h => ⟨h.1, hQ _ _ hw h.2⟩
  | fuel + 1, _, _, _, hw, h => ⟨fun h0 => hQ _ _ hw (h.1 h0), fun i hi => wpOpIn_of_qOp hw (fun a' w' hw' => wpAnyIn_of_quiet hQ fuel _ a' w' hw') (h.2 i hi)⟩
theorem wpIn_quiet {id : Nat} {Q : Exit → Act → World → Prop} {a : Act} {w : World} (hm : P.follows .mixedOrders = true) (hB : Region.lexB .any ops = true) (hC : C { w with drawn := w.drawn + 1 })
    (h : wpQuiet P ops C (fun a' => ∀ w', C w' → Q .normal a' w') ops.toList a) : (Code.region id ops true).wpIn (fen ro) 0 P Q a w := by
  simp only [Region.lexB, Bool.and_eq_true] at hB
  refine wpIn_region_any hm (wpAnyIn_of_quiet (Q := fun a' => ∀ w', C w' → Q .normal a' w') (fun _ w' hw' h => h w' hw') _ _ _ _ hC ?_)
  have := wpAnyQ_lex (C := C) (md := .any) hB.1 ops.toList 0 (Array.replicate ops.size false) a (by simp) (by simpa using hB.2) h
  simpa using this
theorem wpOpIn_of_stOp {i : Nat} {a : Act} {K : Act → Prop} {K' : Act → World → Prop} {Q' : Exit → Act → World → Prop} {w : World} (h : ∀ a, K a → K' a w) (hh : stOp P ops w i K a) : wpOpIn (fen ro) 0 P ops Q' i K' a w := by
  unfold stOp at hh
  cases ho : ops[i]? with
  | none => unfold wpOpIn; rw [ho] at hh ⊢; exact h _ hh
  | some o =>
    rw [ho] at hh
    simp only at hh
    by_cases hw : Region.wanted o (yielded ops a.tmps) = true
    · rw [if_pos hw] at hh
      unfold Oper.still at hh
      refine wpOpIn_of_val ho hw ?_ (fun d w' e1 => by rw [e1] at hh; exact hh) (fun x w' e1 => by rw [e1] at hh; exact hh)
      generalize (execOp a.eval o).run P w = r at *
      cases r with
      | ok x w' =>
        cases x <;> simp only [Oper.stillUpon] at hh
        case value u => obtain ⟨e1, e2⟩ := hh; rw [e1]; exact h _ e2
        case skip => obtain ⟨e1, e2⟩ := hh; rw [e1, Oper.uponIn_skip]; exact h _ e2
        case enter f args =>
          obtain ⟨e1, v, hc, hn⟩ := hh
          rw [e1, Oper.uponIn_enter]
          exact ⟨fun h => (by rw [fen_depth] at h; cases h), CallsIn.mono (fen_calls hc) fun e w'' ⟨he, hw''⟩ => by subst he; subst hw''; exact h _ hn⟩
      | halt x w' => simp only [Oper.stillUpon] at hh
    · unfold wpOpIn
      rw [if_neg hw] at hh
      rw [ho]
      simp only
      rw [if_neg hw]
      exact ⟨fun f _ => fen_fn ro f, h _ hh⟩
theorem wpAnyIn_of_head {n g : Nat} {L : Array Bool → Act → Prop} {Q' : Exit → Act → World → Prop} {w : World} (hL : ∀ listed a, L listed a → wpAnyIn (fen ro) 0 P md ops Q' g listed a w) :
    ∀ (f : Nat) (listed : Array Bool) (a : Act), wpAnyL P md ops w n L f listed a → wpAnyIn (fen ro) 0 P md ops Q' (f + g) listed a w
  | 0, listed, a, h => by rw [Nat.zero_add]; exact hL _ _ h
  | f + 1, listed, a, h => by
    rw [show f + 1 + g = (f + g) + 1 by omega]
    exact ⟨fun h0 => absurd h0 h.1, fun i hi => wpOpIn_of_stOp (fun a' h' => wpAnyIn_of_head hL f _ a' h') (h.2 i hi).2⟩
theorem wpAnyIn_of_seq {Q' : Exit → Act → World → Prop} : ∀ (l : List Oper) (k : Nat) (listed : Array Bool) (a : Act) (w : World), (∀ j, l[j]? = ops[k + j]?) →
    Region.seqB md ops l.length k listed = true → wpListIn (fen ro) 0 P ops Q' l a w → wpAnyIn (fen ro) 0 P md ops Q' l.length listed a w
  | [], k, listed, a, w, _, hB, h => ⟨by simpa [Region.seqB] using hB, h⟩
  | o :: l, k, listed, a, w, hl, hB, h => by
    have h0 : ops[k]? = some o := by simpa using (hl 0).symm
    simp only [List.length_cons, Region.seqB, Bool.and_eq_true, decide_eq_true_eq] at hB
    refine ⟨fun h1 => (by rw [hB.1] at h1; cases h1), fun i hi => ?_⟩
    rw [hB.1] at hi
    have hik : i = k := by simpa using hi
    subst hik
    have hw : wpOpIn (fen ro) 0 P ops Q' i (wpListIn (fen ro) 0 P ops Q' l) a w := by unfold wpOpIn; simp only [h0]; exact h
    exact wpOpIn_mono (fun a' w' h' => wpAnyIn_of_seq l (i + 1) _ a' w' (fun j => by have := hl (j + 1); simpa [Nat.add_assoc, Nat.add_comm 1 j] using this) hB.2 h') hw
theorem wpIn_still_tail {id : Nat} {Q : Exit → Act → World → Prop} {a : Act} {w : World} {l : List Oper} (n : Nat) (hm : P.follows .mixedOrders = true) (hB : Region.lexTailB .any l.toArray n = true)
    (h : wpStill P l.toArray { w with drawn := w.drawn + 1 } (fun a' => wpListIn (fen ro) 0 P l.toArray Q (l.drop n) a' { w with drawn := w.drawn + 1 }) (l.take n) a) : (Code.region id l.toArray true).wpIn (fen ro) 0 P Q a w := by
  simp only [Region.lexTailB, Bool.and_eq_true, decide_eq_true_eq] at hB
  obtain ⟨⟨⟨⟨hsel, hn⟩, hs⟩, hc⟩, hlex⟩ := hB
  have hn' : n < l.length := by simpa using hn
  have htl : (l.take n).length = n := by simp; omega
  have hdl : (l.drop n).length = l.toArray.size - n := by simp
  have inv0 : HeadInv .any l.toArray n (Array.replicate l.toArray.size false) :=
    ⟨by simp, fun j oj _ hl => (by rw [getD_replicate_false] at hl; cases hl), fun t _ ht => getD_in (by simpa using ht) (getD_replicate_false _ _)⟩
  have H := wpAnyL_lex (md := .any) (g := l.toArray.size - n) hsel hs hc hn (l.take n) 0 _ a (fun j hj => by
    have hj' : j < n := by rw [htl] at hj; exact hj
    simp [hj']) (by simpa using htl) inv0 (by rw [htl]; exact hlex) h
  refine wpIn_region_any hm ?_
  have := wpAnyIn_of_head (ro := ro) (Q' := Q) (g := l.toArray.size - n) (fun listed a' hL => by
    have := wpAnyIn_of_seq (ro := ro) (md := .any) (Q' := Q) (l.drop n) n listed a' { w with drawn := w.drawn + 1 } (fun j => by simp [List.getElem?_drop]) (by rw [hdl]; exact hL.1) hL.2
    rwa [hdl] at this) _ _ _ H
  rw [htl, show n + (l.toArray.size - n) = l.toArray.size by omega] at this
  exact this
end

def WQ (P : Program) (n : Nat) (l0 : List Oper) (C : World → Prop) (M : Env → Prop) (l : List Oper) (e : Env) : Prop :=
  ∀ a, Kn n e a → wpQuiet P l0.toArray C (fun a' => ∃ e', Kn n e' a' ∧ M e') l a

section
variable {P : Program} [T : TT P] {ro : Option Nat} {n : Nat} {l0 rest : List Oper} {N R : Nor} {X : Ext} {Z : Pan} {e : Env} {w : World} {ty : TypeId} {pos : String} {aft : Array Edge} {g : Option (Nat × Bool)} {C : World → Prop} {M : Env → Prop} {op : Op}

/-- A region that draws and only reads, calls of functions that hand back numbers among it: in the text's order, in every world of a class. -/
theorem WC.regQ {id : Nat} {l : List Oper} (C : World → Prop) (hm : P.follows .mixedOrders = true) (hB : Region.lexB .any l.toArray = true) (hC : ∀ w', w.grownBy w' none → C w')
    (h : WQ P n l C (fun e' => ∀ w', C w' → N e' w') l e) : WC P ro n (.region id l.toArray true) N R X Z e w := by
  intro a ka
  refine wpIn_quiet (C := C) hm hB (hC _ (drewB w)) ?_
  have := h a ka
  have hmono : ∀ (l1 : List Oper) (a : Act) (Q Q' : Act → Prop), (∀ a, Q a → Q' a) → wpQuiet P l.toArray C Q l1 a → wpQuiet P l.toArray C Q' l1 a := by
    intro l1
    induction l1 with
    | nil => intro a Q Q' hq h1; exact hq a h1
    | cons o r ih =>
      intro a Q Q' hq h1
      simp only [wpQuiet] at h1 ⊢
      split
      · rename_i hw
        rw [if_pos hw] at h1
        exact Oper.quiet_mono (fun a' ha' => ih a' Q Q' hq ha') h1
      · rename_i hw
        rw [if_neg hw] at h1
        exact ih _ Q Q' hq h1
  refine hmono _ _ _ _ ?_ this
  rintro a' ⟨e', ke, hN⟩ w' hw'
  exact ⟨e', ke, hN w' hw'⟩

theorem WQ.le {l : List Oper} (h : n ≤ 1000000000 → WQ P n l0 C M l e) : WQ P n l0 C M l e := fun a ha => h ha.le a ha
theorem WQ.nil (h : M e) : WQ P n l0 C M [] e := fun a ka => ⟨e, ka, h⟩
theorem WQ.val {d : Nat} {v : Value} (hg : grd l0 e g = some true) (hd : Nat.blt d n = true) (hy : ∀ w, C w → Yv P e op ty w v w) (h : WQ P n l0 C M rest ((d, v) :: e)) :
    WQ P n l0 C M (⟨some d, op, ty, pos, aft, g⟩ :: rest) e := by
  intro a ka
  unfold wpQuiet
  rw [if_pos (by rw [grd_wanted ka (o := ⟨some d, op, ty, pos, aft, g⟩) hg])]
  refine ⟨v, fun w hw => ?_, h _ (ka.put hd)⟩
  unfold Oper.quietAt
  rw [hy w hw a.eval ka.agree]
  exact ⟨rfl, rfl⟩
theorem WQ.pure {d : Nat} {v : Value} (hg : grd l0 e g = some true) (hv : pureV T.ti e op = some v) (hd : Nat.blt d n = true) (h : WQ P n l0 C M rest ((d, v) :: e)) :
    WQ P n l0 C M (⟨some d, op, ty, pos, aft, g⟩ :: rest) e := WQ.val hg hd (fun w _ => pure_run hv) h
theorem WQ.off {d : Nat} {c : Bool} (hg : grd l0 e g = some c) (hc : c = false) (hd : Nat.blt d n = true) (h : WQ P n l0 C M rest ((d, undef) :: e)) :
    WQ P n l0 C M (⟨some d, op, ty, pos, aft, g⟩ :: rest) e := by
  intro a ka
  unfold wpQuiet
  rw [if_neg (by rw [grd_wanted ka (o := ⟨some d, op, ty, pos, aft, g⟩) hg, hc]; decide)]
  exact h _ (ka.put hd)
theorem WQ.load {d : Nat} {t : TypeId} {i : TI} {x : Operand} {p : Addr} {v : Value} (hg : grd l0 e g = some true) (ht : T.ti t = some i) (h1 : isOne i.k = true) (hx : opv e x = some (.pointer (some p))) (hd : Nat.blt d n = true)
    (hc : ∀ w, C w → w.cell? p = some v) (h : WQ P n l0 C M rest ((d, v) :: e)) : WQ P n l0 C M (⟨some d, .load t x, ty, pos, aft, g⟩ :: rest) e :=
  WQ.val hg hd (fun w hw => run_load1 ht h1 hx (hc w hw)) h
theorem WQ.call {d : Nat} {fo : Operand} {f : FuncId} {fi ca : Array Value} {args : Array Operand} {tys : Array TypeId} {vs all : List Value} {v : Value}
    (hg : grd l0 e g = some true) (hf : opv e fo = some (.func (.func f) fi ca)) (ha : opvs e args.toList = some vs) (hall : fi.toList ++ vs ++ ca.toList = all) (hd : Nat.blt d n = true) (hE : Ents P f)
    (hc : ∀ w, C w → Ret P f all w fun u w' => u = v ∧ C w') (h : WQ P n l0 C M rest ((d, v) :: e)) :
    WQ P n l0 C M (⟨some d, .call ⟨.value fo, args, tys⟩, ty, pos, aft, g⟩ :: rest) e := by
  intro a ka
  unfold wpQuiet
  rw [if_pos (by rw [grd_wanted ka (o := ⟨some d, .call ⟨.value fo, args, tys⟩, ty, pos, aft, g⟩) hg])]
  refine ⟨v, fun w hw => ?_, h _ (ka.put hd)⟩
  unfold Oper.quietAt
  rw [callee_run (P := P) (w := w) (ty := ty) hf ha hall hE a.eval ka.agree]
  refine ⟨rfl, Calls.mono (hc w hw) ?_⟩
  rintro en w' ⟨u, rfl, rfl, hw'⟩
  exact ⟨rfl, hw'⟩
theorem WQ.known {d : Nat} {v : Value} {l : List Oper} (hd : look e d = some v) (h : WQ P n l0 C M l ((d, v) :: e)) : WQ P n l0 C M l e := fun a ha =>
  h a (ha.known hd)
theorem WQ.split (d : Nat) {b : Bool} {l : List Oper} (hd : look e d = some (.bool b)) (ht : b = true → WQ P n l0 C M l ((d, .bool true) :: e))
    (hf : b = false → WQ P n l0 C M l ((d, .bool false) :: e)) : WQ P n l0 C M l e := by
  cases b with
  | true => exact (ht rfl).known hd
  | false => exact (hf rfl).known hd
/-- An element of a slice, read, in every world of the class. -/
theorem WQ.ixload {d1 d2 : Nat} {t t2 E : TypeId} {i : TI} {x ix : Operand} {b o len cap j : Nat} {k : IntKind} {v z : Value} {s b2 : Nat} {ty2 : TypeId} {pos2 : String} {aft2 : Array Edge} {g2 : Option (Nat × Bool)}
    (hg : grd l0 e g = some true) (hg2 : ∀ p, grd l0 ((d1, p) :: e) g2 = some true)
    (ht : T.ti t = some ⟨.slice E, z, s, b2⟩) (hi : T.ti E = some i) (hone : i.size = 1) (ht2 : T.ti t2 = some i) (h1 : isOne i.k = true)
    (hx : opv e x = some (.slice (some ⟨b, o, none⟩) len cap)) (hix : opv e ix = some (.int k (j : Nat))) (hj : j < len) (hd1 : Nat.blt d1 n = true) (hd2 : Nat.blt d2 n = true)
    (hc : ∀ w, C w → w.cell? ⟨b, o + j, none⟩ = some v)
    (h : WQ P n l0 C M rest ((d2, v) :: (d1, .pointer (some ⟨b, o + j, none⟩)) :: e)) :
    WQ P n l0 C M (⟨some d1, .indexAddr t x ix, ty, pos, aft, g⟩ :: ⟨some d2, .load t2 (.tmp d1), ty2, pos2, aft2, g2⟩ :: rest) e := by
  have hu : P.underlying t = some (.slice E) := (T.ok t _ ht).k
  refine WQ.le fun hle => WQ.val (v := .pointer (some ⟨b, o + j, none⟩)) hg hd1 ?_ (WQ.load (hg2 _) ht2 h1 (opv_head hd1 hle) hd2 hc h)
  intro w hw ρ hρ d' pos' aft' g'
  have hsz := (T.ok E i hi).sizeOf w
  rw [hone] at hsz
  have c1 : (0 : Int) ≤ (j : Int) ∧ (j : Int) < (len : Int) := ⟨by omega, by omega⟩
  simp only [execOp, hρ _ _ hx, hρ _ _ hix, Instr.indexAt, asIntOf, Sem.run_bind, Sem.run_pure, Result.andThen_ok, run_underlying hu]
  rw [if_pos c1]
  simp [hsz, Addr.add_lit]

/-! #### .. reads first, and one chain of operations behind them that writes -/
def WS (P : Program) (n : Nat) (l0 : List Oper) (w : World) (M : Env → Prop) (l : List Oper) (e : Env) : Prop :=
  ∀ a, Kn n e a → wpStill P l0.toArray w (fun a' => ∃ e', Kn n e' a' ∧ M e') l a
theorem WC.regS {id : Nat} {l : List Oper} (m : Nat) (hm : P.follows .mixedOrders = true) (hB : Region.lexTailB .any l.toArray m = true) {l1 l2 : List Oper} (h1 : l.take m = l1) (h2 : l.drop m = l2)
    (h : ∀ w', w.grownBy w' none → w'.heap = w.heap → WS P n l w' (fun e' => WL P ro n l N Z l2 e' w') l1 e) : WC P ro n (.region id l.toArray true) N R X Z e w := by
  intro a ka
  refine wpIn_still_tail m hm hB ?_
  rw [h1, h2]
  have := h _ (drewB w) rfl a ka
  have hmono : ∀ (l1 : List Oper) (a : Act) (w : World) (Q Q' : Act → Prop), (∀ a, Q a → Q' a) → wpStill P l.toArray w Q l1 a → wpStill P l.toArray w Q' l1 a := by
    intro l1
    induction l1 with
    | nil => intro a w Q Q' hq h1; exact hq a h1
    | cons o r ih =>
      intro a w Q Q' hq h1
      simp only [wpStill] at h1 ⊢
      split
      · rename_i hw
        rw [if_pos hw] at h1
        unfold Oper.still at h1 ⊢
        generalize (execOp a.eval o).run P w = rr at *
        cases rr with
        | halt x w1 => exact h1
        | ok x w1 =>
          cases x <;> simp only [Oper.stillUpon] at h1 ⊢ <;> first
            | exact h1
            | exact ⟨h1.1, ih _ _ Q Q' hq h1.2⟩
            | (obtain ⟨ha, v, hv, hn⟩ := h1; exact ⟨ha, v, hv, ih _ _ Q Q' hq hn⟩)
      · rename_i hw
        rw [if_neg hw] at h1
        exact ih _ _ Q Q' hq h1
  refine hmono _ _ _ _ _ ?_ this
  rintro a' ⟨e', ke, hN⟩
  have hq := hN a' ke
  have hm2 : ∀ (l1 : List Oper) (a : Act) (w : World) (Q Q' : Exit → Act → World → Prop), (∀ x a w, Q x a w → Q' x a w) → wpListIn (fen ro) 0 P l.toArray Q l1 a w → wpListIn (fen ro) 0 P l.toArray Q' l1 a w := by
    intro l1
    induction l1 with
    | nil => intro a w Q Q' hq h1; exact hq _ a w h1
    | cons o r ih =>
      intro a w Q Q' hq h1
      simp only [wpListIn] at h1 ⊢
      split
      · rename_i hw
        rw [if_pos hw] at h1
        refine ⟨h1.1, ?_⟩
        have h2 := h1.2
        generalize (o.semAt (fen ro).round a.eval).run P w = rr at *
        cases rr with
        | halt x w1 => cases x <;> simp only [Oper.uponIn] at h2 ⊢ <;> first | exact h2 | exact hq _ _ _ h2
        | ok x w1 =>
          cases x <;> simp only [Oper.uponIn] at h2 ⊢ <;> first
            | exact h2
            | exact ih _ _ Q Q' hq h2
            | (refine ⟨h2.1, CallsIn.mono h2.2 ?_⟩; intro en w2 hen; cases en <;> first | exact ih _ _ Q Q' hq hen | exact hq _ _ _ hen | (obtain ⟨a0, w0, h0⟩ := hen; exact ⟨a0, w0, hq _ _ _ h0⟩))
            | (refine ⟨h2.1, RowsIn.mono h2.2 ?_⟩; intro v w2 hen; exact ih _ _ Q Q' hq hen)
            | (refine ⟨h2.1, RoundIn.mono h2.2 ?_⟩; intro en w2 hen; cases en <;> first | exact ih _ _ Q Q' hq hen | exact hq _ _ _ hen | (obtain ⟨a0, w0, h0⟩ := hen; exact ⟨a0, w0, hq _ _ _ h0⟩))
      · rename_i hw
        rw [if_neg hw] at h1
        exact ⟨h1.1, ih _ _ Q Q' hq h1.2⟩
  refine hm2 _ _ _ _ _ ?_ hq
  intro x a2 w2 hx
  cases x with
  | ret => obtain ⟨_, _, hf⟩ := hx; exact hf.elim
  | exit i => obtain ⟨_, _, hf⟩ := hx; exact hf.elim
  | _ => exact hx

theorem WS.nil (h : M e) : WS P n l0 w M [] e := fun a ka => ⟨e, ka, h⟩
theorem WS.val {d : Nat} {v : Value} (hg : grd l0 e g = some true) (hd : Nat.blt d n = true) (hy : Yv P e op ty w v w) (h : WS P n l0 w M rest ((d, v) :: e)) :
    WS P n l0 w M (⟨some d, op, ty, pos, aft, g⟩ :: rest) e := by
  intro a ka
  unfold wpStill
  rw [if_pos (by rw [grd_wanted ka (o := ⟨some d, op, ty, pos, aft, g⟩) hg])]
  unfold Oper.still
  rw [hy a.eval ka.agree]
  exact ⟨rfl, h _ (ka.put hd)⟩
theorem WS.pure {d : Nat} {v : Value} (hg : grd l0 e g = some true) (hv : pureV T.ti e op = some v) (hd : Nat.blt d n = true) (h : WS P n l0 w M rest ((d, v) :: e)) :
    WS P n l0 w M (⟨some d, op, ty, pos, aft, g⟩ :: rest) e := WS.val hg hd (pure_run hv) h
theorem WS.off {d : Nat} {c : Bool} (hg : grd l0 e g = some c) (hc : c = false) (hd : Nat.blt d n = true) (h : WS P n l0 w M rest ((d, undef) :: e)) :
    WS P n l0 w M (⟨some d, op, ty, pos, aft, g⟩ :: rest) e := by
  intro a ka
  unfold wpStill
  rw [if_neg (by rw [grd_wanted ka (o := ⟨some d, op, ty, pos, aft, g⟩) hg, hc]; decide)]
  exact h _ (ka.put hd)
theorem WS.load {d : Nat} {t : TypeId} {i : TI} {x : Operand} {p : Addr} {v : Value} (hg : grd l0 e g = some true) (ht : T.ti t = some i) (h1 : isOne i.k = true) (hx : opv e x = some (.pointer (some p))) (hd : Nat.blt d n = true)
    (hc : w.cell? p = some v) (h : WS P n l0 w M rest ((d, v) :: e)) : WS P n l0 w M (⟨some d, .load t x, ty, pos, aft, g⟩ :: rest) e :=
  WS.val hg hd (run_load1 ht h1 hx hc) h
theorem WS.loadB {d b j : Nat} {t t' : TypeId} {i : TI} {x : Operand} {arr : Array Value} {fr : Nat × Nat} {v : Value} (hg : grd l0 e g = some true) (ht : T.ti t = some i) (h1 : isOne i.k = true)
    (hx : opv e x = some (.pointer (some ⟨b, j, none⟩))) (hd : Nat.blt d n = true)
    (hc : w.heap[b]? = some (.cells arr t' fr)) (hv : nth arr.toList j = some v) (h : WS P n l0 w M rest ((d, v) :: e)) : WS P n l0 w M (⟨some d, .load t x, ty, pos, aft, g⟩ :: rest) e :=
  WS.load hg ht h1 hx hd (cell_of_obj hc (by rw [nth_eq] at hv; simpa using hv)) h
theorem WS.call {d : Nat} {fo : Operand} {f : FuncId} {fi ca : Array Value} {args : Array Operand} {tys : Array TypeId} {vs all : List Value} {v : Value}
    (hg : grd l0 e g = some true) (hf : opv e fo = some (.func (.func f) fi ca)) (ha : opvs e args.toList = some vs) (hall : fi.toList ++ vs ++ ca.toList = all) (hd : Nat.blt d n = true) (hE : Ents P f)
    (hc : Ret P f all w fun u w' => u = v ∧ w' = w) (h : WS P n l0 w M rest ((d, v) :: e)) :
    WS P n l0 w M (⟨some d, .call ⟨.value fo, args, tys⟩, ty, pos, aft, g⟩ :: rest) e := by
  intro a ka
  unfold wpStill
  rw [if_pos (by rw [grd_wanted ka (o := ⟨some d, .call ⟨.value fo, args, tys⟩, ty, pos, aft, g⟩) hg])]
  unfold Oper.still
  rw [callee_run (P := P) (w := w) (ty := ty) hf ha hall hE a.eval ka.agree]
  refine ⟨rfl, v, Calls.mono hc ?_, h _ (ka.put hd)⟩
  rintro en w' ⟨u, rfl, rfl, rfl⟩
  exact ⟨rfl, rfl⟩
theorem WS.known {d : Nat} {v : Value} {l : List Oper} (hd : look e d = some v) (h : WS P n l0 w M l ((d, v) :: e)) : WS P n l0 w M l e := fun a ha =>
  h a (ha.known hd)
theorem WS.split (d : Nat) {b : Bool} {l : List Oper} (hd : look e d = some (.bool b)) (ht : b = true → WS P n l0 w M l ((d, .bool true) :: e))
    (hf : b = false → WS P n l0 w M l ((d, .bool false) :: e)) : WS P n l0 w M l e := by
  cases b with
  | true => exact (ht rfl).known hd
  | false => exact (hf rfl).known hd
theorem WS.ix {d : Nat} {t E : TypeId} {i : TI} {x ix : Operand} {b o len cap j : Nat} {k : IntKind} {z : Value} {s b2 : Nat}
    (hg : grd l0 e g = some true) (ht : T.ti t = some ⟨.slice E, z, s, b2⟩) (hi : T.ti E = some i)
    (hx : opv e x = some (.slice (some ⟨b, o, none⟩) len cap)) (hix : opv e ix = some (.int k (j : Nat))) (hj : j < len) (hd : Nat.blt d n = true)
    (h : WS P n l0 w M rest ((d, .pointer (some ⟨b, o + j * i.size, none⟩)) :: e)) :
    WS P n l0 w M (⟨some d, .indexAddr t x ix, ty, pos, aft, g⟩ :: rest) e := by
  have hu : P.underlying t = some (.slice E) := (T.ok t _ ht).k
  have hsz := (T.ok E i hi).sizeOf w
  refine WS.val hg hd ?_ h
  intro ρ hρ d' pos' aft' g'
  have c1 : (0 : Int) ≤ (j : Int) ∧ (j : Int) < (len : Int) := ⟨by omega, by omega⟩
  simp only [execOp, hρ _ _ hx, hρ _ _ hix, Instr.indexAt, asIntOf, Sem.run_bind, Sem.run_pure, Result.andThen_ok, run_underlying hu]
  rw [if_pos c1]
  simp [hsz, Addr.add_lit]
end
end Go.W
