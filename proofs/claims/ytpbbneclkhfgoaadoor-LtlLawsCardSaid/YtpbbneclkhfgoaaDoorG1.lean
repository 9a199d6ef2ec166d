/- Texts on the way to LtlLaws, one behind the other: MW SW Ya Yb Yc Yg Yh. -/
import Derived.WalkKit
import Derived.WalkLawsBesides
import Derived.WalkSpells
import Derived.BigQuiet
import Derived.Deep.QuietTactic
import Derived.StillTailTactics
import Derived.Deep.LoopGhost
import Derived.RangeFuncRecord
import Derived.TacticsIn
import Derived.OrdersIn
import Derived.Shelf.Abstract
import Derived.OrdersHeld
import Derived.Laws.StructEq
import Derived.Laws.DeepStrings4
import Derived.Laws.Concat
import Derived.Laws.BytesString
import Derived.Lib.Strings
import Derived.MapKept
import Derived.Laws.Bits64b
section
/- W: a layer over the kit: frames known in part, the world by facts; each operation is one lemma. -/
set_option linter.unusedVariables false
set_option linter.unusedSectionVars false
/- W: a layer over the library's rules of the walk: the frame is known in part (a list of slots with their values), the world by facts; each operation is one lemma. -/
namespace Go.W
open Go.RowKit

/-! ### The frame, known in part -/
abbrev Env := List (Nat × Value)
/-- The slot's number under which an Env tells the marks of the loops over functions. -/
def mk : Nat := 1000000000
def look : Env → Nat → Option Value
  | [], _ => none
  | (s, v) :: r, t => match Nat.beq s t with
    | true => match Nat.beq s 1000000000 with
      | true => none
      | false => some v
    | false => look r t
def dec : Value → List Nat
  | .tuple vs => vs.toList.map fun x => match x with
    | .int _ n => n.toNat
    | _ => 0
  | _ => []
def enc (ds : List Nat) : Value := .tuple (ds.map fun (d : Nat) => Value.int .i64 d).toArray
def marks : Env → List Nat
  | [] => []
  | (s, v) :: r => match Nat.beq s 1000000000 with
    | true => dec v
    | false => marks r
def markOf (d : Nat) : Deferred := { target := .collected d, args := #[] }

theorem look_cons {s : Nat} {v u : Value} {r : Env} {t : Nat} (h : look ((s, v) :: r) t = some u) : (s = t ∧ s ≠ 1000000000 ∧ v = u) ∨ (s ≠ t ∧ look r t = some u) := by
  simp only [look] at h
  cases hb : Nat.beq s t with
  | true =>
    rw [hb] at h
    simp only at h
    cases hm : Nat.beq s 1000000000 with
    | true => rw [hm] at h; cases h
    | false =>
      rw [hm] at h
      simp only [Option.some.injEq] at h
      exact .inl ⟨Nat.eq_of_beq_eq_true hb, (fun e1 => by rw [e1] at hm; cases hm), h⟩
  | false => rw [hb] at h; exact .inr ⟨(fun e1 => by rw [e1, Nat.beq_refl] at hb; cases hb), h⟩
theorem look_ne {e : Env} {t : Nat} {v : Value} (h : look e t = some v) : t ≠ 1000000000 := by
  induction e with
  | nil => cases h
  | cons p r ih =>
    obtain ⟨s, u⟩ := p
    rcases look_cons h with ⟨h1, h2, _⟩ | ⟨_, h1⟩
    · rw [← h1]; exact h2
    · exact ih h1
theorem marks_cons {s : Nat} {v : Value} {r : Env} (h : s ≠ 1000000000) : marks ((s, v) :: r) = marks r := by
  simp only [marks]
  cases hb : Nat.beq s 1000000000 with
  | true => exact absurd (Nat.eq_of_beq_eq_true hb) h
  | false => rfl

structure Kn (n : Nat) (e : Env) (a : Act) : Prop where
  le : n ≤ 1000000000
  size : a.tmps.size = n
  defers : a.defers = (marks e).map markOf
  slot : ∀ t v, look e t = some v → a.tmps.getD t undef = v

def opv (e : Env) : Operand → Option Value
  | .tmp t => look e t
  | .const v => some v
  | .global g => some (.pointer (some ⟨g, 0, none⟩))
  | .func f => some (.func (.func f) #[] #[])

def Agree (e : Env) (ρ : Operand → Value) : Prop := ∀ x v, opv e x = some v → ρ x = v

theorem Kn.agree {n : Nat} {e : Env} {a : Act} (h : Kn n e a) : Agree e a.eval := by
  intro x v hx
  cases x with
  | tmp t => exact h.slot t v hx
  | const u => simpa [opv, Act.eval] using hx
  | global g => simpa [opv, Act.eval] using hx
  | func f => simpa [opv, Act.eval] using hx

theorem getD_set_same {xs : Array Value} {d : Nat} {v u : Value} (h : d < xs.size) : (xs.setIfInBounds d v).getD d u = v := by
  simp [Array.getD, h]
theorem getD_set_other {xs : Array Value} {d t : Nat} {v u : Value} (h : d ≠ t) : (xs.setIfInBounds d v).getD t u = xs.getD t u := by
  simp only [Array.getD_eq_getD_getElem?]
  rw [Array.getElem?_setIfInBounds_ne h]

theorem Kn.put {n d : Nat} {e : Env} {a : Act} {v : Value} (h : Kn n e a) (hd : Nat.blt d n = true) : Kn n ((d, v) :: e) (a.put (some d) v) := by
  have hd' : d < n := by simpa [Nat.blt_eq] using hd
  have hle := h.le
  refine ⟨h.le, by simp [Act.put, h.size], by rw [marks_cons (by omega)]; exact h.defers, fun t u ht => ?_⟩
  rcases look_cons ht with ⟨e1, _, e2⟩ | ⟨e1, e2⟩
  · subst e1; subst e2
    exact getD_set_same (by rw [h.size]; exact hd')
  · show (a.tmps.setIfInBounds d v).getD t undef = u
    rw [getD_set_other e1]
    exact h.slot t u e2

theorem Kn.put_none {n : Nat} {e : Env} {a : Act} {v : Value} (h : Kn n e a) : Kn n e (a.put none v) := h

/-- A part of what is known: all marks, some slots. -/
def SubG (m : List Nat) : Env → Env → Prop
  | [], e => m = marks e
  | (s, v) :: r, e => look e s = some v ∧ SubG m r e
/-- The marks are told in one entry, at the head, or there are none. -/
def cut : Env → List Nat × Env
  | [] => ([], [])
  | (s, v) :: r => match Nat.beq s 1000000000 with
    | true => (dec v, r)
    | false => ([], (s, v) :: r)
def Sub (e' e : Env) : Prop := SubG (cut e').1 (cut e').2 e

theorem SubG.look {m : List Nat} {e' e : Env} (h : SubG m e' e) : ∀ t v, W.look e' t = some v → W.look e t = some v := by
  induction e' with
  | nil => intro t v ht; simp [W.look] at ht
  | cons p r ih =>
    intro t v ht
    obtain ⟨s, u⟩ := p
    rcases look_cons ht with ⟨e1, _, e2⟩ | ⟨_, e2⟩
    · rw [← e1, ← e2]; exact h.1
    · exact ih h.2 t v e2
theorem SubG.marks {m : List Nat} {e' e : Env} (h : SubG m e' e) : m = W.marks e := by
  induction e' with
  | nil => exact h
  | cons p r ih => exact ih h.2
theorem SubG.none {m : List Nat} {e' e : Env} (h : SubG m e' e) : ∀ p ∈ e', p.1 ≠ 1000000000 := by
  induction e' with
  | nil => intro p hp; cases hp
  | cons p r ih =>
    intro q hq
    rcases List.mem_cons.1 hq with hq | hq
    · rw [hq]; exact look_ne h.1
    · exact ih h.2 q hq
theorem marks_none {e : Env} (h : ∀ p ∈ e, p.1 ≠ 1000000000) : marks e = [] := by
  induction e with
  | nil => rfl
  | cons p r ih =>
    obtain ⟨s, v⟩ := p
    rw [marks_cons (h (s, v) (by simp))]
    exact ih fun q hq => h q (by simp [hq])
theorem Sub.look {e' e : Env} (h : Sub e' e) : ∀ t v, W.look e' t = some v → W.look e t = some v := by
  intro t v ht
  refine SubG.look h t v ?_
  cases e' with
  | nil => exact ht
  | cons p r =>
    obtain ⟨s, u⟩ := p
    simp only [cut]
    cases hb : Nat.beq s 1000000000 with
    | true =>
      rcases look_cons ht with ⟨_, e1, _⟩ | ⟨_, e2⟩
      · exact absurd (Nat.eq_of_beq_eq_true hb) e1
      · exact e2
    | false => exact ht
theorem Sub.marks {e' e : Env} (h : Sub e' e) : W.marks e' = W.marks e := by
  have h1 := SubG.marks h
  have h2 := SubG.none h
  rw [← h1]
  cases e' with
  | nil => rfl
  | cons p r =>
    obtain ⟨s, u⟩ := p
    simp only [cut] at h2 ⊢
    cases hb : Nat.beq s 1000000000 with
    | true => simp only [W.marks, hb]
    | false =>
      rw [hb] at h2
      exact marks_none h2

theorem Kn.sub {n : Nat} {e e' : Env} {a : Act} (h : Kn n e a) (hs : Sub e' e) : Kn n e' a :=
  ⟨h.le, h.size, by rw [hs.marks]; exact h.defers, fun t v ht => h.slot t v (hs.look t v ht)⟩
theorem Kn.known {n d : Nat} {e : Env} {a : Act} {v : Value} (h : Kn n e a) (hd : look e d = some v) : Kn n ((d, v) :: e) a :=
  ⟨h.le, h.size, by rw [marks_cons (look_ne hd)]; exact h.defers, fun t u ht => by
    rcases look_cons ht with ⟨e1, _, e2⟩ | ⟨_, e2⟩
    · rw [← e1, ← e2]; exact h.slot _ _ hd
    · exact h.slot _ _ e2⟩

/-! ### Where code may end -/
abbrev Nor := Env → World → Prop
abbrev Ext := Nat → Env → World → Prop
abbrev Pan := List PanicEntry → World → Prop

def Post (n : Nat) (N R : Nor) (X : Ext) (Z : Pan) : Exit → Act → World → Prop
  | .normal, a, w => ∃ e, Kn n e a ∧ N e w
  | .ret, a, w => ∃ e, Kn n e a ∧ R e w
  | .exit i, a, w => ∃ e, Kn n e a ∧ X i e w
  | .panic ch, a, w => a.defers = [] ∧ Z ch w
  | _, _, _ => False

/-- Where code runs: in an activation of a function (none), or in a round of a loop over a function. -/
def fen : Option Nat → Fence
  | none => Fence.wide
  | some l => Fence.wide.inRound l
theorem fen_fn (ro : Option Nat) (f : FuncId) : (fen ro).fn f := by cases ro <;> exact trivial
theorem fen_depth (ro : Option Nat) : (fen ro).depth = none := by cases ro <;> rfl
theorem fen_calls {P : Program} {ro : Option Nat} {f : FuncId} {args : Array Value} {w : World} {R : Ending → World → Prop} (h : Calls P f args w R) : CallsIn (fen ro) 0 P f args w R := by
  have h1 : CallsIn Fence.wide 0 P f args w R := callsIn_wide.2 h
  cases ro with
  | none => exact h1
  | some l => exact ⟨trivial, fun cs hr => h1.2 cs (room_wide _)⟩

def WC (P : Program) (ro : Option Nat) (n : Nat) (c : Code) (N R : Nor) (X : Ext) (Z : Pan) (e : Env) (w : World) : Prop :=
  ∀ a, Kn n e a → c.wpIn (fen ro) 0 P (Post n N R X Z) a w

section
variable {P : Program} {ro : Option Nat} {n : Nat} {N R : Nor} {X : Ext} {Z : Pan} {e : Env} {w : World}

theorem WC.seq {x y : Code} (h : WC P ro n x (fun e' w' => WC P ro n y N R X Z e' w') R X Z e w) : WC P ro n (.seq x y) N R X Z e w := by
  intro a ha
  refine wpIn_seq (wpIn_mono (h a ha) ?_)
  intro ex a' w' hq
  cases ex with
  | normal => obtain ⟨e', hk, hw⟩ := hq; exact hw a' hk
  | _ => exact hq

theorem zA {x y : Code} (h : WC P ro n x (fun e' w' => WC P ro n y N R X Z e' w') R X Z e w) : WC P ro n (.seq x y) N R X Z e w := by
  intro a ha
  refine wpIn_seq (wpIn_mono (h a ha) ?_)
  intro ex a' w' hq
  cases ex with
  | normal => obtain ⟨e', hk, hw⟩ := hq; exact hw a' hk
  | _ => exact hq

theorem WC.skip (h : N e w) : WC P ro n .skip N R X Z e w := fun a ha => wpIn_skip ⟨e, ha, h⟩
theorem zE (h : N e w) : WC P ro n .skip N R X Z e w := fun a ha => wpIn_skip ⟨e, ha, h⟩
theorem WC.ret (h : R e w) : WC P ro n .ret N R X Z e w := fun a ha => wpIn_ret ⟨e, ha, h⟩
theorem zN (h : R e w) : WC P ro n .ret N R X Z e w := fun a ha => wpIn_ret ⟨e, ha, h⟩
theorem WC.exit {i : Nat} (h : X i e w) : WC P ro n (.exit i) N R X Z e w := fun a ha => wpIn_exit ⟨e, ha, h⟩

theorem zK {i : Nat} (h : X i e w) : WC P ro n (.exit i) N R X Z e w := fun a ha => wpIn_exit ⟨e, ha, h⟩

def blk (id : Nat) (N : Nor) (X : Ext) : Ext := fun i e w => if i = id then N e w else X i e w
theorem blk_hit {id : Nat} (h : N e w) : blk id N X id e w := by unfold blk; rw [if_pos rfl]; exact h
theorem zL {id : Nat} (h : N e w) : blk id N X id e w := by unfold blk; rw [if_pos rfl]; exact h
theorem blk_miss {id i : Nat} (hi : Nat.beq i id = false) (h : X i e w) : blk id N X i e w := by
  unfold blk; rw [if_neg (fun e1 => by subst e1; rw [Nat.beq_refl] at hi; cases hi)]; exact h

theorem zM {id i : Nat} (hi : Nat.beq i id = false) (h : X i e w) : blk id N X i e w := by
  unfold blk; rw [if_neg (fun e1 => by subst e1; rw [Nat.beq_refl] at hi; cases hi)]; exact h

theorem WC.block {id : Nat} {c : Code} (h : WC P ro n c N R (blk id N X) Z e w) : WC P ro n (.block id c) N R X Z e w := by
  intro a ha
  refine wpIn_block (wpIn_mono (h a ha) ?_)
  intro ex a' w' hq
  cases ex with
  | exit i =>
    obtain ⟨e', hk, hx⟩ := hq
    unfold blk at hx
    show if i = id then _ else _
    by_cases hi : i = id
    · rw [if_pos hi] at hx ⊢; exact ⟨e', hk, hx⟩
    · rw [if_neg hi] at hx ⊢; exact ⟨e', hk, hx⟩
  | _ => exact hq

theorem zF {id : Nat} {c : Code} (h : WC P ro n c N R (blk id N X) Z e w) : WC P ro n (.block id c) N R X Z e w := by
  intro a ha
  refine wpIn_block (wpIn_mono (h a ha) ?_)
  intro ex a' w' hq
  cases ex with
  | exit i =>
    obtain ⟨e', hk, hx⟩ := hq
    unfold blk at hx
    show if i = id then _ else _
    by_cases hi : i = id
    · rw [if_pos hi] at hx ⊢; exact ⟨e', hk, hx⟩
    · rw [if_neg hi] at hx ⊢; exact ⟨e', hk, hx⟩
  | _ => exact hq

theorem WC.cond {c : Operand} {x y : Code} {b : Bool} (hc : opv e c = some (.bool b)) (ht : b = true → WC P ro n x N R X Z e w) (hf : b = false → WC P ro n y N R X Z e w) :
    WC P ro n (.cond c x y) N R X Z e w := by
  intro a ha
  exact wpIn_cond_split (ha.agree c _ hc) (fun h => ht h a ha) (fun h => hf h a ha)
theorem WC.condT {c : Operand} {x y : Code} (hc : opv e c = some (.bool true)) (h : WC P ro n x N R X Z e w) : WC P ro n (.cond c x y) N R X Z e w :=
  fun a ha => wpIn_cond_true (ha.agree c _ hc) (h a ha)
theorem zG {c : Operand} {x y : Code} (hc : opv e c = some (.bool true)) (h : WC P ro n x N R X Z e w) : WC P ro n (.cond c x y) N R X Z e w :=
  fun a ha => wpIn_cond_true (ha.agree c _ hc) (h a ha)
theorem WC.condF {c : Operand} {x y : Code} (hc : opv e c = some (.bool false)) (h : WC P ro n y N R X Z e w) : WC P ro n (.cond c x y) N R X Z e w :=
  fun a ha => wpIn_cond_false (ha.agree c _ hc) (h a ha)

theorem zH {c : Operand} {x y : Code} (hc : opv e c = some (.bool false)) (h : WC P ro n y N R X Z e w) : WC P ro n (.cond c x y) N R X Z e w :=
  fun a ha => wpIn_cond_false (ha.agree c _ hc) (h a ha)

theorem WC.sub {c : Code} {e' : Env} (hs : Sub e' e) (h : WC P ro n c N R X Z e' w) : WC P ro n c N R X Z e w := fun a ha => h a (ha.sub hs)

theorem WC.mono {c : Code} {N' R' : Nor} {X' : Ext} (h : WC P ro n c N R X Z e w) (hN : ∀ e w, N e w → N' e w) (hR : ∀ e w, R e w → R' e w) (hX : ∀ i e w, X i e w → X' i e w) :
    WC P ro n c N' R' X' Z e w := fun a ha => wpIn_mono (h a ha) fun ex a' w' hq => by
  cases ex with
  | normal => obtain ⟨e', hk, hw⟩ := hq; exact ⟨e', hk, hN _ _ hw⟩
  | ret => obtain ⟨e', hk, hw⟩ := hq; exact ⟨e', hk, hR _ _ hw⟩
  | exit i => obtain ⟨e', hk, hw⟩ := hq; exact ⟨e', hk, hX _ _ _ hw⟩
  | _ => exact hq

theorem wpIn_loop_gh {F : Fence} {m : Nat} {Q : Exit → Act → World → Prop} {a : Act} {c : Code} (I : Nat → Act → World → Prop) (n₀ : Nat) (h₀ : I n₀ a w)
    (round : ∀ k a w, I k a w → c.wpIn F m P (Exit.then (fun a' w' => ∃ n', n' < k ∧ I n' a' w') Q) a w) : (Code.loop c).wpIn F m P Q a w := by
  refine wpIn_loop (fun a w => ∃ k, I k a w) (fun a w => leastOf (fun k => I k a w)) ⟨n₀, h₀⟩ ?_
  intro a w hI
  refine wpIn_mono (round _ a w (leastOf_spec hI).1) ?_
  intro e a' w' hq
  cases e with
  | normal =>
    obtain ⟨n', hlt, hI'⟩ := hq
    exact show (∃ k, I k a' w') ∧ leastOf (fun k => I k a' w') < leastOf (fun k => I k a w) from ⟨⟨n', hI'⟩, Nat.lt_of_le_of_lt ((leastOf_spec ⟨n', hI'⟩).2 n' hI') hlt⟩
  | exit id => exact hq
  | goto l => exact hq
  | ret => exact hq
  | panic ch => exact hq
  | outgrown => exact hq

/-- A loop: states of a type of one's own, each with its slots; what holds of a state and the world; a measure. -/
theorem WC.loop {c : Code} (σ : Type) (E : σ → Env) (Φ : σ → World → Prop) (μ : σ → Nat) (s₀ : σ) (h₀ : Sub (E s₀) e) (hΦ : Φ s₀ w)
    (hb : ∀ s w, Φ s w → WC P ro n c (fun e' w' => ∃ s', μ s' < μ s ∧ Sub (E s') e' ∧ Φ s' w') R X Z (E s) w) :
    WC P ro n (.loop c) N R X Z e w := by
  intro a ha
  refine wpIn_loop_gh (fun k a w => ∃ s, μ s = k ∧ Kn n (E s) a ∧ Φ s w) (μ s₀) ⟨s₀, rfl, ha.sub h₀, hΦ⟩ ?_
  rintro k a w ⟨s, rfl, hk, hs⟩
  refine wpIn_mono (hb s w hs a hk) ?_
  intro ex a' w' hq
  cases ex with
  | normal => obtain ⟨e', hk', s', hlt, hsub, hs'⟩ := hq; exact ⟨μ s', hlt, s', rfl, hk'.sub hsub, hs'⟩
  | _ => exact hq
end

section
variable {P : Program} {ro : Option Nat} {n : Nat} {N R : Nor} {X : Ext} {Z : Pan} {e : Env} {w : World}
/-- What is known in the middle. -/
theorem WC.mid {c : Code} (σ : Type) (E : σ → Env) (Φ : σ → World → Prop) (hx : WC P ro n c (fun e' w' => ∃ s, Sub (E s) e' ∧ Φ s w') R X Z e w)
    (hy : ∀ s e' w', Sub (E s) e' → Φ s w' → N e' w') : WC P ro n c N R X Z e w :=
  hx.mono (fun e' w' ⟨s, h1, h2⟩ => hy s e' w' h1 h2) (fun _ _ h => h) (fun _ _ _ h => h)
end

/-! ### Operations -/
def Q1 (n : Nat) (N : Nor) (Z : Pan) : Exit → Act → World → Prop := Post n N (fun _ _ => False) (fun _ _ _ => False) Z

def WL (P : Program) (ro : Option Nat) (n : Nat) (l0 : List Oper) (N : Nor) (Z : Pan) (l : List Oper) (e : Env) (w : World) : Prop :=
  ∀ a, Kn n e a → wpListIn (fen ro) 0 P l0.toArray (Q1 n N Z) l a w

theorem semAt_ok {P : Program} {ro : Option Nat} {o : Oper} {ρ : Operand → Value} {w w' : World} {x : Next} (h : (execOp ρ o).run P w = .ok x w') (hx : ∀ d, x ≠ .defer d) : (o.semAt ro ρ).run P w = .ok x w' := by
  by_cases hd : ∃ c, o.op = .defer c
  · obtain ⟨c, hc⟩ := hd
    exfalso
    have : execOp ρ o = (do pure (.defer (← resolve ρ c o.type)) : Sem Next) := by unfold execOp; rw [hc]
    rw [this, Sem.run_bind] at h
    cases hr : (resolve ρ c o.type).run P w with
    | ok d w2 => rw [hr] at h; simp only [Result.andThen_ok, Sem.run_pure, Result.ok.injEq] at h; exact hx d h.1.symm
    | halt y w2 => rw [hr] at h; simp [Result.andThen] at h
  · rw [Oper.semAt_eq ro ρ o (fun c hc => hd ⟨c, hc⟩)]; exact h

section
variable {P : Program} {ro : Option Nat} {n : Nat} {N R : Nor} {X : Ext} {Z : Pan} {e : Env} {w : World}
theorem WC.reg {id : Nat} {l : List Oper} (h : WL P ro n l N Z l e w) : WC P ro n (.region id l.toArray false) N R X Z e w := by
  intro a ha
  refine wpIn_mono (wpIn_region_lit (h a ha)) ?_
  intro ex a' w' hq
  cases ex with
  | ret => obtain ⟨_, _, hf⟩ := hq; exact hf.elim
  | exit i => obtain ⟨_, _, hf⟩ := hq; exact hf.elim
  | _ => exact hq
theorem zB {id : Nat} {l : List Oper} (h : WL P ro n l N Z l e w) : WC P ro n (.region id l.toArray false) N R X Z e w := by
  intro a ha
  refine wpIn_mono (wpIn_region_lit (h a ha)) ?_
  intro ex a' w' hq
  cases ex with
  | ret => obtain ⟨_, _, hf⟩ := hq; exact hf.elim
  | exit i => obtain ⟨_, _, hf⟩ := hq; exact hf.elim
  | _ => exact hq
end

/-- Is an operation wanted, as far as its guard can be told. -/
def grd (l0 : List Oper) (e : Env) : Option (Nat × Bool) → Option Bool
  | none => some true
  | some (j, want) => match l0[j]? with
    | some o => match o.dst with
      | some d => match look e d with
        | some (.bool b) => match want with
          | true => some b
          | false => some !b
        | some (.tuple _) => some false
        | _ => none
      | none => none
    | none => none

theorem look_slot {n : Nat} {e : Env} {a : Act} (h : Kn n e a) {d : Nat} {v : Value} (hd : look e d = some v) (hv : v ≠ undef) : a.tmps[d]? = some v := by
  have := h.slot d v hd
  rw [Array.getD_eq_getD_getElem?] at this
  cases hx : a.tmps[d]? with
  | none => rw [hx] at this; exact absurd this.symm hv
  | some u => rw [hx] at this; simpa using this

theorem grd_wanted {n : Nat} {l0 : List Oper} {e : Env} {a : Act} (h : Kn n e a) {o : Oper} {c : Bool} (hg : grd l0 e o.guard = some c) : Region.wanted o (yielded l0.toArray a.tmps) = c := by
  unfold Region.wanted
  cases hgu : o.guard with
  | none => rw [hgu] at hg; simp only [grd, Option.some.injEq] at hg; exact hg
  | some p =>
    obtain ⟨j, want⟩ := p
    rw [hgu] at hg
    simp only [grd] at hg
    cases ho : l0[j]? with
    | none => rw [ho] at hg; simp at hg
    | some o' =>
      rw [ho] at hg
      simp only at hg
      cases hd : o'.dst with
      | none => rw [hd] at hg; simp at hg
      | some d =>
        rw [hd] at hg
        simp only at hg
        cases hl : look e d with
        | none => rw [hl] at hg; simp at hg
        | some v =>
          rw [hl] at hg
          cases v <;> simp only at hg <;> try (cases hg; done)
          · rename_i b
            have hs := look_slot h hl (by intro hh; cases hh)
            simp only [yielded]
            simp only [List.getElem?_toArray, ho, Option.bind_some, hd, hs]
            cases want <;> simp only [Option.some.injEq] at hg <;> subst hg <;> cases b <;> rfl
          · rename_i vs
            simp only [Option.some.injEq] at hg
            subst hg
            have hs := h.slot d _ hl
            rw [Array.getD_eq_getD_getElem?] at hs
            simp only [yielded]
            simp only [List.getElem?_toArray, ho, Option.bind_some, hd]
            cases hx : a.tmps[d]? with
            | none => cases want <;> rfl
            | some u =>
              rw [hx] at hs
              simp only [Option.getD_some] at hs
              subst hs
              cases want <;> rfl

/-- What an operation does: it yields 'v'. -/
def Yv (P : Program) (e : Env) (op : Op) (ty : TypeId) (w : World) (v : Value) (w' : World) : Prop :=
  ∀ ρ, Agree e ρ → ∀ d pos aft g, (execOp ρ ⟨d, op, ty, pos, aft, g⟩).run P w = .ok (.value v) w'
/-- .. or nothing. -/
def Ys (P : Program) (e : Env) (op : Op) (ty : TypeId) (w w' : World) : Prop :=
  ∀ ρ, Agree e ρ → ∀ d pos aft g, (execOp ρ ⟨d, op, ty, pos, aft, g⟩).run P w = .ok .skip w'

section
variable {P : Program} {ro : Option Nat} {n : Nat} {l0 rest : List Oper} {N : Nor} {Z : Pan} {e : Env} {w w' : World} {op : Op} {ty : TypeId} {pos : String} {aft : Array Edge} {g : Option (Nat × Bool)}

theorem WL.le {l : List Oper} (h : n ≤ 1000000000 → WL P ro n l0 N Z l e w) : WL P ro n l0 N Z l e w := fun a ha => h ha.le a ha
theorem opv_head {n d : Nat} {e : Env} {v : Value} (hd : Nat.blt d n = true) (hle : n ≤ 1000000000) : opv ((d, v) :: e) (.tmp d) = some v := by
  have h1 : d < n := by simpa [Nat.blt_eq] using hd
  have h2 : Nat.beq d 1000000000 = false := by
    cases hb : Nat.beq d 1000000000 with
    | false => rfl
    | true => have := Nat.eq_of_beq_eq_true hb; omega
  simp only [opv, look, Nat.beq_refl, h2]
theorem WL.nil (h : N e w) : WL P ro n l0 N Z [] e w := fun a ha => wpListIn_nil ⟨e, ha, h⟩
theorem zD (h : N e w) : WL P ro n l0 N Z [] e w := fun a ha => wpListIn_nil ⟨e, ha, h⟩
theorem WL.val {d : Nat} {c : Bool} {v : Value} (hg : grd l0 e g = some c) (hc : c = true) (hd : Nat.blt d n = true) (hy : Yv P e op ty w v w')
    (h : WL P ro n l0 N Z rest ((d, v) :: e) w') : WL P ro n l0 N Z (⟨some d, op, ty, pos, aft, g⟩ :: rest) e w := by
  intro a ha
  unfold wpListIn
  rw [if_pos (by rw [grd_wanted ha (o := ⟨some d, op, ty, pos, aft, g⟩) hg]; exact hc)]
  refine ⟨fun f _ => fen_fn ro f, ?_⟩
  rw [semAt_ok (hy a.eval ha.agree _ _ _ _) (fun d h => by cases h)]
  exact h _ (ha.put hd)

theorem WL.skip {c : Bool} (hg : grd l0 e g = some c) (hc : c = true) (hy : Ys P e op ty w w')
    (h : WL P ro n l0 N Z rest e w') : WL P ro n l0 N Z (⟨none, op, ty, pos, aft, g⟩ :: rest) e w := by
  intro a ha
  unfold wpListIn
  rw [if_pos (by rw [grd_wanted ha (o := ⟨none, op, ty, pos, aft, g⟩) hg]; exact hc)]
  refine ⟨fun f _ => fen_fn ro f, ?_⟩
  rw [semAt_ok (hy a.eval ha.agree _ _ _ _) (fun d h => by cases h)]
  exact h _ ha.put_none

/-- An operation whose guard says no. -/
theorem WL.off {d : Nat} {c : Bool} (hg : grd l0 e g = some c) (hc : c = false) (hd : Nat.blt d n = true)
    (h : WL P ro n l0 N Z rest ((d, undef) :: e) w) : WL P ro n l0 N Z (⟨some d, op, ty, pos, aft, g⟩ :: rest) e w := by
  intro a ha
  unfold wpListIn
  rw [if_neg (by rw [grd_wanted ha (o := ⟨some d, op, ty, pos, aft, g⟩) hg, hc]; decide)]
  exact ⟨fun f _ => fen_fn ro f, h _ (ha.put hd)⟩
theorem zI {d : Nat} {c : Bool} (hg : grd l0 e g = some c) (hc : c = false) (hd : Nat.blt d n = true)
    (h : WL P ro n l0 N Z rest ((d, undef) :: e) w) : WL P ro n l0 N Z (⟨some d, op, ty, pos, aft, g⟩ :: rest) e w := by
  intro a ha
  unfold wpListIn
  rw [if_neg (by rw [grd_wanted ha (o := ⟨some d, op, ty, pos, aft, g⟩) hg, hc]; decide)]
  exact ⟨fun f _ => fen_fn ro f, h _ (ha.put hd)⟩
theorem WL.off0 {c : Bool} (hg : grd l0 e g = some c) (hc : c = false)
    (h : WL P ro n l0 N Z rest e w) : WL P ro n l0 N Z (⟨none, op, ty, pos, aft, g⟩ :: rest) e w := by
  intro a ha
  unfold wpListIn
  rw [if_neg (by rw [grd_wanted ha (o := ⟨none, op, ty, pos, aft, g⟩) hg, hc]; decide)]
  exact ⟨fun f _ => fen_fn ro f, h _ ha.put_none⟩

theorem zJ {c : Bool} (hg : grd l0 e g = some c) (hc : c = false)
    (h : WL P ro n l0 N Z rest e w) : WL P ro n l0 N Z (⟨none, op, ty, pos, aft, g⟩ :: rest) e w := by
  intro a ha
  unfold wpListIn
  rw [if_neg (by rw [grd_wanted ha (o := ⟨none, op, ty, pos, aft, g⟩) hg, hc]; decide)]
  exact ⟨fun f _ => fen_fn ro f, h _ ha.put_none⟩

theorem WL.known {d : Nat} {v : Value} {l : List Oper} (hd : look e d = some v) (h : WL P ro n l0 N Z l ((d, v) :: e) w) : WL P ro n l0 N Z l e w := fun a ha =>
  h a (ha.known hd)
theorem WC.known {d : Nat} {v : Value} {c : Code} {R : Nor} {X : Ext} (hd : look e d = some v) (h : WC P ro n c N R X Z ((d, v) :: e) w) : WC P ro n c N R X Z e w := fun a ha =>
  h a (ha.known hd)
/-- A slot that holds a truth value: both cases. -/
theorem WL.split (d : Nat) {b : Bool} {l : List Oper} (hd : look e d = some (.bool b)) (ht : b = true → WL P ro n l0 N Z l ((d, .bool true) :: e) w)
    (hf : b = false → WL P ro n l0 N Z l ((d, .bool false) :: e) w) : WL P ro n l0 N Z l e w := by
  cases b with
  | true => exact (ht rfl).known hd
  | false => exact (hf rfl).known hd
end
end Go.W

/- W, second part: what is reckoned without the world: numbers, truth values, parts of values; by a table of the program's types. -/
namespace Go.W
open Go.RowKit

inductive TK where
  | int (k : IntKind) | bool | string | slice (e : TypeId) | array (n : Nat) (e : TypeId) | struct (fs : List (Nat × TypeId)) | map (k v : TypeId) | pointer (e : TypeId) | func | iface

structure TI where
  k : TK
  zero : Value
  size : Nat
  bytes : Nat

def kOk (P : Program) (t : TypeId) : TK → Prop
  | .int k => P.underlying t = some (.int k)
  | .bool => P.underlying t = some .bool
  | .string => P.underlying t = some .string
  | .slice e => P.underlying t = some (.slice e)
  | .array n e => P.underlying t = some (.array n e)
  | .struct fs => ∃ farr : Array Field, P.underlying t = some (.struct farr) ∧ farr.toList.map (fun f => (f.offset, f.type)) = fs
  | .map k v => P.underlying t = some (.map k v)
  | .pointer e => P.underlying t = some (.pointer e)
  | .func => ∃ a b c, P.underlying t = some (.func a b c)
  | .iface => ∃ a, P.underlying t = some (.interface a)

structure TIok (P : Program) (t : TypeId) (i : TI) : Prop where
  k : kOk P t i.k
  info : (P.info? t).map (fun j => (j.zero, j.size, j.bytes)) = some (some i.zero, i.size, i.bytes)

/-- The table of the types that a program's code names. -/
class TT (P : Program) where
  ti : Nat → Option TI
  ok : ∀ t i, ti t = some i → TIok P t i

section
variable {P : Program} {t : TypeId} {i : TI}
theorem TIok.sizeOf (h : TIok P t i) (w : World) : (sizeOf t).run P w = .ok i.size w := by
  obtain ⟨j, hj, hjj⟩ := Option.map_eq_some_iff.1 h.info
  simp only [Prod.mk.injEq] at hjj
  simp [Go.sizeOf, typeInfo, hj, hjj.2.1]
theorem TIok.zeroValue (h : TIok P t i) (w : World) : (zeroValue t).run P w = .ok i.zero w := by
  obtain ⟨j, hj, hjj⟩ := Option.map_eq_some_iff.1 h.info
  simp only [Prod.mk.injEq] at hjj
  simp [Go.zeroValue, typeInfo, hj, hjj.1]
theorem kOk.isSome {k : TK} (h : kOk P t k) : ∃ d, P.underlying t = some d := by
  cases k <;> simp only [kOk] at h <;> first | exact ⟨_, h⟩ | (obtain ⟨_, h, _⟩ := h; exact ⟨_, h⟩) | (obtain ⟨_, _, _, h⟩ := h; exact ⟨_, h⟩) | (obtain ⟨_, h⟩ := h; exact ⟨_, h⟩)

def TK.isAgg : TK → Bool
  | .struct _ => true
  | .array _ _ => true
  | _ => false
theorem TIok.isAgg (h : TIok P t i) (w : World) : (isAgg t).run P w = .ok i.k.isAgg w := by
  have hk := h.k
  unfold Go.isAgg
  cases hh : i.k <;> rw [hh] at hk <;> simp only [kOk] at hk <;>
    first
      | simp [run_underlying hk, TK.isAgg]
      | (obtain ⟨_, hk, _⟩ := hk; simp [run_underlying hk, TK.isAgg])
      | (obtain ⟨_, _, _, hk⟩ := hk; simp [run_underlying hk, TK.isAgg])
      | (obtain ⟨_, hk⟩ := hk; simp [run_underlying hk, TK.isAgg])
end

/-! ### Numbers -/
def shl (k : IntKind) (a : Int) (m : Nat) : Int := k.wrap (a * 2 ^ (min m k.bits))
def shr (k : IntKind) (a : Int) (m : Nat) : Int := a.fdiv (2 ^ (min m k.bits))

def intOp : BinOp → IntKind → Int → Int → Option Value
  | .add, k, a, b => some (.int k (k.wrap (a + b)))
  | .sub, k, a, b => some (.int k (k.wrap (a - b)))
  | .mul, k, a, b => some (.int k (k.wrap (a * b)))
  | .quo, k, a, .ofNat (m + 1) => some (.int k (k.wrap (a.tdiv (.ofNat (m + 1)))))
  | .rem, k, a, .ofNat (m + 1) => some (.int k (a.tmod (.ofNat (m + 1))))
  | .and, k, a, b => some (.int k (bits .and k a b))
  | .or, k, a, b => some (.int k (bits .or k a b))
  | .xor, k, a, b => some (.int k (bits .xor k a b))
  | .andNot, k, a, b => some (.int k (bits .andNot k a b))
  | .eql, _, a, b => some (.bool (a == b))
  | .neq, _, a, b => some (.bool (a != b))
  | .lss, _, a, b => some (.bool (decide (a < b)))
  | .leq, _, a, b => some (.bool (decide (a ≤ b)))
  | .gtr, _, a, b => some (.bool (decide (b < a)))
  | .geq, _, a, b => some (.bool (decide (b ≤ a)))
  | _, _, _, _ => none

def shOp : BinOp → IntKind → Int → Int → Option Value
  | .shl, k, a, .ofNat m => some (.int k (shl k a m))
  | .shr, k, a, .ofNat m => some (.int k (shr k a m))
  | _, _, _, _ => none

def isSh : BinOp → Bool
  | .shl => true
  | .shr => true
  | _ => false

def binV (op : BinOp) : Value → Value → Option Value
  | .int k a, .int j b => match isSh op with
    | true => shOp op k a b
    | false => if k = j then intOp op k a b else none
  | _, _ => none

theorem binV_run {P : Program} {op : BinOp} {x y v : Value} {t : TypeId} {ox oy : Operand} {w : World} (h : binV op x y = some v) :
    (do eqGuard op t ox oy x y; binOp op t x y : Sem Value).run P w = .ok v w := by
  cases x <;> cases y <;> simp only [binV] at h <;> try (cases h; done)
  rename_i k a j b
  rw [eqGuard_at_int]
  cases hs : isSh op with
  | true =>
    rw [hs] at h
    cases op <;> simp only [isSh] at hs <;> try (cases hs; done)
    all_goals
      cases b <;> simp only [shOp] at h <;> try (cases h; done)
      simp only [Option.some.injEq] at h
      subst h
      simp [binOp, Op.shift, shl, shr]
      intro hneg; omega
  | false =>
    rw [hs] at h
    simp only at h
    split at h
    · rename_i hk
      subst hk
      cases op <;> simp only [isSh] at hs <;> try (cases hs; done)
      all_goals
        first
          | (simp only [intOp, Option.some.injEq] at h; subst h; simp [binOp, Op.intArith, Op.intBits, Op.intCmp, bits, GT.gt, GE.ge]; done)
          | (cases b with
             | ofNat m =>
               cases m with
               | zero => simp [intOp] at h
               | succ m =>
                 simp only [intOp, Option.some.injEq] at h
                 subst h
                 have : (Int.ofNat (m + 1)) ≠ 0 := fun hh => by cases hh
                 simp only [binOp, Op.intDiv, ne_eq, not_true_eq_false, if_false, if_neg this]
                 rfl
             | negSucc m => simp [intOp] at h)
    · cases h

def unV : UnOp → Value → Option Value
  | .neg, .int k a => some (.int k (k.wrap (0 - a)))
  | .xor, .int k a => match k.signed with
    | true => some (.int k (bits .xor k (-1) a))
    | false => some (.int k (bits .xor k k.max a))
  | .not, .bool b => some (.bool !b)
  | _, _ => none
theorem unV_run {P : Program} {op : UnOp} {x v : Value} {w : World} (h : unV op x = some v) : (Op.unary op x).run P w = .ok v w := by
  cases op <;> cases x <;> simp only [unV] at h <;> try (cases h; done)
  · simp only [Option.some.injEq] at h; subst h; simp [Op.unary, Op.intArith]
  all_goals
    first
      | (simp only [Option.some.injEq] at h; subst h; simp [Op.unary]; done)
      | (rename_i k a; cases hk : k.signed <;> rw [hk] at h <;> simp only [Option.some.injEq] at h <;> subst h <;> simp [Op.unary, Op.intBits, bits, hk])

def opvs (e : Env) : List Operand → Option (List Value)
  | [] => some []
  | x :: xs => match opv e x with
    | some v => match opvs e xs with
      | some r => some (v :: r)
      | none => none
    | none => none
theorem opvs_agree {e : Env} {ρ : Operand → Value} (h : Agree e ρ) {xs : List Operand} {vs : List Value} (hx : opvs e xs = some vs) : xs.map ρ = vs := by
  induction xs generalizing vs with
  | nil => simp only [opvs, Option.some.injEq] at hx; simp [← hx]
  | cons x xs ih =>
    simp only [opvs] at hx
    cases h1 : opv e x with
    | none => rw [h1] at hx; cases hx
    | some v =>
      rw [h1] at hx
      cases h2 : opvs e xs with
      | none => rw [h2] at hx; cases hx
      | some r =>
        rw [h2] at hx
        simp only [Option.some.injEq] at hx
        rw [← hx, List.map_cons, ih h2, h x v h1]

theorem opvs_arr {e : Env} {ρ : Operand → Value} (h : Agree e ρ) {xs : Array Operand} {vs : List Value} (hx : opvs e xs.toList = some vs) : xs.map ρ = vs.toArray := by
  rw [← opvs_agree h hx, ← Array.toList_inj]; simp

def nth {α : Type} : List α → Nat → Option α
  | [], _ => none
  | x :: _, 0 => some x
  | _ :: r, n + 1 => nth r n
theorem nth_eq {α : Type} (l : List α) (j : Nat) : nth l j = l[j]? := by
  induction l generalizing j with
  | nil => rfl
  | cons x r ih => cases j with
    | zero => rfl
    | succ j => simp [nth, ih]

def isOne : TK → Bool
  | .struct _ => false
  | .array _ _ => false
  | _ => true

def fieldV (tt : Nat → Option TI) (t : TypeId) (x : Value) (j : Nat) : Option Value :=
  match tt t, x with
  | some ⟨.struct fs, _, _, _⟩, .agg cs => match nth fs j with
    | some (o, ft) => match tt ft with
      | some fi => match isOne fi.k with
        | true => nth cs.toList o
        | false => none
      | none => none
    | none => none
  | _, _ => none

def indexV (tt : Nat → Option TI) (t : TypeId) (x : Value) (i : Value) : Option Value :=
  match tt t, x, i with
  | some ⟨.array n et, _, _, _⟩, .agg cs, .int _ (.ofNat m) => match Nat.blt m n with
    | true => match tt et with
      | some fi => match isOne fi.k, fi.size with
        | true, 1 => nth cs.toList m
        | _, _ => none
      | none => none
    | false => none
  | _, _, _ => none

def fieldAddrV (tt : Nat → Option TI) (t : TypeId) (x : Value) (j : Nat) : Option Value :=
  match tt t, x with
  | some ⟨.struct fs, _, _, _⟩, .pointer (some ⟨b, o, none⟩) => match nth fs j with
    | some (off, ft) => match tt ft with
      | some fi => match fi.size with
        | 0 => none
        | _ + 1 => some (.pointer (some ⟨b, o + off, none⟩))
      | none => none
    | none => none
  | _, _ => none

def indexAddrV (tt : Nat → Option TI) (t : TypeId) (x : Value) (i : Value) : Option Value :=
  match tt t, x, i with
  | some ⟨.array n et, _, _, _⟩, .pointer (some ⟨b, o, none⟩), .int _ (.ofNat m) => match Nat.blt m n with
    | true => match tt et with
      | some fi => some (.pointer (some ⟨b, o + m * fi.size, none⟩))
      | none => none
    | false => none
  | _, _, _ => none

def convV (tt : Nat → Option TI) (s d : TypeId) : Value → Option Value
  | .int _ n => match tt s, tt d with
    | some _, some ⟨.int k, _, _, _⟩ => some (.int k (k.wrap n))
    | _, _ => none
  | .string b => match tt s, tt d with
    | some ⟨.string, _, _, _⟩, some ⟨.string, _, _, _⟩ => some (.string b)
    | _, _ => none
  | _ => none

def lenV (tt : Nat → Option TI) (t : TypeId) : Value → Option Value
  | .slice _ n _ => match tt t with
    | some ⟨.slice _, _, _, _⟩ => some (.int .i64 n)
    | _ => none
  | .string s => match tt t with
    | some ⟨.string, _, _, _⟩ => some (.int .i64 s.size)
    | _ => none
  | .pointer (some _) => match tt t with
    | some ⟨.array n _, _, _, _⟩ => some (.int .i64 n)
    | _ => none
  | .agg _ => match tt t with
    | some ⟨.array n _, _, _, _⟩ => some (.int .i64 n)
    | _ => none
  | _ => none

def mnV : List Value → Option Value
  | [.int k a, .int _ b] => some (.int k (min a b))
  | _ => none
def mxV : List Value → Option Value
  | [.int k a, .int _ b] => some (.int k (max a b))
  | _ => none

def extractV (x : Value) (j : Nat) : Option Value :=
  match x with
  | .tuple vs => nth vs.toList j
  | _ => none

def boolEq (op : BinOp) (x y : Value) : Option Value :=
  match op, x, y with
  | .eql, .bool a, .bool b => some (.bool (a == b))
  | .neq, .bool a, .bool b => some (.bool (!(a == b)))
  | _, _, _ => none

def callV (tt : Nat → Option TI) (e : Env) (c : Call) : Option Value :=
  match c.callee with
  | .builtin .len => match c.args.toList, c.argTypes.toList with
    | [x], [t] => match opv e x with
      | some v => lenV tt t v
      | none => none
    | _, _ => none
  | .builtin .min => match opvs e c.args.toList with
    | some vs => mnV vs
    | none => none
  | .builtin .max => match opvs e c.args.toList with
    | some vs => mxV vs
    | none => none
  | _ => none

def pureV (tt : Nat → Option TI) (e : Env) : Op → Option Value
  | .move x => opv e x
  | .assign x => opv e x
  | .pick c x y => match opv e c with
    | some (.bool b) => match b with
      | true => opv e x
      | false => opv e y
    | _ => none
  | .binOp op t x y _ => match opv e x, opv e y with
    | some u, some v => match binV op u v with
      | some r => some r
      | none => match tt t with
        | some ⟨.bool, _, _, _⟩ => boolEq op u v
        | _ => none
    | _, _ => none
  | .unOp op _ x => match opv e x with
    | some u => unV op u
    | none => none
  | .convert s d x => match opv e x with
    | some u => convV tt s d u
    | none => none
  | .field t x j => match opv e x with
    | some u => fieldV tt t u j
    | none => none
  | .index t x i => match opv e x, opv e i with
    | some u, some v => indexV tt t u v
    | _, _ => none
  | .fieldAddr t x j => match opv e x with
    | some u => fieldAddrV tt t u j
    | none => none
  | .indexAddr t x i => match opv e x, opv e i with
    | some u, some v => indexAddrV tt t u v
    | _, _ => none
  | .extract x j => match opv e x with
    | some u => extractV u j
    | none => none
  | .makeFunc fn first captured => match opvs e first.toList, opvs e captured.toList with
    | some a, some b => some (.func fn a.toArray b.toArray)
    | _, _ => none
  | .call c => callV tt e c
  | _ => none

section
variable {P : Program} [T : TT P] {e : Env} {w : World} {ty : TypeId}

theorem field_run {t : TypeId} {x v : Value} {j : Nat} (h : fieldV T.ti t x j = some v) : (Instr.field t x j).run P w = .ok v w := by
  unfold fieldV at h
  split at h <;> try (cases h; done)
  rename_i fs z s b cs ht
  have hk := T.ok t _ ht
  obtain ⟨farr, hu, hf⟩ := hk.k
  split at h <;> try (cases h; done)
  rename_i o ft hn
  split at h <;> try (cases h; done)
  rename_i fi hfi
  split at h <;> try (cases h; done)
  rename_i h1
  rw [nth_eq] at hn h
  rw [← hf] at hn
  simp only [List.getElem?_map, Option.map_eq_some_iff] at hn
  obtain ⟨f, hff, hfo⟩ := hn
  simp only [Prod.mk.injEq] at hfo
  have hagg := (T.ok ft fi hfi).isAgg w
  have hag : fi.k.isAgg = false := by cases hk2 : fi.k <;> rw [hk2] at h1 <;> first | rfl | (simp [isOne] at h1)
  rw [hag] at hagg
  have hff' : farr[j]? = some f := by simpa using hff
  have hcs : cs[o]? = some v := by simpa using h
  simp [Instr.field, run_underlying hu, hff', part, hfo.2, hfo.1, hagg, asAgg, hcs]

theorem index_run {t : TypeId} {x v i : Value} (h : indexV T.ti t x i = some v) : (Instr.index t x i).run P w = .ok v w := by
  unfold indexV at h
  split at h <;> try (cases h; done)
  rename_i n et z s b cs k m ht
  have hk := T.ok t _ ht
  have hu : P.underlying t = some (.array n et) := hk.k
  split at h <;> try (cases h; done)
  rename_i hlt
  have hlt' : m < n := by simpa [Nat.blt_eq] using hlt
  split at h <;> try (cases h; done)
  rename_i fi hfi
  split at h <;> try (cases h; done)
  rename_i h1 hs
  rw [nth_eq] at h
  have hagg := (T.ok et fi hfi).isAgg w
  have hag : fi.k.isAgg = false := by cases hk2 : fi.k <;> rw [hk2] at h1 <;> first | rfl | (simp [isOne] at h1)
  rw [hag] at hagg
  have hsz := (T.ok et fi hfi).sizeOf w
  rw [hs] at hsz
  have hcs : cs[m]? = some v := by simpa using h
  have c1 : (0 : Int) ≤ Int.ofNat m ∧ Int.ofNat m < (n : Int) := ⟨by simp, by simp; omega⟩
  simp only [Instr.index, asIntOf, Sem.run_bind, Sem.run_pure, Result.andThen_ok, run_underlying hu]
  rw [if_pos c1]
  simp [hsz, part, hagg, hcs]

theorem fieldAddr_run {t : TypeId} {x v : Value} {j : Nat} (h : fieldAddrV T.ti t x j = some v) : (Instr.fieldAt t x j).run P w = .ok v w := by
  unfold fieldAddrV at h
  split at h <;> try (cases h; done)
  rename_i fs z s b blk o ht
  have hk := T.ok t _ ht
  obtain ⟨farr, hu, hf⟩ := hk.k
  split at h <;> try (cases h; done)
  rename_i off ft hn
  split at h <;> try (cases h; done)
  rename_i fi hfi
  split at h <;> try (cases h; done)
  rename_i q hq
  rw [nth_eq] at hn
  rw [← hf] at hn
  simp only [List.getElem?_map, Option.map_eq_some_iff] at hn
  obtain ⟨f, hff, hfo⟩ := hn
  simp only [Prod.mk.injEq] at hfo
  have hff' : farr[j]? = some f := by simpa using hff
  have hsz := (T.ok ft fi hfi).sizeOf w
  rw [hq] at hsz
  simp only [Option.some.injEq] at h
  subst h
  simp [Instr.fieldAt, run_underlying hu, hff', Instr.sureAddr, fieldPlace, hfo.2, hsz, hfo.1, Addr.add_lit]

theorem indexAddr_run {t : TypeId} {x v i : Value} (h : indexAddrV T.ti t x i = some v) : (Instr.indexAt t x i).run P w = .ok v w := by
  unfold indexAddrV at h
  split at h <;> try (cases h; done)
  rename_i n et z s b blk o k m ht
  have hk := T.ok t _ ht
  have hu : P.underlying t = some (.array n et) := hk.k
  split at h <;> try (cases h; done)
  rename_i hlt
  have hlt' : m < n := by simpa [Nat.blt_eq] using hlt
  split at h <;> try (cases h; done)
  rename_i fi hfi
  simp only [Option.some.injEq] at h
  subst h
  have hsz := (T.ok et fi hfi).sizeOf w
  have c1 : (0 : Int) ≤ Int.ofNat m ∧ Int.ofNat m < (n : Int) := ⟨by simp, by simp; omega⟩
  simp only [Instr.indexAt, asIntOf, Sem.run_bind, Sem.run_pure, Result.andThen_ok, run_underlying hu, Instr.sureAddr]
  rw [if_pos c1]
  simp [hsz, Addr.add_lit]

theorem conv_run {s d : TypeId} {x v : Value} (h : convV T.ti s d x = some v) : (convert s d x).run P w = .ok v w := by
  unfold convV at h
  split at h <;> try (cases h; done)
  · rename_i k n
    split at h <;> try (cases h; done)
    rename_i si kd _ _ _ hs hd
    simp only [Option.some.injEq] at h
    subst h
    have hd' : P.underlying d = some (.int kd) := (T.ok d _ hd).k
    obtain ⟨ds, hs'⟩ := (T.ok s _ hs).k.isSome
    simp [convert, run_underlying hs', run_underlying hd', Conv.intToInt]
  · split at h <;> try (cases h; done)
    rename_i _ _ _ _ _ _ hs hd
    simp only [Option.some.injEq] at h
    subst h
    have hd' : P.underlying d = some .string := (T.ok d _ hd).k
    have hs' : P.underlying s = some .string := (T.ok s _ hs).k
    simp [convert, run_underlying hs', run_underlying hd']

theorem len_run {t t2 : TypeId} {x v : Value} (h : lenV T.ti t x = some v) : (Builtin.len_ #[t] t2 #[x]).run P w = .ok v w := by
  unfold lenV at h
  split at h <;> try (cases h; done)
  all_goals
    split at h <;> try (cases h; done)
    rename_i ht
    simp only [Option.some.injEq] at h
    subst h
    have hu := (T.ok t _ ht).k
    simp only [kOk] at hu
    simp [Builtin.len_, run_underlying hu, goInt]

theorem min_run {a : Array TypeId} {t2 : TypeId} {vs : List Value} {v : Value} (h : mnV vs = some v) : (Builtin.min_ a t2 vs.toArray).run P w = .ok v w := by
  unfold mnV at h
  split at h <;> try (cases h; done)
  simp only [Option.some.injEq] at h
  subst h
  rename_i k a' j b
  have : (if b < a' then b else a') = min a' b := by omega
  simp [Builtin.min_, Builtin.min2, this]
theorem max_run {a : Array TypeId} {t2 : TypeId} {vs : List Value} {v : Value} (h : mxV vs = some v) : (Builtin.max_ a t2 vs.toArray).run P w = .ok v w := by
  unfold mxV at h
  split at h <;> try (cases h; done)
  simp only [Option.some.injEq] at h
  subst h
  rename_i k a' j b
  have : (if b > a' then b else a') = max a' b := by omega
  simp [Builtin.max_, Builtin.max2, this]

theorem boolEq_run {op : BinOp} {t : TypeId} {x y v : Value} {ox oy : Operand} (ht : P.underlying t = some .bool) (h : boolEq op x y = some v) :
    (do eqGuard op t ox oy x y; binOp op t x y : Sem Value).run P w = .ok v w := by
  unfold boolEq at h
  split at h <;> try (cases h; done)
  all_goals
    simp only [Option.some.injEq] at h
    subst h
    rw [eqGuard_at_bool]
    simp [binOp, run_equal_bool w t _ _ ht]

theorem pure_run {op : Op} {v : Value} (h : pureV T.ti e op = some v) : Yv P e op ty w v w := by
  intro ρ hρ d pos aft g
  unfold pureV at h
  split at h <;> try (cases h; done)
  · simp only [execOp, hρ _ _ h]; rfl
  · simp only [execOp, hρ _ _ h]; rfl
  · split at h <;> try (cases h; done)
    rename_i b hc
    split at h <;> simp [execOp, hρ _ _ hc, asBool, hρ _ _ h]
  · split at h <;> try (cases h; done)
    rename_i u' v' hu hv
    split at h
    · rename_i r hr
      simp only [Option.some.injEq] at h
      subst h
      simp only [execOp, hρ _ _ hu, hρ _ _ hv]
      rw [Sem.run_bind, binV_run hr]
      rfl
    · split at h <;> try (cases h; done)
      rename_i ht
      have hk : P.underlying _ = some .bool := (T.ok _ _ ht).k
      simp only [execOp, hρ _ _ hu, hρ _ _ hv]
      rw [Sem.run_bind, boolEq_run hk h]
      rfl
  · split at h <;> try (cases h; done)
    rename_i hu
    simp [execOp, hρ _ _ hu, unV_run h]
  · split at h <;> try (cases h; done)
    rename_i hu
    simp [execOp, hρ _ _ hu, conv_run h]
  · split at h <;> try (cases h; done)
    rename_i hu
    simp [execOp, hρ _ _ hu, field_run h]
  · split at h <;> try (cases h; done)
    rename_i hu hv
    simp [execOp, hρ _ _ hu, hρ _ _ hv, index_run h]
  · split at h <;> try (cases h; done)
    rename_i hu
    simp [execOp, hρ _ _ hu, fieldAddr_run h]
  · split at h <;> try (cases h; done)
    rename_i hu hv
    simp [execOp, hρ _ _ hu, hρ _ _ hv, indexAddr_run h]
  · split at h <;> try (cases h; done)
    rename_i x j _ u hu
    unfold extractV at h
    split at h <;> try (cases h; done)
    rename_i vs
    rw [nth_eq] at h
    have h' : vs[j]? = some v := by simpa using h
    simp [execOp, hρ _ _ hu, Instr.extract, h']
  · split at h <;> try (cases h; done)
    rename_i a b ha hb
    simp only [Option.some.injEq] at h
    subst h
    rename_i first captured _ _
    have e1 : first.map ρ = a.toArray := opvs_arr hρ ha
    have e2 : captured.map ρ = b.toArray := opvs_arr hρ hb
    simp [execOp, Instr.makeFunc, e1, e2]
  · rename_i c
    unfold callV at h
    split at h <;> try (cases h; done)
    · rename_i hc
      split at h <;> try (cases h; done)
      rename_i x t hx ht
      split at h <;> try (cases h; done)
      rename_i u hu
      have e1 : c.args = #[x] := by rw [← Array.toList_inj]; simpa using hx
      have e2 : c.argTypes = #[t] := by rw [← Array.toList_inj]; simpa using ht
      simp [execOp, resolve, hc, invoke, builtin, e1, e2, hρ _ _ hu, len_run h]
    · rename_i hc
      split at h <;> try (cases h; done)
      rename_i vs hvs
      have e1 : c.args.map ρ = vs.toArray := opvs_arr hρ hvs
      simp [execOp, resolve, hc, invoke, builtin, e1, min_run h]
    · rename_i hc
      split at h <;> try (cases h; done)
      rename_i vs hvs
      have e1 : c.args.map ρ = vs.toArray := opvs_arr hρ hvs
      simp [execOp, resolve, hc, invoke, builtin, e1, max_run h]

variable {ro : Option Nat} {n : Nat} {l0 rest : List Oper} {N : Nor} {Z : Pan} {op : Op} {pos : String} {aft : Array Edge} {g : Option (Nat × Bool)}
/-- One operation that is reckoned. -/
theorem WL.pure {d : Nat} {v : Value} (hg : grd l0 e g = some true) (hv : pureV T.ti e op = some v) (hd : Nat.blt d n = true)
    (h : WL P ro n l0 N Z rest ((d, v) :: e) w) : WL P ro n l0 N Z (⟨some d, op, ty, pos, aft, g⟩ :: rest) e w := WL.val hg rfl hd (pure_run hv) h
theorem zC {d : Nat} {v : Value} (hg : grd l0 e g = some true) (hv : pureV T.ti e op = some v) (hd : Nat.blt d n = true)
    (h : WL P ro n l0 N Z rest ((d, v) :: e) w) : WL P ro n l0 N Z (⟨some d, op, ty, pos, aft, g⟩ :: rest) e w := WL.val hg rfl hd (pure_run hv) h
end
end Go.W

/- W, third part: what is known of the heap; new blocks, loads, stores, calls, the entry into a function and its end. -/
namespace Go.W
open Go.RowKit

/-! ### What is known of the heap -/
inductive Ent where
  | blk (b : Nat) (o : Obj)
  | row (E size : Nat) (v : Value) (n : Nat) (xs : List Value)
  | many (bs : List (Nat × Obj))
def Ent.owns : Ent → Nat → Prop
  | .blk b _ => fun k => b = k
  | .row _ _ v _ _ => fun k => v.ownBlock = some k
  | .many bs => fun k => ∃ o, (k, o) ∈ bs
def Ent.sat (B : Nat) (w : World) : Ent → Prop
  | .blk b o => B ≤ b ∧ w.heap[b]? = some o
  | .row E s v n xs => w.ownsRow B E s v n xs
  | .many bs => (bs.map (·.1)).Nodup ∧ ∀ b o, (b, o) ∈ bs → B ≤ b ∧ w.heap[b]? = some o

def Apart (x y : Ent) : Prop := ∀ k, x.owns k → ¬ y.owns k
theorem Apart.symm {x y : Ent} (h : Apart x y) : Apart y x := fun k hy hx => h k hx hy

structure Hp (w0 w : World) (L : List Ent) : Prop where
  below : Below w0.heap.size w0 w
  sat : ∀ x ∈ L, x.sat w0.heap.size w
  dist : L.Pairwise Apart

theorem Ent.sat.lt {B : Nat} {w : World} {x : Ent} (h : x.sat B w) {k : Nat} (hk : x.owns k) : B ≤ k ∧ k < w.heap.size := by
  cases x with
  | blk b o =>
    simp only [Ent.owns] at hk
    subst hk
    exact ⟨h.1, (Array.getElem?_eq_some_iff.1 h.2).1⟩
  | row E s v n xs => exact World.ownsRow.lt h k hk
  | many bs =>
    obtain ⟨o, ho⟩ := hk
    have := h.2 k o ho
    exact ⟨this.1, (Array.getElem?_eq_some_iff.1 this.2).1⟩

theorem Ent.sat.kept {B : Nat} {w w' : World} {row : Option Nat} {x : Ent} (h : x.sat B w) (hg : w.grownBy w' row) (hne : ∀ k, x.owns k → row ≠ some k) : x.sat B w' := by
  cases x with
  | blk b o =>
    refine ⟨h.1, ?_⟩
    rw [hg.block b (Array.getElem?_eq_some_iff.1 h.2).1 (fun e1 => hne b rfl e1.symm)]
    exact h.2
  | row E s v n xs =>
    refine World.ownsRow.kept h hg ?_
    by_cases hv : v.ownBlock = none
    · exact .inl hv
    · obtain ⟨k, hk⟩ := Option.ne_none_iff_exists'.1 hv
      exact .inr (by rw [hk]; exact fun e1 => hne k hk e1.symm)
  | many bs =>
    refine ⟨h.1, fun b o hbo => ?_⟩
    have hb := h.2 b o hbo
    refine ⟨hb.1, ?_⟩
    rw [hg.block b (Array.getElem?_eq_some_iff.1 hb.2).1 (fun e1 => hne b ⟨o, hbo⟩ e1.symm)]
    exact hb.2

theorem grownBy_of_below {w w' : World} (h : Below w.heap.size w w') (row : Option Nat) : w.grownBy w' row := ⟨h.os, h.tape, h.output, h.size, fun k hk _ => h.block k hk⟩
theorem below_of_grownBy {w w' : World} {B : Nat} {row : Option Nat} (h : w.grownBy w' row) (hB : B ≤ w.heap.size) (hr : ∀ k, row = some k → B ≤ k) : Below B w w' :=
  ⟨h.os, h.tape, h.output, h.size, fun k hk => h.block k (by omega) (fun e1 => by have := hr k e1.symm; omega)⟩
theorem grownBy_trans {a b c : World} {row : Option Nat} (h : a.grownBy b row) (k : b.grownBy c row) : a.grownBy c row :=
  ⟨k.os.trans h.os, k.tape.trans h.tape, k.output.trans h.output, Nat.le_trans h.size k.size, fun i hi hne => (k.block i (Nat.lt_of_lt_of_le hi h.size) hne).trans (h.block i hi hne)⟩

section
variable {w0 w w' : World} {L : List Ent}
theorem Hp.start (w : World) : Hp w w [] := ⟨Below.refl _ _, (fun x hx => by cases hx), List.Pairwise.nil⟩
theorem Hp.keep (h : Hp w0 w L) (hg : w.grownBy w' none) : Hp w0 w' L :=
  ⟨h.below.trans (below_of_grownBy hg h.below.size (fun k e1 => by cases e1)), fun x hx => (h.sat x hx).kept hg (fun k _ e1 => by cases e1), h.dist⟩
theorem Hp.call (h : Hp w0 w L) (hb : Below w.heap.size w w') : Hp w0 w' L := h.keep (grownBy_of_below hb _)
theorem Hp.push (h : Hp w0 w L) (hg : w.grownBy w' none) (x : Ent) (hs : x.sat w0.heap.size w') (hf : ∀ k, x.owns k → w.heap.size ≤ k) : Hp w0 w' (x :: L) := by
  have hk := h.keep hg
  refine ⟨hk.below, ?_, ?_⟩
  · intro y hy
    cases hy with
    | head => exact hs
    | tail _ hy => exact hk.sat y hy
  · refine List.Pairwise.cons ?_ h.dist
    intro y hy k hx1 hy1
    have := ((h.sat y hy).lt hy1).2
    have := hf k hx1
    omega
theorem Hp.tail {x : Ent} (h : Hp w0 w (x :: L)) : Hp w0 w L := ⟨h.below, fun y hy => h.sat y (List.mem_cons_of_mem _ hy), (List.pairwise_cons.1 h.dist).2⟩
theorem Hp.drop1 {x y : Ent} (h : Hp w0 w (x :: y :: L)) : Hp w0 w (x :: L) := by
  refine ⟨h.below, fun z hz => h.sat z ?_, ?_⟩
  · rcases List.mem_cons.1 hz with hz | hz
    · simp [hz]
    · simp [hz]
  · have h1 := List.pairwise_cons.1 h.dist
    exact List.pairwise_cons.2 ⟨fun z hz => h1.1 z (by simp [hz]), (List.pairwise_cons.1 h1.2).2⟩
theorem Hp.nil' (h : Hp w0 w L) : Hp w0 w [] := ⟨h.below, (fun x hx => by cases hx), List.Pairwise.nil⟩
theorem apart_at {L : List Ent} (hd : L.Pairwise Apart) {i j : Nat} {x y : Ent} (hij : i ≠ j) (hi : L[i]? = some x) (hj : L[j]? = some y) : Apart x y := by
  rw [List.pairwise_iff_getElem] at hd
  obtain ⟨hi1, hi2⟩ := List.getElem?_eq_some_iff.1 hi
  obtain ⟨hj1, hj2⟩ := List.getElem?_eq_some_iff.1 hj
  rcases Nat.lt_or_gt_of_ne hij with hlt | hlt
  · have := hd i j hi1 hj1 hlt
    rw [hi2, hj2] at this
    exact this
  · have := hd j i hj1 hi1 hlt
    rw [hi2, hj2] at this
    exact this.symm
/-- In another order, or only a part of it: by a list of places. -/
theorem Hp.perm (h : Hp w0 w L) (ps : List Nat) {L' : List Ent} (hL : ps.map (fun i => nth L i) = L'.map some) (hn : (ps.Pairwise (· ≠ ·))) : Hp w0 w L' := by
  have hat : ∀ (i : Nat) (x : Ent), L'[i]? = some x → ∃ p : Nat, ps[i]? = some p ∧ L[p]? = some x := by
    intro i x hx
    have h1 : (L'.map some)[i]? = some (some x) := by simp [hx]
    rw [← hL, List.getElem?_map, Option.map_eq_some_iff] at h1
    obtain ⟨p, hp, hpx⟩ := h1
    exact ⟨p, hp, by rw [← nth_eq]; exact hpx⟩
  refine ⟨h.below, ?_, ?_⟩
  · intro x hx
    obtain ⟨i, hi, rfl⟩ := List.mem_iff_getElem.1 hx
    obtain ⟨p, _, hp⟩ := hat i _ (List.getElem?_eq_getElem hi)
    exact h.sat _ (List.mem_of_getElem? hp)
  · rw [List.pairwise_iff_getElem]
    intro i j hi hj hij
    obtain ⟨p, hp1, hp2⟩ := hat i _ (List.getElem?_eq_getElem hi)
    obtain ⟨q, hq1, hq2⟩ := hat j _ (List.getElem?_eq_getElem hj)
    refine apart_at h.dist ?_ hp2 hq2
    obtain ⟨hp3, hp4⟩ := List.getElem?_eq_some_iff.1 hp1
    obtain ⟨hq3, hq4⟩ := List.getElem?_eq_some_iff.1 hq1
    have := (List.pairwise_iff_getElem.1 hn) i j hp3 hq3 hij
    rw [hp4, hq4] at this
    exact this
def pick (L : List Ent) : List Nat → List Ent
  | [] => []
  | p :: ps => match nth L p with
    | some x => x :: pick L ps
    | none => pick L ps
theorem Hp.pick (h : Hp w0 w L) (ps : List Nat) (hn : (ps.Pairwise (· ≠ ·))) : Hp w0 w (pick L ps) := by
  have key : ∀ (ps : List Nat), ps.Pairwise (· ≠ ·) → ∃ qs : List Nat, qs.Sublist ps ∧ qs.map (fun i => nth L i) = (W.pick L ps).map some := by
    intro ps
    induction ps with
    | nil => intro _; exact ⟨[], List.Sublist.refl _, rfl⟩
    | cons p ps ih =>
      intro hp
      obtain ⟨qs, h1, h2⟩ := ih (List.pairwise_cons.1 hp).2
      simp only [W.pick]
      cases hn : nth L p with
      | none => exact ⟨qs, h1.cons _, h2⟩
      | some x => exact ⟨p :: qs, h1.cons_cons _, by simp [hn, h2]⟩
  obtain ⟨qs, h1, h2⟩ := key ps hn
  exact h.perm qs h2 (hn.sublist h1)
theorem Hp.at (h : Hp w0 w L) (i : Nat) {x : Ent} (hi : nth L i = some x) : x.sat w0.heap.size w := h.sat x (by rw [nth_eq] at hi; exact List.mem_of_getElem? hi)
theorem Hp.obj (h : Hp w0 w L) (i : Nat) {b : Nat} {o : Obj} (hi : nth L i = some (.blk b o)) : w.heap[b]? = some o := (h.at i hi).2
/-- An entry turns: whatever else is known stays. -/
theorem Hp.repl (h : Hp w0 w L) (i : Nat) {x y : Ent} {L' : List Ent} {row : Option Nat} (hi : nth L i = some x) (hL : L.set i y = L') (hg : w.grownBy w' row) (hr : ∀ k, row = some k → x.owns k) (hy : y.sat w0.heap.size w')
    (ho : ∀ k, y.owns k → x.owns k ∨ w.heap.size ≤ k) : Hp w0 w' L' := by
  subst hL
  have hi' := hi
  rw [nth_eq] at hi'
  obtain ⟨hi1, hi2⟩ := List.getElem?_eq_some_iff.1 hi'
  have hxs := h.sat x (List.mem_of_getElem? hi')
  have other : ∀ (j : Nat) (hj : j < L.length), j ≠ i → Apart L[j] x := fun j hj hji => apart_at h.dist hji (List.getElem?_eq_getElem hj) hi'
  have fresh : ∀ (j : Nat) (hj : j < L.length), j ≠ i → Apart L[j] y := by
    intro j hj hji k hk1 hk2
    rcases ho k hk2 with ho | ho
    · exact other j hj hji k hk1 ho
    · have := ((h.sat L[j] (List.getElem_mem hj)).lt hk1).2
      omega
  refine ⟨h.below.trans (below_of_grownBy hg h.below.size (fun k e1 => (hxs.lt (hr k e1)).1)), ?_, ?_⟩
  · intro z hz
    obtain ⟨j, hj, hjz⟩ := List.mem_iff_getElem.1 hz
    rw [List.length_set] at hj
    by_cases hji : j = i
    · subst hji
      rw [List.getElem_set_self] at hjz
      rw [← hjz]; exact hy
    · rw [List.getElem_set_ne (Ne.symm hji)] at hjz
      subst hjz
      exact (h.sat L[j] (List.getElem_mem hj)).kept hg (fun k hk e1 => other j hj hji k hk (hr k e1))
  · rw [List.pairwise_iff_getElem]
    intro p q hp hq hpq
    have hp' : p < L.length := by simpa using hp
    have hq' : q < L.length := by simpa using hq
    by_cases hpi : p = i
    · subst hpi
      rw [List.getElem_set_self, List.getElem_set_ne (by omega)]
      exact (fresh q hq' (by omega)).symm
    · by_cases hqi : q = i
      · subst hqi
        rw [List.getElem_set_self, List.getElem_set_ne (by omega)]
        exact fresh p hp' (by omega)
      · rw [List.getElem_set_ne (Ne.symm hpi), List.getElem_set_ne (Ne.symm hqi)]
        exact apart_at h.dist (by omega) (List.getElem?_eq_getElem hp') (List.getElem?_eq_getElem hq')
end

/-! ### Slices that are only read: the cells behind a slice's address. -/
def Sl (w : World) (a : Option Addr) (cs : List Value) : Prop :=
  ∀ (i : Nat) (u : Value), cs[i]? = some u → ∃ b o, a = some ⟨b, o, none⟩ ∧ w.cell? ⟨b, o + i, none⟩ = some u
theorem cell_below {w w' : World} {p : Addr} {u : Value} (hb : Below w.heap.size w w') (h : w.cell? p = some u) : w'.cell? p = some u := by
  rw [hb.cell (World.block_lt_of_cell? w p h)]; exact h
theorem Sl.below {w w' : World} {a : Option Addr} {cs : List Value} (h : Sl w a cs) (hb : Below w.heap.size w w') : Sl w' a cs := by
  intro i u hi
  obtain ⟨b, o, ha, hc⟩ := h i u hi
  exact ⟨b, o, ha, cell_below hb hc⟩
theorem Sl.hp {w0 w : World} {L : List Ent} {a : Option Addr} {cs : List Value} (h : Sl w0 a cs) (hp : Hp w0 w L) : Sl w a cs := h.below hp.below
theorem cell_of_obj {w : World} {b j : Nat} {arr : Array Value} {t : TypeId} {fr : Nat × Nat} {u : Value} (h : w.heap[b]? = some (.cells arr t fr)) (hj : arr[j]? = some u) : w.cell? ⟨b, j, none⟩ = some u := by
  rw [cell_of_row w b j arr t fr h]; exact hj
theorem Sl.of_obj {w : World} {b : Nat} {arr : Array Value} {t : TypeId} {fr : Nat × Nat} {cs : List Value} (h : w.heap[b]? = some (.cells arr t fr)) (hcs : ∀ (i : Nat) (u : Value), cs[i]? = some u → arr[i]? = some u) : Sl w (some ⟨b, 0, none⟩) cs := by
  intro i u hi
  exact ⟨b, 0, rfl, by rw [Nat.zero_add]; exact cell_of_obj h (hcs i u hi)⟩
theorem Sl.of_row {w : World} {B E s n c : Nat} {a : Option Addr} {xs : List Value} (h : w.ownsRow B E s (.slice a n c) n xs) : Sl w a xs := by
  obtain ⟨hl, h | ⟨g, cap, cur, hv, hb, hg, hnc, hcm, hcs, ht⟩⟩ := h
  · obtain ⟨hv, hn⟩ := h
    intro i u hi
    have : xs = [] := List.eq_nil_of_length_eq_zero (by rw [hl, hn]; simp)
    rw [this] at hi; cases hi
  · simp only [Value.slice.injEq] at hv
    rw [hv.1]
    refine Sl.of_obj hg ?_
    intro i u hi
    rw [← ht] at hi
    rw [List.getElem?_take] at hi
    split at hi
    · simpa using hi
    · cases hi
theorem Sl.nil {w : World} {a : Option Addr} : Sl w a [] := fun i u hi => by cases hi

/-! ### Calls -/
def Ret (P : Program) (f : FuncId) (args : List Value) (w : World) (R : Value → World → Prop) : Prop :=
  Calls P f args.toArray w fun e w' => ∃ v, e = .returned v ∧ R v w'
theorem Ret.mono {P : Program} {f : FuncId} {args : List Value} {w : World} {R R' : Value → World → Prop} (h : Ret P f args w R) (hr : ∀ v w', R v w' → R' v w') : Ret P f args w R' :=
  Calls.mono h fun e w' ⟨v, he, hv⟩ => ⟨v, he, hr v w' hv⟩
def Ents (P : Program) (f : FuncId) : Prop := ∀ args w, (callFunc f args).run P w = .ok (.enter f args) w
section
variable {P : Program} [T : TT P] {ro : Option Nat} {n : Nat} {l0 rest : List Oper} {N : Nor} {Z : Pan} {e : Env} {w : World} {ty : TypeId} {pos : String} {aft : Array Edge} {g : Option (Nat × Bool)}

theorem callee_run {fo : Operand} {f : FuncId} {fi ca : Array Value} {args : Array Operand} {tys : Array TypeId} {vs all : List Value}
    (hf : opv e fo = some (.func (.func f) fi ca)) (ha : opvs e args.toList = some vs) (hall : fi.toList ++ vs ++ ca.toList = all) (hE : Ents P f) :
    ∀ ρ, Agree e ρ → ∀ d pos aft g, (execOp ρ ⟨d, .call ⟨.value fo, args, tys⟩, ty, pos, aft, g⟩).run P w = .ok (.enter f all.toArray) w := by
  intro ρ hρ d pos aft g
  have e1 : args.map ρ = vs.toArray := opvs_arr hρ ha
  have e2 : fi ++ vs.toArray ++ ca = all.toArray := by rw [← hall, ← Array.toList_inj]; simp
  simp only [execOp, resolve, hρ _ _ hf, Deferred.ofValue, Sem.run_bind, Sem.run_pure, Result.andThen_ok, invoke, e1, e2]
  exact hE _ _

theorem WL.call {d : Nat} {fo : Operand} {f : FuncId} {fi ca : Array Value} {args : Array Operand} {tys : Array TypeId} {vs all : List Value} {R : Value → World → Prop}
    (hg : grd l0 e g = some true) (hf : opv e fo = some (.func (.func f) fi ca)) (ha : opvs e args.toList = some vs) (hall : fi.toList ++ vs ++ ca.toList = all) (hd : Nat.blt d n = true) (hE : Ents P f)
    (hc : Ret P f all w R) (h : ∀ v w', R v w' → WL P ro n l0 N Z rest ((d, v) :: e) w') :
    WL P ro n l0 N Z (⟨some d, .call ⟨.value fo, args, tys⟩, ty, pos, aft, g⟩ :: rest) e w := by
  intro a ka
  unfold wpListIn
  rw [if_pos (by rw [grd_wanted ka (o := ⟨some d, .call ⟨.value fo, args, tys⟩, ty, pos, aft, g⟩) hg])]
  refine ⟨fun f _ => fen_fn ro f, ?_⟩
  rw [semAt_ok (callee_run (P := P) (w := w) (ty := ty) hf ha hall hE a.eval ka.agree _ _ _ _) (fun d h => by cases h)]
  rw [Oper.uponIn_enter]
  refine ⟨fun h => (by rw [fen_depth] at h; cases h), CallsIn.mono (fen_calls hc) ?_⟩
  rintro en w' ⟨v, rfl, hv⟩
  exact h v w' hv _ (ka.put hd)

/-! ### Memory -/
theorem grown_alloc (w : World) (o : Obj) : w.grownBy (w.alloc o) none := World.grownBy_alloc w o none
theorem heap_new (w : World) (o : Obj) : (w.alloc o).heap[w.heap.size]? = some o := heap_alloc_new w o

/-- A new block's world: by what is known of it. -/
structure NewB (w : World) (b : Nat) (o : Obj) (w' : World) : Prop where
  num : b = w.heap.size
  at_ : w'.heap[b]? = some o
  grown : w.grownBy w' none
theorem newB (w : World) (o : Obj) : NewB w w.heap.size o (w.alloc o) := ⟨rfl, heap_new w o, grown_alloc w o⟩
theorem Hp.new {w0 w' : World} {L : List Ent} {b : Nat} {o : Obj} (h : Hp w0 w L) (hn : NewB w b o w') : Hp w0 w' (.blk b o :: L) :=
  h.push hn.grown (.blk b o) ⟨by rw [hn.num]; exact h.below.size, hn.at_⟩ (fun k hk => by simp only [Ent.owns] at hk; rw [← hk, hn.num]; exact Nat.le_refl _)

/-- A block written: by what is known of the new world. -/
structure SetB (w : World) (b : Nat) (o : Obj) (w' : World) : Prop where
  at_ : w'.heap[b]? = some o
  grown : w.grownBy w' (some b)
theorem Hp.set {w0 w' : World} {L L' : List Ent} {b : Nat} {o o' : Obj} (h : Hp w0 w L) (i : Nat) (hi : nth L i = some (.blk b o)) (hL : L.set i (.blk b o') = L') (hs : SetB w b o' w') : Hp w0 w' L' :=
  h.repl i hi hL hs.grown (fun k hk => by simp only [Option.some.injEq] at hk; exact hk) ⟨(h.at i hi).1, hs.at_⟩ (fun k hk => .inl hk)

theorem setB_cell {w : World} {b j : Nat} {arr : Array Value} {t : TypeId} (h : w.heap[b]? = some (.cells arr t (0, 0))) (v : Value) :
    SetB w b (.cells (arr.setIfInBounds j v) t (0, 0)) (w.setCell ⟨b, j, none⟩ v) := by
  obtain ⟨hlt, hb⟩ := Array.getElem?_eq_some_iff.1 h
  refine ⟨?_, ⟨rfl, rfl, rfl, by simp [World.setCell], fun k hk hne => ?_⟩⟩
  · simp only [World.setCell, Array.getElem?_modify]
    rw [h]; simp
  · simp only [World.setCell]
    rw [Array.getElem?_modify]
    have : b ≠ k := fun h' => hne (by rw [h'])
    simp [this]

theorem run_alloc {t : TypeId} {i : TI} (ht : T.ti t = some i) :
    ∀ ρ : Operand → Value, ∀ d pos aft g, (execOp ρ ⟨d, .alloc t, ty, pos, aft, g⟩).run P w = .ok (.value (.pointer (some ⟨w.heap.size, 0, none⟩))) (w.alloc (.cells i.zero.cells t)) := by
  intro ρ d pos aft g
  have hz := (T.ok t i ht).zeroValue w
  simp [execOp, Instr.alloc, hz, newVar, newRow]

theorem WL.alloc {d : Nat} {t : TypeId} {i : TI} (hg : grd l0 e g = some true) (ht : T.ti t = some i) (hd : Nat.blt d n = true)
    (h : ∀ b w', NewB w b (.cells i.zero.cells t) w' → WL P ro n l0 N Z rest ((d, .pointer (some ⟨b, 0, none⟩)) :: e) w') :
    WL P ro n l0 N Z (⟨some d, .alloc t, ty, pos, aft, g⟩ :: rest) e w :=
  WL.val hg rfl hd (fun ρ _ => run_alloc ht ρ) (h _ _ (newB w _))

theorem WL.box {d : Nat} {t : TypeId} {x : Operand} {v : Value} (hg : grd l0 e g = some true) (hx : opv e x = some v) (hd : Nat.blt d n = true)
    (h : ∀ b w', NewB w b (.cells v.cells t) w' → WL P ro n l0 N Z rest ((d, .pointer (some ⟨b, 0, none⟩)) :: e) w') :
    WL P ro n l0 N Z (⟨some d, .box t x, ty, pos, aft, g⟩ :: rest) e w :=
  WL.val hg rfl hd (fun ρ hρ d pos aft g => by simp [execOp, Instr.box, hρ _ _ hx, newVar, newRow]) (h _ _ (newB w _))

theorem run_load1 {t : TypeId} {i : TI} {x : Operand} {p : Addr} {v : Value} (ht : T.ti t = some i) (h1 : isOne i.k = true) (hx : opv e x = some (.pointer (some p))) (hc : w.cell? p = some v) :
    Yv P e (.load t x) ty w v w := by
  intro ρ hρ d pos aft g
  have hag : i.k.isAgg = false := by cases hk2 : i.k <;> rw [hk2] at h1 <;> first | rfl | (simp [isOne] at h1)
  have hagg := (T.ok t i ht).isAgg w
  rw [hag] at hagg
  simp [execOp, hρ _ _ hx, Instr.loadAt, Instr.sureAddr, loadVar, hagg, hc]
theorem WL.load {d : Nat} {t : TypeId} {i : TI} {x : Operand} {p : Addr} {v : Value} (hg : grd l0 e g = some true) (ht : T.ti t = some i) (h1 : isOne i.k = true) (hx : opv e x = some (.pointer (some p))) (hd : Nat.blt d n = true)
    (hc : w.cell? p = some v) (h : WL P ro n l0 N Z rest ((d, v) :: e) w) : WL P ro n l0 N Z (⟨some d, .load t x, ty, pos, aft, g⟩ :: rest) e w :=
  WL.val hg rfl hd (run_load1 ht h1 hx hc) h
/-- A load out of a block of one's own. -/
theorem WL.loadB {d b j : Nat} {t t' : TypeId} {i : TI} {x : Operand} {arr : Array Value} {fr : Nat × Nat} {v : Value} (hg : grd l0 e g = some true) (ht : T.ti t = some i) (h1 : isOne i.k = true)
    (hx : opv e x = some (.pointer (some ⟨b, j, none⟩))) (hd : Nat.blt d n = true)
    (hc : w.heap[b]? = some (.cells arr t' fr)) (hv : nth arr.toList j = some v) (h : WL P ro n l0 N Z rest ((d, v) :: e) w) : WL P ro n l0 N Z (⟨some d, .load t x, ty, pos, aft, g⟩ :: rest) e w :=
  WL.load hg ht h1 hx hd (cell_of_obj hc (by rw [nth_eq] at hv; simpa using hv)) h

theorem run_loadN {t : TypeId} {i : TI} {x : Operand} {p : Addr} {cs : List Value} (ht : T.ti t = some i) (h1 : isOne i.k = false) (hl : cs.length = i.size) (hx : opv e x = some (.pointer (some p)))
    (hc : ∀ j v, cs[j]? = some v → w.cell? (p.add j) = some v) : Yv P e (.load t x) ty w (.agg cs.toArray) w := by
  intro ρ hρ d pos aft g
  have hag : i.k.isAgg = true := by cases hk2 : i.k <;> rw [hk2] at h1 <;> first | rfl | (simp [isOne] at h1)
  have hagg := (T.ok t i ht).isAgg w
  have hs := (T.ok t i ht).sizeOf w
  rw [hag] at hagg
  rw [← hl] at hs
  have hr := run_loadCells_list (P := P) w p cs hc
  simp [execOp, hρ _ _ hx, Instr.loadAt, Instr.sureAddr, loadVar, hagg, hs, hr]
theorem WL.loadN {d : Nat} {t : TypeId} {i : TI} {x : Operand} {b o : Nat} {cs : List Value} (hg : grd l0 e g = some true) (ht : T.ti t = some i) (h1 : isOne i.k = false) (hx : opv e x = some (.pointer (some ⟨b, o, none⟩))) (hd : Nat.blt d n = true)
    (hl : cs.length = i.size) (hc : ∀ j v, cs[j]? = some v → w.cell? ⟨b, o + j, none⟩ = some v) (h : WL P ro n l0 N Z rest ((d, .agg cs.toArray) :: e) w) : WL P ro n l0 N Z (⟨some d, .load t x, ty, pos, aft, g⟩ :: rest) e w :=
  WL.val hg rfl hd (run_loadN ht h1 hl hx (fun j v hj => by rw [Addr.add_lit]; exact hc j v hj)) h

theorem stored_ok {w : World} {b j : Nat} {arr : Array Value} {t : TypeId} {v : Value} (hh : w.heap[b]? = some (.cells arr t (0, 0))) (hj : j < arr.size) (hv : v.oneCell' = true) (m : Mode) :
    (store ⟨b, j, none⟩ v m).run P w = .ok () (w.setCell ⟨b, j, none⟩ v) := by
  rw [run_store P w _ _ _ hv]
  have hc : w.cell? ⟨b, j, none⟩ = some arr[j] := cell_of_obj hh (by simp [hj])
  have hf : w.frozen? ⟨b, j, none⟩ = false := frozen_of_row w b j arr t hh
  simp [hc, hf]

def one (v : Value) : Bool := v.oneCell'
theorem run_store1 {t : TypeId} {i : TI} {a x : Operand} {b j : Nat} {arr : Array Value} {t' : TypeId} {v : Value} (ht : T.ti t = some i) (h1 : i.size = 1)
    (ha : opv e a = some (.pointer (some ⟨b, j, none⟩))) (hx : opv e x = some v) (hv : v.oneCell' = true)
    (hh : w.heap[b]? = some (.cells arr t' (0, 0))) (hj : j < arr.size) : Ys P e (.store t a x) ty w (w.setCell ⟨b, j, none⟩ v) := by
  intro ρ hρ d pos aft g
  have hs := (T.ok t i ht).sizeOf w
  rw [h1] at hs
  have hvc : v.cells = #[v] := by cases v <;> first | rfl | (simp [Value.oneCell'] at hv)
  have hst := stored_ok (P := P) hh hj hv .plain
  simp [execOp, hρ _ _ ha, hρ _ _ hx, Instr.storeAt, Instr.sureAddr, storeVar, hs, hvc, storeCells, Addr.add_zero', hst]
/-- A store into a block of one's own. -/
theorem WL.store {t : TypeId} {i : TI} {a x : Operand} {b j : Nat} {arr : Array Value} {t' : TypeId} {v : Value} (hg : grd l0 e g = some true) (ht : T.ti t = some i) (h1 : i.size = 1)
    (ha : opv e a = some (.pointer (some ⟨b, j, none⟩))) (hx : opv e x = some v) (hv : v.oneCell' = true)
    (hh : w.heap[b]? = some (.cells arr t' (0, 0))) (hj : j < arr.size)
    (h : ∀ w', SetB w b (.cells (arr.setIfInBounds j v) t' (0, 0)) w' → WL P ro n l0 N Z rest e w') : WL P ro n l0 N Z (⟨none, .store t a x, ty, pos, aft, g⟩ :: rest) e w :=
  WL.skip hg rfl (run_store1 ht h1 ha hx hv hh hj) (h _ (setB_cell hh v))

theorem setB_row {w : World} {b : Nat} {arr : Array Value} {t : TypeId} (h : w.heap[b]? = some (.cells arr t (0, 0))) (cs : Array Value) : SetB w b (.cells cs t (0, 0)) (w.setRow b cs) :=
  ⟨setRow_heap w b arr cs t _ h, ⟨rfl, rfl, rfl, by simp, fun k _ hne => setRow_other w b k cs (fun e1 => hne (by rw [e1]))⟩⟩

theorem run_storeN {t : TypeId} {i : TI} {a x : Operand} {b j : Nat} {arr : Array Value} {t' : TypeId} {vs : Array Value} (ht : T.ti t = some i) (h1 : vs.size = i.size)
    (ha : opv e a = some (.pointer (some ⟨b, j, none⟩))) (hx : opv e x = some (.agg vs)) (hv : ∀ v ∈ vs.toList, v.oneCell' = true)
    (hh : w.heap[b]? = some (.cells arr t' (0, 0))) (hj : j + vs.size ≤ arr.size) : Ys P e (.store t a x) ty w (w.setRow b (arr.toList.take j ++ vs.toList ++ arr.toList.drop (j + vs.size)).toArray) := by
  intro ρ hρ d pos aft g
  have hs := (T.ok t i ht).sizeOf w
  rw [← h1] at hs
  have hst := run_storeCells_at P b j t' vs.toList 0 arr w hh (by simpa using hj) hv
  simp only [Nat.add_zero, Array.length_toList] at hst
  simp [execOp, hρ _ _ ha, hρ _ _ hx, Instr.storeAt, Instr.sureAddr, storeVar, hs, Value.cells, hst]
/-- A store of a struct or an array: 'arr2' is the block behind it. -/
theorem WL.storeN {t : TypeId} {i : TI} {a x : Operand} {b j : Nat} {arr arr2 : Array Value} {t' : TypeId} {vs : Array Value} (hg : grd l0 e g = some true) (ht : T.ti t = some i)
    (ha : opv e a = some (.pointer (some ⟨b, j, none⟩))) (hx : opv e x = some (.agg vs)) (h1 : vs.size = i.size) (hv : ∀ v ∈ vs.toList, v.oneCell' = true)
    (hh : w.heap[b]? = some (.cells arr t' (0, 0))) (hj : j + vs.size ≤ arr.size) (h2 : (arr.toList.take j ++ vs.toList ++ arr.toList.drop (j + vs.size)).toArray = arr2)
    (h : ∀ w', SetB w b (.cells arr2 t' (0, 0)) w' → WL P ro n l0 N Z rest e w') : WL P ro n l0 N Z (⟨none, .store t a x, ty, pos, aft, g⟩ :: rest) e w :=
  WL.skip hg rfl (run_storeN ht h1 ha hx hv hh hj) (h _ (by rw [← h2]; exact setB_row hh _))

/-- An element of a slice, read: the address and the load at once. -/
theorem WL.ixload {d1 d2 : Nat} {t t2 E : TypeId} {i : TI} {x ix : Operand} {a : Option Addr} {len cap j : Nat} {k : IntKind} {cs : List Value} {v z : Value} {s b2 : Nat} {ty2 : TypeId} {pos2 : String} {aft2 : Array Edge} {g2 : Option (Nat × Bool)}
    (hg : grd l0 e g = some true) (hg2 : ∀ p, grd l0 ((d1, p) :: e) g2 = some true)
    (ht : T.ti t = some ⟨.slice E, z, s, b2⟩) (hi : T.ti E = some i) (hone : i.size = 1) (ht2 : T.ti t2 = some i) (h1 : isOne i.k = true)
    (hx : opv e x = some (.slice a len cap)) (hix : opv e ix = some (.int k (j : Nat))) (hj : j < len) (hd1 : Nat.blt d1 n = true) (hd2 : Nat.blt d2 n = true)
    (hs : Sl w a cs) (hv : cs[j]? = some v)
    (h : ∀ p, WL P ro n l0 N Z rest ((d2, v) :: (d1, p) :: e) w) :
    WL P ro n l0 N Z (⟨some d1, .indexAddr t x ix, ty, pos, aft, g⟩ :: ⟨some d2, .load t2 (.tmp d1), ty2, pos2, aft2, g2⟩ :: rest) e w := by
  obtain ⟨b, o, rfl, hc⟩ := hs j v hv
  have hu : P.underlying t = some (.slice E) := (T.ok t _ ht).k
  have hsz := (T.ok E i hi).sizeOf w
  rw [hone] at hsz
  refine WL.le fun hle => WL.val (v := .pointer (some ⟨b, o + j, none⟩)) (w' := w) hg rfl hd1 ?_ (WL.load (hg2 _) ht2 h1 (opv_head hd1 hle) hd2 hc (h _))
  intro ρ hρ d' pos' aft' g'
  have c1 : (0 : Int) ≤ (j : Int) ∧ (j : Int) < (len : Int) := ⟨by omega, by omega⟩
  simp only [execOp, hρ _ _ hx, hρ _ _ hix, Instr.indexAt, asIntOf, Sem.run_bind, Sem.run_pure, Result.andThen_ok, run_underlying hu]
  rw [if_pos c1]
  simp [hsz, Addr.add_lit]

/-- The address of an element of a slice that starts a block. -/
theorem WL.ix {d : Nat} {t E : TypeId} {i : TI} {x ix : Operand} {b o len cap j : Nat} {k : IntKind} {z : Value} {s b2 : Nat}
    (hg : grd l0 e g = some true) (ht : T.ti t = some ⟨.slice E, z, s, b2⟩) (hi : T.ti E = some i)
    (hx : opv e x = some (.slice (some ⟨b, o, none⟩) len cap)) (hix : opv e ix = some (.int k (j : Nat))) (hj : j < len) (hd : Nat.blt d n = true)
    (h : WL P ro n l0 N Z rest ((d, .pointer (some ⟨b, o + j * i.size, none⟩)) :: e) w) :
    WL P ro n l0 N Z (⟨some d, .indexAddr t x ix, ty, pos, aft, g⟩ :: rest) e w := by
  have hu : P.underlying t = some (.slice E) := (T.ok t _ ht).k
  have hsz := (T.ok E i hi).sizeOf w
  refine WL.val (w' := w) hg rfl hd ?_ h
  intro ρ hρ d' pos' aft' g'
  have c1 : (0 : Int) ≤ (j : Int) ∧ (j : Int) < (len : Int) := ⟨by omega, by omega⟩
  simp only [execOp, hρ _ _ hx, hρ _ _ hix, Instr.indexAt, asIntOf, Sem.run_bind, Sem.run_pure, Result.andThen_ok, run_underlying hu]
  rw [if_pos c1]
  simp [hsz, Addr.add_lit]
end

/-! ### Entry and end -/
def envArgs : Nat → List Value → Env
  | _, [] => []
  | i, v :: vs => (i, v) :: envArgs (i + 1) vs

theorem look_envArgs (vs : List Value) : ∀ i t v, look (envArgs i vs) t = some v → ∃ j, t = i + j ∧ vs[j]? = some v := by
  induction vs with
  | nil => intro i t v h; simp [envArgs, look] at h
  | cons u vs ih =>
    intro i t v h
    rw [envArgs] at h
    rcases look_cons h with ⟨h1, _, h2⟩ | ⟨_, h1⟩
    · exact ⟨0, by rw [Nat.add_zero]; exact h1.symm, by simp [h2]⟩
    · obtain ⟨j, hj, hv⟩ := ih _ _ _ h1
      exact ⟨j + 1, by omega, by simpa using hv⟩

/-- What a function hands back: of a frame known in part. -/
def Res (P : Program) (fn : Func) (R : Value → World → Prop) : Nor := fun e w => marks e = [] ∧
  ∃ v, (∀ tm : Array Value, (∀ t u, look e t = some u → tm.getD t undef = u) → (results fn tm).run P w = .ok v w) ∧ R v w

/-- The blocks for the rounds' deferred calls, shut one after the other. -/
def shut : List Nat → World → World
  | [], w => w
  | d :: ds, w => shut ds (w.putObj d (.deferred none))
def Opened (ds : List Nat) (w : World) : Prop := ds.Nodup ∧ ∀ d ∈ ds, w.heap[d]? = some (.deferred (some []))
/-- .. where loops over functions have left marks. -/
def ResM (P : Program) (fn : Func) (R : Value → World → Prop) : Nor := fun e w => Opened (marks e) w ∧
  ∃ v, (∀ tm : Array Value, (∀ t u, look e t = some u → tm.getD t undef = u) → (results fn tm).run P (shut (marks e) w) = .ok v (shut (marks e) w)) ∧ R v (shut (marks e) w)
theorem Res.toM {P : Program} {fn : Func} {R : Value → World → Prop} {e : Env} {w : World} (h : Res P fn R e w) : ResM P fn R e w := by
  obtain ⟨h1, v, hv, hR⟩ := h
  unfold ResM
  rw [h1]
  exact ⟨⟨List.nodup_nil, fun d hd => by cases hd⟩, v, hv, hR⟩

theorem leaves_marks {P : Program} {fn : Func} {tmps : Array Value} {R : Ending → World → Prop} {v : Value} : ∀ (ds : List Nat) (w : World), Opened ds w →
    (results fn tmps).run P (shut ds w) = .ok v (shut ds w) → R (.returned v) (shut ds w) → LeavesInM Fence.wide 0 P fn tmps R (ds.map markOf) .returning w := by
  intro ds
  induction ds with
  | nil => intro w _ hv hR; exact ⟨v, hv, hR⟩
  | cons d ds ih =>
    intro w ho hv hR
    have hd := ho.2 d (by simp)
    refine ⟨by simp, .inl ⟨d, w.putObj d (.deferred none), rfl, run_takeDeferred hd, ih _ ⟨(List.nodup_cons.1 ho.1).2, fun d' hd' => ?_⟩ hv hR⟩⟩
    rw [World.putObj_heap_other (fun e1 => (List.nodup_cons.1 ho.1).1 (by rw [← e1]; exact hd'))]
    exact ho.2 d' (by simp [hd'])

theorem enterM {P : Program} {f : FuncId} {fn : Func} {c : Code} {args : List Value} {n : Nat} {w : World} {R : Value → World → Prop} {e : Env}
    (hf : P.funcs[f]? = some fn) (hb : fn.body = some c) (hn : fn.ntmps = n) (hl : Nat.ble args.length n = true ∧ Nat.ble n 1000000000 = true) (he : envArgs 0 args = e)
    (h : WC P none n c (ResM P fn R) (ResM P fn R) (fun _ _ _ => False) (fun _ _ => False) e w) : Ret P f args w R := by
  refine (callsIn_wide (n := 0)).1 (callsIn_of_wp_marks (F := Fence.wide) hf hb trivial ?_)
  have hl' : args.length ≤ n := by simpa using hl.1
  have hk : Kn n e { tmps := args.toArray ++ Array.replicate (fn.ntmps - args.toArray.size) undef, defers := [] } := by
    have hle : n ≤ 1000000000 := by simpa using hl.2
    refine ⟨hle, by simp [hn]; omega, ?_, ?_⟩
    · rw [← he]
      have : marks (envArgs 0 args) = [] := by
        have : ∀ (vs : List Value) (i : Nat), i + vs.length ≤ 1000000000 → marks (envArgs i vs) = [] := by
          intro vs
          induction vs with
          | nil => intro i _; rfl
          | cons u vs ih =>
            intro i hi
            simp only [List.length_cons] at hi
            rw [envArgs, marks_cons (by omega)]
            exact ih (i + 1) (by omega)
        exact this args 0 (by omega)
      rw [this]; rfl
    intro t v ht
    rw [← he] at ht
    obtain ⟨j, hj, hv⟩ := look_envArgs args 0 t v ht
    have hjt : t = j := by omega
    subst hjt
    rw [Array.getD_eq_getD_getElem?]
    have hlt : t < args.length := (List.getElem?_eq_some_iff.1 hv).1
    have : (args.toArray ++ Array.replicate (fn.ntmps - args.toArray.size) undef)[t]? = some v := by
      rw [Array.getElem?_append_left (by simpa using hlt)]; simpa using hv
    rw [this]; rfl
  refine wpIn_mono (h _ hk) ?_
  intro ex a' w' hq
  have key : ∀ e', Kn n e' a' → ResM P fn R e' w' → LeavesInM Fence.wide 0 P fn a'.tmps (fun e w' => ∃ v, e = .returned v ∧ R v w') a'.defers .returning w' := by
    rintro e' hk' ⟨ho, v, hv, hR⟩
    rw [hk'.defers]
    exact leaves_marks _ _ ho (hv _ hk'.slot) ⟨v, rfl, hR⟩
  cases ex with
  | normal => obtain ⟨e', hk', hr⟩ := hq; exact key e' hk' hr
  | ret => obtain ⟨e', hk', hr⟩ := hq; exact key e' hk' hr
  | exit i => obtain ⟨_, _, hf⟩ := hq; exact hf.elim
  | panic ch => exact hq.2.elim
  | goto l => exact hq.elim
  | outgrown => exact hq.elim
theorem enter {P : Program} {f : FuncId} {fn : Func} {c : Code} {args : List Value} {n : Nat} {w : World} {R : Value → World → Prop} {e : Env}
    (hf : P.funcs[f]? = some fn) (hb : fn.body = some c) (hn : fn.ntmps = n) (hl : Nat.ble args.length n = true ∧ Nat.ble n 1000000000 = true) (he : envArgs 0 args = e)
    (h : WC P none n c (Res P fn R) (Res P fn R) (fun _ _ _ => False) (fun _ _ => False) e w) : Ret P f args w R :=
  enterM hf hb hn hl he (h.mono (fun _ _ h => h.toM) (fun _ _ h => h.toM) (fun _ _ _ h => h))

section
variable {P : Program} {fn : Func} {R : Value → World → Prop} {e : Env} {w : World}
theorem Res.zero (hm : marks e = []) (hr : fn.results = #[]) (h : R (.tuple #[]) w) : Res P fn R e w := ⟨hm, _, fun tm _ => results_none hr tm P w, h⟩
theorem Res.one {t : Nat} {v : Value} (hm : marks e = []) (hr : fn.results = #[.tmp t]) (hv : look e t = some v) (h : R v w) : Res P fn R e w :=
  ⟨hm, v, fun tm ht => by rw [results_tmp hr, ht t v hv], h⟩
theorem Res.two {t1 t2 : Nat} {v1 v2 : Value} (hm : marks e = []) (hr : fn.results = #[.tmp t1, .tmp t2]) (h1 : look e t1 = some v1) (h2 : look e t2 = some v2) (h : R (.tuple #[v1, v2]) w) : Res P fn R e w :=
  ⟨hm, _, fun tm ht => by rw [results_tmp2 hr, ht t1 v1 h1, ht t2 v2 h2], h⟩
theorem Res.three {t1 t2 t3 : Nat} {v1 v2 v3 : Value} (hm : marks e = []) (hr : fn.results = #[.tmp t1, .tmp t2, .tmp t3]) (h1 : look e t1 = some v1) (h2 : look e t2 = some v2) (h3 : look e t3 = some v3) (h : R (.tuple #[v1, v2, v3]) w) : Res P fn R e w :=
  ⟨hm, _, fun tm ht => by rw [results_tmp3 hr, ht t1 v1 h1, ht t2 v2 h2, ht t3 v3 h3], h⟩
/-- A result that lies in a block. -/
theorem Res.cell [T : TT P] {t b : Nat} {ty ty2 : TypeId} {i : TI} {cs : Array Value} {fr : Nat × Nat} (hm : marks e = []) (hr : fn.results = #[.cell t ty]) (ht : T.ti ty = some i) (h1 : isOne i.k = false) (hs : cs.size = i.size)
    (hv : look e t = some (.pointer (some ⟨b, 0, none⟩))) (hh : w.heap[b]? = some (.cells cs ty2 fr)) (h : R (.agg cs) w) : Res P fn R e w := by
  refine ⟨hm, _, fun tm htm => ?_, h⟩
  have hag : i.k.isAgg = true := by cases hk2 : i.k <;> rw [hk2] at h1 <;> first | rfl | (simp [isOne] at h1)
  have hagg := (T.ok ty i ht).isAgg w
  rw [hag] at hagg
  have hsz := (T.ok ty i ht).sizeOf w
  rw [← hs] at hsz
  have hc := run_loadCells_list (P := P) w ⟨b, 0, none⟩ cs.toList (fun j v hj => by rw [Addr.add_lit, Nat.zero_add]; exact cell_of_obj hh (by simpa using hj))
  simp only [Array.length_toList] at hc
  have hv2 := htm t _ hv
  rw [Array.getD_eq_getD_getElem?] at hv2
  simp [results, hr, hv2, asAddr, loadVar, hagg, hsz, hc]
end

/-! ### Regions that draw their order -/
theorem drewB (w : World) : w.grownBy { w with drawn := w.drawn + 1 } none := ⟨rfl, rfl, rfl, Nat.le_refl _, fun _ _ _ => rfl⟩

section
variable {P : Program} {ops : Array Oper} {md : Region.Mode} {C : World → Prop} {ro : Option Nat}
theorem wpOpIn_of_val {i : Nat} {o : Oper} {a : Act} {K : Act → World → Prop} {Q' : Exit → Act → World → Prop} {w : World} (ho : ops[i]? = some o) (hw : Region.wanted o (yielded ops a.tmps) = true)
    (h : o.uponIn (fen ro) 0 P a K Q' ((execOp a.eval o).run P w)) (hd : ∀ d w', (execOp a.eval o).run P w ≠ .ok (.defer d) w') (hh : ∀ x w', (execOp a.eval o).run P w ≠ .halt x w') : wpOpIn (fen ro) 0 P ops Q' i K a w := by
  unfold wpOpIn
  simp only [ho, hw, if_true]
  refine ⟨fun f _ => fen_fn ro f, ?_⟩
  cases hr : (execOp a.eval o).run P w with
  | ok x w' =>
    rw [semAt_ok hr (fun d e1 => hd d w' (by rw [hr, e1]))]
    rw [hr] at h; exact h
  | halt x w' => exact absurd hr (hh x w')
theorem wpOpIn_of_qOp {i : Nat} {a : Act} {K : Act → Prop} {K' : Act → World → Prop} {Q' : Exit → Act → World → Prop} {w : World} (hC : C w) (h : ∀ a w', C w' → K a → K' a w') (hh : qOp P ops C i K a) : wpOpIn (fen ro) 0 P ops Q' i K' a w := by
  unfold qOp at hh
  cases ho : ops[i]? with
  | none => unfold wpOpIn; rw [ho] at hh ⊢; exact h _ _ hC hh
  | some o =>
    rw [ho] at hh
    simp only at hh
    by_cases hw : Region.wanted o (yielded ops a.tmps) = true
    · rw [if_pos hw] at hh
      obtain ⟨v, h1, h2⟩ := hh
      have h3 := h1 w hC
      unfold Oper.quietAt at h3
      refine wpOpIn_of_val ho hw ?_ (fun d w' e1 => by rw [e1] at h3; exact h3) (fun x w' e1 => by rw [e1] at h3; exact h3)
      generalize (execOp a.eval o).run P w = r at *
      cases r with
      | ok x w' =>
        cases x <;> simp only [Oper.quietUpon] at h3
        case value u => obtain ⟨e1, e2⟩ := h3; rw [e1, e2]; exact h _ _ hC h2
        case skip => obtain ⟨e1, e2⟩ := h3; rw [e1, Oper.uponIn_skip, ← e2]; exact h _ _ hC h2
        case enter f args =>
          obtain ⟨e1, hc⟩ := h3
          rw [e1, Oper.uponIn_enter]
          exact ⟨fun h => (by rw [fen_depth] at h; cases h), CallsIn.mono (fen_calls hc) fun e w'' ⟨he, hw''⟩ => by subst he; exact h _ _ hw'' h2⟩
      | halt x w' => simp only [Oper.quietUpon] at h3
    · unfold wpOpIn
      rw [if_neg hw] at hh
      rw [ho]
      simp only
      rw [if_neg hw]
      exact ⟨fun f _ => fen_fn ro f, h _ _ hC hh⟩
theorem wpAnyIn_of_quiet {Q : Act → Prop} {Q' : Exit → Act → World → Prop} (hQ : ∀ a w, C w → Q a → Q' .normal a w) : ∀ (fuel : Nat) (listed : Array Bool) (a : Act) (w : World), C w →
    wpAnyQ P md ops C Q fuel listed a → wpAnyIn (fen ro) 0 P md ops Q' fuel listed a w
  | 0, _, _, _, hw, h => ⟨h.1, hQ _ _ hw h.2⟩
  | fuel + 1, _, _, _, hw, h => ⟨fun h0 => hQ _ _ hw (h.1 h0), fun i hi => wpOpIn_of_qOp hw (fun a' w' hw' => wpAnyIn_of_quiet hQ fuel _ a' w' hw') (h.2 i hi)⟩
theorem wpIn_quiet {id : Nat} {Q : Exit → Act → World → Prop} {a : Act} {w : World} (hm : P.follows .mixedOrders = true) (hB : Region.lexB .any ops = true) (hC : C { w with drawn := w.drawn + 1 })
    (h : wpQuiet P ops C (fun a' => ∀ w', C w' → Q .normal a' w') ops.toList a) : (Code.region id ops true).wpIn (fen ro) 0 P Q a w := by
  simp only [Region.lexB, Bool.and_eq_true] at hB
  refine wpIn_region_any hm (wpAnyIn_of_quiet (Q := fun a' => ∀ w', C w' → Q .normal a' w') (fun _ w' hw' h => h w' hw') _ _ _ _ hC ?_)
  have := wpAnyQ_lex (C := C) (md := .any) hB.1 ops.toList 0 (Array.replicate ops.size false) a (by simp) (by simpa using hB.2) h
  simpa using this
theorem wpOpIn_of_stOp {i : Nat} {a : Act} {K : Act → Prop} {K' : Act → World → Prop} {Q' : Exit → Act → World → Prop} {w : World} (h : ∀ a, K a → K' a w) (hh : stOp P ops w i K a) : wpOpIn (fen ro) 0 P ops Q' i K' a w := by
  unfold stOp at hh
  cases ho : ops[i]? with
  | none => unfold wpOpIn; rw [ho] at hh ⊢; exact h _ hh
  | some o =>
    rw [ho] at hh
    simp only at hh
    by_cases hw : Region.wanted o (yielded ops a.tmps) = true
    · rw [if_pos hw] at hh
      unfold Oper.still at hh
      refine wpOpIn_of_val ho hw ?_ (fun d w' e1 => by rw [e1] at hh; exact hh) (fun x w' e1 => by rw [e1] at hh; exact hh)
      generalize (execOp a.eval o).run P w = r at *
      cases r with
      | ok x w' =>
        cases x <;> simp only [Oper.stillUpon] at hh
        case value u => obtain ⟨e1, e2⟩ := hh; rw [e1]; exact h _ e2
        case skip => obtain ⟨e1, e2⟩ := hh; rw [e1, Oper.uponIn_skip]; exact h _ e2
        case enter f args =>
          obtain ⟨e1, v, hc, hn⟩ := hh
          rw [e1, Oper.uponIn_enter]
          exact ⟨fun h => (by rw [fen_depth] at h; cases h), CallsIn.mono (fen_calls hc) fun e w'' ⟨he, hw''⟩ => by subst he; subst hw''; exact h _ hn⟩
      | halt x w' => simp only [Oper.stillUpon] at hh
    · unfold wpOpIn
      rw [if_neg hw] at hh
      rw [ho]
      simp only
      rw [if_neg hw]
      exact ⟨fun f _ => fen_fn ro f, h _ hh⟩
theorem wpAnyIn_of_head {n g : Nat} {L : Array Bool → Act → Prop} {Q' : Exit → Act → World → Prop} {w : World} (hL : ∀ listed a, L listed a → wpAnyIn (fen ro) 0 P md ops Q' g listed a w) :
    ∀ (f : Nat) (listed : Array Bool) (a : Act), wpAnyL P md ops w n L f listed a → wpAnyIn (fen ro) 0 P md ops Q' (f + g) listed a w
  | 0, listed, a, h => by rw [Nat.zero_add]; exact hL _ _ h
  | f + 1, listed, a, h => by
    rw [show f + 1 + g = (f + g) + 1 by omega]
    exact ⟨fun h0 => absurd h0 h.1, fun i hi => wpOpIn_of_stOp (fun a' h' => wpAnyIn_of_head hL f _ a' h') (h.2 i hi).2⟩
theorem wpAnyIn_of_seq {Q' : Exit → Act → World → Prop} : ∀ (l : List Oper) (k : Nat) (listed : Array Bool) (a : Act) (w : World), (∀ j, l[j]? = ops[k + j]?) →
    Region.seqB md ops l.length k listed = true → wpListIn (fen ro) 0 P ops Q' l a w → wpAnyIn (fen ro) 0 P md ops Q' l.length listed a w
  | [], k, listed, a, w, _, hB, h => ⟨by simpa [Region.seqB] using hB, h⟩
  | o :: l, k, listed, a, w, hl, hB, h => by
    have h0 : ops[k]? = some o := by simpa using (hl 0).symm
    simp only [List.length_cons, Region.seqB, Bool.and_eq_true, decide_eq_true_eq] at hB
    refine ⟨fun h1 => (by rw [hB.1] at h1; cases h1), fun i hi => ?_⟩
    rw [hB.1] at hi
    have hik : i = k := by simpa using hi
    subst hik
    have hw : wpOpIn (fen ro) 0 P ops Q' i (wpListIn (fen ro) 0 P ops Q' l) a w := by unfold wpOpIn; simp only [h0]; exact h
    exact wpOpIn_mono (fun a' w' h' => wpAnyIn_of_seq l (i + 1) _ a' w' (fun j => by have := hl (j + 1); simpa [Nat.add_assoc, Nat.add_comm 1 j] using this) hB.2 h') hw
theorem wpIn_still_tail {id : Nat} {Q : Exit → Act → World → Prop} {a : Act} {w : World} {l : List Oper} (n : Nat) (hm : P.follows .mixedOrders = true) (hB : Region.lexTailB .any l.toArray n = true)
    (h : wpStill P l.toArray { w with drawn := w.drawn + 1 } (fun a' => wpListIn (fen ro) 0 P l.toArray Q (l.drop n) a' { w with drawn := w.drawn + 1 }) (l.take n) a) : (Code.region id l.toArray true).wpIn (fen ro) 0 P Q a w := by
  simp only [Region.lexTailB, Bool.and_eq_true, decide_eq_true_eq] at hB
  obtain ⟨⟨⟨⟨hsel, hn⟩, hs⟩, hc⟩, hlex⟩ := hB
  have hn' : n < l.length := by simpa using hn
  have htl : (l.take n).length = n := by simp; omega
  have hdl : (l.drop n).length = l.toArray.size - n := by simp
  have inv0 : HeadInv .any l.toArray n (Array.replicate l.toArray.size false) :=
    ⟨by simp, fun j oj _ hl => (by rw [getD_replicate_false] at hl; cases hl), fun t _ ht => getD_in (by simpa using ht) (getD_replicate_false _ _)⟩
  have H := wpAnyL_lex (md := .any) (g := l.toArray.size - n) hsel hs hc hn (l.take n) 0 _ a (fun j hj => by
    have hj' : j < n := by rw [htl] at hj; exact hj
    simp [hj']) (by simpa using htl) inv0 (by rw [htl]; exact hlex) h
  refine wpIn_region_any hm ?_
  have := wpAnyIn_of_head (ro := ro) (Q' := Q) (g := l.toArray.size - n) (fun listed a' hL => by
    have := wpAnyIn_of_seq (ro := ro) (md := .any) (Q' := Q) (l.drop n) n listed a' { w with drawn := w.drawn + 1 } (fun j => by simp [List.getElem?_drop]) (by rw [hdl]; exact hL.1) hL.2
    rwa [hdl] at this) _ _ _ H
  rw [htl, show n + (l.toArray.size - n) = l.toArray.size by omega] at this
  exact this
end

def WQ (P : Program) (n : Nat) (l0 : List Oper) (C : World → Prop) (M : Env → Prop) (l : List Oper) (e : Env) : Prop :=
  ∀ a, Kn n e a → wpQuiet P l0.toArray C (fun a' => ∃ e', Kn n e' a' ∧ M e') l a

section
variable {P : Program} [T : TT P] {ro : Option Nat} {n : Nat} {l0 rest : List Oper} {N R : Nor} {X : Ext} {Z : Pan} {e : Env} {w : World} {ty : TypeId} {pos : String} {aft : Array Edge} {g : Option (Nat × Bool)} {C : World → Prop} {M : Env → Prop} {op : Op}

/-- A region that draws and only reads, calls of functions that hand back numbers among it: in the text's order, in every world of a class. -/
theorem WC.regQ {id : Nat} {l : List Oper} (C : World → Prop) (hm : P.follows .mixedOrders = true) (hB : Region.lexB .any l.toArray = true) (hC : ∀ w', w.grownBy w' none → C w')
    (h : WQ P n l C (fun e' => ∀ w', C w' → N e' w') l e) : WC P ro n (.region id l.toArray true) N R X Z e w := by
  intro a ka
  refine wpIn_quiet (C := C) hm hB (hC _ (drewB w)) ?_
  have := h a ka
  have hmono : ∀ (l1 : List Oper) (a : Act) (Q Q' : Act → Prop), (∀ a, Q a → Q' a) → wpQuiet P l.toArray C Q l1 a → wpQuiet P l.toArray C Q' l1 a := by
    intro l1
    induction l1 with
    | nil => intro a Q Q' hq h1; exact hq a h1
    | cons o r ih =>
      intro a Q Q' hq h1
      simp only [wpQuiet] at h1 ⊢
      split
      · rename_i hw
        rw [if_pos hw] at h1
        exact Oper.quiet_mono (fun a' ha' => ih a' Q Q' hq ha') h1
      · rename_i hw
        rw [if_neg hw] at h1
        exact ih _ Q Q' hq h1
  refine hmono _ _ _ _ ?_ this
  rintro a' ⟨e', ke, hN⟩ w' hw'
  exact ⟨e', ke, hN w' hw'⟩

theorem WQ.le {l : List Oper} (h : n ≤ 1000000000 → WQ P n l0 C M l e) : WQ P n l0 C M l e := fun a ha => h ha.le a ha
theorem WQ.nil (h : M e) : WQ P n l0 C M [] e := fun a ka => ⟨e, ka, h⟩
theorem WQ.val {d : Nat} {v : Value} (hg : grd l0 e g = some true) (hd : Nat.blt d n = true) (hy : ∀ w, C w → Yv P e op ty w v w) (h : WQ P n l0 C M rest ((d, v) :: e)) :
    WQ P n l0 C M (⟨some d, op, ty, pos, aft, g⟩ :: rest) e := by
  intro a ka
  unfold wpQuiet
  rw [if_pos (by rw [grd_wanted ka (o := ⟨some d, op, ty, pos, aft, g⟩) hg])]
  refine ⟨v, fun w hw => ?_, h _ (ka.put hd)⟩
  unfold Oper.quietAt
  rw [hy w hw a.eval ka.agree]
  exact ⟨rfl, rfl⟩
theorem WQ.pure {d : Nat} {v : Value} (hg : grd l0 e g = some true) (hv : pureV T.ti e op = some v) (hd : Nat.blt d n = true) (h : WQ P n l0 C M rest ((d, v) :: e)) :
    WQ P n l0 C M (⟨some d, op, ty, pos, aft, g⟩ :: rest) e := WQ.val hg hd (fun w _ => pure_run hv) h
theorem WQ.off {d : Nat} {c : Bool} (hg : grd l0 e g = some c) (hc : c = false) (hd : Nat.blt d n = true) (h : WQ P n l0 C M rest ((d, undef) :: e)) :
    WQ P n l0 C M (⟨some d, op, ty, pos, aft, g⟩ :: rest) e := by
  intro a ka
  unfold wpQuiet
  rw [if_neg (by rw [grd_wanted ka (o := ⟨some d, op, ty, pos, aft, g⟩) hg, hc]; decide)]
  exact h _ (ka.put hd)
theorem WQ.load {d : Nat} {t : TypeId} {i : TI} {x : Operand} {p : Addr} {v : Value} (hg : grd l0 e g = some true) (ht : T.ti t = some i) (h1 : isOne i.k = true) (hx : opv e x = some (.pointer (some p))) (hd : Nat.blt d n = true)
    (hc : ∀ w, C w → w.cell? p = some v) (h : WQ P n l0 C M rest ((d, v) :: e)) : WQ P n l0 C M (⟨some d, .load t x, ty, pos, aft, g⟩ :: rest) e :=
  WQ.val hg hd (fun w hw => run_load1 ht h1 hx (hc w hw)) h
theorem WQ.call {d : Nat} {fo : Operand} {f : FuncId} {fi ca : Array Value} {args : Array Operand} {tys : Array TypeId} {vs all : List Value} {v : Value}
    (hg : grd l0 e g = some true) (hf : opv e fo = some (.func (.func f) fi ca)) (ha : opvs e args.toList = some vs) (hall : fi.toList ++ vs ++ ca.toList = all) (hd : Nat.blt d n = true) (hE : Ents P f)
    (hc : ∀ w, C w → Ret P f all w fun u w' => u = v ∧ C w') (h : WQ P n l0 C M rest ((d, v) :: e)) :
    WQ P n l0 C M (⟨some d, .call ⟨.value fo, args, tys⟩, ty, pos, aft, g⟩ :: rest) e := by
  intro a ka
  unfold wpQuiet
  rw [if_pos (by rw [grd_wanted ka (o := ⟨some d, .call ⟨.value fo, args, tys⟩, ty, pos, aft, g⟩) hg])]
  refine ⟨v, fun w hw => ?_, h _ (ka.put hd)⟩
  unfold Oper.quietAt
  rw [callee_run (P := P) (w := w) (ty := ty) hf ha hall hE a.eval ka.agree]
  refine ⟨rfl, Calls.mono (hc w hw) ?_⟩
  rintro en w' ⟨u, rfl, rfl, hw'⟩
  exact ⟨rfl, hw'⟩
theorem WQ.known {d : Nat} {v : Value} {l : List Oper} (hd : look e d = some v) (h : WQ P n l0 C M l ((d, v) :: e)) : WQ P n l0 C M l e := fun a ha =>
  h a (ha.known hd)
theorem WQ.split (d : Nat) {b : Bool} {l : List Oper} (hd : look e d = some (.bool b)) (ht : b = true → WQ P n l0 C M l ((d, .bool true) :: e))
    (hf : b = false → WQ P n l0 C M l ((d, .bool false) :: e)) : WQ P n l0 C M l e := by
  cases b with
  | true => exact (ht rfl).known hd
  | false => exact (hf rfl).known hd
/-- An element of a slice, read, in every world of the class. -/
theorem WQ.ixload {d1 d2 : Nat} {t t2 E : TypeId} {i : TI} {x ix : Operand} {b o len cap j : Nat} {k : IntKind} {v z : Value} {s b2 : Nat} {ty2 : TypeId} {pos2 : String} {aft2 : Array Edge} {g2 : Option (Nat × Bool)}
    (hg : grd l0 e g = some true) (hg2 : ∀ p, grd l0 ((d1, p) :: e) g2 = some true)
    (ht : T.ti t = some ⟨.slice E, z, s, b2⟩) (hi : T.ti E = some i) (hone : i.size = 1) (ht2 : T.ti t2 = some i) (h1 : isOne i.k = true)
    (hx : opv e x = some (.slice (some ⟨b, o, none⟩) len cap)) (hix : opv e ix = some (.int k (j : Nat))) (hj : j < len) (hd1 : Nat.blt d1 n = true) (hd2 : Nat.blt d2 n = true)
    (hc : ∀ w, C w → w.cell? ⟨b, o + j, none⟩ = some v)
    (h : WQ P n l0 C M rest ((d2, v) :: (d1, .pointer (some ⟨b, o + j, none⟩)) :: e)) :
    WQ P n l0 C M (⟨some d1, .indexAddr t x ix, ty, pos, aft, g⟩ :: ⟨some d2, .load t2 (.tmp d1), ty2, pos2, aft2, g2⟩ :: rest) e := by
  have hu : P.underlying t = some (.slice E) := (T.ok t _ ht).k
  refine WQ.le fun hle => WQ.val (v := .pointer (some ⟨b, o + j, none⟩)) hg hd1 ?_ (WQ.load (hg2 _) ht2 h1 (opv_head hd1 hle) hd2 hc h)
  intro w hw ρ hρ d' pos' aft' g'
  have hsz := (T.ok E i hi).sizeOf w
  rw [hone] at hsz
  have c1 : (0 : Int) ≤ (j : Int) ∧ (j : Int) < (len : Int) := ⟨by omega, by omega⟩
  simp only [execOp, hρ _ _ hx, hρ _ _ hix, Instr.indexAt, asIntOf, Sem.run_bind, Sem.run_pure, Result.andThen_ok, run_underlying hu]
  rw [if_pos c1]
  simp [hsz, Addr.add_lit]

/-! #### .. reads first, and one chain of operations behind them that writes -/
def WS (P : Program) (n : Nat) (l0 : List Oper) (w : World) (M : Env → Prop) (l : List Oper) (e : Env) : Prop :=
  ∀ a, Kn n e a → wpStill P l0.toArray w (fun a' => ∃ e', Kn n e' a' ∧ M e') l a
theorem WC.regS {id : Nat} {l : List Oper} (m : Nat) (hm : P.follows .mixedOrders = true) (hB : Region.lexTailB .any l.toArray m = true) {l1 l2 : List Oper} (h1 : l.take m = l1) (h2 : l.drop m = l2)
    (h : ∀ w', w.grownBy w' none → w'.heap = w.heap → WS P n l w' (fun e' => WL P ro n l N Z l2 e' w') l1 e) : WC P ro n (.region id l.toArray true) N R X Z e w := by
  intro a ka
  refine wpIn_still_tail m hm hB ?_
  rw [h1, h2]
  have := h _ (drewB w) rfl a ka
  have hmono : ∀ (l1 : List Oper) (a : Act) (w : World) (Q Q' : Act → Prop), (∀ a, Q a → Q' a) → wpStill P l.toArray w Q l1 a → wpStill P l.toArray w Q' l1 a := by
    intro l1
    induction l1 with
    | nil => intro a w Q Q' hq h1; exact hq a h1
    | cons o r ih =>
      intro a w Q Q' hq h1
      simp only [wpStill] at h1 ⊢
      split
      · rename_i hw
        rw [if_pos hw] at h1
        unfold Oper.still at h1 ⊢
        generalize (execOp a.eval o).run P w = rr at *
        cases rr with
        | halt x w1 => exact h1
        | ok x w1 =>
          cases x <;> simp only [Oper.stillUpon] at h1 ⊢ <;> first
            | exact h1
            | exact ⟨h1.1, ih _ _ Q Q' hq h1.2⟩
            | (obtain ⟨ha, v, hv, hn⟩ := h1; exact ⟨ha, v, hv, ih _ _ Q Q' hq hn⟩)
      · rename_i hw
        rw [if_neg hw] at h1
        exact ih _ _ Q Q' hq h1
  refine hmono _ _ _ _ _ ?_ this
  rintro a' ⟨e', ke, hN⟩
  have hq := hN a' ke
  have hm2 : ∀ (l1 : List Oper) (a : Act) (w : World) (Q Q' : Exit → Act → World → Prop), (∀ x a w, Q x a w → Q' x a w) → wpListIn (fen ro) 0 P l.toArray Q l1 a w → wpListIn (fen ro) 0 P l.toArray Q' l1 a w := by
    intro l1
    induction l1 with
    | nil => intro a w Q Q' hq h1; exact hq _ a w h1
    | cons o r ih =>
      intro a w Q Q' hq h1
      simp only [wpListIn] at h1 ⊢
      split
      · rename_i hw
        rw [if_pos hw] at h1
        refine ⟨h1.1, ?_⟩
        have h2 := h1.2
        generalize (o.semAt (fen ro).round a.eval).run P w = rr at *
        cases rr with
        | halt x w1 => cases x <;> simp only [Oper.uponIn] at h2 ⊢ <;> first | exact h2 | exact hq _ _ _ h2
        | ok x w1 =>
          cases x <;> simp only [Oper.uponIn] at h2 ⊢ <;> first
            | exact h2
            | exact ih _ _ Q Q' hq h2
            | (refine ⟨h2.1, CallsIn.mono h2.2 ?_⟩; intro en w2 hen; cases en <;> first | exact ih _ _ Q Q' hq hen | exact hq _ _ _ hen | (obtain ⟨a0, w0, h0⟩ := hen; exact ⟨a0, w0, hq _ _ _ h0⟩))
            | (refine ⟨h2.1, RowsIn.mono h2.2 ?_⟩; intro v w2 hen; exact ih _ _ Q Q' hq hen)
            | (refine ⟨h2.1, RoundIn.mono h2.2 ?_⟩; intro en w2 hen; cases en <;> first | exact ih _ _ Q Q' hq hen | exact hq _ _ _ hen | (obtain ⟨a0, w0, h0⟩ := hen; exact ⟨a0, w0, hq _ _ _ h0⟩))
      · rename_i hw
        rw [if_neg hw] at h1
        exact ⟨h1.1, ih _ _ Q Q' hq h1.2⟩
  refine hm2 _ _ _ _ _ ?_ hq
  intro x a2 w2 hx
  cases x with
  | ret => obtain ⟨_, _, hf⟩ := hx; exact hf.elim
  | exit i => obtain ⟨_, _, hf⟩ := hx; exact hf.elim
  | _ => exact hx

theorem WS.nil (h : M e) : WS P n l0 w M [] e := fun a ka => ⟨e, ka, h⟩
theorem WS.val {d : Nat} {v : Value} (hg : grd l0 e g = some true) (hd : Nat.blt d n = true) (hy : Yv P e op ty w v w) (h : WS P n l0 w M rest ((d, v) :: e)) :
    WS P n l0 w M (⟨some d, op, ty, pos, aft, g⟩ :: rest) e := by
  intro a ka
  unfold wpStill
  rw [if_pos (by rw [grd_wanted ka (o := ⟨some d, op, ty, pos, aft, g⟩) hg])]
  unfold Oper.still
  rw [hy a.eval ka.agree]
  exact ⟨rfl, h _ (ka.put hd)⟩
theorem WS.pure {d : Nat} {v : Value} (hg : grd l0 e g = some true) (hv : pureV T.ti e op = some v) (hd : Nat.blt d n = true) (h : WS P n l0 w M rest ((d, v) :: e)) :
    WS P n l0 w M (⟨some d, op, ty, pos, aft, g⟩ :: rest) e := WS.val hg hd (pure_run hv) h
theorem WS.off {d : Nat} {c : Bool} (hg : grd l0 e g = some c) (hc : c = false) (hd : Nat.blt d n = true) (h : WS P n l0 w M rest ((d, undef) :: e)) :
    WS P n l0 w M (⟨some d, op, ty, pos, aft, g⟩ :: rest) e := by
  intro a ka
  unfold wpStill
  rw [if_neg (by rw [grd_wanted ka (o := ⟨some d, op, ty, pos, aft, g⟩) hg, hc]; decide)]
  exact h _ (ka.put hd)
theorem WS.load {d : Nat} {t : TypeId} {i : TI} {x : Operand} {p : Addr} {v : Value} (hg : grd l0 e g = some true) (ht : T.ti t = some i) (h1 : isOne i.k = true) (hx : opv e x = some (.pointer (some p))) (hd : Nat.blt d n = true)
    (hc : w.cell? p = some v) (h : WS P n l0 w M rest ((d, v) :: e)) : WS P n l0 w M (⟨some d, .load t x, ty, pos, aft, g⟩ :: rest) e :=
  WS.val hg hd (run_load1 ht h1 hx hc) h
theorem WS.loadB {d b j : Nat} {t t' : TypeId} {i : TI} {x : Operand} {arr : Array Value} {fr : Nat × Nat} {v : Value} (hg : grd l0 e g = some true) (ht : T.ti t = some i) (h1 : isOne i.k = true)
    (hx : opv e x = some (.pointer (some ⟨b, j, none⟩))) (hd : Nat.blt d n = true)
    (hc : w.heap[b]? = some (.cells arr t' fr)) (hv : nth arr.toList j = some v) (h : WS P n l0 w M rest ((d, v) :: e)) : WS P n l0 w M (⟨some d, .load t x, ty, pos, aft, g⟩ :: rest) e :=
  WS.load hg ht h1 hx hd (cell_of_obj hc (by rw [nth_eq] at hv; simpa using hv)) h
theorem WS.known {d : Nat} {v : Value} {l : List Oper} (hd : look e d = some v) (h : WS P n l0 w M l ((d, v) :: e)) : WS P n l0 w M l e := fun a ha =>
  h a (ha.known hd)
theorem WS.split (d : Nat) {b : Bool} {l : List Oper} (hd : look e d = some (.bool b)) (ht : b = true → WS P n l0 w M l ((d, .bool true) :: e))
    (hf : b = false → WS P n l0 w M l ((d, .bool false) :: e)) : WS P n l0 w M l e := by
  cases b with
  | true => exact (ht rfl).known hd
  | false => exact (hf rfl).known hd
theorem WS.ix {d : Nat} {t E : TypeId} {i : TI} {x ix : Operand} {b o len cap j : Nat} {k : IntKind} {z : Value} {s b2 : Nat}
    (hg : grd l0 e g = some true) (ht : T.ti t = some ⟨.slice E, z, s, b2⟩) (hi : T.ti E = some i)
    (hx : opv e x = some (.slice (some ⟨b, o, none⟩) len cap)) (hix : opv e ix = some (.int k (j : Nat))) (hj : j < len) (hd : Nat.blt d n = true)
    (h : WS P n l0 w M rest ((d, .pointer (some ⟨b, o + j * i.size, none⟩)) :: e)) :
    WS P n l0 w M (⟨some d, .indexAddr t x ix, ty, pos, aft, g⟩ :: rest) e := by
  have hu : P.underlying t = some (.slice E) := (T.ok t _ ht).k
  have hsz := (T.ok E i hi).sizeOf w
  refine WS.val hg hd ?_ h
  intro ρ hρ d' pos' aft' g'
  have c1 : (0 : Int) ≤ (j : Int) ∧ (j : Int) < (len : Int) := ⟨by omega, by omega⟩
  simp only [execOp, hρ _ _ hx, hρ _ _ hix, Instr.indexAt, asIntOf, Sem.run_bind, Sem.run_pure, Result.andThen_ok, run_underlying hu]
  rw [if_pos c1]
  simp [hsz, Addr.add_lit]
end
end Go.W

/- W, fourth part: slices that are made and grown; parts of slices; literals; elements of arrays. -/
namespace Go.W
open Go.RowKit

theorem owns_shape {w : World} {B E s n : Nat} {v : Value} {xs : List Value} (h : w.ownsRow B E s v n xs) : ∃ a cap, v = .slice a n cap := by
  obtain ⟨hl, ⟨hv, hn⟩ | ⟨g, cap, cur, hv, _⟩⟩ := h
  · exact ⟨none, 0, by rw [hv, hn]⟩
  · exact ⟨_, _, hv⟩

/-- Only numbers, truth values, addresses .. (no structs): what a cell may hold. -/
def Cells (cs : List Value) : Prop := ∀ u ∈ cs, u.oneCell' = true
theorem Cells.cons {v : Value} {b : List Value} (ha : v.oneCell' = true) (hb : Cells b) : Cells (v :: b) := fun u hu => by
  rcases List.mem_cons.1 hu with h | h
  · rw [h]; exact ha
  · exact hb u h
theorem Cells.nil : Cells [] := fun u hu => by cases hu
section
variable {P : Program} [T : TT P] {ro : Option Nat} {n : Nat} {l0 rest : List Oper} {N R : Nor} {X : Ext} {Z : Pan} {e : Env} {w : World} {ty : TypeId} {pos : String} {aft : Array Edge} {g : Option (Nat × Bool)}

theorem run_append2 {t ty' E : TypeId} {i : TI} {z : Value} {s0 b0 B : Nat} {v : Value} {k m c : Nat} {xs news : List Value} {a : Option Addr} (ht : T.ti t = some ⟨.slice E, z, s0, b0⟩) (hi : T.ti E = some i)
    (hzs : i.zero.cells.size = i.size) (hsz : 0 < i.size)
    (hown : w.ownsRow B E i.size v k xs) (hs : Sl w a news) (hl : news.length = m * i.size) (h1 : Cells news)
    (h63 : k + m ≤ maxLen) (hbytes : (k + m) * i.bytes ≤ 140737488355328) (hbase : B ≤ w.heap.size) :
    ∃ v' w', (Builtin.append_ #[t, t] ty' #[v, .slice a m c]).run P w = .ok v' w' ∧ w'.ownsRow B E i.size v' (k + m) (xs ++ news) ∧ w.grownBy w' v.ownBlock ∧
      (v'.ownBlock = none ∨ v'.ownBlock = v.ownBlock ∨ ∃ q, v'.ownBlock = some q ∧ w.heap.size ≤ q) := by
  have hu : P.underlying t = some (.slice E) := (T.ok t _ ht).k
  obtain ⟨j, hj, hjj⟩ := Option.map_eq_some_iff.1 (T.ok E i hi).info
  simp only [Prod.mk.injEq] at hjj
  obtain ⟨hj1, hj2, hj3⟩ := hjj
  cases a with
  | none =>
    have hn : news = [] := by
      cases news with
      | nil => rfl
      | cons u r => obtain ⟨b, o, hb, _⟩ := hs 0 u rfl; cases hb
    subst hn
    have hm : m = 0 := by
      simp only [List.length_nil] at hl
      rcases Nat.mul_eq_zero.1 hl.symm with h | h
      · exact h
      · omega
    subst hm
    refine ⟨v, w, ?_, by simpa using hown, World.grownBy.refl w _, .inr (.inl rfl)⟩
    obtain ⟨_, ⟨hv, hn⟩ | ⟨g', cap, cur, hv, hb, hg, hnc, hcm, hcs, htk⟩⟩ := hown
    · subst hv
      simp [Builtin.append_, run_underlying hu, sizeOf, typeInfo, hj, Builtin.lenOf, Builtin.firstCells]
    · subst hv
      simp [Builtin.append_, run_underlying hu, sizeOf, typeInfo, hj, Builtin.lenOf, Builtin.firstCells, hnc, storeCells]
  | some ad =>
    have hnews : ∀ (q : Nat) (u : Value), news[q]? = some u → w.cell? (ad.add q) = some u := by
      intro q u hq
      obtain ⟨b, o, hb, hc⟩ := hs q u hq
      simp only [Option.some.injEq] at hb
      rw [hb, Addr.add_lit]
      exact hc
    obtain ⟨v', w', hr, ho, hg, hnil⟩ := run_append_own (P := P) w B t ty' E j i.zero i.size i.bytes hu hj hj1 hj2 hj3 hzs hsz v k xs hown ad m c news hl hnews h1 h63 hbytes hbase
    refine ⟨v', w', hr, ho, hg, ?_⟩
    obtain ⟨hlx, ⟨hv, hn⟩ | ⟨g', cap, cur, hv, hb, hgg, hnc, hcm, hcs, htk⟩⟩ := hown
    · subst hv
      subst hn
      have hx0 : xs = [] := List.eq_nil_of_length_eq_zero (by simpa using hlx)
      subst hx0
      obtain ⟨v2, w2, hr2, ho2, _, _⟩ := run_append_own (P := P) w w.heap.size t ty' E j i.zero i.size i.bytes hu hj hj1 hj2 hj3 hzs hsz (.slice none 0 0) 0 [] (World.ownsRow_nil w _ _ _) ad m c news hl hnews h1 h63 hbytes (Nat.le_refl _)
      rw [hr] at hr2
      simp only [Result.ok.injEq] at hr2
      rw [← hr2.1, ← hr2.2] at ho2
      cases hb : v'.ownBlock with
      | none => exact .inl rfl
      | some q => exact .inr (.inr ⟨q, rfl, (World.ownsRow.lt ho2 q hb).1⟩)
    · subst hv
      by_cases hroom : k + m ≤ cap
      · have hfit : k * j.size + news.length ≤ cur.size := by rw [hl, hcs, hj2, ← Nat.add_mul]; exact Nat.mul_le_mul_right _ hroom
        have hr2 := run_append_room (P := P) w t ty' E j hu hj g' k cap cur hgg ad m c news (by rw [hl, hj2]) hnews h1 hroom hfit
        rw [hr] at hr2
        simp only [Result.ok.injEq] at hr2
        rw [hr2.1]
        exact .inr (.inl rfl)
      · have holds : ∀ q u, xs[q]? = some u → w.cell? ((⟨g', 0, none⟩ : Addr).add q) = some u :=
          World.ownsRow.cells (v := .slice (some ⟨g', 0, none⟩) k cap) (n := k) (base := B) (size := i.size) (e := E) ⟨hlx, .inr ⟨g', cap, cur, rfl, hb, hgg, hnc, hcm, hcs, htk⟩⟩ rfl
        have h63' : ((k + m : Nat) : Int) ≤ 9223372036854775807 := by simp only [maxLen] at h63; omega
        have hr2 := run_append_grow (P := P) w t ty' E j i.zero hu hj hj1 ⟨g', 0, none⟩ k cap xs (by rw [hlx, hj2]) holds ad m c news (by rw [hl, hj2]) hnews (by omega) h63' (growslice_fits (by omega) (by rw [hj3]; exact hbytes))
        rw [hr] at hr2
        simp only [Result.ok.injEq] at hr2
        rw [hr2.1]
        exact .inr (.inr ⟨_, rfl, Nat.le_refl _⟩)

/-- append, to a slice that is one's own. -/
theorem WL.append {d : Nat} {s x : Operand} {t E : TypeId} {i : TI} {z : Value} {s0 b0 : Nat} {w0 : World} {L : List Ent} {v : Value} {k_ m c : Nat} {xs news : List Value} {a : Option Addr}
    (q : Nat) (hp : Hp w0 w L) (hg : grd l0 e g = some true) (hd : Nat.blt d n = true) (ht : T.ti t = some ⟨.slice E, z, s0, b0⟩) (hi : T.ti E = some i)
    (hzs : i.zero.cells.size = i.size) (hsz : 0 < i.size)
    (hsv : opv e s = some v) (hxv : opv e x = some (.slice a m c))
    (hq : nth L q = some (.row E i.size v k_ xs)) (hs : Sl w a news) (hl : news.length = m * i.size) (h1 : Cells news)
    (h63 : k_ + m ≤ maxLen) (hbytes : (k_ + m) * i.bytes ≤ 140737488355328)
    (h : ∀ a' cap' w', Hp w0 w' (L.set q (.row E i.size (.slice a' (k_ + m) cap') (k_ + m) (xs ++ news))) → w.grownBy w' v.ownBlock → WL P ro n l0 N Z rest ((d, .slice a' (k_ + m) cap') :: e) w') :
    WL P ro n l0 N Z (⟨some d, .call ⟨.builtin .append, #[s, x], #[t, t]⟩, ty, pos, aft, g⟩ :: rest) e w := by
  obtain ⟨v', w', hr, ho, hgr, hob⟩ := run_append2 (c := c) (ty' := ty) ht hi hzs hsz (hp.at q hq) hs hl h1 h63 hbytes hp.below.size
  obtain ⟨a', cap', rfl⟩ := owns_shape ho
  refine WL.val (w' := w') hg rfl hd ?_ (h a' cap' w' (hp.repl q hq rfl hgr (fun k hk => hk) ho (by
    intro k hk
    rcases hob with hob | hob | ⟨r, hob, hr⟩
    · rw [show (Ent.row E i.size (.slice a' (k_ + m) cap') (k_ + m) (xs ++ news)).owns k ↔ (Value.slice a' (k_ + m) cap').ownBlock = some k from Iff.rfl, hob] at hk; cases hk
    · exact .inl (by rw [show (Ent.row E i.size v k_ xs).owns k ↔ v.ownBlock = some k from Iff.rfl, ← hob]; exact hk)
    · refine .inr ?_
      rw [show (Ent.row E i.size (.slice a' (k_ + m) cap') (k_ + m) (xs ++ news)).owns k ↔ (Value.slice a' (k_ + m) cap').ownBlock = some k from Iff.rfl, hob] at hk
      simp only [Option.some.injEq] at hk
      rw [← hk]; exact hr)) hgr)
  intro ρ hρ d' pos' aft' g'
  simp [execOp, resolve, invoke, builtin, hρ _ _ hsv, hρ _ _ hxv, hr]

/-- make. -/
theorem WL.make {d : Nat} {x y : Operand} {t E : TypeId} {i : TI} {z : Value} {s0 b0 m : Nat} {kl kc : IntKind}
    (hg : grd l0 e g = some true) (hd : Nat.blt d n = true) (ht : T.ti t = some ⟨.slice E, z, s0, b0⟩) (hi : T.ti E = some i) (h1 : i.size = 1) (hone : i.zero.cells = #[i.zero])
    (hx : opv e x = some (.int kl (m : Nat))) (hy : opv e y = some (.int kc (m : Nat))) (hb : i.bytes * m ≤ 281474976710656) (h63 : m ≤ maxLen)
    (h : ∀ b w', NewB w b (.cells (List.replicate m i.zero).toArray E) w' → WL P ro n l0 N Z rest ((d, .slice (some ⟨b, 0, none⟩) m m) :: e) w') :
    WL P ro n l0 N Z (⟨some d, .makeSlice t x y, ty, pos, aft, g⟩ :: rest) e w := by
  have hu : P.underlying t = some (.slice E) := (T.ok t _ ht).k
  obtain ⟨j, hj, hjj⟩ := Option.map_eq_some_iff.1 (T.ok E i hi).info
  simp only [Prod.mk.injEq] at hjj
  obtain ⟨hj1, hj2, hj3⟩ := hjj
  have hb' : (j.bytes : Int) * (m : Int) ≤ 281474976710656 := by
    rw [hj3]
    have h : ((i.bytes * m : Nat) : Int) ≤ 281474976710656 := by omega
    rwa [Int.natCast_mul] at h
  have h63' : (m : Int) ≤ 9223372036854775807 := by simp only [maxLen] at h63; omega
  have hr := run_make (P := P) w t E j i.zero hu hj hj1 kl kc m m (by omega) (Int.le_refl _) hb' h63'
  simp only [Int.toNat_natCast, hj2, h1, Nat.mul_one, hone] at hr
  have hc : madeCells #[i.zero] m = (List.replicate m i.zero).toArray := by
    rw [← Array.toList_inj, toList_madeCells_one]
  rw [hc] at hr
  refine WL.val hg rfl hd ?_ (h _ _ (newB w _))
  intro ρ hρ d' pos' aft' g'
  simp [execOp, hρ _ _ hx, hρ _ _ hy, hr]

/-- 'x[:h]'. -/
theorem WL.sliceHi {d : Nat} {t E : TypeId} {i : TI} {z : Value} {s0 b0 len cap h : Nat} {x y : Operand} {a : Option Addr} {k : IntKind}
    (hg : grd l0 e g = some true) (hd : Nat.blt d n = true) (ht : T.ti t = some ⟨.slice E, z, s0, b0⟩) (hi : T.ti E = some i)
    (hx : opv e x = some (.slice a len cap)) (hy : opv e y = some (.int k (h : Nat))) (hh : h ≤ cap)
    (hn : WL P ro n l0 N Z rest ((d, .slice a h cap) :: e) w) :
    WL P ro n l0 N Z (⟨some d, .slice t x none (some y) none, ty, pos, aft, g⟩ :: rest) e w := by
  have hu : P.underlying t = some (.slice E) := (T.ok t _ ht).k
  have hel : P.elem t = E := by simp [Program.elem, hu]
  have hu' : P.underlying t = some (.slice (P.elem t)) := by rw [hel]; exact hu
  have hsz := (T.ok E i hi).sizeOf w
  have hr := run_slice_h (P := P) w t a len cap hu' k h (by omega) (by omega)
  rw [hel, hsz] at hr
  have hval : sliced a 0 (h : Int).toNat cap i.size = .slice a h cap := by
    simp only [sliced, Nat.zero_mul, Nat.sub_zero, Int.toNat_natCast]
    congr 1
    split
    · rfl
    · cases a with
      | none => rfl
      | some p => simp [Addr.add_zero']
  have hval2 : sliced a 0 h cap i.size = .slice a h cap := by simpa using hval
  refine WL.val hg rfl hd ?_ hn
  intro ρ hρ d' pos' aft' g'
  simp only [execOp, hρ _ _ hx, Option.map_none, Option.map_some, hρ _ _ hy, Sem.run_bind]
  rw [run_sliceAt_slice w t _ _ _ _ hu', hr, Result.andThen_ok, hval]
  rfl

/-- 'x[l:]'. -/
theorem WL.sliceLo {d : Nat} {t E : TypeId} {i : TI} {z : Value} {s0 b0 len cap l : Nat} {x y : Operand} {a : Option Addr} {k : IntKind}
    (hg : grd l0 e g = some true) (hd : Nat.blt d n = true) (ht : T.ti t = some ⟨.slice E, z, s0, b0⟩) (hi : T.ti E = some i)
    (hx : opv e x = some (.slice a len cap)) (hy : opv e y = some (.int k (l : Nat))) (hh : l ≤ len) (hlc : len ≤ cap)
    (hn : ∀ a', (∀ w' cs, Sl w' a cs → cs.length ≤ len * i.size → Sl w' a' (cs.drop (l * i.size))) → WL P ro n l0 N Z rest ((d, .slice a' (len - l) (cap - l)) :: e) w) :
    WL P ro n l0 N Z (⟨some d, .slice t x (some y) none none, ty, pos, aft, g⟩ :: rest) e w := by
  have hu : P.underlying t = some (.slice E) := (T.ok t _ ht).k
  have hel : P.elem t = E := by simp [Program.elem, hu]
  have hu' : P.underlying t = some (.slice (P.elem t)) := by rw [hel]; exact hu
  have hsz := (T.ok E i hi).sizeOf w
  have hr := run_slice_l (P := P) w t a len cap hu' k l (by omega) (by omega)
  rw [hel, hsz] at hr
  refine WL.val hg rfl hd ?_ (hn (if cap = l then a else a.map (·.add (l * i.size))) ?_)
  · intro ρ hρ d' pos' aft' g'
    simp only [execOp, hρ _ _ hx, Option.map_none, Option.map_some, hρ _ _ hy, Sem.run_bind]
    rw [run_sliceAt_slice w t _ _ _ _ hu', hr]
    simp [sliced]
  · intro w' cs hs hcl q u hq
    rw [List.getElem?_drop] at hq
    obtain ⟨b, o, ha, hc⟩ := hs _ u hq
    have hlt : l * i.size + q < cs.length := (List.getElem?_eq_some_iff.1 hq).1
    have hne : cap ≠ l := by
      intro hcl2
      have h1 : len = l := by omega
      rw [h1] at hcl
      omega
    rw [if_neg hne, ha]
    refine ⟨b, o + l * i.size, by simp [Addr.add_lit], ?_⟩
    rw [Nat.add_assoc]; exact hc

/-- A remainder, by a number that is not 0. -/
theorem WL.rem {d : Nat} {t t2 : TypeId} {x y : Operand} {k : IntKind} {a b : Int} (hg : grd l0 e g = some true) (hd : Nat.blt d n = true) (hx : opv e x = some (.int k a)) (hy : opv e y = some (.int k b)) (hb : b ≠ 0)
    (h : WL P ro n l0 N Z rest ((d, .int k (a.tmod b)) :: e) w) : WL P ro n l0 N Z (⟨some d, .binOp .rem t x y t2, ty, pos, aft, g⟩ :: rest) e w := by
  refine WL.val hg rfl hd ?_ h
  intro ρ hρ d' pos' aft' g'
  simp [execOp, hρ _ _ hx, hρ _ _ hy, eqGuard_at_int, binOp_rem, Op.intDiv, hb]
theorem WL.quo {d : Nat} {t t2 : TypeId} {x y : Operand} {k : IntKind} {a b : Int} (hg : grd l0 e g = some true) (hd : Nat.blt d n = true) (hx : opv e x = some (.int k a)) (hy : opv e y = some (.int k b)) (hb : b ≠ 0)
    (h : WL P ro n l0 N Z rest ((d, .int k (k.wrap (a.tdiv b))) :: e) w) : WL P ro n l0 N Z (⟨some d, .binOp .quo t x y t2, ty, pos, aft, g⟩ :: rest) e w := by
  refine WL.val hg rfl hd ?_ h
  intro ρ hρ d' pos' aft' g'
  simp [execOp, hρ _ _ hx, hρ _ _ hy, eqGuard_at_int, binOp_quo, Op.intDiv, hb]

/-- The address of an array's element, at a number. -/
theorem run_ixA {t E : TypeId} {i : TI} {z : Value} {s0 b0 m b o j : Nat} {x ix : Operand} {k : IntKind} (ht : T.ti t = some ⟨.array m E, z, s0, b0⟩) (hi : T.ti E = some i)
    (hx : opv e x = some (.pointer (some ⟨b, o, none⟩))) (hix : opv e ix = some (.int k (j : Nat))) (hj : j < m) : Yv P e (.indexAddr t x ix) ty w (.pointer (some ⟨b, o + j * i.size, none⟩)) w := by
  have hu : P.underlying t = some (.array m E) := (T.ok t _ ht).k
  intro ρ hρ d' pos' aft' g'
  have hsz := (T.ok E i hi).sizeOf w
  have c1 : (0 : Int) ≤ (j : Int) ∧ (j : Int) < (m : Int) := ⟨by omega, by omega⟩
  simp only [execOp, hρ _ _ hx, hρ _ _ hix, Instr.indexAt, asIntOf, Sem.run_bind, Sem.run_pure, Result.andThen_ok, run_underlying hu, Instr.sureAddr]
  rw [if_pos c1]
  simp [hsz, Addr.add_lit]
theorem WL.ixA {d : Nat} {t E : TypeId} {i : TI} {z : Value} {s0 b0 m b o j : Nat} {x ix : Operand} {k : IntKind} (hg : grd l0 e g = some true) (hd : Nat.blt d n = true) (ht : T.ti t = some ⟨.array m E, z, s0, b0⟩) (hi : T.ti E = some i)
    (hx : opv e x = some (.pointer (some ⟨b, o, none⟩))) (hix : opv e ix = some (.int k (j : Nat))) (hj : j < m)
    (h : WL P ro n l0 N Z rest ((d, .pointer (some ⟨b, o + j * i.size, none⟩)) :: e) w) : WL P ro n l0 N Z (⟨some d, .indexAddr t x ix, ty, pos, aft, g⟩ :: rest) e w :=
  WL.val hg rfl hd (run_ixA ht hi hx hix hj) h

theorem WL.ix1 {d : Nat} {t E : TypeId} {i : TI} {x ix : Operand} {b o len cap j : Nat} {k : IntKind} {z : Value} {s b2 : Nat}
    (hg : grd l0 e g = some true) (hd : Nat.blt d n = true) (ht : T.ti t = some ⟨.slice E, z, s, b2⟩) (hi : T.ti E = some i) (hs : i.size = 1)
    (hx : opv e x = some (.slice (some ⟨b, o, none⟩) len cap)) (hix : opv e ix = some (.int k (j : Nat))) (hj : j < len)
    (h : WL P ro n l0 N Z rest ((d, .pointer (some ⟨b, o + j, none⟩)) :: e) w) :
    WL P ro n l0 N Z (⟨some d, .indexAddr t x ix, ty, pos, aft, g⟩ :: rest) e w :=
  WL.ix hg ht hi hx hix hj hd (by rw [hs, Nat.mul_one]; exact h)
theorem WS.ix1 {d : Nat} {M : Env → Prop} {t E : TypeId} {i : TI} {x ix : Operand} {b o len cap j : Nat} {k : IntKind} {z : Value} {s b2 : Nat}
    (hg : grd l0 e g = some true) (hd : Nat.blt d n = true) (ht : T.ti t = some ⟨.slice E, z, s, b2⟩) (hi : T.ti E = some i) (hs : i.size = 1)
    (hx : opv e x = some (.slice (some ⟨b, o, none⟩) len cap)) (hix : opv e ix = some (.int k (j : Nat))) (hj : j < len)
    (h : WS P n l0 w M rest ((d, .pointer (some ⟨b, o + j, none⟩)) :: e)) :
    WS P n l0 w M (⟨some d, .indexAddr t x ix, ty, pos, aft, g⟩ :: rest) e :=
  WS.ix hg ht hi hx hix hj hd (by rw [hs, Nat.mul_one]; exact h)

/-! ### Literals -/
def setL : List Value → Nat → Value → Option (List Value)
  | [], _, _ => none
  | _ :: xs, 0, v => some (v :: xs)
  | x :: xs, k + 1, v => match setL xs k v with
    | some r => some (x :: r)
    | none => none
def putL : List Value → Nat → List Value → Option (List Value)
  | xs, _, [] => some xs
  | xs, k, v :: vs => match setL xs k v with
    | some r => putL r (k + 1) vs
    | none => none
theorem setL_eq : ∀ (xs : List Value) (k : Nat) (v : Value) (r : List Value), setL xs k v = some r → r = xs.set k v ∧ k < xs.length := by
  intro xs
  induction xs with
  | nil => intro k v r h; simp [setL] at h
  | cons x xs ih =>
    intro k v r h
    cases k with
    | zero => simp only [setL, Option.some.injEq] at h; exact ⟨by rw [← h]; rfl, by simp⟩
    | succ k =>
      simp only [setL] at h
      cases hs : setL xs k v with
      | none => rw [hs] at h; cases h
      | some r' =>
        rw [hs] at h
        simp only [Option.some.injEq] at h
        obtain ⟨h1, h2⟩ := ih k v r' hs
        exact ⟨by rw [← h, h1]; rfl, by simp; omega⟩
theorem putL_eq : ∀ (vs : List Value) (xs : List Value) (k j : Nat) (r : List Value), putL xs (k + j) vs = some r →
    (vs.zipIdx j).foldl (fun (cs : List Value) (p : Value × Nat) => cs.set (k + p.2) p.1) xs = r ∧ r.length = xs.length ∧ (vs ≠ [] → k + j + vs.length ≤ xs.length) := by
  intro vs
  induction vs with
  | nil => intro xs k j r h; simp only [putL, Option.some.injEq] at h; exact ⟨by simpa using h, by rw [h], by simp⟩
  | cons v vs ih =>
    intro xs k j r h
    simp only [putL] at h
    cases hs : setL xs (k + j) v with
    | none => rw [hs] at h; cases h
    | some r' =>
      rw [hs] at h
      obtain ⟨h1, h2⟩ := setL_eq xs (k + j) v r' hs
      obtain ⟨h3, h4, h5⟩ := ih r' k (j + 1) r (by simpa [Nat.add_assoc] using h)
      refine ⟨?_, by rw [h4, h1]; simp, ?_⟩
      · simp only [List.zipIdx_cons, List.foldl_cons]
        rw [← h1]; exact h3
      · intro _
        simp only [List.length_cons]
        cases vs with
        | nil => simp; omega
        | cons u us =>
          have := h5 (by simp)
          rw [h1] at this
          simp only [List.length_set, List.length_cons] at this ⊢
          omega

def fillL (place : Nat → Option (Nat × Nat)) : List Value → List (Nat × Value) → Option (List Value)
  | cs, [] => some cs
  | cs, (i, v) :: r => match place i with
    | none => none
    | some (off, size) => match Nat.beq v.cells.toList.length size with
      | true => match v.cells.toList with
        | [] => none
        | u :: us => match putL cs off (u :: us) with
          | some cs' => fillL place cs' r
          | none => none
      | false => none
theorem foldl_arr (off : Nat) : ∀ (l : List (Value × Nat)) (cs : Array Value), (l.foldl (fun (cs : Array Value) (p : Value × Nat) => cs.setIfInBounds (off + p.2) p.1) cs).toList =
    l.foldl (fun (cs : List Value) (p : Value × Nat) => cs.set (off + p.2) p.1) cs.toList := by
  intro l
  induction l with
  | nil => intro cs; rfl
  | cons p l ih => intro cs; simp only [List.foldl_cons]; rw [ih]; simp
theorem fill_eq (place : Nat → Option (Nat × Nat)) : ∀ (ps : List (Nat × Value)) (cs : Array Value) (r : List Value), fillL place cs.toList ps = some r → Instr.fill place cs ps = some r.toArray := by
  intro ps
  induction ps with
  | nil => intro cs r h; simp only [fillL, Option.some.injEq] at h; rw [← h]; simp [Instr.fill]
  | cons p ps ih =>
    intro cs r h
    obtain ⟨i, v⟩ := p
    simp only [fillL] at h
    simp only [Instr.fill]
    cases hp : place i with
    | none => rw [hp] at h; cases h
    | some q =>
      obtain ⟨off, size⟩ := q
      rw [hp] at h
      simp only at h
      cases hb : Nat.beq v.cells.toList.length size with
      | false => rw [hb] at h; cases h
      | true =>
        rw [hb] at h
        simp only at h
        have hsz := Nat.eq_of_beq_eq_true hb
        cases hv : v.cells.toList with
        | nil => rw [hv] at h; cases h
        | cons u us =>
          rw [hv] at h
          simp only at h
          cases hq : putL cs.toList off (u :: us) with
          | none => rw [hq] at h; cases h
          | some cs' =>
            rw [hq] at h
            obtain ⟨h1, h2, h3⟩ := putL_eq (u :: us) cs.toList off 0 cs' (by simpa using hq)
            have hle := h3 (by simp)
            have hlen : v.cells.size = (u :: us).length := by rw [← hv]; simp
            have e1 : ¬ (v.cells.size ≠ size ∨ off + v.cells.size > cs.size) := by
              intro hh
              rcases hh with hh | hh
              · exact hh (by rw [← hsz]; simp)
              · simp only [Array.length_toList] at hle; omega
            have e1' : (decide (v.cells.size ≠ size) || decide (off + v.cells.size > cs.size)) = false := by simpa using e1
            simp only [e1', Bool.false_eq_true, if_false]
            have e2 : (v.cells.zipIdx.foldl (fun (cs : Array Value) (x : Value × Nat) => cs.setIfInBounds (off + x.2) x.1) cs) = cs'.toArray := by
              rw [← Array.foldl_toList, ← Array.toList_inj, foldl_arr]
              rw [Array.toList_zipIdx, hv]
              exact h1
            have := ih cs'.toArray r (by simpa using h)
            rw [← e2] at this
            exact this

def partsV (e : Env) : List (Nat × Operand) → Option (List (Nat × Value))
  | [] => some []
  | (i, x) :: r => match opv e x with
    | some v => match partsV e r with
      | some q => some ((i, v) :: q)
      | none => none
    | none => none
theorem partsV_eq {ρ : Operand → Value} (h : Agree e ρ) : ∀ (ps : List (Nat × Operand)) (r : List (Nat × Value)), partsV e ps = some r → ps.map (fun p => (p.1, ρ p.2)) = r := by
  intro ps
  induction ps with
  | nil => intro r hr; simp only [partsV, Option.some.injEq] at hr; rw [← hr]; rfl
  | cons p ps ih =>
    intro r hr
    obtain ⟨i, x⟩ := p
    simp only [partsV] at hr
    cases h1 : opv e x with
    | none => rw [h1] at hr; cases hr
    | some v =>
      rw [h1] at hr
      cases h2 : partsV e ps with
      | none => rw [h2] at hr; cases hr
      | some q =>
        rw [h2] at hr
        simp only [Option.some.injEq] at hr
        rw [← hr, List.map_cons, ih q h2, h x v h1]

def zerosL : Nat → List Value → List Value
  | 0, _ => []
  | k + 1, z => z ++ zerosL k z
theorem zerosL_eq (z : Array Value) (hz : 0 < z.size) : ∀ k, zerosL k z.toList = (madeCells z (k * z.size)).toList := by
  intro k
  have hlen : ∀ k, (zerosL k z.toList).length = k * z.size := by
    intro k
    induction k with
    | zero => simp [zerosL]
    | succ k ih => simp only [zerosL, List.length_append, ih, Array.length_toList, Nat.add_mul]; omega
  have hget : ∀ k i, i < k * z.size → (zerosL k z.toList)[i]? = some (z[i % z.size]!) := by
    intro k
    induction k with
    | zero => intro i hi; simp at hi
    | succ k ih =>
      intro i hi
      simp only [zerosL]
      by_cases h1 : i < z.size
      · rw [List.getElem?_append_left (by simpa using h1), Nat.mod_eq_of_lt h1]
        simp [h1]
      · rw [List.getElem?_append_right (by simp; omega)]
        simp only [Array.length_toList]
        rw [ih (i - z.size) (by rw [Nat.add_mul, Nat.one_mul] at hi; omega)]
        congr 2
        rw [Nat.mod_eq_sub_mod (show i ≥ z.size by omega)]
  apply List.ext_getElem?
  intro i
  by_cases hi : i < k * z.size
  · rw [hget k i hi]
    simp [madeCells, hi]
  · rw [List.getElem?_eq_none (by rw [hlen]; omega), List.getElem?_eq_none (by simp [madeCells]; omega)]

/-- A slice literal. -/
theorem WL.buildS {d : Nat} {t E : TypeId} {i : TI} {z : Value} {s0 b0 m : Nat} {parts : Array (Nat × Operand)} {ps : List (Nat × Value)} {cs : List Value}
    (hg : grd l0 e g = some true) (hd : Nat.blt d n = true) (ht : T.ti t = some ⟨.slice E, z, s0, b0⟩) (hi : T.ti E = some i) (hz : i.zero.cells.size = i.size) (hsz : Nat.blt 0 (m * i.size) = true) (hle : Nat.ble (m * i.size) 16777216 = true)
    (hp : partsV e parts.toList = some ps) (hf : fillL (fun j => some (j * i.size, i.size)) (zerosL m i.zero.cells.toList) ps = some cs)
    (h : ∀ b w', NewB w b (.cells cs.toArray E) w' → WL P ro n l0 N Z rest ((d, .slice (some ⟨b, 0, none⟩) m m) :: e) w') :
    WL P ro n l0 N Z (⟨some d, .buildSlice t m parts, ty, pos, aft, g⟩ :: rest) e w := by
  have hu : P.underlying t = some (.slice E) := (T.ok t _ ht).k
  have hs := (T.ok E i hi).sizeOf w
  have hzv := (T.ok E i hi).zeroValue w
  have h0 : 0 < m * i.size := by simpa [Nat.blt_eq] using hsz
  have hle' : m * i.size ≤ 16777216 := by simpa using hle
  have hpos : 0 < i.zero.cells.size := by rw [hz]; exact Nat.pos_of_mul_pos_left h0
  refine WL.val hg rfl hd ?_ (h _ _ (newB w _))
  intro ρ hρ d' pos' aft' g'
  have hparts : (parts.map fun (x : Nat × Operand) => (x.1, ρ x.2)).toList = ps := by rw [Array.toList_map]; exact partsV_eq hρ _ _ hp
  have hfill := fill_eq (fun j => some (j * i.size, i.size)) ps (madeCells i.zero.cells (m * i.size)) cs (by rw [← hz, ← zerosL_eq _ hpos, hz]; exact hf)
  have n1 : ¬ (m * i.size > 2 ^ 24) := by omega
  have n2 : ¬ (m * i.size = 0) := by omega
  have hm : (Array.range (m * i.size)).map (fun x => i.zero.cells[x % i.zero.cells.size]!) = madeCells i.zero.cells (m * i.size) := rfl
  have hfill' : Instr.fill (fun j => some (j * i.size, i.size)) ((Array.range (m * i.size)).map (fun x => i.zero.cells[x % i.zero.cells.size]!)) (parts.map fun (x : Nat × Operand) => (x.1, ρ x.2)).toList = some cs.toArray := by
    rw [hparts, hm]; exact hfill
  simp only [execOp, Instr.buildSlice, Sem.run_bind, run_underlying hu, Result.andThen_ok, hs, if_neg n1, if_neg n2, hzv, Sem.run_pure, hfill', newRow, run_newObj]
  rfl

theorem WL.buildA {d : Nat} {t E : TypeId} {i : TI} {z : Value} {s0 b0 m : Nat} {parts : Array (Nat × Operand)} {ps : List (Nat × Value)} {cs : List Value}
    (hg : grd l0 e g = some true) (hd : Nat.blt d n = true) (ht : T.ti t = some ⟨.array m E, z, s0, b0⟩) (hi : T.ti E = some i)
    (hp : partsV e parts.toList = some ps) (hf : fillL (fun j => some (j * i.size, i.size)) z.cells.toList ps = some cs)
    (h : WL P ro n l0 N Z rest ((d, .agg cs.toArray) :: e) w) :
    WL P ro n l0 N Z (⟨some d, .build t parts, ty, pos, aft, g⟩ :: rest) e w := by
  have hu : P.underlying t = some (.array m E) := (T.ok t _ ht).k
  have hs := (T.ok E i hi).sizeOf w
  have hzv := (T.ok t _ ht).zeroValue w
  refine WL.val hg rfl hd ?_ h
  intro ρ hρ d' pos' aft' g'
  have hparts : (parts.map fun (x : Nat × Operand) => (x.1, ρ x.2)).toList = ps := by rw [Array.toList_map]; exact partsV_eq hρ _ _ hp
  have hfill := fill_eq (fun j => some (j * i.size, i.size)) ps z.cells cs hf
  rw [← hparts] at hfill
  simp only [execOp, Instr.build, Sem.run_bind, run_underlying hu, Result.andThen_ok, hs, hzv, hfill, Sem.run_pure]

theorem run_mapM_fields (w : World) : ∀ (l : List Field), (∀ f ∈ l, ∃ i, T.ti f.type = some i) →
    (l.mapM (fun f => (do pure (f.offset, ← sizeOf f.type) : Sem (Nat × Nat)))).run P w = .ok (l.map fun f => (f.offset, ((T.ti f.type).map (·.size)).getD 0)) w := by
  intro l
  induction l with
  | nil => intro _; simp
  | cons f l ih =>
    intro h
    obtain ⟨i, hi⟩ := h f (by simp)
    have hs := (T.ok f.type i hi).sizeOf w
    have ih' := ih (fun g hg => h g (by simp [hg]))
    simp only [List.mapM_cons, Sem.run_bind, hs, Result.andThen_ok, Sem.run_pure, ih', List.map_cons, hi, Option.map_some, Option.getD_some]

theorem WL.buildT {d : Nat} {t : TypeId} {fs : List (Nat × TypeId)} {z : Value} {s0 b0 : Nat} {parts : Array (Nat × Operand)} {ps : List (Nat × Value)} {cs : List Value}
    (hg : grd l0 e g = some true) (hd : Nat.blt d n = true) (ht : T.ti t = some ⟨.struct fs, z, s0, b0⟩) (hfs : (fs.all fun f => (T.ti f.2).isSome) = true)
    (hp : partsV e parts.toList = some ps) (hf : fillL (fun j => nth (fs.map fun f => (f.1, ((T.ti f.2).map (·.size)).getD 0)) j) z.cells.toList ps = some cs)
    (h : WL P ro n l0 N Z rest ((d, .agg cs.toArray) :: e) w) :
    WL P ro n l0 N Z (⟨some d, .build t parts, ty, pos, aft, g⟩ :: rest) e w := by
  obtain ⟨farr, hu, hff⟩ := (T.ok t _ ht).k
  have hzv := (T.ok t _ ht).zeroValue w
  refine WL.val hg rfl hd ?_ h
  intro ρ hρ d' pos' aft' g'
  have hparts : (parts.map fun (x : Nat × Operand) => (x.1, ρ x.2)).toList = ps := by rw [Array.toList_map]; exact partsV_eq hρ _ _ hp
  have hfill := fill_eq _ ps z.cells cs hf
  rw [← hparts] at hfill
  have hall : ∀ f ∈ farr.toList, ∃ i, T.ti f.type = some i := by
    intro f hfm
    have h1 : (f.offset, f.type) ∈ fs := by rw [← hff]; exact List.mem_map.2 ⟨f, hfm, rfl⟩
    have h2 := List.all_eq_true.1 hfs _ h1
    exact Option.isSome_iff_exists.1 h2
  have hm := run_mapM_fields (P := P) w farr.toList hall
  have hplaces : (fun j => nth (fs.map fun f => (f.1, ((T.ti f.2).map (·.size)).getD 0)) j) = fun j => (farr.toList.map fun f => (f.offset, ((T.ti f.type).map (·.size)).getD 0))[j]? := by
    funext j
    rw [nth_eq, ← hff, List.map_map]
    rfl
  rw [hplaces] at hfill
  have hm' : (farr.mapM (fun f => (do Pure.pure (f.offset, ← sizeOf f.type) : Sem (Nat × Nat)))).run P w = .ok (farr.toList.map fun f => (f.offset, ((T.ti f.type).map (·.size)).getD 0)).toArray w := by
    rw [Array.mapM_eq_mapM_toList, Sem.run_map, hm]
    rfl
  have hfill2 : Instr.fill (fun x => ((farr.toList.map fun f => (f.offset, ((T.ti f.type).map (·.size)).getD 0)).toArray)[x]?) z.cells (parts.map fun (x : Nat × Operand) => (x.1, ρ x.2)).toList = some cs.toArray := by
    rw [← hfill]; congr 1; funext j; simp
  simp only [execOp, Instr.build, Sem.run_bind, run_underlying hu, Result.andThen_ok, hzv, hm']
  simp only [hfill2, Sem.run_pure, Result.andThen_ok]
end
end Go.W

/- W, fifth part: loops over functions; calls of yield. -/
namespace Go.W
open Go.RowKit

section
variable {P : Program} [T : TT P] {n : Nat} {l0 rest : List Oper} {N R : Nor} {X : Ext} {Z : Pan} {e : Env} {w : World} {ty : TypeId} {pos : String} {aft : Array Edge} {g : Option (Nat × Bool)}

theorem setB_put {w : World} {b : Nat} {o o' : Obj} (h : w.heap[b]? = some o) : SetB w b o' (w.putObj b o') := by
  have hlt := (Array.getElem?_eq_some_iff.1 h).1
  exact ⟨World.putObj_heap_same hlt, ⟨rfl, rfl, rfl, by simp, fun k hk hne => World.putObj_heap_other (fun e1 => hne (by rw [e1]))⟩⟩

theorem Hp.swap {w0 w : World} {x y : Ent} {L : List Ent} (h : Hp w0 w (x :: y :: L)) : Hp w0 w (y :: x :: L) := by
  have h1 := List.pairwise_cons.1 h.dist
  have h2 := List.pairwise_cons.1 h1.2
  refine ⟨h.below, fun z hz => h.sat z (by simp only [List.mem_cons] at hz ⊢; rcases hz with hz | hz | hz <;> simp [hz]), List.pairwise_cons.2 ⟨fun z hz => ?_, List.pairwise_cons.2 ⟨fun z hz => h1.1 z (by simp [hz]), h2.2⟩⟩⟩
  rcases List.mem_cons.1 hz with hz | hz
  · rw [hz]; exact (h1.1 y (by simp)).symm
  · exact h2.1 z hz
theorem Hp.nilrow {w0 w : World} {L : List Ent} (h : Hp w0 w L) (E s : Nat) : Hp w0 w (.row E s (.slice none 0 0) 0 [] :: L) :=
  h.push (World.grownBy.refl w _) _ (World.ownsRow_nil w _ _ _) (fun k hk => by cases hk)

theorem ownsRow_mono {w : World} {B B' E s n : Nat} {v : Value} {xs : List Value} (h : w.ownsRow B E s v n xs) (hB : B' ≤ B) : w.ownsRow B' E s v n xs := by
  obtain ⟨hl, h | ⟨g, cap, cur, hv, hb, hr⟩⟩ := h
  · exact ⟨hl, .inl h⟩
  · exact ⟨hl, .inr ⟨g, cap, cur, hv, Nat.le_trans hB hb, hr⟩⟩
theorem Ent.sat.mono {w : World} {B B' : Nat} {x : Ent} (h : x.sat B w) (hB : B' ≤ B) : x.sat B' w := by
  cases x with
  | blk b o => exact ⟨Nat.le_trans hB h.1, h.2⟩
  | row E s v n xs => exact ownsRow_mono h hB
  | many bs => exact ⟨h.1, fun b o hb => ⟨Nat.le_trans hB (h.2 b o hb).1, (h.2 b o hb).2⟩⟩
/-- What a callee has made, beside what was known. -/
theorem Hp.comb {w0 w w' : World} {L L' : List Ent} (h : Hp w0 w L) (k : Hp w w' L') : Hp w0 w' (L' ++ L) := by
  have h1 := h.call k.below
  refine ⟨h1.below, ?_, ?_⟩
  · intro x hx
    rcases List.mem_append.1 hx with hx | hx
    · exact (k.sat x hx).mono h.below.size
    · exact h1.sat x hx
  · rw [List.pairwise_append]
    refine ⟨k.dist, h.dist, fun x hx y hy q hq1 hq2 => ?_⟩
    have := ((k.sat x hx).lt hq1).1
    have := ((h.sat y hy).lt hq2).2
    omega

end
end Go.W

/- W, sixth part: maps with numbers for keys, whose values hang on the key alone. -/
namespace Go.W
open Go.RowKit

section
variable {P : Program} [T : TT P] {ro : Option Nat} {n : Nat} {l0 rest : List Oper} {N R : Nor} {X : Ext} {Z : Pan} {e : Env} {w : World} {ty : TypeId} {pos : String} {aft : Array Edge} {g : Option (Nat × Bool)}

theorem WL.makeMap {d : Nat} {t : TypeId} (hg : grd l0 e g = some true) (hd : Nat.blt d n = true)
    (h : ∀ b w', NewB w b (.map #[] 0) w' → WL P ro n l0 N Z rest ((d, .map (some b)) :: e) w') :
    WL P ro n l0 N Z (⟨some d, .makeMap t none, ty, pos, aft, g⟩ :: rest) e w := by
  refine WL.val hg rfl hd ?_ (h _ _ (newB w _))
  intro ρ hρ d' pos' aft' g'
  simp [execOp, Instr.makeMap]
end
end Go.W

/- W, seventh part: regions whose operations change the world in open order. -/
namespace Go.W
open Go.RowKit

section
variable {P : Program} {ops : Array Oper} {Q : Exit → Act → World → Prop} {md : Region.Mode} {S : World → Prop}

theorem yieldsIf_wpOpIn {i : Nat} {o : Oper} {v : Value} {a : Act} (hi : ops[i]? = some o) (hy : YieldsIf P ops S o v a)
    {K : Act → World → Prop} {w : World} (hS : S w) (h : K (a.put o.dst v) w) : wpOpIn Fence.wide 0 P ops Q i K a w := by
  unfold wpOpIn
  simp only [hi]
  rcases hy with ⟨hw, hv⟩ | ⟨hw, rfl⟩
  · simp only [hw, if_true, Oper.wpIn, Fence.wide_round, Oper.semAt_none, hv w hS, Oper.uponIn]
    exact ⟨fun f _ => fen_fn none f, h⟩
  · simp only [hw, Bool.false_eq_true, if_false]
    exact ⟨fun f _ => fen_fn none f, h⟩

theorem wpOpIn_putIf {j : Nat} {oi oj : Oper} {v : Value} (hj : ops[j]? = some oj) (hap : oi.apart ops oj = true)
    (hsi : ∀ cs b, oi.op ≠ .select cs b) (hsj : ∀ cs b, oj.op ≠ .select cs b)
    (hQ : ∀ c a w, Q (.panic c) (a.put oi.dst v) w → Q (.panic c) a w) {K : Act → World → Prop} {a : Act} {w : World}
    (hy : YieldsIf P ops S oi v a) (h : wpOpIn Fence.wide 0 P ops Q j K (a.put oi.dst v) w) :
    wpOpIn Fence.wide 0 P ops Q j (fun a' w' => YieldsIf P ops S oi v a' ∧ K (a'.put oi.dst v) w') a w := by
  obtain ⟨h1, h2, h3⟩ := Oper.apart_spec hap
  have keep : ∀ (a : Act), YieldsIf P ops S oi v a → ∀ u, YieldsIf P ops S oi v (a.put oj.dst u) := fun a hy u =>
    hy.of_same (execOp_put oi hsi a oj.dst u h3) (wanted_put oi a oj.dst u h3)
  have keepD : ∀ d, YieldsIf P ops S oi v { a with defers := d :: a.defers } := fun d => hy.of_same rfl rfl
  unfold wpOpIn at *
  simp only [hj] at *
  rw [wanted_put oj a oi.dst v h1] at h
  split
  · rename_i hw
    simp only [hw, if_true] at h
    unfold Oper.wpIn at *
    refine ⟨fun f _ => fen_fn none f, ?_⟩
    have h := h.2
    rw [Fence.wide_round, Oper.semAt_none, execOp_put oj hsj a oi.dst v h1] at h
    rw [Fence.wide_round, Oper.semAt_none]
    generalize (execOp a.eval oj).run P w = r at *
    cases r with
    | ok x w' =>
      cases x <;> simp only [Oper.uponIn] at h ⊢
      case value u => exact ⟨keep a hy u, by rw [← Act.put_comm a v u h2]; exact h⟩
      case skip => exact ⟨keep a hy _, by rw [← Act.put_comm a v undef h2]; exact h⟩
      case defer d =>
        refine ⟨keep _ (keepD d) _, ?_⟩
        rw [← Act.put_comm _ v undef h2, ← Act.put_defers]
        exact h
      case enter f args =>
        refine ⟨h.1, CallsIn.mono h.2 fun e w'' he => ?_⟩
        cases e with
        | returned u => exact ⟨keep a hy u, by rw [← Act.put_comm a v u h2]; exact he⟩
        | panicked c => exact hQ _ _ _ he
        | outgrown => exact he
      case row row args => exact ⟨h.1, RowsIn.mono h.2 fun u w'' he => ⟨keep a hy u, by rw [← Act.put_comm a v u h2]; exact he⟩⟩
      case round l f tmps assign body =>
        refine ⟨h.1, RoundIn.mono h.2 fun e w'' he => ?_⟩
        cases e with
        | returned u => exact ⟨keep a hy u, by rw [← Act.put_comm a v u h2]; exact he⟩
        | panicked c => exact hQ _ _ _ he
        | outgrown => exact he
    | halt x w' =>
      cases x <;> simp only [Oper.uponIn] at h ⊢
      case panic u => exact hQ _ _ _ h
  · rename_i hw
    simp only [hw] at h
    exact ⟨fun f _ => fen_fn none f, keep a hy _, by rw [← Act.put_comm a v undef h2]; exact h.2⟩

def wpAnyHI (P : Program) (md : Region.Mode) (ops : Array Oper) (Q : Exit → Act → World → Prop) (S : World → Prop) : Nat → Array Bool → Act → World → Prop
  | 0, listed, a, w => Region.ready md ops listed = [] ∧ Q .normal a w
  | fuel + 1, listed, a, w =>
    (Region.ready md ops listed = [] → Q .normal a w) ∧
    ∀ i ∈ Region.ready md ops listed, wpOpIn Fence.wide 0 P ops Q i (fun a' w' => S w' ∧ wpAnyHI P md ops Q S fuel (listed.setIfInBounds i true) a' w') a w

theorem wpAnyIn_of_heldI : ∀ (fuel : Nat) (listed : Array Bool) (a : Act) (w : World), wpAnyHI P md ops Q S fuel listed a w → wpAnyIn Fence.wide 0 P md ops Q fuel listed a w
  | 0, _, _, _, h => h
  | fuel + 1, _, _, _, h => ⟨h.1, fun i hi => wpOpIn_mono (fun a' w' h' => wpAnyIn_of_heldI fuel _ a' w' h'.2) (h.2 i hi)⟩

theorem wpAnyHI_first {i : Nat} {oi : Oper} {v : Value} (hi : ops[i]? = some oi) (hsel : ∀ (j : Nat) (o : Oper) cs b, ops[j]? = some o → o.op ≠ .select cs b)
    (hQ : ∀ c a w, Q (.panic c) (a.put oi.dst v) w → Q (.panic c) a w) :
    ∀ (fuel : Nat) (listed : Array Bool) (a : Act) (w : World),
      (∀ j oj, ops[j]? = some oj → j ≠ i → listed.getD j true = false → (∀ e ∈ oj.after, Region.binds md e = true → e.on ≠ i) → oi.apart ops oj = true) →
      i ∈ Region.ready md ops listed → YieldsIf P ops S oi v a → S w →
      wpAnyHI P md ops Q S fuel (listed.setIfInBounds i true) (a.put oi.dst v) w → wpAnyHI P md ops Q S (fuel + 1) listed a w := by
  intro fuel
  induction fuel with
  | zero =>
    intro listed a w _ hr hy hS H
    refine ⟨fun h => (by rw [h] at hr; cases hr), fun j hj => ?_⟩
    by_cases hji : j = i
    · subst hji; exact yieldsIf_wpOpIn hi hy hS ⟨hS, H⟩
    · have := ready_mono hj hji
      rw [H.1] at this
      cases this
  | succ fuel ih =>
    intro listed a w hfree hr hy hS H
    refine ⟨fun h => (by rw [h] at hr; cases hr), fun j hj => ?_⟩
    by_cases hji : j = i
    · subst hji; exact yieldsIf_wpOpIn hi hy hS ⟨hS, H⟩
    · have h1 := H.2 j (ready_mono hj hji)
      obtain ⟨hjun, oj, hoj, hall⟩ := mem_ready.1 hj
      have hnot : ∀ e ∈ oj.after, Region.binds md e = true → e.on ≠ i := fun e he hb heq => by
        have h1 := hall e he hb
        have h0 := (mem_ready.1 hr).1
        rw [heq] at h1
        rcases Nat.lt_or_ge i listed.size with h' | h'
        · simp [h'] at h0 h1; rw [h0] at h1; cases h1
        · simp [Array.getElem?_eq_none h'] at h1
      have h2 := wpOpIn_putIf hoj (hfree j oj hoj hji hjun hnot) (fun cs b => hsel i oi cs b hi) (fun cs b => hsel j oj cs b hoj) hQ hy h1
      have hfree' : ∀ k ok, ops[k]? = some ok → k ≠ i → (listed.setIfInBounds j true).getD k true = false →
          (∀ e ∈ ok.after, Region.binds md e = true → e.on ≠ i) → oi.apart ops ok = true := fun k ok hk hki hun hno => by
        refine hfree k ok hk hki ?_ hno
        by_cases hjk : j = k
        · subst hjk; exact hjun
        · rw [getD_set_ne true hjk] at hun; exact hun
      refine wpOpIn_mono (fun a' w' h3 => ⟨h3.2.1, ih (listed.setIfInBounds j true) a' w' hfree' (ready_mono hr (Ne.symm hji)) h3.1 h3.2.1 ?_⟩) h2
      rw [Array.setIfInBounds_comm _ _ hji]
      exact h3.2.2
end

/-! ### The judgement -/
def WH (P : Program) (n : Nat) (l0 : List Oper) (S : World → Prop) (N : Nor) (Z : Pan) (fuel : Nat) (listed : Array Bool) (e : Env) (w : World) : Prop :=
  ∀ a, Kn n e a → wpAnyHI P .any l0.toArray (Q1 n N Z) S fuel listed a w

def takeB (ops : Array Oper) (listed : Array Bool) (i : Nat) : Bool := Region.free .any ops listed i && (Region.ready .any ops listed).contains i

section
variable {P : Program} [T : TT P] {n : Nat} {l0 : List Oper} {S : World → Prop} {N R : Nor} {X : Ext} {Z : Pan} {e : Env} {w : World} {fuel : Nat} {listed : Array Bool}

theorem WC.regH {id : Nat} {l : List Oper} (S : World → Prop) (hm : P.follows .mixedOrders = true) (hs : Region.noSelect l.toArray = true)
    (h : ∀ w', w.grownBy w' none → w'.heap = w.heap → WH P n l S N Z l.length (Array.replicate l.length false) e w') : WC P none n (.region id l.toArray true) N R X Z e w := by
  intro a ka
  have h1 := h _ (drewB w) rfl a ka
  refine wpIn_mono (wpIn_region_any (F := Fence.wide) hm (wpAnyIn_of_heldI _ _ _ _ (by simpa using h1))) ?_
  intro ex a' w' hq
  cases ex with
  | ret => obtain ⟨_, _, hf⟩ := hq; exact hf.elim
  | exit i => obtain ⟨_, _, hf⟩ := hq; exact hf.elim
  | _ => exact hq

theorem WH.done (hr : Region.ready .any l0.toArray listed = []) (h : N e w) : WH P n l0 S N Z fuel listed e w := by
  intro a ka
  cases fuel with
  | zero => exact ⟨hr, e, ka, h⟩
  | succ f => exact ⟨fun _ => ⟨e, ka, h⟩, by rw [hr]; simp⟩

/-- An operation that yields the same in every world of S may be taken first. -/
theorem WH.take {d : Nat} {op : Op} {ty : TypeId} {pos : String} {aft : Array Edge} {g : Option (Nat × Bool)} {v : Value} (i : Nat) (hs : Region.noSelect l0.toArray = true) (hi : nth l0 i = some ⟨some d, op, ty, pos, aft, g⟩)
    (hB : takeB l0.toArray listed i = true) (hg : grd l0 e g = some true) (hd : Nat.blt d n = true) (hy : ∀ w, S w → Yv P e op ty w v w) (hS : S w)
    (h : WH P n l0 S N Z fuel (listed.setIfInBounds i true) ((d, v) :: e) w) : WH P n l0 S N Z (fuel + 1) listed e w := by
  intro a ka
  simp only [takeB, Bool.and_eq_true] at hB
  have hi' : l0.toArray[i]? = some ⟨some d, op, ty, pos, aft, g⟩ := by rw [nth_eq] at hi; simpa using hi
  refine wpAnyHI_first hi' (Region.noSelect_spec hs) (fun c a w hq => hq) fuel listed a w (Region.free_spec hi' hB.1) (by simpa using hB.2) (.inl ⟨?_, fun w hw => hy w hw a.eval ka.agree _ _ _ _⟩) hS (h _ (ka.put hd))
  rw [grd_wanted ka (o := ⟨some d, op, ty, pos, aft, g⟩) hg]
theorem WH.pure {d : Nat} {op : Op} {ty : TypeId} {pos : String} {aft : Array Edge} {g : Option (Nat × Bool)} {v : Value} (i : Nat) (hs : Region.noSelect l0.toArray = true) (hi : nth l0 i = some ⟨some d, op, ty, pos, aft, g⟩)
    (hB : takeB l0.toArray listed i = true) (hg : grd l0 e g = some true) (hv : pureV T.ti e op = some v) (hd : Nat.blt d n = true) (hS : S w)
    (h : WH P n l0 S N Z fuel (listed.setIfInBounds i true) ((d, v) :: e) w) : WH P n l0 S N Z (fuel + 1) listed e w :=
  WH.take i hs hi hB hg hd (fun w _ => pure_run hv) hS h
theorem WH.known {d : Nat} {v : Value} (hd : look e d = some v) (h : WH P n l0 S N Z fuel listed ((d, v) :: e) w) : WH P n l0 S N Z fuel listed e w := fun a ha => h a (ha.known hd)
theorem WH.load {d : Nat} {t ty : TypeId} {pos : String} {aft : Array Edge} {g : Option (Nat × Bool)} {ti : TI} {x : Operand} {p : Addr} {v : Value} (i : Nat) (hs : Region.noSelect l0.toArray = true) (hi : nth l0 i = some ⟨some d, .load t x, ty, pos, aft, g⟩)
    (hB : takeB l0.toArray listed i = true) (hg : grd l0 e g = some true) (ht : T.ti t = some ti) (h1 : isOne ti.k = true) (hx : opv e x = some (.pointer (some p))) (hd : Nat.blt d n = true) (hc : ∀ w, S w → w.cell? p = some v) (hS : S w)
    (h : WH P n l0 S N Z fuel (listed.setIfInBounds i true) ((d, v) :: e) w) : WH P n l0 S N Z (fuel + 1) listed e w :=
  WH.take i hs hi hB hg hd (fun w hw => run_load1 ht h1 hx (hc w hw)) hS h

theorem WH.at_ (i : Nat) {o : Oper} (hi : nth l0 i = some o) (h : WL P none n l0 (fun e' w' => S w' ∧ WH P n l0 S N Z fuel (listed.setIfInBounds i true) e' w') Z [o] e w) :
    ∀ a, Kn n e a → wpOpIn Fence.wide 0 P l0.toArray (Q1 n N Z) i (fun a' w' => S w' ∧ wpAnyHI P .any l0.toArray (Q1 n N Z) S fuel (listed.setIfInBounds i true) a' w') a w := by
  intro a ka
  have h1 := h a ka
  have hi' : l0.toArray[i]? = some o := by rw [nth_eq] at hi; simpa using hi
  unfold wpOpIn
  simp only [hi']
  simp only [wpListIn] at h1
  have key : ∀ a' w', Q1 n (fun e' w' => S w' ∧ WH P n l0 S N Z fuel (listed.setIfInBounds i true) e' w') Z .normal a' w' → S w' ∧ wpAnyHI P .any l0.toArray (Q1 n N Z) S fuel (listed.setIfInBounds i true) a' w' := by
    rintro a' w' ⟨e', k', hs, hw⟩
    exact ⟨hs, hw a' k'⟩
  split
  · rename_i hw
    rw [if_pos hw] at h1
    refine ⟨h1.1, ?_⟩
    have h2 := h1.2
    change o.uponIn Fence.wide 0 P a _ _ ((o.semAt Fence.wide.round a.eval).run P w) at h2
    generalize (o.semAt Fence.wide.round a.eval).run P w = r at *
    cases r with
    | ok x w' =>
      cases x <;> simp only [Oper.uponIn] at h2 ⊢
      case value u => exact key _ _ h2
      case skip => exact key _ _ h2
      case defer d => exact key _ _ h2
      case enter f args =>
        refine ⟨h2.1, CallsIn.mono h2.2 fun e w'' he => ?_⟩
        cases e with
        | returned u => exact key _ _ he
        | panicked c => exact he
        | outgrown => obtain ⟨a0, w0, h0⟩ := he; exact h0.elim
      case row row args => exact ⟨h2.1, RowsIn.mono h2.2 fun u w'' he => key _ _ he⟩
      case round l f tmps assign body =>
        refine ⟨h2.1, RoundIn.mono h2.2 fun e w'' he => ?_⟩
        cases e with
        | returned u => exact key _ _ he
        | panicked c => exact he
        | outgrown => obtain ⟨a0, w0, h0⟩ := he; exact h0.elim
    | halt x w' =>
      cases x <;> simp only [Oper.uponIn] at h2 ⊢
      case panic u => exact h2
  · rename_i hw
    rw [if_neg hw] at h1
    exact ⟨h1.1, key _ _ h1.2⟩
/-- The only operation that may come up. -/
theorem WH.one (i : Nat) {o : Oper} (hi : nth l0 i = some o) (hr : Region.ready .any l0.toArray listed = [i])
    (h : WL P none n l0 (fun e' w' => S w' ∧ WH P n l0 S N Z fuel (listed.setIfInBounds i true) e' w') Z [o] e w) : WH P n l0 S N Z (fuel + 1) listed e w := by
  intro a ka
  refine ⟨fun h0 => (by rw [hr] at h0; cases h0), fun j hj => ?_⟩
  rw [hr] at hj
  have : j = i := by simpa using hj
  subst this
  exact WH.at_ j hi h a ka
theorem WH.two (i j : Nat) {o o' : Oper} (hi : nth l0 i = some o) (hj : nth l0 j = some o') (hr : Region.ready .any l0.toArray listed = [i, j])
    (h : WL P none n l0 (fun e' w' => S w' ∧ WH P n l0 S N Z fuel (listed.setIfInBounds i true) e' w') Z [o] e w)
    (h' : WL P none n l0 (fun e' w' => S w' ∧ WH P n l0 S N Z fuel (listed.setIfInBounds j true) e' w') Z [o'] e w) : WH P n l0 S N Z (fuel + 1) listed e w := by
  intro a ka
  refine ⟨fun h0 => (by rw [hr] at h0; cases h0), fun k hk => ?_⟩
  rw [hr] at hk
  simp only [List.mem_cons, List.not_mem_nil, or_false] at hk
  rcases hk with rfl | rfl
  · exact WH.at_ k hi h a ka
  · exact WH.at_ k hj h' a ka
end
end Go.W

/- W, eighth part: rows out of blocks; results of several kinds. -/
namespace Go.W
open Go.RowKit

theorem Hp.toRow {w0 w : World} {b m s : Nat} {arr : Array Value} {E : TypeId} {L : List Ent} (h : Hp w0 w (.blk b (.cells arr E (0, 0)) :: L)) (hs : arr.size = m * s) (hm : m ≤ maxLen) :
    Hp w0 w (.row E s (.slice (some ⟨b, 0, none⟩) m m) m arr.toList :: L) := by
  have h1 := List.pairwise_cons.1 h.dist
  have h2 := h.sat (.blk b (.cells arr E (0, 0))) (by simp)
  refine ⟨h.below, ?_, List.pairwise_cons.2 ⟨fun y hy k hk => h1.1 y hy k ?_, h1.2⟩⟩
  · intro x hx
    rcases List.mem_cons.1 hx with hx | hx
    · subst hx
      exact ⟨by simpa using hs, .inr ⟨b, m, arr, rfl, h2.1, h2.2, Nat.le_refl _, hm, hs, by rw [← hs]; exact List.take_of_length_le (by simp)⟩⟩
    · exact h.sat x (by simp [hx])
  · simp only [Ent.owns, Value.ownBlock] at hk ⊢
    simpa using hk

section
variable {P : Program} {fn : Func} {R : Value → World → Prop} {e : Env} {w : World}
end
end Go.W

/- W, ninth part: arrays of two numbers compared; elements of slices read in quiet regions. -/
namespace Go.W
open Go.RowKit

section
variable {P : Program} [T : TT P] {w : World}
theorem run_eq2 {t E : TypeId} {z z2 : Value} {s0 b0 b2 : Nat} (ht : T.ti t = some ⟨.array 2 E, z, s0, b0⟩) (hE : T.ti E = some ⟨.int .i64, z2, 1, b2⟩) (a b c d : Int) (dep : Nat) :
    (Op.equalIn (dep + 2) t (.agg #[.int .i64 a, .int .i64 b]) (.agg #[.int .i64 c, .int .i64 d])).run P w = .ok (a == c && b == d) w := by
  have hu : P.underlying t = some (.array 2 E) := (T.ok t _ ht).k
  have hi : P.underlying E = some (.int .i64) := (T.ok E _ hE).k
  have hs := (T.ok E _ hE).sizeOf w
  have hag := (T.ok E _ hE).isAgg w
  simp only [TK.isAgg] at hag hs
  have hq : ∀ x y : Int, (Op.equalIn (dep + 1) E (.int .i64 x) (.int .i64 y)).run P w = .ok (x == y) w := fun x y => by simp [Op.equalIn, run_underlying hi]
  rw [Op.equalIn]
  simp only [Sem.run_bind, run_underlying hu, Result.andThen_ok, hs]
  by_cases h1 : a = c
  · by_cases h2 : b = d
    · simp [List.range', part, hag, hq, h1, h2]
    · simp [List.range', part, hag, hq, h1, h2]
  · simp [List.range', part, hag, hq, h1]

variable {n : Nat} {l0 rest : List Oper} {C : World → Prop} {M : Env → Prop} {e : Env} {ty : TypeId} {pos : String} {aft : Array Edge} {g : Option (Nat × Bool)}
/-- The address of a slice's element. -/
theorem WQ.ix {d : Nat} {t E : TypeId} {i : TI} {x ix : Operand} {b o len cap j : Nat} {k : IntKind} {z : Value} {s b2 : Nat}
    (hg : grd l0 e g = some true) (hd : Nat.blt d n = true) (ht : T.ti t = some ⟨.slice E, z, s, b2⟩) (hi : T.ti E = some i)
    (hx : opv e x = some (.slice (some ⟨b, o, none⟩) len cap)) (hix : opv e ix = some (.int k (j : Nat))) (hj : j < len)
    (h : WQ P n l0 C M rest ((d, .pointer (some ⟨b, o + j * i.size, none⟩)) :: e)) :
    WQ P n l0 C M (⟨some d, .indexAddr t x ix, ty, pos, aft, g⟩ :: rest) e := by
  have hu : P.underlying t = some (.slice E) := (T.ok t _ ht).k
  refine WQ.val hg hd ?_ h
  intro w hw ρ hρ d' pos' aft' g'
  have hsz := (T.ok E i hi).sizeOf w
  have c1 : (0 : Int) ≤ (j : Int) ∧ (j : Int) < (len : Int) := ⟨by omega, by omega⟩
  simp only [execOp, hρ _ _ hx, hρ _ _ hix, Instr.indexAt, asIntOf, Sem.run_bind, Sem.run_pure, Result.andThen_ok, run_underlying hu]
  rw [if_pos c1]
  simp [hsz, Addr.add_lit]
end
end Go.W
end
section
/- W, tenth part: strings, as lists of bytes. -/
set_option linter.unusedSectionVars false
namespace Go.W
open Go.RowKit

abbrev Str := List UInt8
def sb (l : Str) : ByteArray := ⟨l.toArray⟩
def st (l : Str) : Value := .string (sb l)
theorem sb_size (l : Str) : (sb l).size = l.length := rfl
theorem sb_toList (l : Str) : (sb l).toList = l := ByteArray.toList_mk l
theorem sb_ex (s : ByteArray) : ∃ l, s = sb l := ⟨s.data.toList, (Lib.mk_data s).symm⟩
theorem sb_add (a b : Str) : sb a ++ sb b = sb (a ++ b) := ByteArray.mk_append_mk a b
theorem sb_extract (l : Str) (a b : Nat) : (sb l).extract a b = sb ((l.drop a).take (b - a)) := ByteArray.extract_mk l a b
theorem sb_inj {a b : Str} (h : sb a = sb b) : a = b := by
  have := congrArg ByteArray.toList h
  rwa [sb_toList, sb_toList] at this
theorem sb_beq (a b : Str) : (sb a == sb b) = decide (a = b) := by
  rw [Bool.eq_iff_iff, decide_eq_true_eq, Go.MapKept.bytes_beq]
  exact ⟨sb_inj, fun h => by rw [h]⟩
theorem sb_get (l : Str) (m : Nat) : (sb l)[m]? = l[m]? := by
  show (ByteArray.mk l.toArray)[m]? = _
  by_cases h : m < l.length
  · have hs : m < (ByteArray.mk l.toArray).size := by show m < l.length; exact h
    rw [getElem?_pos _ m hs, List.getElem?_eq_getElem h]
    rfl
  · have hs : ¬ m < (ByteArray.mk l.toArray).size := by show ¬ m < l.length; exact h
    rw [getElem?_neg _ m hs, List.getElem?_eq_none (by omega)]

def ltS (a b : Str) : Bool := Op.bytesLess a b
def cmpS : BinOp → Str → Str → Option Bool
  | .eql, a, b => some (decide (a = b))
  | .neq, a, b => some (!decide (a = b))
  | .lss, a, b => some (ltS a b)
  | .leq, a, b => some (ltS a b || decide (a = b))
  | .gtr, a, b => some (!(ltS a b || decide (a = b)))
  | .geq, a, b => some (!ltS a b)
  | _, _, _ => none
/-- A bound of a cut, if there is one. -/
def bnd (e : Env) (dflt : Nat) : Option Operand → Option Nat
  | none => some dflt
  | some y => match opv e y with
    | some (.int _ (.ofNat m)) => some m
    | _ => none
theorem bnd_some {e : Env} {d m : Nat} {y : Operand} (h : bnd e d (some y) = some m) : ∃ k, opv e y = some (.int k (m : Nat)) := by
  simp only [bnd] at h
  split at h
  · rename_i k q hq
    simp only [Option.some.injEq] at h
    subst h
    exact ⟨k, hq⟩
  · cases h

section
variable {P : Program} [T : TT P] {e : Env} {w : World} {ty : TypeId}
theorem yCmp {op : BinOp} {t t2 : TypeId} {x y : Operand} {a b : Str} {r : Bool} (hx : opv e x = some (st a)) (hy : opv e y = some (st b)) (hr : cmpS op a b = some r) : Yv P e (.binOp op t x y t2) ty w (.bool r) w := by
  intro ρ hρ d pos aft g
  have hb : (a == b) = decide (a = b) := by rw [Bool.eq_iff_iff, decide_eq_true_eq, beq_iff_eq]
  cases op <;> simp only [cmpS] at hr <;> try (cases hr; done)
  all_goals
    simp only [Option.some.injEq] at hr
    subst hr
    simp [execOp, hρ _ _ hx, hρ _ _ hy, st, eqGuard_at_string, binOp, Op.stringOp, sb_toList, ltS, hb]
theorem yCat {t t2 : TypeId} {x y : Operand} {a b : Str} (hx : opv e x = some (st a)) (hy : opv e y = some (st b)) (hl : a.length + b.length ≤ 9223372036854775807) : Yv P e (.binOp .add t x y t2) ty w (st (a ++ b)) w := by
  intro ρ hρ d pos aft g
  have h := run_string_add_sum (P := P) w (sb a) (sb b) (by rw [sb_size, sb_size]; exact hl)
  rw [sb_add] at h
  simp [execOp, hρ _ _ hx, hρ _ _ hy, st, eqGuard_at_string, binOp, h]
theorem ySl {t : TypeId} {z : Value} {s0 b0 : Nat} {x : Operand} {lo hi : Option Operand} {l : Str} {a b : Nat} (ht : T.ti t = some ⟨.string, z, s0, b0⟩) (hx : opv e x = some (st l)) (hlo : bnd e 0 lo = some a) (hhi : bnd e l.length hi = some b) (hab : a ≤ b) (hb : b ≤ l.length) :
    Yv P e (.slice t x lo hi none) ty w (st ((l.drop a).take (b - a))) w := by
  have hu : P.underlying t = some .string := (T.ok t _ ht).k
  intro ρ hρ d pos aft g
  have key : ∀ lo' hi' : Option Value, (lo' = none ∧ a = 0 ∨ ∃ k, lo' = some (.int k (a : Nat))) → (hi' = none ∧ b = l.length ∨ ∃ k, hi' = some (.int k (b : Nat))) →
      (Instr.sliceAt t (st l) lo' hi' none).run P w = .ok (st ((l.drop a).take (b - a))) w := by
    intro lo' hi' h1 h2
    have hsz : (sb l).size = l.length := sb_size l
    have hb' : (b : Int) ≤ (l.length : Int) := by omega
    rw [run_sliceAt_string w t _ _ _ _ hu]
    rcases h1 with ⟨rfl, rfl⟩ | ⟨k, rfl⟩ <;> rcases h2 with ⟨rfl, rfl⟩ | ⟨k', rfl⟩
    · simp [st, Instr.slice, Instr.sliceBounds, run_underlying hu, hsz, sb_extract]
    · simp [st, Instr.slice, Instr.sliceBounds, Instr.sliceBound, asIntOf, run_underlying hu, hsz, sb_extract, hb']
      intro hc
      omega
    · simp [st, Instr.slice, Instr.sliceBounds, Instr.sliceBound, asIntOf, run_underlying hu, hsz, sb_extract, hab]
    · simp [st, Instr.slice, Instr.sliceBounds, Instr.sliceBound, asIntOf, run_underlying hu, hsz, sb_extract, hab, hb']
      intro hc
      omega
  have h1 : (lo.map ρ = none ∧ a = 0) ∨ ∃ k, lo.map ρ = some (.int k (a : Nat)) := by
    cases lo with
    | none => left; exact ⟨rfl, by simpa [bnd] using hlo.symm⟩
    | some y => right; obtain ⟨k, hk⟩ := bnd_some hlo; exact ⟨k, by rw [Option.map_some, hρ _ _ hk]⟩
  have h2 : (hi.map ρ = none ∧ b = l.length) ∨ ∃ k, hi.map ρ = some (.int k (b : Nat)) := by
    cases hi with
    | none => left; exact ⟨rfl, by simpa [bnd] using hhi.symm⟩
    | some y => right; obtain ⟨k, hk⟩ := bnd_some hhi; exact ⟨k, by rw [Option.map_some, hρ _ _ hk]⟩
  simp [execOp, hρ _ _ hx, key _ _ h1 h2]
theorem yAt {t : TypeId} {z : Value} {s0 b0 m : Nat} {x ix : Operand} {l : Str} {k : IntKind} (ht : T.ti t = some ⟨.string, z, s0, b0⟩) (hx : opv e x = some (st l)) (hix : opv e ix = some (.int k (m : Nat))) (hm : m < l.length) :
    Yv P e (.index t x ix) ty w (.int .u8 (l[m].toNat : Nat)) w := by
  have hu : P.underlying t = some .string := (T.ok t _ ht).k
  intro ρ hρ d pos aft g
  have hg : (sb l)[m]? = some l[m] := by rw [sb_get, List.getElem?_eq_getElem hm]
  simp [execOp, hρ _ _ hx, hρ _ _ hix, st, Instr.index, asIntOf, run_underlying hu, hg]
end

section
variable {P : Program} [T : TT P] {ro : Option Nat} {n : Nat} {l0 rest : List Oper} {N : Nor} {Z : Pan} {e : Env} {w : World} {ty : TypeId} {pos : String} {aft : Array Edge} {g : Option (Nat × Bool)}
theorem WL.sCmp {d : Nat} {op : BinOp} {t t2 : TypeId} {x y : Operand} {a b : Str} {r : Bool} (hg : grd l0 e g = some true) (hd : Nat.blt d n = true) (hx : opv e x = some (st a)) (hy : opv e y = some (st b)) (hr : cmpS op a b = some r)
    (h : WL P ro n l0 N Z rest ((d, .bool r) :: e) w) : WL P ro n l0 N Z (⟨some d, .binOp op t x y t2, ty, pos, aft, g⟩ :: rest) e w := WL.val hg rfl hd (yCmp hx hy hr) h
theorem WL.sCat {d : Nat} {t t2 : TypeId} {x y : Operand} {a b : Str} (hg : grd l0 e g = some true) (hd : Nat.blt d n = true) (hx : opv e x = some (st a)) (hy : opv e y = some (st b)) (hl : a.length + b.length ≤ 9223372036854775807)
    (h : WL P ro n l0 N Z rest ((d, st (a ++ b)) :: e) w) : WL P ro n l0 N Z (⟨some d, .binOp .add t x y t2, ty, pos, aft, g⟩ :: rest) e w := WL.val hg rfl hd (yCat hx hy hl) h
theorem WL.sSl {d : Nat} {t : TypeId} {z : Value} {s0 b0 : Nat} {x : Operand} {lo hi : Option Operand} {l : Str} {a b : Nat} (hg : grd l0 e g = some true) (hd : Nat.blt d n = true) (ht : T.ti t = some ⟨.string, z, s0, b0⟩) (hx : opv e x = some (st l)) (hlo : bnd e 0 lo = some a) (hhi : bnd e l.length hi = some b) (hab : a ≤ b) (hb : b ≤ l.length)
    (h : WL P ro n l0 N Z rest ((d, st ((l.drop a).take (b - a))) :: e) w) : WL P ro n l0 N Z (⟨some d, .slice t x lo hi none, ty, pos, aft, g⟩ :: rest) e w := WL.val hg rfl hd (ySl ht hx hlo hhi hab hb) h
theorem WL.sAt {d : Nat} {t : TypeId} {z : Value} {s0 b0 m : Nat} {x ix : Operand} {l : Str} {k : IntKind} (hg : grd l0 e g = some true) (hd : Nat.blt d n = true) (ht : T.ti t = some ⟨.string, z, s0, b0⟩) (hx : opv e x = some (st l)) (hix : opv e ix = some (.int k (m : Nat))) (hm : m < l.length)
    (h : WL P ro n l0 N Z rest ((d, .int .u8 (l[m].toNat : Nat)) :: e) w) : WL P ro n l0 N Z (⟨some d, .index t x ix, ty, pos, aft, g⟩ :: rest) e w := WL.val hg rfl hd (yAt ht hx hix hm) h
theorem WL.sLen {d : Nat} {t : TypeId} {z : Value} {s0 b0 : Nat} {x : Operand} {l : Str} (hg : grd l0 e g = some true) (hd : Nat.blt d n = true) (ht : T.ti t = some ⟨.string, z, s0, b0⟩) (hx : opv e x = some (st l))
    (h : WL P ro n l0 N Z rest ((d, .int .i64 (l.length : Nat)) :: e) w) : WL P ro n l0 N Z (⟨some d, .call ⟨.builtin .len, #[x], #[t]⟩, ty, pos, aft, g⟩ :: rest) e w :=
  WL.pure hg (by simp only [pureV, callV, hx, st, lenV, ht, sb_size]) hd h
end

/-! In draws. -/
section
variable {P : Program} [T : TT P] {n : Nat} {l0 rest : List Oper} {C : World → Prop} {M : Env → Prop} {e : Env} {ty : TypeId} {pos : String} {aft : Array Edge} {g : Option (Nat × Bool)}
theorem WQ.sCat {d : Nat} {t t2 : TypeId} {x y : Operand} {a b : Str} (hg : grd l0 e g = some true) (hd : Nat.blt d n = true) (hx : opv e x = some (st a)) (hy : opv e y = some (st b)) (hl : a.length + b.length ≤ 9223372036854775807)
    (h : WQ P n l0 C M rest ((d, st (a ++ b)) :: e)) : WQ P n l0 C M (⟨some d, .binOp .add t x y t2, ty, pos, aft, g⟩ :: rest) e := WQ.val hg hd (fun _ _ => yCat hx hy hl) h
end
section
variable {P : Program} [T : TT P] {n : Nat} {l0 : List Oper} {S : World → Prop} {N : Nor} {Z : Pan} {e : Env} {w : World} {fuel : Nat} {listed : Array Bool}
theorem WH.sSl {d : Nat} {t ty : TypeId} {pos : String} {aft : Array Edge} {g : Option (Nat × Bool)} {z : Value} {s0 b0 : Nat} {x : Operand} {lo hi : Option Operand} {l : Str} {a b : Nat} (i : Nat) (hs : Region.noSelect l0.toArray = true) (hi' : nth l0 i = some ⟨some d, .slice t x lo hi none, ty, pos, aft, g⟩)
    (hB : takeB l0.toArray listed i = true) (hg : grd l0 e g = some true) (hd : Nat.blt d n = true) (ht : T.ti t = some ⟨.string, z, s0, b0⟩) (hx : opv e x = some (st l)) (hlo : bnd e 0 lo = some a) (hhi : bnd e l.length hi = some b) (hab : a ≤ b) (hb : b ≤ l.length) (hS : S w)
    (h : WH P n l0 S N Z fuel (listed.setIfInBounds i true) ((d, st ((l.drop a).take (b - a))) :: e) w) : WH P n l0 S N Z (fuel + 1) listed e w :=
  WH.take i hs hi' hB hg hd (fun _ _ => ySl ht hx hlo hhi hab hb) hS h
end
section
variable {P : Program} {fn : Func} {R : Value → World → Prop} {e : Env} {w : World}
end

/-! A pointer that is not nil. -/
theorem yNil {P : Program} {e : Env} {w : World} {ty : TypeId} {x : Operand} {p : Addr} (hx : opv e x = some (.pointer (some p))) : Yv P e (.nilCheck x) ty w (.pointer (some p)) w := by
  intro ρ hρ d pos aft g
  simp [execOp, hρ _ _ hx]
section
variable {P : Program} {ro : Option Nat} {n : Nat} {l0 rest : List Oper} {N : Nor} {Z : Pan} {e : Env} {w : World} {ty : TypeId} {pos : String} {aft : Array Edge} {g : Option (Nat × Bool)}
theorem WL.nilC {d : Nat} {x : Operand} {p : Addr} (hg : grd l0 e g = some true) (hd : Nat.blt d n = true) (hx : opv e x = some (.pointer (some p)))
    (h : WL P ro n l0 N Z rest ((d, .pointer (some p)) :: e) w) : WL P ro n l0 N Z (⟨some d, .nilCheck x, ty, pos, aft, g⟩ :: rest) e w := WL.val hg rfl hd (yNil hx) h
end
section
variable {P : Program} [T : TT P] {n : Nat} {l0 rest : List Oper} {C : World → Prop} {M : Env → Prop} {e : Env} {ty : TypeId} {pos : String} {aft : Array Edge} {g : Option (Nat × Bool)}
theorem WQ.nilC {d : Nat} {x : Operand} {p : Addr} (hg : grd l0 e g = some true) (hd : Nat.blt d n = true) (hx : opv e x = some (.pointer (some p)))
    (h : WQ P n l0 C M rest ((d, .pointer (some p)) :: e)) : WQ P n l0 C M (⟨some d, .nilCheck x, ty, pos, aft, g⟩ :: rest) e := WQ.val hg hd (fun _ _ => yNil hx) h
end
section
variable {P : Program} [T : TT P] {n : Nat} {l0 : List Oper} {S : World → Prop} {N : Nor} {Z : Pan} {e : Env} {w : World} {fuel : Nat} {listed : Array Bool}
theorem WH.nilC {d : Nat} {ty : TypeId} {pos : String} {aft : Array Edge} {g : Option (Nat × Bool)} {x : Operand} {p : Addr} (i : Nat) (hs : Region.noSelect l0.toArray = true) (hi' : nth l0 i = some ⟨some d, .nilCheck x, ty, pos, aft, g⟩)
    (hB : takeB l0.toArray listed i = true) (hg : grd l0 e g = some true) (hd : Nat.blt d n = true) (hx : opv e x = some (.pointer (some p))) (hS : S w)
    (h : WH P n l0 S N Z fuel (listed.setIfInBounds i true) ((d, .pointer (some p)) :: e) w) : WH P n l0 S N Z (fuel + 1) listed e w :=
  WH.take i hs hi' hB hg hd (fun _ _ => yNil hx) hS h
end
end Go.W
end
section
/- Formulas in plain words: their words, their parts, what is read out of a string. -/
namespace Go.Ltl
open Go.W
def wTrue : Str := [116, 114, 117, 101]
def wFalse : Str := [102, 97, 108, 115, 101]
def wNot : Str := [110, 111, 116]
def wNext : Str := [110, 101, 120, 116]
def wAlways : Str := [97, 108, 119, 97, 121, 115]
def wFinally : Str := [102, 105, 110, 97, 108, 108, 121]
def wAnd : Str := [97, 110, 100]
def wOr : Str := [111, 114]
def wUntil : Str := [117, 110, 116, 105, 108]
def wRelease : Str := [114, 101, 108, 101, 97, 115, 101]
def atomsL : List Str := [wTrue, wFalse, [112, 48], [112, 49], [112, 50], [112, 51]]
def onesL : List Str := [wNot, wNext, wAlways, wFinally]
def twosL : List Str := [wAnd, wOr, wUntil, wRelease]
/-- A formula. -/
inductive Fm where
  | at_ (w : Str)
  | on_ (w : Str) (f : Fm)
  | tw_ (w : Str) (f g : Fm)
/-- The words and parentheses of a string: what is open so far, and the rest. -/
def flush (cur : Str) : List Str := if cur = [] then [] else [cur]
def tokN : Str → Str → List Str
  | [], cur => flush cur
  | c :: s, cur => if c = 32 ∨ c = 10 then flush cur ++ tokN s []
    else if c = 40 ∨ c = 41 then flush cur ++ ([c] :: tokN s [])
    else tokN s (cur ++ [c])
def tokM (s : Str) : List Str := tokN s []
/-- A formula read from words: at most as many calls as n; the words left, and how many words were counted. -/
def prsN : Nat → List Str → Nat → Option (Fm × List Str × Nat)
  | 0, _, _ => none
  | _ + 1, [], _ => none
  | n + 1, s :: l, k => if s ≠ [40] then
      if 12 < k + 1 then none else if s ∈ atomsL then some (.at_ s, l, k + 1) else none
    else match l with
      | [] => none
      | s :: l => if 12 < k + 1 then none
        else if s ∈ onesL then match prsN n l (k + 1) with
          | some (f, [41] :: l, k) => some (.on_ s f, l, k)
          | _ => none
        else if s ∈ twosL then match prsN n l (k + 1) with
          | some (f, l, k) => match prsN n l k with
            | some (g, [41] :: l, k) => some (.tw_ s f g, l, k)
            | _ => none
          | none => none
        else none
def parseM (s : Str) : Option Fm := match prsN ((tokM s).length + 1) (tokM s) 0 with
  | some (f, [], _) => some f
  | _ => none
def sizeF : Fm → Nat
  | .at_ _ => 1
  | .on_ _ f => 1 + sizeF f
  | .tw_ _ f g => 1 + sizeF f + sizeF g
def textF : Fm → Str
  | .at_ w => w
  | .on_ w f => [40] ++ w ++ [32] ++ textF f ++ [41]
  | .tw_ w f g => [40] ++ w ++ [32] ++ textF f ++ [32] ++ textF g ++ [41]
def dualL : List (Str × Str) := [(wTrue, wFalse), (wFalse, wTrue), (wAnd, wOr), (wOr, wAnd), (wUntil, wRelease), (wRelease, wUntil), (wAlways, wFinally), (wFinally, wAlways), (wNext, wNext)]
def dualM (w : Str) : Option Str := (dualL.find? fun p => p.1 = w).map (·.2)
def nameM (c : Bool) (w : Str) : Str := if c then (dualM w).getD [] else w
def pushM : Fm → Bool → Fm
  | .on_ w f, c => if w = wNot then pushM f (!c) else .on_ (nameM c w) (pushM f c)
  | .tw_ w f g, c => .tw_ (nameM c w) (pushM f c) (pushM g c)
  | .at_ w, c => if (dualM w).isSome then .at_ (nameM c w) else if c then .on_ wNot (.at_ w) else .at_ w
end Go.Ltl
end
section
/- The values of formulas on lassos, in plain words. -/
namespace Go.Ltl
open Go.W
def holdsM (w : Str) (m : Int) : Bool := if w = wTrue then true else if w = wFalse then false else decide (m / 2 ^ ((w.getD 1 48).toNat - 48) % 2 = 1)
/-- The position that follows. -/
def aft (n lp i : Nat) : Nat := if i + 1 < n then i + 1 else lp
/-- Once back from the last position. -/
def passM (f : Nat → Bool → Bool) (n lp : Nat) : Nat → List Bool → List Bool
  | 0, out => out
  | i + 1, out => passM f n lp i (out.set i (f i (out.getD (aft n lp i) false)))
def repM (last : Bool) (f : Nat → Bool → Bool) (n lp : Nat) : List Bool := passM f n lp n (passM f n lp n (List.replicate n last))
def onM (w : Str) (a : List Bool) (n lp : Nat) : List Bool :=
  if w = wNot then (List.range n).map fun i => !a.getD i false
  else if w = wNext then (List.range n).map fun i => a.getD (aft n lp i) false
  else if w = wAlways then repM true (fun i x => a.getD i false && x) n lp
  else if w = wFinally then repM false (fun i x => a.getD i false || x) n lp
  else List.replicate n false
def twM (w : Str) (a b : List Bool) (n lp : Nat) : List Bool :=
  if w = wAnd then (List.range n).map fun i => a.getD i false && b.getD i false
  else if w = wOr then (List.range n).map fun i => a.getD i false || b.getD i false
  else if w = wUntil then repM false (fun i x => b.getD i false || (a.getD i false && x)) n lp
  else if w = wRelease then repM true (fun i x => b.getD i false && (a.getD i false || x)) n lp
  else List.replicate n false
def valsM (ms : List Int) (lp : Nat) : Fm → List Bool
  | .at_ w => (List.range ms.length).map fun i => holdsM w (ms.getD i 0)
  | .on_ w f => onM w (valsM ms lp f) ms.length lp
  | .tw_ w f g => twM w (valsM ms lp f) (valsM ms lp g) ms.length lp
/-- Words of the right kinds. -/
def wfF : Fm → Prop
  | .at_ w => w ∈ atomsL
  | .on_ w f => w ∈ onesL ∧ wfF f
  | .tw_ w f g => w ∈ twosL ∧ wfF f ∧ wfF g
theorem passM_len (f : Nat → Bool → Bool) (n lp : Nat) : ∀ (i : Nat) (out : List Bool), (passM f n lp i out).length = out.length := by
  intro i
  induction i with
  | zero => intro out; rfl
  | succ i ih => intro out; rw [passM, ih, List.length_set]
theorem repM_len (last : Bool) (f : Nat → Bool → Bool) (n lp : Nat) : (repM last f n lp).length = n := by
  unfold repM
  rw [passM_len, passM_len, List.length_replicate]
theorem onM_len (w : Str) (a : List Bool) (n lp : Nat) : (onM w a n lp).length = n := by
  unfold onM
  repeat' split
  all_goals simp [repM_len]
theorem twM_len (w : Str) (a b : List Bool) (n lp : Nat) : (twM w a b n lp).length = n := by
  unfold twM
  repeat' split
  all_goals simp [repM_len]
theorem valsM_len (ms : List Int) (lp : Nat) : ∀ f, (valsM ms lp f).length = ms.length := by
  intro f
  cases f with
  | at_ w => simp [valsM]
  | on_ w f => exact onM_len _ _ _ _
  | tw_ w f g => exact twM_len _ _ _ _ _
end Go.Ltl
end
section
/- Numbers as sets of bits; the search's guesses, in plain words. -/
namespace Go.W

/-- The elements of a set that are not in another one. -/
def bd (a b : Nat) : Nat := a ^^^ (a &&& b)
theorem testBit_bd (a b i : Nat) : (bd a b).testBit i = (a.testBit i && !b.testBit i) := by
  simp only [bd, Nat.testBit_xor, Nat.testBit_and]
  cases a.testBit i <;> cases b.testBit i <;> rfl
theorem bd_le (a b : Nat) : bd a b ≤ a := by
  have h : bd a b = a &&& bd a b := by
    apply Nat.eq_of_testBit_eq
    intro i
    rw [Nat.testBit_and, testBit_bd]
    cases a.testBit i <;> cases b.testBit i <;> rfl
  rw [h]; exact Nat.and_le_left
theorem bd_lt {a b n : Nat} (h : a < n) : bd a b < n := Nat.lt_of_le_of_lt (bd_le a b) h

theorem wrap_i64_in {n : Int} (h0 : 0 ≤ n) (h : n < 9223372036854775808) : IntKind.i64.wrap n = n := by rw [IntKind.wrap_i64]; omega
theorem i64_keep : ∀ n : Int, 0 ≤ n → n < 2 ^ 63 → IntKind.i64.wrap n = n := fun n h0 h => wrap_i64_in h0 (by omega)
section
variable {a b : Nat} (ha : a < 9223372036854775808) (hb : b < 9223372036854775808)
include ha hb
theorem and_i64 : bits .and .i64 (a : Int) (b : Int) = ((a &&& b : Nat) : Int) := (bits_nat .i64 63 (by decide) i64_keep a b (by omega) (by omega)).1
theorem or_i64 : bits .or .i64 (a : Int) (b : Int) = ((a ||| b : Nat) : Int) := (bits_nat .i64 63 (by decide) i64_keep a b (by omega) (by omega)).2
theorem andNot_i64 : bits .andNot .i64 (a : Int) (b : Int) = ((bd a b : Nat) : Int) := by
  have ha' : a % 2 ^ 64 = a := Nat.mod_eq_of_lt (by omega)
  have hb' : b % 2 ^ 64 = b := Nat.mod_eq_of_lt (by omega)
  have e1 : (BitVec.ofNat 64 a &&& ~~~(BitVec.ofNat 64 b)).toNat = bd a b := by
    apply Nat.eq_of_testBit_eq
    intro i
    rw [testBit_bd]
    simp only [BitVec.toNat_and, Nat.testBit_and, BitVec.toNat_ofNat, ha', BitVec.toNat_not, hb']
    by_cases hi : i < 64
    · rw [Nat.sub_sub, Nat.add_comm 1 b, Nat.testBit_two_pow_sub_succ (by omega)]
      simp [hi]
    · have : a.testBit i = false := Nat.testBit_lt_two_pow (Nat.lt_of_lt_of_le (by omega : a < 2 ^ 64) (Nat.pow_le_pow_right (by decide) (by omega)))
      simp [this]
  simp only [bits, BitVec.ofInt_natCast]
  show IntKind.i64.wrap ((BitVec.ofNat 64 a &&& ~~~(BitVec.ofNat 64 b)).toNat : Int) = _
  rw [e1]
  exact wrap_i64_in (by omega) (by have := bd_lt (b := b) ha; omega)
end
theorem shl_i64 {a v : Nat} (h : a * 2 ^ v < 9223372036854775808) (hv : v ≤ 64) : shl .i64 (a : Int) v = ((a * 2 ^ v : Nat) : Int) := by
  unfold shl
  rw [Nat.min_eq_left (by simpa [IntKind.bits] using hv)]
  have e : ((a : Int) * 2 ^ v) = ((a * 2 ^ v : Nat) : Int) := by simp
  rw [e]
  exact wrap_i64_in (by omega) (by omega)
theorem shl_one {v : Nat} (hv : v < 63) : shl .i64 1 v = ((2 ^ v : Nat) : Int) := by
  have h : 2 ^ v < 9223372036854775808 := by
    have : 2 ^ v < 2 ^ 63 := Nat.pow_lt_pow_right (by decide) hv
    omega
  have := shl_i64 (a := 1) (v := v) (by simpa using h) (by omega)
  simpa using this
end Go.W
namespace Go.Ltl
open Go.W
/-- How many operations look at the next position. -/
def looksN : Fm → Nat
  | .at_ _ => 0
  | .on_ w f => looksN f + if w = wNot then 0 else 1
  | .tw_ w f g => looksN f + looksN g + if w = wAnd ∨ w = wOr then 0 else 1
/-- The k-th one is met; what is wanted, and what is not put off. -/
abbrev Gs := Nat × Nat × Nat
def noteM (g : Gs) (bit : Nat) (looked fr : Bool) : Gs := (g.1, if looked then g.2.1 ||| bit else g.2.1, if fr then g.2.2 ||| bit else g.2.2)
def gval (mark : Int) (bs : Nat) : Fm → Gs → Bool × Gs
  | .at_ w, g => (holdsM w mark, g)
  | .on_ w f, g =>
    let r := gval mark bs f g
    if w = wNot then (!r.1, r.2)
    else
      let a := r.1
      let nx := bs.testBit r.2.1
      let bit := 2 ^ r.2.1
      let g := (r.2.1 + 1, r.2.2)
      if w = wNext then (nx, noteM g bit a true)
      else if w = wAlways then (a && nx, noteM g bit (a && nx) ((a && nx) || !a))
      else (a || nx, noteM g bit (a || nx) (!(a || nx) || a))
  | .tw_ w f h, g =>
    let r := gval mark bs f g
    let q := gval mark bs h r.2
    let a := r.1
    let b := q.1
    if w = wAnd then (a && b, q.2)
    else if w = wOr then (a || b, q.2)
    else
      let nx := bs.testBit q.2.1
      let bit := 2 ^ q.2.1
      let g := (q.2.1 + 1, q.2.2)
      if w = wUntil then (b || (a && nx), noteM g bit (b || (a && nx)) (!(b || (a && nx)) || b))
      else (b && (a || nx), noteM g bit (b && (a || nx)) ((b && (a || nx)) || !b))
/-- Within bounds. -/
def Gok (g : Gs) : Prop := g.2.1 < 2 ^ 30 ∧ g.2.2 < 2 ^ 30
theorem noteM_ok {g : Gs} {k : Nat} {p q : Bool} (h : Gok g) (hk : k < 30) : Gok (noteM g (2 ^ k) p q) := by
  have h2 : 2 ^ k < 2 ^ 30 := Nat.pow_lt_pow_right (by decide) hk
  obtain ⟨h3, h4⟩ := h
  refine ⟨?_, ?_⟩
  · show (if p then g.2.1 ||| 2 ^ k else g.2.1) < 2 ^ 30
    split
    · exact Nat.or_lt_two_pow h3 h2
    · exact h3
  · show (if q then g.2.2 ||| 2 ^ k else g.2.2) < 2 ^ 30
    split
    · exact Nat.or_lt_two_pow h4 h2
    · exact h4
theorem gval_ok (mark : Int) (bs : Nat) : ∀ (f : Fm) (g : Gs), g.1 + looksN f ≤ 30 → Gok g → (gval mark bs f g).2.1 = g.1 + looksN f ∧ Gok (gval mark bs f g).2 := by
  intro f
  induction f with
  | at_ w => intro g h hg; exact ⟨rfl, hg⟩
  | on_ w f ih =>
    intro g h hg
    unfold looksN at h
    unfold gval looksN
    by_cases h1 : w = wNot
    · rw [if_pos h1] at h
      obtain ⟨i1, i2⟩ := ih g h hg
      simp only [if_pos h1]
      exact ⟨i1, i2⟩
    · rw [if_neg h1] at h
      obtain ⟨i1, i2⟩ := ih g (by omega) hg
      simp only [if_neg h1]
      have hk : (gval mark bs f g).2.1 < 30 := by omega
      have i3 : Gok ((gval mark bs f g).2.1 + 1, (gval mark bs f g).2.2) := i2
      split
      · exact ⟨by show (gval mark bs f g).2.1 + 1 = _; omega, noteM_ok i3 hk⟩
      · split
        · exact ⟨by show (gval mark bs f g).2.1 + 1 = _; omega, noteM_ok i3 hk⟩
        · exact ⟨by show (gval mark bs f g).2.1 + 1 = _; omega, noteM_ok i3 hk⟩
  | tw_ w f h ihf ihh =>
    intro g hl hg
    unfold looksN at hl
    unfold gval looksN
    obtain ⟨i1, i2⟩ := ihf g (by omega) hg
    obtain ⟨j1, j2⟩ := ihh (gval mark bs f g).2 (by omega) i2
    by_cases h1 : w = wAnd
    · simp only [if_pos h1, if_pos (show w = wAnd ∨ w = wOr from .inl h1)]
      exact ⟨by show (gval mark bs h (gval mark bs f g).2).2.1 = _; omega, j2⟩
    · by_cases h2 : w = wOr
      · simp only [if_neg h1, if_pos h2, if_pos (show w = wAnd ∨ w = wOr from .inr h2)]
        exact ⟨by show (gval mark bs h (gval mark bs f g).2).2.1 = _; omega, j2⟩
      · have hn : ¬ (w = wAnd ∨ w = wOr) := fun h => h.elim h1 h2
        rw [if_neg hn] at hl
        simp only [if_neg h1, if_neg h2, if_neg hn]
        have hk : (gval mark bs h (gval mark bs f g).2).2.1 < 30 := by omega
        have j3 : Gok ((gval mark bs h (gval mark bs f g).2).2.1 + 1, (gval mark bs h (gval mark bs f g).2).2.2) := j2
        split
        · exact ⟨by show (gval mark bs h (gval mark bs f g).2).2.1 + 1 = _; omega, noteM_ok j3 hk⟩
        · exact ⟨by show (gval mark bs h (gval mark bs f g).2).2.1 + 1 = _; omega, noteM_ok j3 hk⟩
end Go.Ltl
end
section
/- The search for a run, in plain words: who follows whom, components, shortest ways, the lasso; with fuel (none: a panic, or out of fuel). -/
namespace Go.Ltl
open Go.W
/-- The states of the search that follow each one. -/
def graphM (nx : List (List Nat)) (pairs : Nat) (want : List Nat) : List (List Nat) :=
  (List.range want.length).map fun v => (nx.getD (v / pairs) []).flatMap fun t => (List.range want.length).filter fun u => u / pairs = t ∧ want.getD u 0 = v % pairs
/-- A state of the way of Tarjan; stack and path with the top first. -/
structure Tj where
  index : List Nat
  low : List Nat
  of_ : List Nat
  at_ : List Nat
  stk : List Nat
  path : List Nat
  count : Nat
  number : Nat
def tjEnter (s : Tj) (v : Nat) : Tj := if s.index.getD v 0 = 0 then { s with index := s.index.set v (s.count + 1), low := s.low.set v (s.count + 1), stk := v :: s.stk, count := s.count + 1 } else s
def tjNext (s : Tj) (v : Nat) : Tj := { s with at_ := s.at_.set v (s.at_.getD v 0 + 1) }
def tjGo (s : Tj) (v u : Nat) : Tj :=
  if s.index.getD u 0 = 0 then { s with path := u :: s.path }
  else if s.of_.getD u 0 = 0 then { s with low := s.low.set v (min (s.low.getD v 0) (s.index.getD u 0)) }
  else s
def tjUp (s : Tj) (v : Nat) : List Nat → Tj
  | [] => { s with path := [] }
  | up :: rest => { s with path := up :: rest, low := s.low.set up (min (s.low.getD up 0) (s.low.getD v 0)) }
def popM (v num : Nat) : List Nat → List Nat → Option (List Nat × List Nat)
  | [], of_ => if of_.getD v 0 = 0 then none else some ([], of_)
  | x :: r, of_ => if of_.getD v 0 = 0 then popM v num r (of_.set x num) else some (x :: r, of_)
def tjDone (s : Tj) (v : Nat) : Option Tj :=
  if s.low.getD v 0 = s.index.getD v 0 then match popM v (s.number + 1) s.stk s.of_ with
    | some (k, o) => some { s with stk := k, of_ := o, number := s.number + 1 }
    | none => none
  else some s
def tjTurn (next : List (List Nat)) (s : Tj) (v : Nat) (rest : List Nat) : Option Tj :=
  if s.at_.getD v 0 < (next.getD v []).length then some (tjGo (tjNext s v) v ((next.getD v []).getD (s.at_.getD v 0) 0))
  else tjDone (tjUp s v rest) v
def tjStep (next : List (List Nat)) (s : Tj) : Option Tj := match s.path with
  | [] => none
  | v :: rest => tjTurn next (tjEnter s v) v rest
def tjRun (next : List (List Nat)) : Nat → Tj → Option (Nat × Tj)
  | 0, s => if s.path = [] then some (0, s) else none
  | f + 1, s => if s.path = [] then some (f + 1, s) else match tjStep next s with
    | some s' => tjRun next f s'
    | none => none
/-- k roots are left. -/
def compRoots (next : List (List Nat)) : Nat → Nat → Nat → Tj → Option Tj
  | 0, _, _, s => some s
  | k + 1, root, f, s => if s.index.getD root 0 ≠ 0 then compRoots next k (root + 1) f s else match tjRun next f { s with path := [root] } with
    | some (f', s') => compRoots next k (root + 1) f' s'
    | none => none
def tj0 (n : Nat) : Tj := ⟨List.replicate n 0, List.replicate n 0, List.replicate n 0, List.replicate n 0, [], [], 0, 0⟩
def compM (F : Nat) (next : List (List Nat)) : Option (List Nat) := (compRoots next next.length 0 F (tj0 next.length)).map (·.of_)
/-- Who was before whom. -/
abbrev Bef := List (Nat × Int)
def lkB : Bef → Nat → Option Int
  | [], _ => none
  | p :: r, k => if k = p.1 then some p.2 else lkB r k
def addM (may : Nat → Bool) (par : Int) (s : Bef × List Nat) (u : Nat) : Bef × List Nat := if (lkB s.1 u).isNone && may u then (s.1 ++ [(u, par)], s.2 ++ [u]) else s
def backM (B : Bef) : Nat → Nat → List Nat → Option (List Nat)
  | 0, v, out => if 0 ≤ (lkB B v).getD 0 then none else some out
  | f + 1, v, out => if 0 ≤ (lkB B v).getD 0 then backM B f ((lkB B v).getD 0).toNat (((lkB B v).getD 0).toNat :: out) else some out
def wayGo (F : Nat) (next : List (List Nat)) (may fits : Nat → Bool) : Nat → Bef × List Nat → Option (Option (List Nat))
  | _, (_, []) => some none
  | 0, (_, _ :: _) => none
  | f + 1, (B, v :: q) => if fits v then (backM B F v [v]).map some else wayGo F next may fits f ((next.getD v []).foldl (addM may v) (B, q))
def wayM (F : Nat) (next : List (List Nat)) (start : List Nat) (may fits : Nat → Bool) : Option (Option (List Nat)) := wayGo F next may fits F (start.foldl (addM may (-1)) ([], []))
/-- What is not put off in a component, by the first m states, and whether it has an edge. -/
def fairC (of_ fair : List Nat) : Nat → Nat → Nat
  | 0, _ => 0
  | m + 1, c => if of_.getD m 0 = c then fairC of_ fair m c ||| fair.getD m 0 else fairC of_ fair m c
def turnC (of_ : List Nat) (next : List (List Nat)) : Nat → Nat → Bool
  | 0, _ => false
  | m + 1, c => if of_.getD m 0 = c then turnC of_ next m c || (next.getD m []).any (fun u => of_.getD u 0 = c) else turnC of_ next m c
def beginM (pairs starts : Nat) (truth : List Bool) : List Nat := (List.range (pairs * starts)).filter fun v => truth.getD v false
def seenM (fair : List Nat) (seen : Nat) (part : List Nat) : Nat := part.foldl (fun s v => s ||| fair.getD v 0) seen
def loopFits (fair : List Nat) (all home seen v : Nat) : Bool := decide (bd (fair.getD v 0) seen ≠ 0) || (decide (seen = all) && decide (v = home))
def loopM (F : Nat) (next : List (List Nat)) (of_ fair : List Nat) (all home : Nat) : Nat → Nat → Nat → List Nat → Option (List Nat)
  | 0, _, _, _ => none
  | f + 1, at_, seen, acc => match wayM F next (next.getD at_ []) (fun v => of_.getD v 0 = of_.getD home 0) (loopFits fair all home seen) with
    | some (some part) =>
      if seenM fair seen part = all ∧ part.getLastD 0 = home then some (acc ++ part)
      else loopM F next of_ fair all home f (part.getLastD 0) (seenM fair seen part) (acc ++ part)
    | _ => none
def stemFits (of_ fair : List Nat) (next : List (List Nat)) (all v : Nat) : Bool := turnC of_ next next.length (of_.getD v 0) && decide (fairC of_ fair next.length (of_.getD v 0) = all)
/-- The lasso of states of the search; none within: there is no run. -/
def runM (F G : Nat) (next : List (List Nat)) (pairs starts nl : Nat) (truth : List Bool) (fair : List Nat) : Option (Option (List Nat × List Nat)) :=
  match compM F next with
  | none => none
  | some of_ => match wayM G next (beginM pairs starts truth) (fun _ => true) (stemFits of_ fair next (2 ^ nl - 1)) with
    | none => none
    | some none => some none
    | some (some stem) => match loopM G next of_ fair (2 ^ nl - 1) (stem.getLastD 0) G (stem.getLastD 0) (fair.getD (stem.getLastD 0) 0) [] with
      | none => none
      | some loop => some (some (stem, loop))
end Go.Ltl
end
section
/- The search in plain words: first bounds. -/
namespace Go.Ltl
open Go.W
theorem graph_row {nx : List (List Nat)} {pairs : Nat} {want : List Nat} (hr : ∀ r ∈ nx, r.length ≤ 16) {row : List Nat} (h : row ∈ graphM nx pairs want) : (∀ u ∈ row, u < want.length) ∧ row.length ≤ 16 * want.length := by
  unfold graphM at h
  obtain ⟨v, _, rfl⟩ := List.mem_map.1 h
  refine ⟨fun u hu => ?_, ?_⟩
  · obtain ⟨t, _, hu2⟩ := List.mem_flatMap.1 hu
    exact List.mem_range.1 (List.mem_filter.1 hu2).1
  · have hl : (nx.getD (v / pairs) []).length ≤ 16 := by
      rw [List.getD_eq_getElem?_getD]
      cases hq : nx[v / pairs]? with
      | none => simp
      | some r => exact hr r (List.mem_of_getElem? hq)
    generalize nx.getD (v / pairs) [] = l at hl
    have key : ∀ l : List Nat, (l.flatMap fun t => (List.range want.length).filter fun u => decide (u / pairs = t ∧ want.getD u 0 = v % pairs)).length ≤ l.length * want.length := by
      intro l
      induction l with
      | nil => simp
      | cons t l ih =>
        rw [List.flatMap_cons, List.length_append, List.length_cons, Nat.add_mul]
        have := List.length_filter_le (fun u => decide (u / pairs = t ∧ want.getD u 0 = v % pairs)) (List.range want.length)
        rw [List.length_range] at this
        omega
    exact Nat.le_trans (key l) (Nat.mul_le_mul_right _ hl)
theorem graph_len (nx : List (List Nat)) (pairs : Nat) (want : List Nat) : (graphM nx pairs want).length = want.length := by simp [graphM]
/-- Numbers of states only. -/
def WBd (N : Nat) (s : Bef × List Nat) : Prop := (∀ p ∈ s.1, 0 ≤ p.2 → p.2.toNat < N) ∧ ∀ x ∈ s.2, x < N
theorem addM_bd {N : Nat} {may : Nat → Bool} {par : Int} {s : Bef × List Nat} {u : Nat} (h : WBd N s) (hu : u < N) (hp : 0 ≤ par → par.toNat < N) : WBd N (addM may par s u) := by
  unfold addM
  split
  · refine ⟨fun p hp2 => ?_, fun x hx => ?_⟩
    · rcases List.mem_append.1 hp2 with h1 | h1
      · exact h.1 p h1
      · rw [List.mem_singleton.1 h1]; exact hp
    · rcases List.mem_append.1 hx with h1 | h1
      · exact h.2 x h1
      · rw [List.mem_singleton.1 h1]; exact hu
  · exact h
theorem addsM_bd {N : Nat} {may : Nat → Bool} {par : Int} (hp : 0 ≤ par → par.toNat < N) : ∀ (l : List Nat) (s : Bef × List Nat), WBd N s → (∀ u ∈ l, u < N) → WBd N (l.foldl (addM may par) s) := by
  intro l
  induction l with
  | nil => intro s h _; exact h
  | cons u l ih => intro s h hl; exact ih _ (addM_bd h (hl u (by simp)) hp) (fun x hx => hl x (List.mem_cons_of_mem _ hx))
theorem lkB_mem {B : Bef} {k : Nat} {x : Int} (h : lkB B k = some x) : (k, x) ∈ B := by
  induction B with
  | nil => cases h
  | cons p r ih =>
    unfold lkB at h
    split at h
    · rename_i hk
      simp only [Option.some.injEq] at h
      subst h; subst hk
      exact List.mem_cons_self ..
    · exact List.mem_cons_of_mem _ (ih h)
theorem backM_bd {N : Nat} {B : Bef} (hB : ∀ p ∈ B, 0 ≤ p.2 → p.2.toNat < N) (hN : 0 < N) : ∀ (f v : Nat) (out l : List Nat), (∀ x ∈ out, x < N) → backM B f v out = some l → (∀ x ∈ l, x < N) ∧ l.length ≤ out.length + f := by
  have hlk : ∀ v, 0 ≤ (lkB B v).getD 0 → ((lkB B v).getD 0).toNat < N := by
    intro v h
    cases hq : lkB B v with
    | none => exact hN
    | some x => rw [hq] at h; exact hB _ (lkB_mem hq) h
  intro f
  induction f with
  | zero =>
    intro v out l h1 h
    unfold backM at h
    split at h
    · cases h
    · simp only [Option.some.injEq] at h; rw [← h]; exact ⟨h1, Nat.le_refl _⟩
  | succ f ih =>
    intro v out l h1 h
    unfold backM at h
    split at h
    · rename_i hx
      have := ih _ _ _ (fun x hx2 => by
        rcases List.mem_cons.1 hx2 with h2 | h2
        · rw [h2]; exact hlk v hx
        · exact h1 x h2) h
      exact ⟨this.1, by have := this.2; rw [List.length_cons] at this; omega⟩
    · simp only [Option.some.injEq] at h; rw [← h]; exact ⟨h1, by omega⟩
theorem wayGo_bd {N G : Nat} {next : List (List Nat)} {may fits : Nat → Bool} (hnext : ∀ v, ∀ u ∈ next.getD v [], u < N) : ∀ (f : Nat) (s : Bef × List Nat) (l : List Nat), WBd N s → wayGo G next may fits f s = some (some l) → (∀ x ∈ l, x < N) ∧ l.length ≤ 1 + G := by
  intro f
  induction f with
  | zero =>
    intro s l hs h
    obtain ⟨B, q⟩ := s
    cases q <;> (unfold wayGo at h; simp at h)
  | succ f ih =>
    intro s l hs h
    obtain ⟨B, q⟩ := s
    cases q with
    | nil => unfold wayGo at h; simp at h
    | cons v q =>
      have hv : v < N := hs.2 v (by simp)
      unfold wayGo at h
      split at h
      · obtain ⟨l', h1, h2⟩ := Option.map_eq_some_iff.1 h
        simp only [Option.some.injEq] at h2
        subst h2
        exact backM_bd hs.1 (by omega) _ _ _ _ (fun x hx => by rw [List.mem_singleton.1 hx]; exact hv) h1
      · exact ih _ l (addsM_bd (par := ((v : Nat) : Int)) (fun _ => by rw [Int.toNat_natCast]; exact hv) _ (B, q) ⟨hs.1, fun x hx => hs.2 x (List.mem_cons_of_mem _ hx)⟩ (hnext v)) h
theorem wayM_bd {N G : Nat} {next : List (List Nat)} {start : List Nat} {may fits : Nat → Bool} {l : List Nat} (hnext : ∀ v, ∀ u ∈ next.getD v [], u < N) (hst : ∀ u ∈ start, u < N) (h : wayM G next start may fits = some (some l)) : (∀ x ∈ l, x < N) ∧ l.length ≤ 1 + G :=
  wayGo_bd hnext _ _ _ (addsM_bd (fun h => absurd h (by decide)) _ _ ⟨fun p hp => (by cases hp), fun x hx => (by cases hx)⟩ hst) h
/-- What is seen stays small. -/
theorem seenM_lt {fair : List Nat} (hf : ∀ x ∈ fair, x < 2 ^ 40) : ∀ (part : List Nat) (s : Nat), s < 2 ^ 40 → seenM fair s part < 2 ^ 40 := by
  intro part
  induction part with
  | nil => intro s hs; exact hs
  | cons v part ih =>
    intro s hs
    refine ih _ (Nat.or_lt_two_pow hs ?_)
    rw [List.getD_eq_getElem?_getD]
    cases hq : fair[v]? with
    | none => decide
    | some x => exact hf x (List.mem_of_getElem? hq)
theorem getD_lt40 {fair : List Nat} (hf : ∀ x ∈ fair, x < 2 ^ 40) (v : Nat) : fair.getD v 0 < 2 ^ 40 := by
  rw [List.getD_eq_getElem?_getD]
  cases hq : fair[v]? with
  | none => decide
  | some x => exact hf x (List.mem_of_getElem? hq)
theorem fairC_lt {of_ fair : List Nat} (hf : ∀ x ∈ fair, x < 2 ^ 40) (c : Nat) : ∀ m, fairC of_ fair m c < 2 ^ 40 := by
  intro m
  induction m with
  | zero => show 0 < 2 ^ 40; decide
  | succ m ih =>
    unfold fairC
    split
    · exact Nat.or_lt_two_pow ih (getD_lt40 hf m)
    · exact ih
/-- Edges within a component, the last state looked at in part. -/
def turnP (of_ : List Nat) (next : List (List Nat)) (m j c : Nat) : Bool := if of_.getD m 0 = c then turnC of_ next m c || ((next.getD m []).take j).any (fun u => of_.getD u 0 = c) else turnC of_ next m c
theorem turnP_zero (of_ : List Nat) (next : List (List Nat)) (m c : Nat) : turnP of_ next m 0 c = turnC of_ next m c := by unfold turnP; simp
theorem turnP_all (of_ : List Nat) (next : List (List Nat)) (m c j : Nat) (h : (next.getD m []).length ≤ j) : turnP of_ next m j c = turnC of_ next (m + 1) c := by
  unfold turnP
  rw [List.take_of_length_le h]
  conv => rhs; unfold turnC
theorem turnP_succ (of_ : List Nat) (next : List (List Nat)) (m j c u : Nat) (h : (next.getD m [])[j]? = some u) : turnP of_ next m (j + 1) c = if c = of_.getD m 0 then turnP of_ next m j c || decide (of_.getD u 0 = of_.getD m 0) else turnP of_ next m j c := by
  unfold turnP
  obtain ⟨h1, h2⟩ := List.getElem?_eq_some_iff.1 h
  by_cases hc : of_.getD m 0 = c
  · rw [if_pos hc, if_pos hc.symm, if_pos hc, List.take_succ_eq_append_getElem h1, List.any_append, h2, hc, Bool.or_assoc]
    simp
  · rw [if_neg hc, if_neg (fun h => hc h.symm), if_neg hc]
end Go.Ltl
end
