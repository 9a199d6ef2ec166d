/- W: a layer over the library's rules of the walk: the frame is known in part (a list of slots with their values), the world by facts; each operation is one lemma. -/
import Derived.WalkKit
import Derived.WalkLawsBesides
import Derived.WalkSpells
import Derived.BigQuiet
import Derived.Deep.QuietTactic
import Derived.StillTailTactics
import Derived.Deep.LoopGhost
import Derived.RangeFuncRecord
import Derived.TacticsIn
import Derived.OrdersIn
set_option linter.unusedVariables false
namespace Go.W
open Go.RowKit

/-! ### The frame, known in part -/
abbrev Env := List (Nat × Value)
/-- The slot's number under which an Env tells the marks of the loops over functions. -/
def mk : Nat := 1000000000
def look : Env → Nat → Option Value
  | [], _ => none
  | (s, v) :: r, t => match Nat.beq s t with
    | true => match Nat.beq s 1000000000 with
      | true => none
      | false => some v
    | false => look r t
def dec : Value → List Nat
  | .tuple vs => vs.toList.map fun x => match x with
    | .int _ n => n.toNat
    | _ => 0
  | _ => []
def enc (ds : List Nat) : Value := .tuple (ds.map fun (d : Nat) => Value.int .i64 d).toArray
theorem dec_enc (ds : List Nat) : dec (enc ds) = ds := by
  simp [dec, enc, List.map_map, Function.comp_def]
def marks : Env → List Nat
  | [] => []
  | (s, v) :: r => match Nat.beq s 1000000000 with
    | true => dec v
    | false => marks r
def markOf (d : Nat) : Deferred := { target := .collected d, args := #[] }

theorem look_cons {s : Nat} {v u : Value} {r : Env} {t : Nat} (h : look ((s, v) :: r) t = some u) : (s = t ∧ s ≠ 1000000000 ∧ v = u) ∨ (s ≠ t ∧ look r t = some u) := by
  simp only [look] at h
  cases hb : Nat.beq s t with
  | true =>
    rw [hb] at h
    simp only at h
    cases hm : Nat.beq s 1000000000 with
    | true => rw [hm] at h; cases h
    | false =>
      rw [hm] at h
      simp only [Option.some.injEq] at h
      exact .inl ⟨Nat.eq_of_beq_eq_true hb, (fun e1 => by rw [e1] at hm; cases hm), h⟩
  | false => rw [hb] at h; exact .inr ⟨(fun e1 => by rw [e1, Nat.beq_refl] at hb; cases hb), h⟩
theorem look_ne {e : Env} {t : Nat} {v : Value} (h : look e t = some v) : t ≠ 1000000000 := by
  induction e with
  | nil => cases h
  | cons p r ih =>
    obtain ⟨s, u⟩ := p
    rcases look_cons h with ⟨h1, h2, _⟩ | ⟨_, h1⟩
    · rw [← h1]; exact h2
    · exact ih h1
theorem marks_cons {s : Nat} {v : Value} {r : Env} (h : s ≠ 1000000000) : marks ((s, v) :: r) = marks r := by
  simp only [marks]
  cases hb : Nat.beq s 1000000000 with
  | true => exact absurd (Nat.eq_of_beq_eq_true hb) h
  | false => rfl

structure Kn (n : Nat) (e : Env) (a : Act) : Prop where
  le : n ≤ 1000000000
  size : a.tmps.size = n
  defers : a.defers = (marks e).map markOf
  slot : ∀ t v, look e t = some v → a.tmps.getD t undef = v

def opv (e : Env) : Operand → Option Value
  | .tmp t => look e t
  | .const v => some v
  | .global g => some (.pointer (some ⟨g, 0, none⟩))
  | .func f => some (.func (.func f) #[] #[])

def Agree (e : Env) (ρ : Operand → Value) : Prop := ∀ x v, opv e x = some v → ρ x = v

theorem Kn.agree {n : Nat} {e : Env} {a : Act} (h : Kn n e a) : Agree e a.eval := by
  intro x v hx
  cases x with
  | tmp t => exact h.slot t v hx
  | const u => simpa [opv, Act.eval] using hx
  | global g => simpa [opv, Act.eval] using hx
  | func f => simpa [opv, Act.eval] using hx

theorem getD_set_same {xs : Array Value} {d : Nat} {v u : Value} (h : d < xs.size) : (xs.setIfInBounds d v).getD d u = v := by
  simp [Array.getD, h]
theorem getD_set_other {xs : Array Value} {d t : Nat} {v u : Value} (h : d ≠ t) : (xs.setIfInBounds d v).getD t u = xs.getD t u := by
  simp only [Array.getD_eq_getD_getElem?]
  rw [Array.getElem?_setIfInBounds_ne h]

theorem Kn.put {n d : Nat} {e : Env} {a : Act} {v : Value} (h : Kn n e a) (hd : Nat.blt d n = true) : Kn n ((d, v) :: e) (a.put (some d) v) := by
  have hd' : d < n := by simpa [Nat.blt_eq] using hd
  have hle := h.le
  refine ⟨h.le, by simp [Act.put, h.size], by rw [marks_cons (by omega)]; exact h.defers, fun t u ht => ?_⟩
  rcases look_cons ht with ⟨e1, _, e2⟩ | ⟨e1, e2⟩
  · subst e1; subst e2
    exact getD_set_same (by rw [h.size]; exact hd')
  · show (a.tmps.setIfInBounds d v).getD t undef = u
    rw [getD_set_other e1]
    exact h.slot t u e2

theorem Kn.put_none {n : Nat} {e : Env} {a : Act} {v : Value} (h : Kn n e a) : Kn n e (a.put none v) := h

/-- A part of what is known: all marks, some slots. -/
def SubG (m : List Nat) : Env → Env → Prop
  | [], e => m = marks e
  | (s, v) :: r, e => look e s = some v ∧ SubG m r e
/-- The marks are told in one entry, at the head, or there are none. -/
def cut : Env → List Nat × Env
  | [] => ([], [])
  | (s, v) :: r => match Nat.beq s 1000000000 with
    | true => (dec v, r)
    | false => ([], (s, v) :: r)
def Sub (e' e : Env) : Prop := SubG (cut e').1 (cut e').2 e

theorem SubG.look {m : List Nat} {e' e : Env} (h : SubG m e' e) : ∀ t v, W.look e' t = some v → W.look e t = some v := by
  induction e' with
  | nil => intro t v ht; simp [W.look] at ht
  | cons p r ih =>
    intro t v ht
    obtain ⟨s, u⟩ := p
    rcases look_cons ht with ⟨e1, _, e2⟩ | ⟨_, e2⟩
    · rw [← e1, ← e2]; exact h.1
    · exact ih h.2 t v e2
theorem SubG.marks {m : List Nat} {e' e : Env} (h : SubG m e' e) : m = W.marks e := by
  induction e' with
  | nil => exact h
  | cons p r ih => exact ih h.2
theorem SubG.none {m : List Nat} {e' e : Env} (h : SubG m e' e) : ∀ p ∈ e', p.1 ≠ 1000000000 := by
  induction e' with
  | nil => intro p hp; cases hp
  | cons p r ih =>
    intro q hq
    rcases List.mem_cons.1 hq with hq | hq
    · rw [hq]; exact look_ne h.1
    · exact ih h.2 q hq
theorem marks_none {e : Env} (h : ∀ p ∈ e, p.1 ≠ 1000000000) : marks e = [] := by
  induction e with
  | nil => rfl
  | cons p r ih =>
    obtain ⟨s, v⟩ := p
    rw [marks_cons (h (s, v) (by simp))]
    exact ih fun q hq => h q (by simp [hq])
theorem Sub.look {e' e : Env} (h : Sub e' e) : ∀ t v, W.look e' t = some v → W.look e t = some v := by
  intro t v ht
  refine SubG.look h t v ?_
  cases e' with
  | nil => exact ht
  | cons p r =>
    obtain ⟨s, u⟩ := p
    simp only [cut]
    cases hb : Nat.beq s 1000000000 with
    | true =>
      rcases look_cons ht with ⟨_, e1, _⟩ | ⟨_, e2⟩
      · exact absurd (Nat.eq_of_beq_eq_true hb) e1
      · exact e2
    | false => exact ht
theorem Sub.marks {e' e : Env} (h : Sub e' e) : W.marks e' = W.marks e := by
  have h1 := SubG.marks h
  have h2 := SubG.none h
  rw [← h1]
  cases e' with
  | nil => rfl
  | cons p r =>
    obtain ⟨s, u⟩ := p
    simp only [cut] at h2 ⊢
    cases hb : Nat.beq s 1000000000 with
    | true => simp only [W.marks, hb]
    | false =>
      rw [hb] at h2
      exact marks_none h2

theorem Kn.sub {n : Nat} {e e' : Env} {a : Act} (h : Kn n e a) (hs : Sub e' e) : Kn n e' a :=
  ⟨h.le, h.size, by rw [hs.marks]; exact h.defers, fun t v ht => h.slot t v (hs.look t v ht)⟩
theorem Kn.known {n d : Nat} {e : Env} {a : Act} {v : Value} (h : Kn n e a) (hd : look e d = some v) : Kn n ((d, v) :: e) a :=
  ⟨h.le, h.size, by rw [marks_cons (look_ne hd)]; exact h.defers, fun t u ht => by
    rcases look_cons ht with ⟨e1, _, e2⟩ | ⟨_, e2⟩
    · rw [← e1, ← e2]; exact h.slot _ _ hd
    · exact h.slot _ _ e2⟩

/-! ### Where code may end -/
abbrev Nor := Env → World → Prop
abbrev Ext := Nat → Env → World → Prop
abbrev Pan := List PanicEntry → World → Prop

def Post (n : Nat) (N R : Nor) (X : Ext) (Z : Pan) : Exit → Act → World → Prop
  | .normal, a, w => ∃ e, Kn n e a ∧ N e w
  | .ret, a, w => ∃ e, Kn n e a ∧ R e w
  | .exit i, a, w => ∃ e, Kn n e a ∧ X i e w
  | .panic ch, a, w => a.defers = [] ∧ Z ch w
  | _, _, _ => False

/-- Where code runs: in an activation of a function (none), or in a round of a loop over a function. -/
def fen : Option Nat → Fence
  | none => Fence.wide
  | some l => Fence.wide.inRound l
theorem fen_fn (ro : Option Nat) (f : FuncId) : (fen ro).fn f := by cases ro <;> exact trivial
theorem fen_depth (ro : Option Nat) : (fen ro).depth = none := by cases ro <;> rfl
theorem fen_round (ro : Option Nat) : (fen ro).round = ro := by cases ro <;> rfl
theorem fen_calls {P : Program} {ro : Option Nat} {f : FuncId} {args : Array Value} {w : World} {R : Ending → World → Prop} (h : Calls P f args w R) : CallsIn (fen ro) 0 P f args w R := by
  have h1 : CallsIn Fence.wide 0 P f args w R := callsIn_wide.2 h
  cases ro with
  | none => exact h1
  | some l => exact ⟨trivial, fun cs hr => h1.2 cs (room_wide _)⟩

def WC (P : Program) (ro : Option Nat) (n : Nat) (c : Code) (N R : Nor) (X : Ext) (Z : Pan) (e : Env) (w : World) : Prop :=
  ∀ a, Kn n e a → c.wpIn (fen ro) 0 P (Post n N R X Z) a w

section
variable {P : Program} {ro : Option Nat} {n : Nat} {N R : Nor} {X : Ext} {Z : Pan} {e : Env} {w : World}

theorem WC.seq {x y : Code} (h : WC P ro n x (fun e' w' => WC P ro n y N R X Z e' w') R X Z e w) : WC P ro n (.seq x y) N R X Z e w := by
  intro a ha
  refine wpIn_seq (wpIn_mono (h a ha) ?_)
  intro ex a' w' hq
  cases ex with
  | normal => obtain ⟨e', hk, hw⟩ := hq; exact hw a' hk
  | _ => exact hq

theorem WC.skip (h : N e w) : WC P ro n .skip N R X Z e w := fun a ha => wpIn_skip ⟨e, ha, h⟩
theorem WC.ret (h : R e w) : WC P ro n .ret N R X Z e w := fun a ha => wpIn_ret ⟨e, ha, h⟩
theorem WC.exit {i : Nat} (h : X i e w) : WC P ro n (.exit i) N R X Z e w := fun a ha => wpIn_exit ⟨e, ha, h⟩

def blk (id : Nat) (N : Nor) (X : Ext) : Ext := fun i e w => if i = id then N e w else X i e w
theorem blk_hit {id : Nat} (h : N e w) : blk id N X id e w := by unfold blk; rw [if_pos rfl]; exact h
theorem blk_miss {id i : Nat} (hi : Nat.beq i id = false) (h : X i e w) : blk id N X i e w := by
  unfold blk; rw [if_neg (fun e1 => by subst e1; rw [Nat.beq_refl] at hi; cases hi)]; exact h

theorem WC.block {id : Nat} {c : Code} (h : WC P ro n c N R (blk id N X) Z e w) : WC P ro n (.block id c) N R X Z e w := by
  intro a ha
  refine wpIn_block (wpIn_mono (h a ha) ?_)
  intro ex a' w' hq
  cases ex with
  | exit i =>
    obtain ⟨e', hk, hx⟩ := hq
    unfold blk at hx
    show if i = id then _ else _
    by_cases hi : i = id
    · rw [if_pos hi] at hx ⊢; exact ⟨e', hk, hx⟩
    · rw [if_neg hi] at hx ⊢; exact ⟨e', hk, hx⟩
  | _ => exact hq

theorem WC.cond {c : Operand} {x y : Code} {b : Bool} (hc : opv e c = some (.bool b)) (ht : b = true → WC P ro n x N R X Z e w) (hf : b = false → WC P ro n y N R X Z e w) :
    WC P ro n (.cond c x y) N R X Z e w := by
  intro a ha
  exact wpIn_cond_split (ha.agree c _ hc) (fun h => ht h a ha) (fun h => hf h a ha)
theorem WC.condT {c : Operand} {x y : Code} (hc : opv e c = some (.bool true)) (h : WC P ro n x N R X Z e w) : WC P ro n (.cond c x y) N R X Z e w :=
  fun a ha => wpIn_cond_true (ha.agree c _ hc) (h a ha)
theorem WC.condF {c : Operand} {x y : Code} (hc : opv e c = some (.bool false)) (h : WC P ro n y N R X Z e w) : WC P ro n (.cond c x y) N R X Z e w :=
  fun a ha => wpIn_cond_false (ha.agree c _ hc) (h a ha)

theorem WC.sub {c : Code} {e' : Env} (hs : Sub e' e) (h : WC P ro n c N R X Z e' w) : WC P ro n c N R X Z e w := fun a ha => h a (ha.sub hs)

theorem WC.mono {c : Code} {N' R' : Nor} {X' : Ext} (h : WC P ro n c N R X Z e w) (hN : ∀ e w, N e w → N' e w) (hR : ∀ e w, R e w → R' e w) (hX : ∀ i e w, X i e w → X' i e w) :
    WC P ro n c N' R' X' Z e w := fun a ha => wpIn_mono (h a ha) fun ex a' w' hq => by
  cases ex with
  | normal => obtain ⟨e', hk, hw⟩ := hq; exact ⟨e', hk, hN _ _ hw⟩
  | ret => obtain ⟨e', hk, hw⟩ := hq; exact ⟨e', hk, hR _ _ hw⟩
  | exit i => obtain ⟨e', hk, hw⟩ := hq; exact ⟨e', hk, hX _ _ _ hw⟩
  | _ => exact hq

theorem wpIn_loop_gh {F : Fence} {m : Nat} {Q : Exit → Act → World → Prop} {a : Act} {c : Code} (I : Nat → Act → World → Prop) (n₀ : Nat) (h₀ : I n₀ a w)
    (round : ∀ k a w, I k a w → c.wpIn F m P (Exit.then (fun a' w' => ∃ n', n' < k ∧ I n' a' w') Q) a w) : (Code.loop c).wpIn F m P Q a w := by
  refine wpIn_loop (fun a w => ∃ k, I k a w) (fun a w => leastOf (fun k => I k a w)) ⟨n₀, h₀⟩ ?_
  intro a w hI
  refine wpIn_mono (round _ a w (leastOf_spec hI).1) ?_
  intro e a' w' hq
  cases e with
  | normal =>
    obtain ⟨n', hlt, hI'⟩ := hq
    exact show (∃ k, I k a' w') ∧ leastOf (fun k => I k a' w') < leastOf (fun k => I k a w) from ⟨⟨n', hI'⟩, Nat.lt_of_le_of_lt ((leastOf_spec ⟨n', hI'⟩).2 n' hI') hlt⟩
  | exit id => exact hq
  | goto l => exact hq
  | ret => exact hq
  | panic ch => exact hq
  | outgrown => exact hq

/-- A loop: states of a type of one's own, each with its slots; what holds of a state and the world; a measure. -/
theorem WC.loop {c : Code} (σ : Type) (E : σ → Env) (Φ : σ → World → Prop) (μ : σ → Nat) (s₀ : σ) (h₀ : Sub (E s₀) e) (hΦ : Φ s₀ w)
    (hb : ∀ s w, Φ s w → WC P ro n c (fun e' w' => ∃ s', μ s' < μ s ∧ Sub (E s') e' ∧ Φ s' w') R X Z (E s) w) :
    WC P ro n (.loop c) N R X Z e w := by
  intro a ha
  refine wpIn_loop_gh (fun k a w => ∃ s, μ s = k ∧ Kn n (E s) a ∧ Φ s w) (μ s₀) ⟨s₀, rfl, ha.sub h₀, hΦ⟩ ?_
  rintro k a w ⟨s, rfl, hk, hs⟩
  refine wpIn_mono (hb s w hs a hk) ?_
  intro ex a' w' hq
  cases ex with
  | normal => obtain ⟨e', hk', s', hlt, hsub, hs'⟩ := hq; exact ⟨μ s', hlt, s', rfl, hk'.sub hsub, hs'⟩
  | _ => exact hq
end

section
variable {P : Program} {ro : Option Nat} {n : Nat} {N R : Nor} {X : Ext} {Z : Pan} {e : Env} {w : World}
/-- What is known in the middle. -/
theorem WC.mid {c : Code} (σ : Type) (E : σ → Env) (Φ : σ → World → Prop) (hx : WC P ro n c (fun e' w' => ∃ s, Sub (E s) e' ∧ Φ s w') R X Z e w)
    (hy : ∀ s e' w', Sub (E s) e' → Φ s w' → N e' w') : WC P ro n c N R X Z e w :=
  hx.mono (fun e' w' ⟨s, h1, h2⟩ => hy s e' w' h1 h2) (fun _ _ h => h) (fun _ _ _ h => h)
end

/-! ### Operations -/
def Q1 (n : Nat) (N : Nor) (Z : Pan) : Exit → Act → World → Prop := Post n N (fun _ _ => False) (fun _ _ _ => False) Z

def WL (P : Program) (ro : Option Nat) (n : Nat) (l0 : List Oper) (N : Nor) (Z : Pan) (l : List Oper) (e : Env) (w : World) : Prop :=
  ∀ a, Kn n e a → wpListIn (fen ro) 0 P l0.toArray (Q1 n N Z) l a w

theorem semAt_ok {P : Program} {ro : Option Nat} {o : Oper} {ρ : Operand → Value} {w w' : World} {x : Next} (h : (execOp ρ o).run P w = .ok x w') (hx : ∀ d, x ≠ .defer d) : (o.semAt ro ρ).run P w = .ok x w' := by
  by_cases hd : ∃ c, o.op = .defer c
  · obtain ⟨c, hc⟩ := hd
    exfalso
    have : execOp ρ o = (do pure (.defer (← resolve ρ c o.type)) : Sem Next) := by unfold execOp; rw [hc]
    rw [this, Sem.run_bind] at h
    cases hr : (resolve ρ c o.type).run P w with
    | ok d w2 => rw [hr] at h; simp only [Result.andThen_ok, Sem.run_pure, Result.ok.injEq] at h; exact hx d h.1.symm
    | halt y w2 => rw [hr] at h; simp [Result.andThen] at h
  · rw [Oper.semAt_eq ro ρ o (fun c hc => hd ⟨c, hc⟩)]; exact h

section
variable {P : Program} {ro : Option Nat} {n : Nat} {N R : Nor} {X : Ext} {Z : Pan} {e : Env} {w : World}
theorem WC.reg {id : Nat} {l : List Oper} (h : WL P ro n l N Z l e w) : WC P ro n (.region id l.toArray false) N R X Z e w := by
  intro a ha
  refine wpIn_mono (wpIn_region_lit (h a ha)) ?_
  intro ex a' w' hq
  cases ex with
  | ret => obtain ⟨_, _, hf⟩ := hq; exact hf.elim
  | exit i => obtain ⟨_, _, hf⟩ := hq; exact hf.elim
  | _ => exact hq
end

/-- Is an operation wanted, as far as its guard can be told. -/
def grd (l0 : List Oper) (e : Env) : Option (Nat × Bool) → Option Bool
  | none => some true
  | some (j, want) => match l0[j]? with
    | some o => match o.dst with
      | some d => match look e d with
        | some (.bool b) => match want with
          | true => some b
          | false => some !b
        | some (.tuple _) => some false
        | _ => none
      | none => none
    | none => none

theorem look_slot {n : Nat} {e : Env} {a : Act} (h : Kn n e a) {d : Nat} {v : Value} (hd : look e d = some v) (hv : v ≠ undef) : a.tmps[d]? = some v := by
  have := h.slot d v hd
  rw [Array.getD_eq_getD_getElem?] at this
  cases hx : a.tmps[d]? with
  | none => rw [hx] at this; exact absurd this.symm hv
  | some u => rw [hx] at this; simpa using this

theorem grd_wanted {n : Nat} {l0 : List Oper} {e : Env} {a : Act} (h : Kn n e a) {o : Oper} {c : Bool} (hg : grd l0 e o.guard = some c) : Region.wanted o (yielded l0.toArray a.tmps) = c := by
  unfold Region.wanted
  cases hgu : o.guard with
  | none => rw [hgu] at hg; simp only [grd, Option.some.injEq] at hg; exact hg
  | some p =>
    obtain ⟨j, want⟩ := p
    rw [hgu] at hg
    simp only [grd] at hg
    cases ho : l0[j]? with
    | none => rw [ho] at hg; simp at hg
    | some o' =>
      rw [ho] at hg
      simp only at hg
      cases hd : o'.dst with
      | none => rw [hd] at hg; simp at hg
      | some d =>
        rw [hd] at hg
        simp only at hg
        cases hl : look e d with
        | none => rw [hl] at hg; simp at hg
        | some v =>
          rw [hl] at hg
          cases v <;> simp only at hg <;> try (cases hg; done)
          · rename_i b
            have hs := look_slot h hl (by intro hh; cases hh)
            simp only [yielded]
            simp only [List.getElem?_toArray, ho, Option.bind_some, hd, hs]
            cases want <;> simp only [Option.some.injEq] at hg <;> subst hg <;> cases b <;> rfl
          · rename_i vs
            simp only [Option.some.injEq] at hg
            subst hg
            have hs := h.slot d _ hl
            rw [Array.getD_eq_getD_getElem?] at hs
            simp only [yielded]
            simp only [List.getElem?_toArray, ho, Option.bind_some, hd]
            cases hx : a.tmps[d]? with
            | none => cases want <;> rfl
            | some u =>
              rw [hx] at hs
              simp only [Option.getD_some] at hs
              subst hs
              cases want <;> rfl

/-- What an operation does: it yields 'v'. -/
def Yv (P : Program) (e : Env) (op : Op) (ty : TypeId) (w : World) (v : Value) (w' : World) : Prop :=
  ∀ ρ, Agree e ρ → ∀ d pos aft g, (execOp ρ ⟨d, op, ty, pos, aft, g⟩).run P w = .ok (.value v) w'
/-- .. or nothing. -/
def Ys (P : Program) (e : Env) (op : Op) (ty : TypeId) (w w' : World) : Prop :=
  ∀ ρ, Agree e ρ → ∀ d pos aft g, (execOp ρ ⟨d, op, ty, pos, aft, g⟩).run P w = .ok .skip w'

section
variable {P : Program} {ro : Option Nat} {n : Nat} {l0 rest : List Oper} {N : Nor} {Z : Pan} {e : Env} {w w' : World} {op : Op} {ty : TypeId} {pos : String} {aft : Array Edge} {g : Option (Nat × Bool)}

theorem WL.le {l : List Oper} (h : n ≤ 1000000000 → WL P ro n l0 N Z l e w) : WL P ro n l0 N Z l e w := fun a ha => h ha.le a ha
theorem opv_head {n d : Nat} {e : Env} {v : Value} (hd : Nat.blt d n = true) (hle : n ≤ 1000000000) : opv ((d, v) :: e) (.tmp d) = some v := by
  have h1 : d < n := by simpa [Nat.blt_eq] using hd
  have h2 : Nat.beq d 1000000000 = false := by
    cases hb : Nat.beq d 1000000000 with
    | false => rfl
    | true => have := Nat.eq_of_beq_eq_true hb; omega
  simp only [opv, look, Nat.beq_refl, h2]
theorem WL.nil (h : N e w) : WL P ro n l0 N Z [] e w := fun a ha => wpListIn_nil ⟨e, ha, h⟩
theorem WL.sub {l : List Oper} {e' : Env} (hs : Sub e' e) (h : WL P ro n l0 N Z l e' w) : WL P ro n l0 N Z l e w := fun a ha => h a (ha.sub hs)

theorem WL.val {d : Nat} {c : Bool} {v : Value} (hg : grd l0 e g = some c) (hc : c = true) (hd : Nat.blt d n = true) (hy : Yv P e op ty w v w')
    (h : WL P ro n l0 N Z rest ((d, v) :: e) w') : WL P ro n l0 N Z (⟨some d, op, ty, pos, aft, g⟩ :: rest) e w := by
  intro a ha
  unfold wpListIn
  rw [if_pos (by rw [grd_wanted ha (o := ⟨some d, op, ty, pos, aft, g⟩) hg]; exact hc)]
  refine ⟨fun f _ => fen_fn ro f, ?_⟩
  rw [semAt_ok (hy a.eval ha.agree _ _ _ _) (fun d h => by cases h)]
  exact h _ (ha.put hd)

theorem WL.skip {c : Bool} (hg : grd l0 e g = some c) (hc : c = true) (hy : Ys P e op ty w w')
    (h : WL P ro n l0 N Z rest e w') : WL P ro n l0 N Z (⟨none, op, ty, pos, aft, g⟩ :: rest) e w := by
  intro a ha
  unfold wpListIn
  rw [if_pos (by rw [grd_wanted ha (o := ⟨none, op, ty, pos, aft, g⟩) hg]; exact hc)]
  refine ⟨fun f _ => fen_fn ro f, ?_⟩
  rw [semAt_ok (hy a.eval ha.agree _ _ _ _) (fun d h => by cases h)]
  exact h _ ha.put_none

/-- An operation whose guard says no. -/
theorem WL.off {d : Nat} {c : Bool} (hg : grd l0 e g = some c) (hc : c = false) (hd : Nat.blt d n = true)
    (h : WL P ro n l0 N Z rest ((d, undef) :: e) w) : WL P ro n l0 N Z (⟨some d, op, ty, pos, aft, g⟩ :: rest) e w := by
  intro a ha
  unfold wpListIn
  rw [if_neg (by rw [grd_wanted ha (o := ⟨some d, op, ty, pos, aft, g⟩) hg, hc]; decide)]
  exact ⟨fun f _ => fen_fn ro f, h _ (ha.put hd)⟩
theorem WL.off0 {c : Bool} (hg : grd l0 e g = some c) (hc : c = false)
    (h : WL P ro n l0 N Z rest e w) : WL P ro n l0 N Z (⟨none, op, ty, pos, aft, g⟩ :: rest) e w := by
  intro a ha
  unfold wpListIn
  rw [if_neg (by rw [grd_wanted ha (o := ⟨none, op, ty, pos, aft, g⟩) hg, hc]; decide)]
  exact ⟨fun f _ => fen_fn ro f, h _ ha.put_none⟩

theorem WL.known {d : Nat} {v : Value} {l : List Oper} (hd : look e d = some v) (h : WL P ro n l0 N Z l ((d, v) :: e) w) : WL P ro n l0 N Z l e w := fun a ha =>
  h a (ha.known hd)
theorem WC.known {d : Nat} {v : Value} {c : Code} {R : Nor} {X : Ext} (hd : look e d = some v) (h : WC P ro n c N R X Z ((d, v) :: e) w) : WC P ro n c N R X Z e w := fun a ha =>
  h a (ha.known hd)
/-- A slot that holds a truth value: both cases. -/
theorem WL.split (d : Nat) {b : Bool} {l : List Oper} (hd : look e d = some (.bool b)) (ht : b = true → WL P ro n l0 N Z l ((d, .bool true) :: e) w)
    (hf : b = false → WL P ro n l0 N Z l ((d, .bool false) :: e) w) : WL P ro n l0 N Z l e w := by
  cases b with
  | true => exact (ht rfl).known hd
  | false => exact (hf rfl).known hd
end
end Go.W
