/- W, seventh part: regions whose operations change the world in open order. -/
import Derived.Test.YtdnkkflpgebfbaaDoorW5
import Derived.OrdersHeld
set_option linter.unusedVariables false
set_option linter.unusedSectionVars false
namespace Go.W
open Go.RowKit

section
variable {P : Program} {ops : Array Oper} {Q : Exit → Act → World → Prop} {md : Region.Mode} {S : World → Prop}

theorem yieldsIf_wpOpIn {i : Nat} {o : Oper} {v : Value} {a : Act} (hi : ops[i]? = some o) (hy : YieldsIf P ops S o v a)
    {K : Act → World → Prop} {w : World} (hS : S w) (h : K (a.put o.dst v) w) : wpOpIn Fence.wide 0 P ops Q i K a w := by
  unfold wpOpIn
  simp only [hi]
  rcases hy with ⟨hw, hv⟩ | ⟨hw, rfl⟩
  · simp only [hw, if_true, Oper.wpIn, Fence.wide_round, Oper.semAt_none, hv w hS, Oper.uponIn]
    exact ⟨fun f _ => fen_fn none f, h⟩
  · simp only [hw, Bool.false_eq_true, if_false]
    exact ⟨fun f _ => fen_fn none f, h⟩

theorem wpOpIn_putIf {j : Nat} {oi oj : Oper} {v : Value} (hj : ops[j]? = some oj) (hap : oi.apart ops oj = true)
    (hsi : ∀ cs b, oi.op ≠ .select cs b) (hsj : ∀ cs b, oj.op ≠ .select cs b)
    (hQ : ∀ c a w, Q (.panic c) (a.put oi.dst v) w → Q (.panic c) a w) {K : Act → World → Prop} {a : Act} {w : World}
    (hy : YieldsIf P ops S oi v a) (h : wpOpIn Fence.wide 0 P ops Q j K (a.put oi.dst v) w) :
    wpOpIn Fence.wide 0 P ops Q j (fun a' w' => YieldsIf P ops S oi v a' ∧ K (a'.put oi.dst v) w') a w := by
  obtain ⟨h1, h2, h3⟩ := Oper.apart_spec hap
  have keep : ∀ (a : Act), YieldsIf P ops S oi v a → ∀ u, YieldsIf P ops S oi v (a.put oj.dst u) := fun a hy u =>
    hy.of_same (execOp_put oi hsi a oj.dst u h3) (wanted_put oi a oj.dst u h3)
  have keepD : ∀ d, YieldsIf P ops S oi v { a with defers := d :: a.defers } := fun d => hy.of_same rfl rfl
  unfold wpOpIn at *
  simp only [hj] at *
  rw [wanted_put oj a oi.dst v h1] at h
  split
  · rename_i hw
    simp only [hw, if_true] at h
    unfold Oper.wpIn at *
    refine ⟨fun f _ => fen_fn none f, ?_⟩
    have h := h.2
    rw [Fence.wide_round, Oper.semAt_none, execOp_put oj hsj a oi.dst v h1] at h
    rw [Fence.wide_round, Oper.semAt_none]
    generalize (execOp a.eval oj).run P w = r at *
    cases r with
    | ok x w' =>
      cases x <;> simp only [Oper.uponIn] at h ⊢
      case value u => exact ⟨keep a hy u, by rw [← Act.put_comm a v u h2]; exact h⟩
      case skip => exact ⟨keep a hy _, by rw [← Act.put_comm a v undef h2]; exact h⟩
      case defer d =>
        refine ⟨keep _ (keepD d) _, ?_⟩
        rw [← Act.put_comm _ v undef h2, ← Act.put_defers]
        exact h
      case enter f args =>
        refine ⟨h.1, CallsIn.mono h.2 fun e w'' he => ?_⟩
        cases e with
        | returned u => exact ⟨keep a hy u, by rw [← Act.put_comm a v u h2]; exact he⟩
        | panicked c => exact hQ _ _ _ he
        | outgrown => exact he
      case row row args => exact ⟨h.1, RowsIn.mono h.2 fun u w'' he => ⟨keep a hy u, by rw [← Act.put_comm a v u h2]; exact he⟩⟩
      case round l f tmps assign body =>
        refine ⟨h.1, RoundIn.mono h.2 fun e w'' he => ?_⟩
        cases e with
        | returned u => exact ⟨keep a hy u, by rw [← Act.put_comm a v u h2]; exact he⟩
        | panicked c => exact hQ _ _ _ he
        | outgrown => exact he
    | halt x w' =>
      cases x <;> simp only [Oper.uponIn] at h ⊢
      case panic u => exact hQ _ _ _ h
  · rename_i hw
    simp only [hw] at h
    exact ⟨fun f _ => fen_fn none f, keep a hy _, by rw [← Act.put_comm a v undef h2]; exact h.2⟩

def wpAnyHI (P : Program) (md : Region.Mode) (ops : Array Oper) (Q : Exit → Act → World → Prop) (S : World → Prop) : Nat → Array Bool → Act → World → Prop
  | 0, listed, a, w => Region.ready md ops listed = [] ∧ Q .normal a w
  | fuel + 1, listed, a, w =>
    (Region.ready md ops listed = [] → Q .normal a w) ∧
    ∀ i ∈ Region.ready md ops listed, wpOpIn Fence.wide 0 P ops Q i (fun a' w' => S w' ∧ wpAnyHI P md ops Q S fuel (listed.setIfInBounds i true) a' w') a w

theorem wpAnyIn_of_heldI : ∀ (fuel : Nat) (listed : Array Bool) (a : Act) (w : World), wpAnyHI P md ops Q S fuel listed a w → wpAnyIn Fence.wide 0 P md ops Q fuel listed a w
  | 0, _, _, _, h => h
  | fuel + 1, _, _, _, h => ⟨h.1, fun i hi => wpOpIn_mono (fun a' w' h' => wpAnyIn_of_heldI fuel _ a' w' h'.2) (h.2 i hi)⟩

theorem wpAnyHI_first {i : Nat} {oi : Oper} {v : Value} (hi : ops[i]? = some oi) (hsel : ∀ (j : Nat) (o : Oper) cs b, ops[j]? = some o → o.op ≠ .select cs b)
    (hQ : ∀ c a w, Q (.panic c) (a.put oi.dst v) w → Q (.panic c) a w) :
    ∀ (fuel : Nat) (listed : Array Bool) (a : Act) (w : World),
      (∀ j oj, ops[j]? = some oj → j ≠ i → listed.getD j true = false → (∀ e ∈ oj.after, Region.binds md e = true → e.on ≠ i) → oi.apart ops oj = true) →
      i ∈ Region.ready md ops listed → YieldsIf P ops S oi v a → S w →
      wpAnyHI P md ops Q S fuel (listed.setIfInBounds i true) (a.put oi.dst v) w → wpAnyHI P md ops Q S (fuel + 1) listed a w := by
  intro fuel
  induction fuel with
  | zero =>
    intro listed a w _ hr hy hS H
    refine ⟨fun h => (by rw [h] at hr; cases hr), fun j hj => ?_⟩
    by_cases hji : j = i
    · subst hji; exact yieldsIf_wpOpIn hi hy hS ⟨hS, H⟩
    · have := ready_mono hj hji
      rw [H.1] at this
      cases this
  | succ fuel ih =>
    intro listed a w hfree hr hy hS H
    refine ⟨fun h => (by rw [h] at hr; cases hr), fun j hj => ?_⟩
    by_cases hji : j = i
    · subst hji; exact yieldsIf_wpOpIn hi hy hS ⟨hS, H⟩
    · have h1 := H.2 j (ready_mono hj hji)
      obtain ⟨hjun, oj, hoj, hall⟩ := mem_ready.1 hj
      have hnot : ∀ e ∈ oj.after, Region.binds md e = true → e.on ≠ i := fun e he hb heq => by
        have h1 := hall e he hb
        have h0 := (mem_ready.1 hr).1
        rw [heq] at h1
        rcases Nat.lt_or_ge i listed.size with h' | h'
        · simp [h'] at h0 h1; rw [h0] at h1; cases h1
        · simp [Array.getElem?_eq_none h'] at h1
      have h2 := wpOpIn_putIf hoj (hfree j oj hoj hji hjun hnot) (fun cs b => hsel i oi cs b hi) (fun cs b => hsel j oj cs b hoj) hQ hy h1
      have hfree' : ∀ k ok, ops[k]? = some ok → k ≠ i → (listed.setIfInBounds j true).getD k true = false →
          (∀ e ∈ ok.after, Region.binds md e = true → e.on ≠ i) → oi.apart ops ok = true := fun k ok hk hki hun hno => by
        refine hfree k ok hk hki ?_ hno
        by_cases hjk : j = k
        · subst hjk; exact hjun
        · rw [getD_set_ne true hjk] at hun; exact hun
      refine wpOpIn_mono (fun a' w' h3 => ⟨h3.2.1, ih (listed.setIfInBounds j true) a' w' hfree' (ready_mono hr (Ne.symm hji)) h3.1 h3.2.1 ?_⟩) h2
      rw [Array.setIfInBounds_comm _ _ hji]
      exact h3.2.2
end

/-! ### The judgement -/
def WH (P : Program) (n : Nat) (l0 : List Oper) (S : World → Prop) (N : Nor) (Z : Pan) (fuel : Nat) (listed : Array Bool) (e : Env) (w : World) : Prop :=
  ∀ a, Kn n e a → wpAnyHI P .any l0.toArray (Q1 n N Z) S fuel listed a w

def takeB (ops : Array Oper) (listed : Array Bool) (i : Nat) : Bool := Region.free .any ops listed i && (Region.ready .any ops listed).contains i

section
variable {P : Program} [T : TT P] {n : Nat} {l0 : List Oper} {S : World → Prop} {N R : Nor} {X : Ext} {Z : Pan} {e : Env} {w : World} {fuel : Nat} {listed : Array Bool}

theorem WC.regH {id : Nat} {l : List Oper} (S : World → Prop) (hm : P.follows .mixedOrders = true) (hs : Region.noSelect l.toArray = true)
    (h : ∀ w', w.grownBy w' none → w'.heap = w.heap → WH P n l S N Z l.length (Array.replicate l.length false) e w') : WC P none n (.region id l.toArray true) N R X Z e w := by
  intro a ka
  have h1 := h _ (drewB w) rfl a ka
  refine wpIn_mono (wpIn_region_any (F := Fence.wide) hm (wpAnyIn_of_heldI _ _ _ _ (by simpa using h1))) ?_
  intro ex a' w' hq
  cases ex with
  | ret => obtain ⟨_, _, hf⟩ := hq; exact hf.elim
  | exit i => obtain ⟨_, _, hf⟩ := hq; exact hf.elim
  | _ => exact hq

theorem WH.done (hr : Region.ready .any l0.toArray listed = []) (h : N e w) : WH P n l0 S N Z fuel listed e w := by
  intro a ka
  cases fuel with
  | zero => exact ⟨hr, e, ka, h⟩
  | succ f => exact ⟨fun _ => ⟨e, ka, h⟩, by rw [hr]; simp⟩

/-- An operation that yields the same in every world of S may be taken first. -/
theorem WH.take {d : Nat} {op : Op} {ty : TypeId} {pos : String} {aft : Array Edge} {g : Option (Nat × Bool)} {v : Value} (i : Nat) (hs : Region.noSelect l0.toArray = true) (hi : nth l0 i = some ⟨some d, op, ty, pos, aft, g⟩)
    (hB : takeB l0.toArray listed i = true) (hg : grd l0 e g = some true) (hd : Nat.blt d n = true) (hy : ∀ w, S w → Yv P e op ty w v w) (hS : S w)
    (h : WH P n l0 S N Z fuel (listed.setIfInBounds i true) ((d, v) :: e) w) : WH P n l0 S N Z (fuel + 1) listed e w := by
  intro a ka
  simp only [takeB, Bool.and_eq_true] at hB
  have hi' : l0.toArray[i]? = some ⟨some d, op, ty, pos, aft, g⟩ := by rw [nth_eq] at hi; simpa using hi
  refine wpAnyHI_first hi' (Region.noSelect_spec hs) (fun c a w hq => hq) fuel listed a w (Region.free_spec hi' hB.1) (by simpa using hB.2) (.inl ⟨?_, fun w hw => hy w hw a.eval ka.agree _ _ _ _⟩) hS (h _ (ka.put hd))
  rw [grd_wanted ka (o := ⟨some d, op, ty, pos, aft, g⟩) hg]
theorem WH.pure {d : Nat} {op : Op} {ty : TypeId} {pos : String} {aft : Array Edge} {g : Option (Nat × Bool)} {v : Value} (i : Nat) (hs : Region.noSelect l0.toArray = true) (hi : nth l0 i = some ⟨some d, op, ty, pos, aft, g⟩)
    (hB : takeB l0.toArray listed i = true) (hg : grd l0 e g = some true) (hv : pureV T.ti e op = some v) (hd : Nat.blt d n = true) (hS : S w)
    (h : WH P n l0 S N Z fuel (listed.setIfInBounds i true) ((d, v) :: e) w) : WH P n l0 S N Z (fuel + 1) listed e w :=
  WH.take i hs hi hB hg hd (fun w _ => pure_run hv) hS h
theorem WH.known {d : Nat} {v : Value} (hd : look e d = some v) (h : WH P n l0 S N Z fuel listed ((d, v) :: e) w) : WH P n l0 S N Z fuel listed e w := fun a ha => h a (ha.known hd)
theorem WH.load {d : Nat} {t ty : TypeId} {pos : String} {aft : Array Edge} {g : Option (Nat × Bool)} {ti : TI} {x : Operand} {p : Addr} {v : Value} (i : Nat) (hs : Region.noSelect l0.toArray = true) (hi : nth l0 i = some ⟨some d, .load t x, ty, pos, aft, g⟩)
    (hB : takeB l0.toArray listed i = true) (hg : grd l0 e g = some true) (ht : T.ti t = some ti) (h1 : isOne ti.k = true) (hx : opv e x = some (.pointer (some p))) (hd : Nat.blt d n = true) (hc : ∀ w, S w → w.cell? p = some v) (hS : S w)
    (h : WH P n l0 S N Z fuel (listed.setIfInBounds i true) ((d, v) :: e) w) : WH P n l0 S N Z (fuel + 1) listed e w :=
  WH.take i hs hi hB hg hd (fun w hw => run_load1 ht h1 hx (hc w hw)) hS h

theorem WH.at_ (i : Nat) {o : Oper} (hi : nth l0 i = some o) (h : WL P none n l0 (fun e' w' => S w' ∧ WH P n l0 S N Z fuel (listed.setIfInBounds i true) e' w') Z [o] e w) :
    ∀ a, Kn n e a → wpOpIn Fence.wide 0 P l0.toArray (Q1 n N Z) i (fun a' w' => S w' ∧ wpAnyHI P .any l0.toArray (Q1 n N Z) S fuel (listed.setIfInBounds i true) a' w') a w := by
  intro a ka
  have h1 := h a ka
  have hi' : l0.toArray[i]? = some o := by rw [nth_eq] at hi; simpa using hi
  unfold wpOpIn
  simp only [hi']
  simp only [wpListIn] at h1
  have key : ∀ a' w', Q1 n (fun e' w' => S w' ∧ WH P n l0 S N Z fuel (listed.setIfInBounds i true) e' w') Z .normal a' w' → S w' ∧ wpAnyHI P .any l0.toArray (Q1 n N Z) S fuel (listed.setIfInBounds i true) a' w' := by
    rintro a' w' ⟨e', k', hs, hw⟩
    exact ⟨hs, hw a' k'⟩
  split
  · rename_i hw
    rw [if_pos hw] at h1
    refine ⟨h1.1, ?_⟩
    have h2 := h1.2
    change o.uponIn Fence.wide 0 P a _ _ ((o.semAt Fence.wide.round a.eval).run P w) at h2
    generalize (o.semAt Fence.wide.round a.eval).run P w = r at *
    cases r with
    | ok x w' =>
      cases x <;> simp only [Oper.uponIn] at h2 ⊢
      case value u => exact key _ _ h2
      case skip => exact key _ _ h2
      case defer d => exact key _ _ h2
      case enter f args =>
        refine ⟨h2.1, CallsIn.mono h2.2 fun e w'' he => ?_⟩
        cases e with
        | returned u => exact key _ _ he
        | panicked c => exact he
        | outgrown => obtain ⟨a0, w0, h0⟩ := he; exact h0.elim
      case row row args => exact ⟨h2.1, RowsIn.mono h2.2 fun u w'' he => key _ _ he⟩
      case round l f tmps assign body =>
        refine ⟨h2.1, RoundIn.mono h2.2 fun e w'' he => ?_⟩
        cases e with
        | returned u => exact key _ _ he
        | panicked c => exact he
        | outgrown => obtain ⟨a0, w0, h0⟩ := he; exact h0.elim
    | halt x w' =>
      cases x <;> simp only [Oper.uponIn] at h2 ⊢
      case panic u => exact h2
  · rename_i hw
    rw [if_neg hw] at h1
    exact ⟨h1.1, key _ _ h1.2⟩
/-- The only operation that may come up. -/
theorem WH.one (i : Nat) {o : Oper} (hi : nth l0 i = some o) (hr : Region.ready .any l0.toArray listed = [i])
    (h : WL P none n l0 (fun e' w' => S w' ∧ WH P n l0 S N Z fuel (listed.setIfInBounds i true) e' w') Z [o] e w) : WH P n l0 S N Z (fuel + 1) listed e w := by
  intro a ka
  refine ⟨fun h0 => (by rw [hr] at h0; cases h0), fun j hj => ?_⟩
  rw [hr] at hj
  have : j = i := by simpa using hj
  subst this
  exact WH.at_ j hi h a ka
theorem WH.two (i j : Nat) {o o' : Oper} (hi : nth l0 i = some o) (hj : nth l0 j = some o') (hr : Region.ready .any l0.toArray listed = [i, j])
    (h : WL P none n l0 (fun e' w' => S w' ∧ WH P n l0 S N Z fuel (listed.setIfInBounds i true) e' w') Z [o] e w)
    (h' : WL P none n l0 (fun e' w' => S w' ∧ WH P n l0 S N Z fuel (listed.setIfInBounds j true) e' w') Z [o'] e w) : WH P n l0 S N Z (fuel + 1) listed e w := by
  intro a ka
  refine ⟨fun h0 => (by rw [hr] at h0; cases h0), fun k hk => ?_⟩
  rw [hr] at hk
  simp only [List.mem_cons, List.not_mem_nil, or_false] at hk
  rcases hk with rfl | rfl
  · exact WH.at_ k hi h a ka
  · exact WH.at_ k hj h' a ka
end
end Go.W
