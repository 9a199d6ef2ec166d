/- Maps from strings to ints; the walk of a step of the automaton. -/
import Derived.Test.YtoghnhbjdnjghaaGreatV17
namespace Go.W
open Go.RowKit
/-- The place of a string in a list, counted from i. -/
def fnd : List Str → Str → Nat → Option Nat
  | [], _, _ => none
  | p :: P, s, i => if s = p then some i else fnd P s (i + 1)
/-- A map from the strings of a list to their places. -/
def MEL : List MapEntry → List Str → Nat → Prop
  | [], [], _ => True
  | e :: es, p :: P, i => e.key = st p ∧ e.val = .int .i64 (i : Nat) ∧ MEL es P (i + 1)
  | _, _, _ => False
theorem MEL.snoc : ∀ {es : List MapEntry} {P : List Str} {i : Nat} (_ : MEL es P i) (s : Str) (b : Nat), MEL (es ++ [{ key := st s, val := .int .i64 ((i + P.length : Nat) : Int), born := b }]) (P ++ [s]) i := by
  intro es
  induction es with
  | nil =>
    intro P i h s b
    cases P with
    | nil => exact ⟨rfl, rfl, trivial⟩
    | cons p P => exact h.elim
  | cons e es ih =>
    intro P i h s b
    cases P with
    | nil => exact h.elim
    | cons p P =>
      refine ⟨h.1, h.2.1, ?_⟩
      have := ih h.2.2 s b
      rw [show i + 1 + P.length = i + (p :: P).length by rw [List.length_cons]; omega] at this
      exact this
theorem findNow_st (s : Str) : ∀ (es : List MapEntry) (P : List Str) (i : Nat), MEL es P i → Instr.findNow .string (st s) es i = some ((fnd P s i).map fun q => (q, .int .i64 (q : Nat))) := by
  intro es
  induction es with
  | nil =>
    intro P i h
    cases P with
    | nil => rfl
    | cons p P => exact h.elim
  | cons e es ih =>
    intro P i h
    cases P with
    | nil => exact h.elim
    | cons p P =>
      have e1 : Instr.sameNow .string (st s) e.key = some (decide (s = p)) := by
        rw [h.1, st, st, Instr.sameNow, sb_beq]
      rw [Instr.findNow, e1, fnd]
      by_cases hp : s = p
      · rw [decide_eq_true hp, if_pos hp]
        simp only [h.2.1, Option.map_some]
      · rw [decide_eq_false hp, if_neg hp]
        exact ih P (i + 1) h.2.2
section
variable {P : Program} [T : TT P] {ro : Option Nat} {n : Nat} {l0 rest : List Oper} {N : Nor} {Z : Pan} {e : Env} {w : World} {ty : TypeId} {pos : String} {aft : Array Edge} {g : Option (Nat × Bool)}
theorem findK_st {kt : TypeId} {z2 : Value} {s2 b2 : Nat} (hk : T.ti kt = some ⟨.string, z2, s2, b2⟩) (s : Str) {es : Array MapEntry} {L : List Str} (h : MEL es.toList L 0) :
    (Instr.findKey kt (st s) es.toList).run P w = .ok ((fnd L s 0).map fun q => (q, .int .i64 (q : Nat))) w := by
  have hu : P.underlying kt = some .string := (T.ok kt _ hk).k
  simp [Instr.findKey, run_underlying hu, findNow_st s es.toList L 0 h]
theorem check_st {kt : TypeId} {z2 : Value} {s2 b2 : Nat} (hk : T.ti kt = some ⟨.string, z2, s2, b2⟩) (b : Bool) (m : Nat) (s : Str) : (Instr.checkKey b (m + 1) kt (st s)).run P w = .ok () w := by
  have hu : P.underlying kt = some .string := (T.ok kt _ hk).k
  simp [Instr.checkKey, run_underlying hu, st]
/-- What a lookup of a string gives. -/
def lkV (o : Option Nat) : Value := match o with
  | some q => .tuple #[.int .i64 (q : Nat), .bool true]
  | none => .tuple #[.int .i64 0, .bool false]
theorem WL.lookS {d b : Nat} {t kt vt : TypeId} {z z2 z3 : Value} {s0 b0 s2 b2 s3 b3 c : Nat} {x ix : Operand} {es : Array MapEntry} {L : List Str} {s : Str}
    (hg : grd l0 e g = some true) (hd : Nat.blt d n = true) (ht : T.ti t = some ⟨.map kt vt, z, s0, b0⟩) (hk : T.ti kt = some ⟨.string, z2, s2, b2⟩) (hv : T.ti vt = some ⟨.int .i64, z3, s3, b3⟩) (hz : z3 = .int .i64 0)
    (hx : opv e x = some (.map (some b))) (hix : opv e ix = some (st s)) (hb : w.heap[b]? = some (.map es c)) (h : MEL es.toList L 0)
    (hn : WL P ro n l0 N Z rest ((d, lkV (fnd L s 0)) :: e) w) : WL P ro n l0 N Z (⟨some d, .lookup t x ix true, ty, pos, aft, g⟩ :: rest) e w := by
  have hu : P.underlying t = some (.map kt vt) := (T.ok t _ ht).k
  have hzv := (T.ok vt _ hv).zeroValue w
  have hobj : (getObj b).run P w = .ok (.map es c) w := by simp [getObj, Sem.run, hb]
  have hc := check_st (P := P) (w := w) hk es.isEmpty 9999 s
  have hf := findK_st (P := P) (w := w) hk s h
  refine WL.val hg rfl hd ?_ hn
  intro ρ hρ d' pos' aft' g'
  subst hz
  cases hq : fnd L s 0 with
  | none =>
    rw [hq] at hf
    simp [execOp, hρ _ _ hx, hρ _ _ hix, Instr.lookup, run_underlying hu, hobj, hc, hf, hzv, lkV]
  | some q =>
    rw [hq] at hf
    simp [execOp, hρ _ _ hx, hρ _ _ hix, Instr.lookup, run_underlying hu, hobj, hc, hf, lkV]
theorem run_insS {t kt vt : TypeId} {z z2 : Value} {s0 b0 s2 b2 c b : Nat} {es : Array MapEntry} {L : List Str} {s : Str} (ht : T.ti t = some ⟨.map kt vt, z, s0, b0⟩) (hk : T.ti kt = some ⟨.string, z2, s2, b2⟩)
    (hb : w.heap[b]? = some (.map es c)) (h : MEL es.toList L 0) (hno : fnd L s 0 = none) :
    (Instr.mapUpdate t (.map (some b)) (st s) (.int .i64 (L.length : Nat))).run P w = .ok () (w.putObj b (.map (es.push { key := st s, val := .int .i64 (L.length : Nat), born := c }) (c + 1))) := by
  have hu : P.underlying t = some (.map kt vt) := (T.ok t _ ht).k
  have hobj : (getObj b).run P w = .ok (.map es c) w := by simp [getObj, Sem.run, hb]
  have hset : ∀ o, (setObj b o).run P w = .ok () (w.putObj b o) := fun o => by simp [setObj, Sem.run, hb, World.putObj]
  have hc := check_st (P := P) (w := w) hk false 9999 s
  have hf := findK_st (P := P) (w := w) hk s h
  rw [hno] at hf
  simp [Instr.mapUpdate, run_underlying hu, hobj, hc, hf, hset]
theorem MEL.push {es : Array MapEntry} {L : List Str} (h : MEL es.toList L 0) (s : Str) (c : Nat) : MEL (es.push { key := st s, val := .int .i64 (L.length : Nat), born := c }).toList (L ++ [s]) 0 := by
  have := h.snoc s c
  rw [Nat.zero_add] at this
  rw [Array.toList_push]
  exact this
theorem WL.upS {t kt vt : TypeId} {z z2 : Value} {s0 b0 s2 b2 c b : Nat} {m k x : Operand} {es : Array MapEntry} {L : List Str} {s : Str} (hg : grd l0 e g = some true) (ht : T.ti t = some ⟨.map kt vt, z, s0, b0⟩) (hk : T.ti kt = some ⟨.string, z2, s2, b2⟩)
    (hm : opv e m = some (.map (some b))) (hkk : opv e k = some (st s)) (hx : opv e x = some (.int .i64 (L.length : Nat))) (hb : w.heap[b]? = some (.map es c)) (h : MEL es.toList L 0) (hno : fnd L s 0 = none)
    (hn : ∀ es' c' w', MEL es'.toList (L ++ [s]) 0 → SetB w b (.map es' c') w' → WL P ro n l0 N Z rest e w') : WL P ro n l0 N Z (⟨none, .mapUpdate t m k x, ty, pos, aft, g⟩ :: rest) e w := by
  refine WL.skip hg rfl ?_ (hn _ (c + 1) _ (h.push s c) (setB_put hb))
  intro ρ hρ d' pos' aft' g'
  simp [execOp, hρ _ _ hm, hρ _ _ hkk, hρ _ _ hx, run_insS ht hk hb h hno]
theorem WL.insS {t kt vt : TypeId} {z z2 : Value} {s0 b0 s2 b2 c b : Nat} {m k x : Operand} {es : Array MapEntry} {L : List Str} {s : Str} (hg : grd l0 e g = some true) (ht : T.ti t = some ⟨.map kt vt, z, s0, b0⟩) (hk : T.ti kt = some ⟨.string, z2, s2, b2⟩)
    (hm : opv e m = some (.map (some b))) (hkk : opv e k = some (st s)) (hx : opv e x = some (.int .i64 (L.length : Nat))) (hb : w.heap[b]? = some (.map es c)) (h : MEL es.toList L 0) (hno : fnd L s 0 = none)
    (hn : ∀ es' c' w', MEL es'.toList (L ++ [s]) 0 → SetB w b (.map es' c') w' → WL P ro n l0 N Z rest e w') : WL P ro n l0 N Z (⟨none, .insert t m k x, ty, pos, aft, g⟩ :: rest) e w := by
  refine WL.skip hg rfl ?_ (hn _ (c + 1) _ (h.push s c) (setB_put hb))
  intro ρ hρ d' pos' aft' g'
  simp [execOp, hρ _ _ hm, hρ _ _ hkk, hρ _ _ hx, run_insS ht hk hb h hno]
end
end Go.W
namespace Go.Words
open Go.W
def cntB (l : List Rl) (k : Int) : Bool := sysB l && decide (1 ≤ k) && decide (k ≤ 8)
/-- The longest end of a string that is in a list. -/
def stepS (L : List Str) : Str → Nat
  | [] => (fnd L [] 0).getD 0
  | c :: s => match fnd L (c :: s) 0 with
    | some q => q
    | none => stepS L s
def stepM (l : List Rl) (L : List Str) (s : Str) : Int := if (l.any fun r => r.1.isSuffixOf s) then -1 else (stepS L s : Nat)
theorem stepS_hit {L : List Str} {s : Str} {q : Nat} (h : fnd L s 0 = some q) : stepS L s = q := by
  cases s with
  | nil => rw [stepS, h]; rfl
  | cons c s => rw [stepS, h]
theorem stepS_miss {L : List Str} {s : Str} (h : fnd L s 0 = none) (h0 : s ≠ []) : stepS L s = stepS L (s.drop 1) := by
  cases s with
  | nil => exact absurd rfl h0
  | cons c s => rw [stepS, h]; rfl
end Go.Words
namespace Go.Proofs.YtoghnhbjdnjghaaGreat
open Go.W Go.Words Go.RowKit
set_option maxRecDepth 100000
attribute [local irreducible] WC WL WQ WS WH

theorem isCounted_any (a : Option Addr) (cap : Nat) (l : List Rl) (k : Int) (hm : Sm 9223372036854775807 l) (w : World) (hs : Sl w a (rcs l)) :
    Ret Tryz.prog 53 [.slice a l.length cap, .int .i64 k] w fun u w' => u = .bool (cntB l k) ∧ Hp w w' [] := by
  refine enter Tryz.func53 rfl rfl ⟨rfl, rfl⟩ rfl ?_
  repeat (first | refine WC.seq ?_ | refine WC.reg ?_ | refine WL.pure rfl rfl rfl ?_ | refine WL.nil ?_ | refine WC.skip ?_ | refine WC.block ?_ | refine WC.condT rfl ?_ | refine WC.condF rfl ?_ | refine WL.off rfl rfl rfl ?_ | refine WL.off0 rfl rfl ?_ | refine WC.exit ?_ | refine blk_hit ?_ | refine blk_miss rfl ?_ | refine WC.ret ?_)
  refine WL.call rfl rfl rfl rfl rfl ent33 (isSystem_any a cap l hm w hs) ?_
  rintro _ w1 ⟨rfl, hp1⟩
  unfold cntB
  repeat (first | refine WC.seq ?_ | refine WC.reg ?_ | refine WL.pure rfl rfl rfl ?_ | refine WL.nil ?_ | refine WC.skip ?_ | refine WC.block ?_ | refine WC.condT rfl ?_ | refine WC.condF rfl ?_ | refine WL.off rfl rfl rfl ?_ | refine WL.off0 rfl rfl ?_ | refine WC.exit ?_ | refine blk_hit ?_ | refine blk_miss rfl ?_ | refine WC.ret ?_)
  refine WL.split 7 rfl (fun h1 => ?_) (fun h1 => ?_)
  · rw [h1, Bool.true_and]
    repeat (first | refine WC.seq ?_ | refine WC.reg ?_ | refine WL.pure rfl rfl rfl ?_ | refine WL.nil ?_ | refine WC.skip ?_ | refine WC.block ?_ | refine WC.condT rfl ?_ | refine WC.condF rfl ?_ | refine WL.off rfl rfl rfl ?_ | refine WL.off0 rfl rfl ?_ | refine WC.exit ?_ | refine blk_hit ?_ | refine blk_miss rfl ?_ | refine WC.ret ?_)
    refine WL.split 11 rfl (fun h2 => ?_) (fun h2 => ?_)
    · have h2 : 1 ≤ k := of_decide_eq_true h2
      rw [decide_eq_true h2, Bool.true_and]
      repeat (first | refine WC.seq ?_ | refine WC.reg ?_ | refine WL.pure rfl rfl rfl ?_ | refine WL.nil ?_ | refine WC.skip ?_ | refine WC.block ?_ | refine WC.condT rfl ?_ | refine WC.condF rfl ?_ | refine WL.off rfl rfl rfl ?_ | refine WL.off0 rfl rfl ?_ | refine WC.exit ?_ | refine blk_hit ?_ | refine blk_miss rfl ?_ | refine WC.ret ?_)
      exact Res.one rfl rfl rfl ⟨rfl, hp1⟩
    · have h2 : ¬ 1 ≤ k := of_decide_eq_false h2
      rw [decide_eq_false h2, Bool.false_and]
      repeat (first | refine WC.seq ?_ | refine WC.reg ?_ | refine WL.pure rfl rfl rfl ?_ | refine WL.nil ?_ | refine WC.skip ?_ | refine WC.block ?_ | refine WC.condT rfl ?_ | refine WC.condF rfl ?_ | refine WL.off rfl rfl rfl ?_ | refine WL.off0 rfl rfl ?_ | refine WC.exit ?_ | refine blk_hit ?_ | refine blk_miss rfl ?_ | refine WC.ret ?_)
      exact Res.one rfl rfl rfl ⟨rfl, hp1⟩
  · rw [h1, Bool.false_and, Bool.false_and]
    repeat (first | refine WC.seq ?_ | refine WC.reg ?_ | refine WL.pure rfl rfl rfl ?_ | refine WL.nil ?_ | refine WC.skip ?_ | refine WC.block ?_ | refine WC.condT rfl ?_ | refine WC.condF rfl ?_ | refine WL.off rfl rfl rfl ?_ | refine WL.off0 rfl rfl ?_ | refine WC.exit ?_ | refine blk_hit ?_ | refine blk_miss rfl ?_ | refine WC.ret ?_)
    exact Res.one rfl rfl rfl ⟨rfl, hp1⟩
/-- A string in a box. -/
abbrev Bs (b : Nat) (s : Str) : Ent := .blk b (.cells #[st s] 9 (0, 0))
theorem stepC_any (b : Nat) (s : Str) (hsl : s.length ≤ 1000000) (r : Rl) (w : World) (hb : w.cell? ⟨b, 0, none⟩ = some (st s)) :
    Ret Tryz.prog 98 [.agg #[st r.1, st r.2], .pointer (some ⟨b, 0, none⟩)] w fun u w' => u = .bool (r.1.isSuffixOf s) ∧ Hp w w' [] := by
  refine enter Tryz.func98 rfl rfl ⟨rfl, rfl⟩ rfl ?_
  repeat (first | refine WC.seq ?_ | refine WC.reg ?_ | refine WL.pure rfl rfl rfl ?_ | refine WL.nil ?_ | refine WC.skip ?_ | refine WC.block ?_ | refine WC.condT rfl ?_ | refine WC.condF rfl ?_ | refine WL.off rfl rfl rfl ?_ | refine WL.off0 rfl rfl ?_ | refine WC.exit ?_ | refine blk_hit ?_ | refine blk_miss rfl ?_ | refine WC.ret ?_)
  refine WL.box rfl rfl rfl ?_
  intro b2 w1 hb2
  have hp1 : Hp w w1 [Bx b2 r] := (Hp.start w).new hb2
  repeat (first | refine WC.seq ?_ | refine WC.reg ?_ | refine WL.pure rfl rfl rfl ?_ | refine WL.nil ?_ | refine WC.skip ?_ | refine WC.block ?_ | refine WC.condT rfl ?_ | refine WC.condF rfl ?_ | refine WL.off rfl rfl rfl ?_ | refine WL.off0 rfl rfl ?_ | refine WC.exit ?_ | refine blk_hit ?_ | refine blk_miss rfl ?_ | refine WC.ret ?_)
  refine WL.load rfl rfl rfl rfl rfl (cell_below hp1.below hb) ?_
  repeat (first | refine WC.seq ?_ | refine WC.reg ?_ | refine WL.pure rfl rfl rfl ?_ | refine WL.nil ?_ | refine WC.skip ?_ | refine WC.block ?_ | refine WC.condT rfl ?_ | refine WC.condF rfl ?_ | refine WL.off rfl rfl rfl ?_ | refine WL.off0 rfl rfl ?_ | refine WC.exit ?_ | refine blk_hit ?_ | refine blk_miss rfl ?_ | refine WC.ret ?_)
  refine WL.loadB rfl rfl rfl rfl rfl (hp1.obj 0 rfl) (j := 0) rfl ?_
  refine WL.callP rfl rfl rfl rfl rfl ent91 (HasSuffix_any s r.1 (by omega) w1) ?_
  repeat (first | refine WC.seq ?_ | refine WC.reg ?_ | refine WL.pure rfl rfl rfl ?_ | refine WL.nil ?_ | refine WC.skip ?_ | refine WC.block ?_ | refine WC.condT rfl ?_ | refine WC.condF rfl ?_ | refine WL.off rfl rfl rfl ?_ | refine WL.off0 rfl rfl ?_ | refine WC.exit ?_ | refine blk_hit ?_ | refine blk_miss rfl ?_ | refine WC.ret ?_)
  exact Res.one rfl rfl rfl ⟨rfl, hp1.nil'⟩
theorem step_any (a : Option Addr) (cap : Nat) (l : List Rl) (mb : Nat) (es : Array MapEntry) (c : Nat) (L : List Str) (s : Str) (hl : l.length ≤ 1000000) (hsl : s.length ≤ 1000000) (hL : (fnd L [] 0).isSome = true) (w : World) (hs : Sl w a (rcs l)) (hb : w.heap[mb]? = some (.map es c)) (hM : MEL es.toList L 0) :
    Ret Tryz.prog 80 [.slice a l.length cap, .map (some mb), st s] w fun u w' => u = .int .i64 (stepM l L s) ∧ Hp w w' [] := by
  refine enter Tryz.func80 rfl rfl ⟨rfl, rfl⟩ rfl ?_
  repeat (first | refine WC.seq ?_ | refine WC.reg ?_ | refine WL.pure rfl rfl rfl ?_ | refine WL.nil ?_ | refine WC.skip ?_ | refine WC.block ?_ | refine WC.condT rfl ?_ | refine WC.condF rfl ?_ | refine WL.off rfl rfl rfl ?_ | refine WL.off0 rfl rfl ?_ | refine WC.exit ?_ | refine blk_hit ?_ | refine blk_miss rfl ?_ | refine WC.ret ?_)
  refine WL.box rfl rfl rfl ?_
  intro b5 w1 hb5
  have hp1 : Hp w w1 [Bs b5 s] := (Hp.start w).new hb5
  have hcell : w1.cell? ⟨b5, 0, none⟩ = some (st s) := cell_of_obj (j := 0) (hp1.obj 0 rfl) rfl
  repeat (first | refine WC.seq ?_ | refine WC.reg ?_ | refine WL.pure rfl rfl rfl ?_ | refine WL.nil ?_ | refine WC.skip ?_ | refine WC.block ?_ | refine WC.condT rfl ?_ | refine WC.condF rfl ?_ | refine WL.off rfl rfl rfl ?_ | refine WL.off0 rfl rfl ?_ | refine WC.exit ?_ | refine blk_hit ?_ | refine blk_miss rfl ?_ | refine WC.ret ?_)
  refine WL.call rfl rfl rfl rfl rfl ent59 (ContainsRules_any a cap l 98 #[.pointer (some ⟨b5, 0, none⟩)] (fun r => r.1.isSuffixOf s) ent98 hl w1 (hs.hp hp1) (fun r hr w' hw' => stepC_any b5 s hsl r w' (cell_below hw'.below hcell))) ?_
  rintro _ w2 ⟨rfl, hp2⟩
  have hp2 := hp1.comb hp2
  unfold stepM
  repeat (first | refine WC.seq ?_ | refine WC.reg ?_ | refine WL.pure rfl rfl rfl ?_ | refine WL.nil ?_ | refine WC.skip ?_ | refine WC.block ?_ | refine WC.condT rfl ?_ | refine WC.condF rfl ?_ | refine WL.off rfl rfl rfl ?_ | refine WL.off0 rfl rfl ?_ | refine WC.exit ?_ | refine blk_hit ?_ | refine blk_miss rfl ?_ | refine WC.ret ?_)
  refine WC.cond rfl (fun h1 => ?_) (fun h1 => ?_)
  · rw [if_pos h1]
    repeat (first | refine WC.seq ?_ | refine WC.reg ?_ | refine WL.pure rfl rfl rfl ?_ | refine WL.nil ?_ | refine WC.skip ?_ | refine WC.block ?_ | refine WC.condT rfl ?_ | refine WC.condF rfl ?_ | refine WL.off rfl rfl rfl ?_ | refine WL.off0 rfl rfl ?_ | refine WC.exit ?_ | refine blk_hit ?_ | refine blk_miss rfl ?_ | refine WC.ret ?_)
    exact Res.one rfl rfl rfl ⟨rfl, hp2.nil'⟩
  · rw [if_neg (by rw [h1]; decide)]
    have hlt : mb < w.heap.size := (Array.getElem?_eq_some_iff.1 hb).1
    repeat (first | refine WC.seq ?_ | refine WC.reg ?_ | refine WL.pure rfl rfl rfl ?_ | refine WL.nil ?_ | refine WC.skip ?_ | refine WC.block ?_ | refine WC.condT rfl ?_ | refine WC.condF rfl ?_ | refine WL.off rfl rfl rfl ?_ | refine WL.off0 rfl rfl ?_ | refine WC.exit ?_ | refine blk_hit ?_ | refine blk_miss rfl ?_ | refine WC.ret ?_)
    refine WC.loop Str (fun _ => [(1, .map (some mb)), (5, .pointer (some ⟨b5, 0, none⟩))])
      (fun s' w' => stepS L s = stepS L s' ∧ s'.length ≤ s.length ∧ Hp w w' [Bs b5 s']) (fun s' => s'.length) s ⟨rfl, rfl, rfl⟩ ⟨rfl, Nat.le_refl _, hp2⟩ ?_
    clear hp2 hp1 hcell hb5
    rintro s' w3 ⟨hS, hle, hp3⟩
    have hb3 : w3.heap[mb]? = some (.map es c) := by rw [← hb]; exact hp3.below.block mb hlt
    repeat (first | refine WC.seq ?_ | refine WC.reg ?_ | refine WL.pure rfl rfl rfl ?_ | refine WL.nil ?_ | refine WC.skip ?_ | refine WC.block ?_ | refine WC.condT rfl ?_ | refine WC.condF rfl ?_ | refine WL.off rfl rfl rfl ?_ | refine WL.off0 rfl rfl ?_ | refine WC.exit ?_ | refine blk_hit ?_ | refine blk_miss rfl ?_ | refine WC.ret ?_)
    refine WL.loadB rfl rfl rfl rfl rfl (hp3.obj 0 rfl) (j := 0) rfl ?_
    refine WL.lookS rfl rfl rfl rfl rfl rfl rfl rfl hb3 hM ?_
    cases hf : fnd L s' 0 with
    | some q =>
      repeat (first | refine WC.seq ?_ | refine WC.reg ?_ | refine WL.pure rfl rfl rfl ?_ | refine WL.nil ?_ | refine WC.skip ?_ | refine WC.block ?_ | refine WC.condT rfl ?_ | refine WC.condF rfl ?_ | refine WL.off rfl rfl rfl ?_ | refine WL.off0 rfl rfl ?_ | refine WC.exit ?_ | refine blk_hit ?_ | refine blk_miss rfl ?_ | refine WC.ret ?_)
      exact Res.one rfl rfl rfl ⟨by rw [hS, stepS_hit hf], hp3.nil'⟩
    | none =>
      have h0 : s' ≠ [] := fun h => by rw [h] at hf; rw [hf] at hL; cases hL
      have hlen : 0 < s'.length := List.length_pos_iff.2 h0
      repeat (first | refine WC.seq ?_ | refine WC.reg ?_ | refine WL.pure rfl rfl rfl ?_ | refine WL.nil ?_ | refine WC.skip ?_ | refine WC.block ?_ | refine WC.condT rfl ?_ | refine WC.condF rfl ?_ | refine WL.off rfl rfl rfl ?_ | refine WL.off0 rfl rfl ?_ | refine WC.exit ?_ | refine blk_hit ?_ | refine blk_miss rfl ?_ | refine WC.ret ?_)
      refine WL.loadB rfl rfl rfl rfl rfl (hp3.obj 0 rfl) (j := 0) rfl ?_
      refine WL.sSl (a := 1) (b := s'.length) rfl rfl rfl rfl rfl rfl (by omega) (Nat.le_refl _) ?_
      refine WL.store rfl rfl rfl rfl rfl rfl (hp3.obj 0 rfl) (by show 0 < 1; omega) (fun w4 hw4 => ?_)
      have e1 : (s'.drop 1).take (s'.length - 1) = s'.drop 1 := List.take_of_length_le (by rw [List.length_drop]; omega)
      rw [e1] at hw4
      have hp4 : Hp w w4 [Bs b5 (s'.drop 1)] := hp3.set 0 rfl rfl hw4
      repeat (first | refine WC.seq ?_ | refine WC.reg ?_ | refine WL.pure rfl rfl rfl ?_ | refine WL.nil ?_ | refine WC.skip ?_ | refine WC.block ?_ | refine WC.condT rfl ?_ | refine WC.condF rfl ?_ | refine WL.off rfl rfl rfl ?_ | refine WL.off0 rfl rfl ?_ | refine WC.exit ?_ | refine blk_hit ?_ | refine blk_miss rfl ?_ | refine WC.ret ?_)
      exact ⟨s'.drop 1, by rw [List.length_drop]; omega, ⟨rfl, rfl, rfl⟩, by rw [hS, stepS_miss hf h0], by rw [List.length_drop]; omega, hp4⟩
end Go.Proofs.YtoghnhbjdnjghaaGreat
