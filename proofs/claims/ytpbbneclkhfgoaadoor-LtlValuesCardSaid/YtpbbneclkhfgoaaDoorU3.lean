/- ltl, third: the words that the package keeps; a list contains a string; the parser's small steps. -/
import Derived.Test.YtpbbneclkhfgoaaDoorU2
set_option linter.unusedSectionVars false
namespace Go.W
open Go.RowKit Go.Ltl
theorem row_cap {w : World} {B E s n c : Nat} {a : Option Addr} {xs : List Value} (h : w.ownsRow B E s (.slice a n c) n xs) : n ≤ c := by
  obtain ⟨_, ⟨hv, hn⟩ | ⟨_, _, _, hv, _, _, hnc, _⟩⟩ := h
  · rw [hn]; exact Nat.zero_le _
  · simp only [Value.slice.injEq] at hv; rw [hv.2.2]; exact hnc
theorem Sl.some {w : World} {a : Option Addr} {cs : List Value} {i : Nat} {u : Value} (h : Sl w a cs) (hi : cs[i]? = some u) : ∃ b o, a = some ⟨b, o, none⟩ := by
  obtain ⟨b, o, ha, _⟩ := h i u hi; exact ⟨b, o, ha⟩
/-- Entries of a map from strings to strings. -/
def SE : List MapEntry → List (Str × Str) → Prop
  | [], [] => True
  | e :: es, p :: P => e.key = st p.1 ∧ e.val = st p.2 ∧ SE es P
  | _, _ => False
def fndS (P : List (Str × Str)) (s : Str) : Option Str := (P.find? fun p => p.1 = s).map (·.2)
theorem findNow_ss (s : Str) : ∀ (es : List MapEntry) (P : List (Str × Str)) (i : Nat), SE es P → ∃ j : Option Nat, (Instr.findNow .string (st s) es i) = some (match fndS P s with
    | some v => some (j.getD 0, st v)
    | none => none) := by
  intro es
  induction es with
  | nil =>
    intro P i h
    cases P with
    | nil => exact ⟨none, rfl⟩
    | cons p P => exact h.elim
  | cons e es ih =>
    intro P i h
    cases P with
    | nil => exact h.elim
    | cons p P =>
      have e1 : Instr.sameNow .string (st s) e.key = some (decide (s = p.1)) := by
        rw [h.1, st, st, Instr.sameNow, sb_beq]
      rw [Instr.findNow, e1]
      by_cases hp : s = p.1
      · rw [decide_eq_true hp]
        refine ⟨some i, ?_⟩
        have : fndS (p :: P) s = some p.2 := by unfold fndS; rw [List.find?_cons_of_pos (by simpa using hp.symm)]; rfl
        rw [this]
        simp only [h.2.1, Option.getD_some]
      · rw [decide_eq_false hp]
        have : fndS (p :: P) s = fndS P s := by unfold fndS; rw [List.find?_cons_of_neg (by simpa using fun h => hp h.symm)]
        rw [this]
        exact ih P (i + 1) h.2.2
/-- What the package's variables hold. -/
structure Gl (w : World) : Prop where
  atoms : ∃ a c, w.cell? ⟨1, 0, none⟩ = some (.slice a 6 c) ∧ Sl w a (atomsL.map st)
  ones : ∃ a c, w.cell? ⟨2, 0, none⟩ = some (.slice a 4 c) ∧ Sl w a (onesL.map st)
  twos : ∃ a c, w.cell? ⟨3, 0, none⟩ = some (.slice a 4 c) ∧ Sl w a (twosL.map st)
  dual : ∃ mb es c P, w.cell? ⟨0, 0, none⟩ = some (.map (some mb)) ∧ mb < w.heap.size ∧ w.heap[mb]? = some (.map es c) ∧ SE es.toList P ∧ ∀ s, fndS P s = dualM s
theorem Gl.below {w w' : World} (h : Gl w) (hb : Below w.heap.size w w') : Gl w' := by
  obtain ⟨⟨a1, c1, h1, s1⟩, ⟨a2, c2, h2, s2⟩, ⟨a3, c3, h3, s3⟩, ⟨mb, es, c, P, h4, hl, h5, h6, h7⟩⟩ := h
  exact ⟨⟨a1, c1, cell_below hb h1, s1.below hb⟩, ⟨a2, c2, cell_below hb h2, s2.below hb⟩, ⟨a3, c3, cell_below hb h3, s3.below hb⟩, ⟨mb, es, c, P, cell_below hb h4, Nat.lt_of_lt_of_le hl hb.size, by rw [hb.block mb hl]; exact h5, h6, h7⟩⟩
theorem Gl.hp {w0 w : World} {L : List Ent} (h : Gl w0) (hp : Hp w0 w L) : Gl w := h.below hp.below
section
variable {P : Program} [T : TT P] {e : Env} {w : World} {ty : TypeId}
/-- What a lookup of a string in such a map gives. -/
def lkS (ok : Bool) (o : Option Str) : Value := match ok with
  | true => .tuple #[st (o.getD []), .bool o.isSome]
  | false => st (o.getD [])
theorem check_st {kt : TypeId} (hu : P.underlying kt = some .string) (b : Bool) (m : Nat) (s : Str) : (Instr.checkKey b (m + 1) kt (st s)).run P w = .ok () w := by
  simp [Instr.checkKey, run_underlying hu, st]
theorem yLkS {b c : Nat} {t kt vt : TypeId} {z z2 z3 : Value} {s0 b0 s2 b2 s3 b3 : Nat} {x ix : Operand} {es : Array MapEntry} {Q : List (Str × Str)} {s : Str} {ok : Bool} {r : Option Str}
    (ht : T.ti t = some ⟨.map kt vt, z, s0, b0⟩) (hk : T.ti kt = some ⟨.string, z2, s2, b2⟩) (hv : T.ti vt = some ⟨.string, z3, s3, b3⟩) (hz : z3 = st [])
    (hx : opv e x = some (.map (some b))) (hix : opv e ix = some (st s)) (hb : w.heap[b]? = some (.map es c)) (h : SE es.toList Q) (hr : fndS Q s = r) :
    Yv P e (.lookup t x ix ok) ty w (lkS ok r) w := by
  subst hr
  have hu : P.underlying t = some (.map kt vt) := (T.ok t _ ht).k
  have huk : P.underlying kt = some .string := (T.ok kt _ hk).k
  have hzv := (T.ok vt _ hv).zeroValue w
  have hobj : (getObj b).run P w = .ok (.map es c) w := by simp [getObj, Sem.run, hb]
  have hc := check_st (P := P) (w := w) huk es.isEmpty 9999 s
  obtain ⟨j, hj⟩ := findNow_ss s es.toList Q 0 h
  intro ρ hρ d' pos' aft' g'
  subst hz
  cases hq : fndS Q s with
  | none =>
    rw [hq] at hj
    have hf : (Instr.findKey kt (st s) es.toList).run P w = .ok none w := by simp [Instr.findKey, run_underlying huk, hj]
    cases ok <;> simp [execOp, hρ _ _ hx, hρ _ _ hix, Instr.lookup, run_underlying hu, hobj, hc, hf, hzv, lkS]
  | some v =>
    rw [hq] at hj
    have hf : (Instr.findKey kt (st s) es.toList).run P w = .ok (some (j.getD 0, st v)) w := by simp [Instr.findKey, run_underlying huk, hj]
    cases ok <;> simp [execOp, hρ _ _ hx, hρ _ _ hix, Instr.lookup, run_underlying hu, hobj, hc, hf, lkS]
end
end Go.W
namespace Go.Proofs.YtpbbneclkhfgoaaDoor
open Go.W Go.Ltl Go.RowKit
set_option maxRecDepth 100000
attribute [local irreducible] WC WL WQ WS WH

theorem index_any (a : Option Addr) (cap : Nat) (l : List Str) (s : Str) (hl : l.length ≤ 1000000) (w : World) (hs : Sl w a (l.map st)) :
    Ret Tryd.prog 105 [.slice a l.length cap, st s] w fun v w' => (∃ z : Int, v = .int .i64 z ∧ (0 ≤ z ↔ s ∈ l)) ∧ w' = w := by
  refine enter Tryd.func105 rfl rfl ⟨rfl, rfl⟩ rfl ?_
  repeat (first | refine WC.seq ?_ | refine WC.reg ?_ | refine WL.pure rfl rfl rfl ?_ | refine WL.nil ?_ | refine WC.skip ?_ | refine WC.block ?_ | refine WC.condT rfl ?_ | refine WC.condF rfl ?_ | refine WL.off rfl rfl rfl ?_ | refine WL.off0 rfl rfl ?_ | refine WC.exit ?_ | refine blk_hit ?_ | refine blk_miss rfl ?_ | refine WC.ret ?_)
  refine WC.loop Nat (fun i => [(0, .slice a l.length cap), (1, st s), (7, .int .i64 (l.length : Nat)), (8, .int .i64 (i : Nat))]) (fun i w' => i ≤ l.length ∧ s ∉ l.take i ∧ w' = w) (fun i => l.length - i) 0 ⟨rfl, rfl, rfl, rfl, rfl⟩ ⟨Nat.zero_le _, by simp, rfl⟩ ?_
  rintro i w1 ⟨hi, hno, rfl⟩
  repeat (first | refine WC.seq ?_ | refine WC.reg ?_ | refine WL.pure rfl rfl rfl ?_ | refine WL.nil ?_ | refine WC.skip ?_ | refine WC.block ?_ | refine WC.condT rfl ?_ | refine WC.condF rfl ?_ | refine WL.off rfl rfl rfl ?_ | refine WL.off0 rfl rfl ?_ | refine WC.exit ?_ | refine blk_hit ?_ | refine blk_miss rfl ?_ | refine WC.ret ?_)
  refine WC.cond rfl (fun hc => ?_) (fun hc => ?_)
  · have hi : i < l.length := by have := of_decide_eq_true hc; omega
    have step := wrap_succ (i := i) (n := i + 1) (by omega) (by omega)
    repeat (first | refine WC.seq ?_ | refine WC.reg ?_ | refine WL.pure rfl rfl rfl ?_ | refine WL.nil ?_ | refine WC.skip ?_ | refine WC.block ?_ | refine WC.condT rfl ?_ | refine WC.condF rfl ?_ | refine WL.off rfl rfl rfl ?_ | refine WL.off0 rfl rfl ?_ | refine WC.exit ?_ | refine blk_hit ?_ | refine blk_miss rfl ?_ | refine WC.ret ?_)
    refine WL.ixload rfl (fun _ => rfl) rfl rfl rfl rfl rfl rfl rfl hi rfl rfl hs (v := st l[i]) (by rw [List.getElem?_map, List.getElem?_eq_getElem hi]; rfl) ?_
    intro p
    refine WL.sCmp rfl rfl rfl rfl rfl ?_
    repeat (first | refine WC.seq ?_ | refine WC.reg ?_ | refine WL.pure rfl rfl rfl ?_ | refine WL.nil ?_ | refine WC.skip ?_ | refine WC.block ?_ | refine WC.condT rfl ?_ | refine WC.condF rfl ?_ | refine WL.off rfl rfl rfl ?_ | refine WL.off0 rfl rfl ?_ | refine WC.exit ?_ | refine blk_hit ?_ | refine blk_miss rfl ?_ | refine WC.ret ?_)
    refine WC.cond rfl (fun h1 => ?_) (fun h1 => ?_)
    · have h1 : s = l[i] := of_decide_eq_true h1
      repeat (first | refine WC.seq ?_ | refine WC.reg ?_ | refine WL.pure rfl rfl rfl ?_ | refine WL.nil ?_ | refine WC.skip ?_ | refine WC.block ?_ | refine WC.condT rfl ?_ | refine WC.condF rfl ?_ | refine WL.off rfl rfl rfl ?_ | refine WL.off0 rfl rfl ?_ | refine WC.exit ?_ | refine blk_hit ?_ | refine blk_miss rfl ?_ | refine WC.ret ?_)
      exact Res.one rfl rfl rfl ⟨⟨_, rfl, ⟨fun _ => by rw [h1]; exact List.getElem_mem hi, fun _ => by omega⟩⟩, rfl⟩
    · have h1 : ¬ s = l[i] := of_decide_eq_false h1
      repeat (first | refine WC.seq ?_ | refine WC.reg ?_ | refine WL.pure rfl rfl rfl ?_ | refine WL.nil ?_ | refine WC.skip ?_ | refine WC.block ?_ | refine WC.condT rfl ?_ | refine WC.condF rfl ?_ | refine WL.off rfl rfl rfl ?_ | refine WL.off0 rfl rfl ?_ | refine WC.exit ?_ | refine blk_hit ?_ | refine blk_miss rfl ?_ | refine WC.ret ?_)
      refine ⟨i + 1, (by show l.length - (i + 1) < l.length - i; omega), ⟨rfl, rfl, rfl, congrArg (fun z => some (Value.int .i64 z)) step, rfl⟩, by omega, ?_, rfl⟩
      rw [List.take_succ_eq_append_getElem hi, List.mem_append, List.mem_singleton]
      rintro (h | h)
      · exact hno h
      · exact h1 h
  · have hi : i = l.length := by have := of_decide_eq_false hc; omega
    repeat (first | refine WC.seq ?_ | refine WC.reg ?_ | refine WL.pure rfl rfl rfl ?_ | refine WL.nil ?_ | refine WC.skip ?_ | refine WC.block ?_ | refine WC.condT rfl ?_ | refine WC.condF rfl ?_ | refine WL.off rfl rfl rfl ?_ | refine WL.off0 rfl rfl ?_ | refine WC.exit ?_ | refine blk_hit ?_ | refine blk_miss rfl ?_ | refine WC.ret ?_)
    refine Res.one rfl rfl rfl ⟨⟨_, rfl, ⟨fun h => by omega, fun h => ?_⟩⟩, rfl⟩
    rw [hi, List.take_of_length_le (Nat.le_refl _)] at hno
    exact absurd h hno
theorem Contains_any (a : Option Addr) (cap : Nat) (l : List Str) (s : Str) (hl : l.length ≤ 1000000) (w : World) (hs : Sl w a (l.map st)) :
    Ret Tryd.prog 100 [.slice a l.length cap, st s] w fun v w' => v = .bool (decide (s ∈ l)) ∧ w' = w := by
  refine enter Tryd.func100 rfl rfl ⟨rfl, rfl⟩ rfl ?_
  repeat (first | refine WC.seq ?_ | refine WC.reg ?_ | refine WL.pure rfl rfl rfl ?_ | refine WL.nil ?_ | refine WC.skip ?_ | refine WC.block ?_ | refine WC.condT rfl ?_ | refine WC.condF rfl ?_ | refine WL.off rfl rfl rfl ?_ | refine WL.off0 rfl rfl ?_ | refine WC.exit ?_ | refine blk_hit ?_ | refine blk_miss rfl ?_ | refine WC.ret ?_)
  refine WL.call rfl rfl rfl rfl rfl ent105 (index_any a cap l s hl w hs) ?_
  rintro v w2 ⟨⟨z, rfl, hz⟩, rfl⟩
  repeat (first | refine WC.seq ?_ | refine WC.reg ?_ | refine WL.pure rfl rfl rfl ?_ | refine WL.nil ?_ | refine WC.skip ?_ | refine WC.block ?_ | refine WC.condT rfl ?_ | refine WC.condF rfl ?_ | refine WL.off rfl rfl rfl ?_ | refine WL.off0 rfl rfl ?_ | refine WC.exit ?_ | refine blk_hit ?_ | refine blk_miss rfl ?_ | refine WC.ret ?_)
  refine Res.one rfl rfl rfl ⟨?_, rfl⟩
  congr 1
  rw [decide_eq_decide]
  exact hz

/-- The parser. -/
abbrev Pb (pb : Nat) (a : Option Addr) (n c k : Nat) : Ent := .blk pb (.cells #[.slice a n c, .int .i64 (k : Nat)] 125 (0, 0))
theorem take_any {w0 w : World} {L : List Ent} {pb c k : Nat} {a : Option Addr} {l : List Str} (hp : Hp w0 w (Pb pb a l.length c k :: L)) (hs : Sl w0 a (l.map st)) (hc : l.length ≤ c) (hl : l.length ≤ 1000000) :
    RetZ Tryd.prog 98 [ptr pb] w (fun v w' => ∃ s l' a' c', l = s :: l' ∧ v = st s ∧ Sl w0 a' (l'.map st) ∧ l'.length ≤ c' ∧ Hp w0 w' (Pb pb a' l'.length c' k :: L)) (fun ch w' => ch = tr 4 ∧ l = [] ∧ Hp w0 w' (Pb pb a l.length c k :: L)) := by
  refine enterZ Tryd.func98 rfl rfl ⟨rfl, rfl⟩ rfl ?_
  repeat (first | refine WC.seq ?_ | refine WC.reg ?_ | refine WL.pure rfl rfl rfl ?_ | refine WL.nil ?_ | refine WC.skip ?_ | refine WC.block ?_ | refine WC.condT rfl ?_ | refine WC.condF rfl ?_ | refine WL.off rfl rfl rfl ?_ | refine WL.off0 rfl rfl ?_ | refine WC.exit ?_ | refine blk_hit ?_ | refine blk_miss rfl ?_ | refine WC.ret ?_)
  refine WL.nilC rfl rfl rfl ?_
  repeat (first | refine WC.seq ?_ | refine WC.reg ?_ | refine WL.pure rfl rfl rfl ?_ | refine WL.nil ?_ | refine WC.skip ?_ | refine WC.block ?_ | refine WC.condT rfl ?_ | refine WC.condF rfl ?_ | refine WL.off rfl rfl rfl ?_ | refine WL.off0 rfl rfl ?_ | refine WC.exit ?_ | refine blk_hit ?_ | refine blk_miss rfl ?_ | refine WC.ret ?_)
  refine WL.loadB rfl rfl rfl rfl rfl (hp.obj 0 rfl) (j := 0) rfl ?_
  repeat (first | refine WC.seq ?_ | refine WC.reg ?_ | refine WL.pure rfl rfl rfl ?_ | refine WL.nil ?_ | refine WC.skip ?_ | refine WC.block ?_ | refine WC.condT rfl ?_ | refine WC.condF rfl ?_ | refine WL.off rfl rfl rfl ?_ | refine WL.off0 rfl rfl ?_ | refine WC.exit ?_ | refine blk_hit ?_ | refine blk_miss rfl ?_ | refine WC.ret ?_)
  refine WC.cond rfl (fun h1 => ?_) (fun h1 => ?_)
  · have h1 : l = [] := List.eq_nil_of_length_eq_zero (by have := beq_iff_eq.1 h1; omega)
    repeat (first | refine WC.seq ?_ | refine WC.reg ?_ | refine WL.pure rfl rfl rfl ?_ | refine WL.nil ?_ | refine WC.skip ?_ | refine WC.block ?_ | refine WC.condT rfl ?_ | refine WC.condF rfl ?_ | refine WL.off rfl rfl rfl ?_ | refine WL.off0 rfl rfl ?_ | refine WC.exit ?_ | refine blk_hit ?_ | refine blk_miss rfl ?_ | refine WC.ret ?_)
    refine WL.callZ rfl rfl rfl rfl rfl ent75 rfl (fail_z 4 w (Z := fun ch w' => ch = tr 4 ∧ w' = w) ⟨rfl, rfl⟩) (fun v w' h => h.elim) ?_
    rintro ch w' ⟨rfl, rfl⟩
    exact ⟨rfl, h1, hp⟩
  · have h1 : l ≠ [] := fun h => by rw [h] at h1; cases h1
    obtain ⟨s, l', rfl⟩ := List.exists_cons_of_ne_nil h1
    repeat (first | refine WC.seq ?_ | refine WC.reg ?_ | refine WL.pure rfl rfl rfl ?_ | refine WL.nil ?_ | refine WC.skip ?_ | refine WC.block ?_ | refine WC.condT rfl ?_ | refine WC.condF rfl ?_ | refine WL.off rfl rfl rfl ?_ | refine WL.off0 rfl rfl ?_ | refine WC.exit ?_ | refine blk_hit ?_ | refine blk_miss rfl ?_ | refine WC.ret ?_)
    refine WL.nilC rfl rfl rfl ?_
    repeat (first | refine WC.seq ?_ | refine WC.reg ?_ | refine WL.pure rfl rfl rfl ?_ | refine WL.nil ?_ | refine WC.skip ?_ | refine WC.block ?_ | refine WC.condT rfl ?_ | refine WC.condF rfl ?_ | refine WL.off rfl rfl rfl ?_ | refine WL.off0 rfl rfl ?_ | refine WC.exit ?_ | refine blk_hit ?_ | refine blk_miss rfl ?_ | refine WC.ret ?_)
    refine WL.loadB rfl rfl rfl rfl rfl (hp.obj 0 rfl) (j := 0) rfl ?_
    refine WL.ixload (j := 0) rfl (fun _ => rfl) rfl rfl rfl rfl rfl rfl rfl (Nat.succ_pos _) rfl rfl (hs.hp hp) (v := st s) rfl ?_
    intro p
    repeat (first | refine WC.seq ?_ | refine WC.reg ?_ | refine WL.pure rfl rfl rfl ?_ | refine WL.nil ?_ | refine WC.skip ?_ | refine WC.block ?_ | refine WC.condT rfl ?_ | refine WC.condF rfl ?_ | refine WL.off rfl rfl rfl ?_ | refine WL.off0 rfl rfl ?_ | refine WC.exit ?_ | refine blk_hit ?_ | refine blk_miss rfl ?_ | refine WC.ret ?_)
    refine WL.nilC rfl rfl rfl ?_
    repeat (first | refine WC.seq ?_ | refine WC.reg ?_ | refine WL.pure rfl rfl rfl ?_ | refine WL.nil ?_ | refine WC.skip ?_ | refine WC.block ?_ | refine WC.condT rfl ?_ | refine WC.condF rfl ?_ | refine WL.off rfl rfl rfl ?_ | refine WL.off0 rfl rfl ?_ | refine WC.exit ?_ | refine blk_hit ?_ | refine blk_miss rfl ?_ | refine WC.ret ?_)
    refine WL.loadB rfl rfl rfl rfl rfl (hp.obj 0 rfl) (j := 0) rfl ?_
    refine WL.sliceLo (l := 1) rfl rfl rfl rfl rfl rfl (Nat.succ_pos _) hc ?_
    intro a' ha'
    refine WL.nilC rfl rfl rfl ?_
    repeat (first | refine WC.seq ?_ | refine WC.reg ?_ | refine WL.pure rfl rfl rfl ?_ | refine WL.nil ?_ | refine WC.skip ?_ | refine WC.block ?_ | refine WC.condT rfl ?_ | refine WC.condF rfl ?_ | refine WL.off rfl rfl rfl ?_ | refine WL.off0 rfl rfl ?_ | refine WC.exit ?_ | refine blk_hit ?_ | refine blk_miss rfl ?_ | refine WC.ret ?_)
    refine WL.store rfl rfl rfl rfl rfl rfl (hp.obj 0 rfl) (Nat.succ_pos _) (fun w2 h2 => ?_)
    have hp2 := hp.set 0 rfl rfl h2
    repeat (first | refine WC.seq ?_ | refine WC.reg ?_ | refine WL.pure rfl rfl rfl ?_ | refine WL.nil ?_ | refine WC.skip ?_ | refine WC.block ?_ | refine WC.condT rfl ?_ | refine WC.condF rfl ?_ | refine WL.off rfl rfl rfl ?_ | refine WL.off0 rfl rfl ?_ | refine WC.exit ?_ | refine blk_hit ?_ | refine blk_miss rfl ?_ | refine WC.ret ?_)
    refine Res.one rfl rfl rfl ⟨s, l', a', c - 1, rfl, rfl, ?_, ?_, hp2⟩
    · have := ha' w0 _ hs (by rw [List.length_map]; exact Nat.le_of_eq (Nat.mul_one _).symm)
      exact this
    · have : l'.length + 1 ≤ c := hc
      omega
theorem word_any {w0 w : World} {L : List Ent} {pb n c k : Nat} {a : Option Addr} (hp : Hp w0 w (Pb pb a n c k :: L)) (hk : k ≤ 12) :
    RetZ Tryd.prog 99 [ptr pb] w (fun v w' => k + 1 ≤ 12 ∧ Hp w0 w' (Pb pb a n c (k + 1) :: L)) (fun ch w' => ch = tr 4 ∧ 12 < k + 1 ∧ Hp w0 w' (Pb pb a n c (k + 1) :: L)) := by
  have step := wrap_succ (i := k) (n := k + 1) (by omega) (by omega)
  refine enterZ Tryd.func99 rfl rfl ⟨rfl, rfl⟩ rfl ?_
  repeat (first | refine WC.seq ?_ | refine WC.reg ?_ | refine WL.pure rfl rfl rfl ?_ | refine WL.nil ?_ | refine WC.skip ?_ | refine WC.block ?_ | refine WC.condT rfl ?_ | refine WC.condF rfl ?_ | refine WL.off rfl rfl rfl ?_ | refine WL.off0 rfl rfl ?_ | refine WC.exit ?_ | refine blk_hit ?_ | refine blk_miss rfl ?_ | refine WC.ret ?_)
  refine WL.nilC rfl rfl rfl ?_
  repeat (first | refine WC.seq ?_ | refine WC.reg ?_ | refine WL.pure rfl rfl rfl ?_ | refine WL.nil ?_ | refine WC.skip ?_ | refine WC.block ?_ | refine WC.condT rfl ?_ | refine WC.condF rfl ?_ | refine WL.off rfl rfl rfl ?_ | refine WL.off0 rfl rfl ?_ | refine WC.exit ?_ | refine blk_hit ?_ | refine blk_miss rfl ?_ | refine WC.ret ?_)
  refine WL.loadB rfl rfl rfl rfl rfl (hp.obj 0 rfl) (j := 1) rfl ?_
  refine WL.pure rfl rfl rfl ?_
  refine WL.known (d := 6) (congrArg (fun z => some (Value.int .i64 z)) step) ?_
  refine WL.nilC rfl rfl rfl ?_
  repeat (first | refine WC.seq ?_ | refine WC.reg ?_ | refine WL.pure rfl rfl rfl ?_ | refine WL.nil ?_ | refine WC.skip ?_ | refine WC.block ?_ | refine WC.condT rfl ?_ | refine WC.condF rfl ?_ | refine WL.off rfl rfl rfl ?_ | refine WL.off0 rfl rfl ?_ | refine WC.exit ?_ | refine blk_hit ?_ | refine blk_miss rfl ?_ | refine WC.ret ?_)
  refine WL.store rfl rfl rfl rfl rfl rfl (hp.obj 0 rfl) (Nat.lt_succ_self 1) (fun w2 h2 => ?_)
  have hp2 := hp.set 0 rfl rfl h2
  repeat (first | refine WC.seq ?_ | refine WC.reg ?_ | refine WL.pure rfl rfl rfl ?_ | refine WL.nil ?_ | refine WC.skip ?_ | refine WC.block ?_ | refine WC.condT rfl ?_ | refine WC.condF rfl ?_ | refine WL.off rfl rfl rfl ?_ | refine WL.off0 rfl rfl ?_ | refine WC.exit ?_ | refine blk_hit ?_ | refine blk_miss rfl ?_ | refine WC.ret ?_)
  refine WL.nilC rfl rfl rfl ?_
  repeat (first | refine WC.seq ?_ | refine WC.reg ?_ | refine WL.pure rfl rfl rfl ?_ | refine WL.nil ?_ | refine WC.skip ?_ | refine WC.block ?_ | refine WC.condT rfl ?_ | refine WC.condF rfl ?_ | refine WL.off rfl rfl rfl ?_ | refine WL.off0 rfl rfl ?_ | refine WC.exit ?_ | refine blk_hit ?_ | refine blk_miss rfl ?_ | refine WC.ret ?_)
  refine WL.loadB rfl rfl rfl rfl rfl (hp2.obj 0 rfl) (j := 1) rfl ?_
  repeat (first | refine WC.seq ?_ | refine WC.reg ?_ | refine WL.pure rfl rfl rfl ?_ | refine WL.nil ?_ | refine WC.skip ?_ | refine WC.block ?_ | refine WC.condT rfl ?_ | refine WC.condF rfl ?_ | refine WL.off rfl rfl rfl ?_ | refine WL.off0 rfl rfl ?_ | refine WC.exit ?_ | refine blk_hit ?_ | refine blk_miss rfl ?_ | refine WC.ret ?_)
  refine WC.cond rfl (fun h1 => ?_) (fun h1 => ?_)
  · have h1 : 12 < k + 1 := by have := of_decide_eq_true h1; omega
    repeat (first | refine WC.seq ?_ | refine WC.reg ?_ | refine WL.pure rfl rfl rfl ?_ | refine WL.nil ?_ | refine WC.skip ?_ | refine WC.block ?_ | refine WC.condT rfl ?_ | refine WC.condF rfl ?_ | refine WL.off rfl rfl rfl ?_ | refine WL.off0 rfl rfl ?_ | refine WC.exit ?_ | refine blk_hit ?_ | refine blk_miss rfl ?_ | refine WC.ret ?_)
    refine WL.callZ rfl rfl rfl rfl rfl ent75 rfl (fail_z 4 w2 (Z := fun ch w' => ch = tr 4 ∧ w' = w2) ⟨rfl, rfl⟩) (fun v w' h => h.elim) ?_
    rintro ch w' ⟨rfl, rfl⟩
    exact ⟨rfl, h1, hp2⟩
  · have h1 : k + 1 ≤ 12 := by have := of_decide_eq_false h1; omega
    repeat (first | refine WC.seq ?_ | refine WC.reg ?_ | refine WL.pure rfl rfl rfl ?_ | refine WL.nil ?_ | refine WC.skip ?_ | refine WC.block ?_ | refine WC.condT rfl ?_ | refine WC.condF rfl ?_ | refine WL.off rfl rfl rfl ?_ | refine WL.off0 rfl rfl ?_ | refine WC.exit ?_ | refine blk_hit ?_ | refine blk_miss rfl ?_ | refine WC.ret ?_)
    exact Res.zero rfl rfl ⟨h1, hp2⟩
end Go.Proofs.YtpbbneclkhfgoaaDoor
