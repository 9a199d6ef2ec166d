/- W, part Z: panics, interfaces, methods, recover. -/
import Derived.Test.YtpbbneclkhfgoaaDoorSW
import Derived.WalkSmall
import Derived.Recover
import Derived.Defers
set_option linter.unusedSectionVars false
set_option linter.unusedVariables false
namespace Go.W
open Go.RowKit
/-- A function that returns or panics. -/
def RetZ (P : Program) (f : FuncId) (args : List Value) (w : World) (R : Value → World → Prop) (Z : Pan) : Prop :=
  Calls P f args.toArray w fun e w' => (∃ v, e = .returned v ∧ R v w') ∨ ∃ ch, e = .panicked ch ∧ Z ch w'
theorem RetZ.mono {P : Program} {f : FuncId} {args : List Value} {w : World} {R R' : Value → World → Prop} {Z Z' : Pan} (h : RetZ P f args w R Z) (hr : ∀ v w', R v w' → R' v w') (hz : ∀ ch w', Z ch w' → Z' ch w') : RetZ P f args w R' Z' :=
  Calls.mono h fun e w' hh => by
    rcases hh with ⟨v, he, hv⟩ | ⟨ch, he, hv⟩
    · exact .inl ⟨v, he, hr v w' hv⟩
    · exact .inr ⟨ch, he, hz ch w' hv⟩
theorem Ret.toZ {P : Program} {f : FuncId} {args : List Value} {w : World} {R : Value → World → Prop} {Z : Pan} (h : Ret P f args w R) : RetZ P f args w R Z :=
  Calls.mono h fun e w' hh => .inl hh
theorem RetZ.toRet {P : Program} {f : FuncId} {args : List Value} {w : World} {R : Value → World → Prop} {Z : Pan} (h : RetZ P f args w R Z) (hz : ∀ ch w', ¬ Z ch w') : Ret P f args w R :=
  Calls.mono h fun e w' hh => by
    rcases hh with hh | ⟨ch, _, hv⟩
    · exact hh
    · exact (hz ch w' hv).elim
theorem enterZ {P : Program} {f : FuncId} {fn : Func} {c : Code} {args : List Value} {n : Nat} {w : World} {R : Value → World → Prop} {Z : Pan} {e : Env}
    (hf : P.funcs[f]? = some fn) (hb : fn.body = some c) (hn : fn.ntmps = n) (hl : Nat.ble args.length n = true ∧ Nat.ble n 1000000000 = true) (he : envArgs 0 args = e)
    (h : WC P none n c (Res P fn R) (Res P fn R) (fun _ _ _ => False) Z e w) : RetZ P f args w R Z := by
  have h := h.mono (N' := ResM P fn R) (R' := ResM P fn R) (X' := fun _ _ _ => False) (fun _ _ h => h.toM) (fun _ _ h => h.toM) (fun _ _ _ h => h)
  refine (callsIn_wide (n := 0)).1 (callsIn_of_wp_marks (F := Fence.wide) hf hb trivial ?_)
  have hl' : args.length ≤ n := by simpa using hl.1
  have hk : Kn n e { tmps := args.toArray ++ Array.replicate (fn.ntmps - args.toArray.size) undef, defers := [] } := by
    have hle : n ≤ 1000000000 := by simpa using hl.2
    refine ⟨hle, by simp [hn]; omega, ?_, ?_⟩
    · rw [← he]
      have : marks (envArgs 0 args) = [] := by
        have : ∀ (vs : List Value) (i : Nat), i + vs.length ≤ 1000000000 → marks (envArgs i vs) = [] := by
          intro vs
          induction vs with
          | nil => intro i _; rfl
          | cons u vs ih =>
            intro i hi
            simp only [List.length_cons] at hi
            rw [envArgs, marks_cons (by omega)]
            exact ih (i + 1) (by omega)
        exact this args 0 (by omega)
      rw [this]; rfl
    intro t v ht
    rw [← he] at ht
    obtain ⟨j, hj, hv⟩ := look_envArgs args 0 t v ht
    have hjt : t = j := by omega
    subst hjt
    rw [Array.getD_eq_getD_getElem?]
    have hlt : t < args.length := (List.getElem?_eq_some_iff.1 hv).1
    have : (args.toArray ++ Array.replicate (fn.ntmps - args.toArray.size) undef)[t]? = some v := by
      rw [Array.getElem?_append_left (by simpa using hlt)]; simpa using hv
    rw [this]; rfl
  refine wpIn_mono (h _ hk) ?_
  intro ex a' w' hq
  have key : ∀ e', Kn n e' a' → ResM P fn R e' w' → LeavesInM Fence.wide 0 P fn a'.tmps (fun e w' => (∃ v, e = .returned v ∧ R v w') ∨ ∃ ch, e = .panicked ch ∧ Z ch w') a'.defers .returning w' := by
    rintro e' hk' ⟨ho, v, hv, hR⟩
    rw [hk'.defers]
    exact leaves_marks _ _ ho (hv _ hk'.slot) (.inl ⟨v, rfl, hR⟩)
  cases ex with
  | normal => obtain ⟨e', hk', hr⟩ := hq; exact key e' hk' hr
  | ret => obtain ⟨e', hk', hr⟩ := hq; exact key e' hk' hr
  | exit i => obtain ⟨_, _, hf⟩ := hq; exact hf.elim
  | panic ch =>
    obtain ⟨hd, hz⟩ := hq
    show LeavesInM Fence.wide 0 P fn a'.tmps _ a'.defers (.panicking ch) w'
    rw [hd]
    exact .inr ⟨ch, rfl, hz⟩
  | goto l => exact hq.elim
  | outgrown => exact hq.elim

section
variable {P : Program} [T : TT P] {ro : Option Nat} {n : Nat} {l0 rest : List Oper} {N : Nor} {Z : Pan} {e : Env} {w : World} {ty : TypeId} {pos : String} {aft : Array Edge} {g : Option (Nat × Bool)}
theorem WL.callZ {d : Nat} {fo : Operand} {f : FuncId} {fi ca : Array Value} {args : Array Operand} {tys : Array TypeId} {vs all : List Value} {R : Value → World → Prop} {Z' : Pan}
    (hg : grd l0 e g = some true) (hf : opv e fo = some (.func (.func f) fi ca)) (ha : opvs e args.toList = some vs) (hall : fi.toList ++ vs ++ ca.toList = all) (hd : Nat.blt d n = true) (hE : Ents P f) (hm : marks e = [])
    (hc : RetZ P f all w R Z') (h : ∀ v w', R v w' → WL P ro n l0 N Z rest ((d, v) :: e) w') (hz : ∀ ch w', Z' ch w' → Z ch w') :
    WL P ro n l0 N Z (⟨some d, .call ⟨.value fo, args, tys⟩, ty, pos, aft, g⟩ :: rest) e w := by
  intro a ka
  unfold wpListIn
  rw [if_pos (by rw [grd_wanted ka (o := ⟨some d, .call ⟨.value fo, args, tys⟩, ty, pos, aft, g⟩) hg])]
  refine ⟨fun f _ => fen_fn ro f, ?_⟩
  rw [semAt_ok (callee_run (P := P) (w := w) (ty := ty) hf ha hall hE a.eval ka.agree _ _ _ _) (fun d h => by cases h)]
  rw [Oper.uponIn_enter]
  refine ⟨fun h => (by rw [fen_depth] at h; cases h), CallsIn.mono (fen_calls hc) ?_⟩
  rintro en w' (⟨v, rfl, hv⟩ | ⟨ch, rfl, hv⟩)
  · exact h v w' hv _ (ka.put hd)
  · exact ⟨by rw [ka.defers, hm]; rfl, hz _ _ hv⟩
theorem WL.panicI {x : Operand} {t : TypeId} {v : Value} (hg : grd l0 e g = some true) (hx : opv e x = some (.iface t v)) (hm : marks e = []) (hz : Z [{ v := .iface t v, recovered := false }] w) :
    WL P ro n l0 N Z (⟨none, .panic x, ty, pos, aft, g⟩ :: rest) e w := by
  intro a ka
  unfold wpListIn
  rw [if_pos (by rw [grd_wanted ka (o := ⟨none, .panic x, ty, pos, aft, g⟩) hg])]
  refine ⟨fun f _ => fen_fn ro f, ?_⟩
  rw [Oper.semAt_eq _ _ _ (fun c hc => by cases hc)]
  simp only [execOp, ka.agree _ _ hx, Sem.run_bind, run_panic_iface, Result.andThen]
  rw [Oper.uponIn_panic]
  exact ⟨by rw [ka.defers, hm]; rfl, hz⟩
theorem yMkI {e : Env} {w : World} {ty t : TypeId} {x : Operand} {v : Value} {i : TI} (ht : T.ti t = some i) (hk : i.k.isAgg = true) (hx : opv e x = some v) : Yv P e (.makeInterface t x) ty w (.iface t v) w := by
  intro ρ hρ d pos aft g
  have hk2 := (T.ok t i ht).k
  cases hi : i.k with
  | struct fs =>
    rw [hi] at hk2
    obtain ⟨farr, hu, _⟩ := hk2
    simp [execOp, hρ _ _ hx, Instr.makeInterface, run_underlying hu]
  | array m E =>
    rw [hi] at hk2
    have hu : P.underlying t = some (.array m E) := hk2
    simp [execOp, hρ _ _ hx, Instr.makeInterface, run_underlying hu]
  | _ => rw [hi] at hk; cases hk
theorem yAsT {e : Env} {w : World} {ty xT t u : TypeId} {x : Operand} {v : Value} {i : TI} (ht : T.ti t = some i) (hk : i.k.isAgg = true) (hx : opv e x = some (.iface u v)) :
    Yv P e (.typeAssert x xT t true) ty w (if u = t then .tuple #[v, .bool true] else .tuple #[i.zero, .bool false]) w := by
  intro ρ hρ d pos aft g
  have hk2 := (T.ok t i ht).k
  have hz := (T.ok t i ht).zeroValue w
  cases hi : i.k with
  | struct fs =>
    rw [hi] at hk2
    obtain ⟨farr, hu, _⟩ := hk2
    by_cases h : u = t <;> simp [execOp, hρ _ _ hx, Instr.typeAssert, run_underlying hu, h, hz]
  | array m E =>
    rw [hi] at hk2
    have hu : P.underlying t = some (.array m E) := hk2
    by_cases h : u = t <;> simp [execOp, hρ _ _ hx, Instr.typeAssert, run_underlying hu, h, hz]
  | _ => rw [hi] at hk; cases hk
/-- A method of an interface value: which function it is. -/
def Meth (P : Program) (t : TypeId) (name : String) (f : FuncId) : Prop := ∀ (v : Value) (args : Array Value) (w : World), (callMethod (.iface t v) name args).run P w = .ok (.enter f (#[v] ++ args)) w
theorem meth_run {e : Env} {w : World} {ty : TypeId} {recv : Operand} {name : String} {tys : Array TypeId} {t : TypeId} {v : Value} {f : FuncId} (hr : opv e recv = some (.iface t v)) (hM : Meth P t name f) :
    ∀ ρ, Agree e ρ → ∀ d pos aft g, (execOp ρ ⟨d, .call ⟨.invoke recv name, #[], tys⟩, ty, pos, aft, g⟩).run P w = .ok (.enter f #[v]) w := by
  intro ρ hρ d pos aft g
  have e1 : (#[] : Array Operand).map ρ = #[] := by simp
  have e2 : (#[Value.iface t v] ++ (#[] : Array Value)).extract 1 (#[Value.iface t v] ++ (#[] : Array Value)).size = #[] := by simp
  simp only [execOp, resolve, hρ _ _ hr, Sem.run_bind, Sem.run_pure, Result.andThen_ok, invoke, e1, e2]
  have := hM v #[] w
  simpa using this
theorem WL.callI {d : Nat} {recv : Operand} {name : String} {tys : Array TypeId} {t : TypeId} {v0 : Value} {f : FuncId} {R : Value → World → Prop}
    (hg : grd l0 e g = some true) (hr : opv e recv = some (.iface t v0)) (hd : Nat.blt d n = true) (hM : Meth P t name f)
    (hc : Ret P f [v0] w R) (h : ∀ v w', R v w' → WL P ro n l0 N Z rest ((d, v) :: e) w') :
    WL P ro n l0 N Z (⟨some d, .call ⟨.invoke recv name, #[], tys⟩, ty, pos, aft, g⟩ :: rest) e w := by
  intro a ka
  unfold wpListIn
  rw [if_pos (by rw [grd_wanted ka (o := ⟨some d, .call ⟨.invoke recv name, #[], tys⟩, ty, pos, aft, g⟩) hg])]
  refine ⟨fun f _ => fen_fn ro f, ?_⟩
  rw [semAt_ok (meth_run (P := P) (w := w) (ty := ty) hr hM a.eval ka.agree _ _ _ _) (fun d h => by cases h)]
  rw [Oper.uponIn_enter]
  refine ⟨fun h => (by rw [fen_depth] at h; cases h), CallsIn.mono (fen_calls hc) ?_⟩
  rintro en w' ⟨v, rfl, hv⟩
  exact h v w' hv _ (ka.put hd)
theorem WQ.callI {C : World → Prop} {M : Env → Prop} {d : Nat} {recv : Operand} {name : String} {tys : Array TypeId} {t : TypeId} {v0 v : Value} {f : FuncId}
    (hg : grd l0 e g = some true) (hr : opv e recv = some (.iface t v0)) (hd : Nat.blt d n = true) (hM : Meth P t name f)
    (hc : ∀ w, C w → Ret P f [v0] w fun u w' => u = v ∧ C w') (h : WQ P n l0 C M rest ((d, v) :: e)) :
    WQ P n l0 C M (⟨some d, .call ⟨.invoke recv name, #[], tys⟩, ty, pos, aft, g⟩ :: rest) e := by
  intro a ka
  unfold wpQuiet
  rw [if_pos (by rw [grd_wanted ka (o := ⟨some d, .call ⟨.invoke recv name, #[], tys⟩, ty, pos, aft, g⟩) hg])]
  refine ⟨v, fun w hw => ?_, h _ (ka.put hd)⟩
  unfold Oper.quietAt
  rw [meth_run (P := P) (w := w) (ty := ty) hr hM a.eval ka.agree]
  refine ⟨rfl, Calls.mono (hc w hw) ?_⟩
  rintro en w' ⟨u, rfl, rfl, hw'⟩
  exact ⟨rfl, hw'⟩
end
section
variable {P : Program} [T : TT P]
theorem kn_args {args : List Value} {n : Nat} (hl : Nat.ble args.length n = true ∧ Nat.ble n 1000000000 = true) :
    Kn n (envArgs 0 args) { tmps := args.toArray ++ Array.replicate (n - args.toArray.size) undef, defers := [] } := by
  have hl' : args.length ≤ n := by simpa using hl.1
  have hle : n ≤ 1000000000 := by simpa using hl.2
  refine ⟨hle, by simp; omega, ?_, ?_⟩
  · have : marks (envArgs 0 args) = [] := by
      have : ∀ (vs : List Value) (i : Nat), i + vs.length ≤ 1000000000 → marks (envArgs i vs) = [] := by
        intro vs
        induction vs with
        | nil => intro i _; rfl
        | cons u vs ih =>
          intro i hi
          simp only [List.length_cons] at hi
          rw [envArgs, marks_cons (by omega)]
          exact ih (i + 1) (by omega)
      exact this args 0 (by omega)
    rw [this]; rfl
  intro t v ht
  obtain ⟨j, hj, hv⟩ := look_envArgs args 0 t v ht
  have hjt : t = j := by omega
  subst hjt
  rw [Array.getD_eq_getD_getElem?]
  have hlt : t < args.length := (List.getElem?_eq_some_iff.1 hv).1
  have : (args.toArray ++ Array.replicate (n - args.toArray.size) undef)[t]? = some v := by
    rw [Array.getElem?_append_left (by simpa using hlt)]; simpa using hv
  rw [this]; rfl
/-- A deferred function that begins with recover. -/
theorem rec_enter {f : FuncId} {fn : Func} {rest : Code} {args : List Value} {n d id : Nat} {ty : TypeId} {pos : String} {w : World} {R : Value → World → Prop} {u u' : FrameMode} {v : Value}
    (hf : P.funcs[f]? = some fn) (hb : fn.body = some (.seq (.region id #[⟨some d, .call ⟨.builtin .recover, #[], #[]⟩, ty, pos, #[], none⟩] false) rest)) (hn : fn.ntmps = n)
    (hl : Nat.ble args.length n = true ∧ Nat.ble n 1000000000 = true) (hd : Nat.blt d n = true)
    (hu : (∃ older, u = .panicking ({ v := v, recovered := false } :: older) ∧ u' = .panicking ({ v := v, recovered := true } :: older)) ∨ (u = .returning ∧ u' = .returning ∧ v = .nilIface))
    (h : WC P none n rest (Res P fn R) (Res P fn R) (fun _ _ _ => False) (fun _ _ => False) ((d, v) :: envArgs 0 args) w) :
    CallsD P f args.toArray u w fun e u2 w' => u2 = u' ∧ ∃ r, e = .returned r ∧ R r w' := by
  refine callsD_of_wpS hf hb fun c₀ cs hm => ?_
  refine wpS_seq (wpS_region ?_)
  have hk := (kn_args (args := args) hl).put (v := v) hd
  rw [← hn] at hk
  have key : ∀ (a : Act), Kn fn.ntmps ((d, v) :: envArgs 0 args) a → rest.wpS P (bodyPostS P fn c₀ cs fun e u2 w' => u2 = u' ∧ ∃ r, e = .returned r ∧ R r w') a ({ c₀ with mode := u' } :: cs) w := by
    intro a ka
    refine wpS_of_wp ?_
    refine (wpIn_wide (n := 0)).1 ?_
    rw [hn] at ka
    refine wpIn_mono (h a ka) ?_
    intro ex a' w' hq
    have fin : ∀ e', Kn n e' a' → Res P fn R e' w' → bodyPostS P fn c₀ cs (fun e u2 w' => u2 = u' ∧ ∃ r, e = .returned r ∧ R r w') .ret a' ({ c₀ with mode := u' } :: cs) w' := by
      rintro e' hk' ⟨hmk, r, hr, hR⟩
      exact ⟨by rw [hk'.defers, hmk]; rfl, u', rfl, r, hr _ hk'.slot, rfl, r, rfl, hR⟩
    cases ex with
    | normal => obtain ⟨e', hk', hr⟩ := hq; exact fin e' hk' hr
    | ret => obtain ⟨e', hk', hr⟩ := hq; exact fin e' hk' hr
    | exit i => obtain ⟨_, _, hf⟩ := hq; exact hf.elim
    | panic ch => exact hq.2.elim
    | goto l => exact hq.elim
    | outgrown => exact hq.elim
  have he : ∀ ρ : Operand → Value, (execOp ρ ⟨some d, .call ⟨.builtin .recover, #[], #[]⟩, ty, pos, #[], none⟩).run P w = .ok .recover w := by
    intro ρ
    simp [execOp, resolve, invoke, builtin]
  have hw : Region.wanted ⟨some d, .call ⟨.builtin .recover, #[], #[]⟩, ty, pos, #[], none⟩ (yielded #[⟨some d, .call ⟨.builtin .recover, #[], #[]⟩, ty, pos, #[], none⟩] (args.toArray ++ Array.replicate (fn.ntmps - args.toArray.size) undef)) = true := rfl
  show wpOpsS P _ _ [0] _ _ _
  unfold wpOpsS
  simp only [List.getElem?_toArray, List.getElem?_cons_zero, hw, if_true, he]
  rcases hu with ⟨older, rfl, rfl⟩ | ⟨rfl, rfl, rfl⟩
  · simp only [recoverD, hm]
    exact key _ hk
  · simp only [recoverD, hm]
    have : ({ c₀ with mode := FrameMode.returning } : Frame) = c₀ := by rw [← hm]
    rw [← this]
    exact key _ hk
end
section
variable {P : Program} {w : World}
theorem run_equalIn_ni (d : Nat) (t u : TypeId) (v : Value) {ms : Array (String × TypeId)} (hu : P.underlying t = some (.interface ms)) : (Op.equalIn (d + 1) t (.iface u v) .nilIface).run P w = .ok false w := by
  simp [Op.equalIn, run_underlying hu]
theorem run_equalIn_nn (d : Nat) (t : TypeId) {ms : Array (String × TypeId)} (hu : P.underlying t = some (.interface ms)) : (Op.equalIn (d + 1) t .nilIface .nilIface).run P w = .ok true w := by
  simp [Op.equalIn, run_underlying hu]
end
section
variable {P : Program} [T : TT P] {e : Env} {w : World} {ty : TypeId}
theorem yEqI {t t2 u : TypeId} {x : Operand} {v z : Value} {s0 b0 : Nat} (ht : T.ti t = some ⟨.iface, z, s0, b0⟩) (hx : opv e x = some (.iface u v)) : Yv P e (.binOp .eql t x (.const .nilIface) t2) ty w (.bool false) w := by
  intro ρ hρ d pos aft g
  obtain ⟨ms, hu⟩ := (T.ok t _ ht).k
  have h2 : ρ (.const .nilIface) = .nilIface := hρ _ _ rfl
  have hq : (Op.equal t (.iface u v) .nilIface).run P w = .ok false w := run_equalIn_ni 9999 t u v hu
  simp [execOp, hρ _ _ hx, h2, eqGuard, binOp, hq]
theorem yEqN {t t2 : TypeId} {x : Operand} {z : Value} {s0 b0 : Nat} (ht : T.ti t = some ⟨.iface, z, s0, b0⟩) (hx : opv e x = some .nilIface) : Yv P e (.binOp .eql t x (.const .nilIface) t2) ty w (.bool true) w := by
  intro ρ hρ d pos aft g
  obtain ⟨ms, hu⟩ := (T.ok t _ ht).k
  have h2 : ρ (.const .nilIface) = .nilIface := hρ _ _ rfl
  have hq : (Op.equal t .nilIface .nilIface).run P w = .ok true w := run_equalIn_nn 9999 t hu
  simp [execOp, hρ _ _ hx, h2, eqGuard, binOp, hq]
end
section
variable {P : Program} [T : TT P] {e : Env} {w : World} {ty : TypeId}
theorem yBuildT {t : TypeId} {fs : List (Nat × TypeId)} {z : Value} {s0 b0 : Nat} {parts : Array (Nat × Operand)} {ps : List (Nat × Value)} {cs : List Value}
    (ht : T.ti t = some ⟨.struct fs, z, s0, b0⟩) (hfs : (fs.all fun f => (T.ti f.2).isSome) = true)
    (hp : partsV e parts.toList = some ps) (hf : fillL (fun j => nth (fs.map fun f => (f.1, ((T.ti f.2).map (·.size)).getD 0)) j) z.cells.toList ps = some cs) : Yv P e (.build t parts) ty w (.agg cs.toArray) w := by
  obtain ⟨farr, hu, hff⟩ := (T.ok t _ ht).k
  have hzv := (T.ok t _ ht).zeroValue w
  intro ρ hρ d' pos' aft' g'
  have hparts : (parts.map fun (x : Nat × Operand) => (x.1, ρ x.2)).toList = ps := by rw [Array.toList_map]; exact partsV_eq hρ _ _ hp
  have hfill := fill_eq _ ps z.cells cs hf
  rw [← hparts] at hfill
  have hall : ∀ f ∈ farr.toList, ∃ i, T.ti f.type = some i := by
    intro f hfm
    have h1 : (f.offset, f.type) ∈ fs := by rw [← hff]; exact List.mem_map.2 ⟨f, hfm, rfl⟩
    have h2 := List.all_eq_true.1 hfs _ h1
    exact Option.isSome_iff_exists.1 h2
  have hm := run_mapM_fields (P := P) w farr.toList hall
  have hplaces : (fun j => nth (fs.map fun f => (f.1, ((T.ti f.2).map (·.size)).getD 0)) j) = fun j => (farr.toList.map fun f => (f.offset, ((T.ti f.type).map (·.size)).getD 0))[j]? := by
    funext j
    rw [nth_eq, ← hff, List.map_map]
    rfl
  rw [hplaces] at hfill
  have hm' : (farr.mapM (fun f => (do Pure.pure (f.offset, ← sizeOf f.type) : Sem (Nat × Nat)))).run P w = .ok (farr.toList.map fun f => (f.offset, ((T.ti f.type).map (·.size)).getD 0)).toArray w := by
    rw [Array.mapM_eq_mapM_toList, Sem.run_map, hm]
    rfl
  have hfill2 : Instr.fill (fun x => ((farr.toList.map fun f => (f.offset, ((T.ti f.type).map (·.size)).getD 0)).toArray)[x]?) z.cells (parts.map fun (x : Nat × Operand) => (x.1, ρ x.2)).toList = some cs.toArray := by
    rw [← hfill]; congr 1; funext j; simp
  simp only [execOp, Instr.build, Sem.run_bind, run_underlying hu, Result.andThen_ok, hzv, hm']
  simp only [hfill2, Sem.run_pure, Result.andThen_ok]
end
end Go.W
