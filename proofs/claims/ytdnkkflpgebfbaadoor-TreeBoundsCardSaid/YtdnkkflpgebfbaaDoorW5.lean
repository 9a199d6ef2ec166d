/- W, fifth part: loops over functions; calls of yield. -/
import Derived.Test.YtdnkkflpgebfbaaDoorW4
set_option linter.unusedVariables false
set_option linter.unusedSectionVars false
namespace Go.W
open Go.RowKit

/-- A call of yield. -/
def Yld (P : Program) (l : Nat) (args : List Value) (w : World) (R : Value → World → Prop) : Prop :=
  ∃ fn tmps assign body, (Instr.yield l args.toArray).run P w = .ok (.round l fn tmps assign body) w ∧ RoundIn Fence.wide 0 P l fn tmps assign body w (fun e w' => ∃ v, e = .returned v ∧ R v w')

section
variable {P : Program} [T : TT P] {n : Nat} {l0 rest : List Oper} {N R : Nor} {X : Ext} {Z : Pan} {e : Env} {w : World} {ty : TypeId} {pos : String} {aft : Array Edge} {g : Option (Nat × Bool)}

theorem WL.yld {d l : Nat} {fo : Operand} {args : Array Operand} {tys : Array TypeId} {vs : List Value} {K : Value → World → Prop}
    (hg : grd l0 e g = some true) (hf : opv e fo = some (.func (.yield l) #[] #[])) (ha : opvs e args.toList = some vs) (hd : Nat.blt d n = true)
    (hy : Yld P l vs w K) (h : ∀ v w', K v w' → WL P none n l0 N Z rest ((d, v) :: e) w') :
    WL P none n l0 N Z (⟨some d, .call ⟨.value fo, args, tys⟩, ty, pos, aft, g⟩ :: rest) e w := by
  intro a ka
  obtain ⟨fn, tmps, assign, body, hr, hround⟩ := hy
  unfold wpListIn
  rw [if_pos (by rw [grd_wanted ka (o := ⟨some d, .call ⟨.value fo, args, tys⟩, ty, pos, aft, g⟩) hg])]
  refine ⟨fun f _ => fen_fn none f, ?_⟩
  have e1 : args.map a.eval = vs.toArray := opvs_arr ka.agree ha
  have hrun : (execOp a.eval ⟨some d, .call ⟨.value fo, args, tys⟩, ty, pos, aft, g⟩).run P w = .ok (.round l fn tmps assign body) w := by
    simp only [execOp, resolve, ka.agree _ _ hf, Deferred.ofValue, Sem.run_bind, Sem.run_pure, Result.andThen_ok, invoke, e1]
    simpa using hr
  rw [semAt_ok hrun (fun d h => by cases h), Oper.uponIn_round]
  refine ⟨fun h => (by rw [fen_depth] at h; cases h), RoundIn.mono hround ?_⟩
  rintro en w' ⟨v, rfl, hv⟩
  exact h v w' hv _ (ka.put hd)

def dfr : Obj := .deferred (some [])
theorem setB_put {w : World} {b : Nat} {o o' : Obj} (h : w.heap[b]? = some o) : SetB w b o' (w.putObj b o') := by
  have hlt := (Array.getElem?_eq_some_iff.1 h).1
  exact ⟨World.putObj_heap_same hlt, ⟨rfl, rfl, rfl, by simp, fun k hk hne => World.putObj_heap_other (fun e1 => hne (by rw [e1]))⟩⟩

def dfrs (ds : List Nat) : List (Nat × Obj) := ds.map fun d => (d, dfr)
theorem Hp.shut {w0 : World} {L : List Ent} : ∀ (ds : List Nat) (w : World), Hp w0 w (.many (dfrs ds) :: L) → Opened ds w ∧ Hp w0 (shut ds w) L := by
  intro ds
  induction ds with
  | nil => intro w h; exact ⟨⟨List.nodup_nil, fun d hd => by cases hd⟩, h.tail⟩
  | cons d ds ih =>
    intro w h
    have hs := h.sat (.many (dfrs (d :: ds))) (by simp)
    have hh := hs.2 d dfr (by simp [dfrs])
    have h1 := (h.part.set 0 rfl rfl (setB_put hh.2 (o' := .deferred none))).tail
    obtain ⟨_, h2⟩ := ih _ h1
    refine ⟨⟨?_, fun d' hd' => ?_⟩, h2⟩
    · have := hs.1
      simpa [dfrs, List.map_map, Function.comp_def] using this
    · exact (hs.2 d' dfr (by simpa [dfrs] using hd')).2
theorem ResM.one {fn : Func} {R : Value → World → Prop} {t : Nat} {v : Value} {w0 : World} {L : List Ent} {ds : List Nat} (hm : marks e = ds) (hr : fn.results = #[.tmp t]) (hv : look e t = some v) (hp : Hp w0 w (.many (dfrs ds) :: L)) (h : ∀ w', Hp w0 w' L → R v w') : ResM P fn R e w := by
  subst hm
  obtain ⟨h1, h2⟩ := Hp.shut _ _ hp
  exact ⟨h1, v, fun tm ht => by rw [results_tmp hr, ht t v hv], h _ h2⟩
theorem ResM.two {fn : Func} {R : Value → World → Prop} {t1 t2 : Nat} {v1 v2 : Value} {w0 : World} {L : List Ent} {ds : List Nat} (hm : marks e = ds) (hr : fn.results = #[.tmp t1, .tmp t2]) (h1 : look e t1 = some v1) (h2 : look e t2 = some v2) (hp : Hp w0 w (.many (dfrs ds) :: L)) (h : ∀ w', Hp w0 w' L → R (.tuple #[v1, v2]) w') : ResM P fn R e w := by
  subst hm
  obtain ⟨h3, h4⟩ := Hp.shut _ _ hp
  exact ⟨h3, _, fun tm ht => by rw [results_tmp2 hr, ht t1 v1 h1, ht t2 v2 h2], h _ h4⟩

theorem Hp.swap {w0 w : World} {x y : Ent} {L : List Ent} (h : Hp w0 w (x :: y :: L)) : Hp w0 w (y :: x :: L) := by
  have h1 := List.pairwise_cons.1 h.dist
  have h2 := List.pairwise_cons.1 h1.2
  refine ⟨h.below, fun z hz => h.sat z (by simp only [List.mem_cons] at hz ⊢; rcases hz with hz | hz | hz <;> simp [hz]), List.pairwise_cons.2 ⟨fun z hz => ?_, List.pairwise_cons.2 ⟨fun z hz => h1.1 z (by simp [hz]), h2.2⟩⟩⟩
  rcases List.mem_cons.1 hz with hz | hz
  · rw [hz]; exact (h1.1 y (by simp)).symm
  · exact h2.1 z hz
theorem Hp.single {w0 w : World} {b : Nat} {o : Obj} {L : List Ent} (h : Hp w0 w (.blk b o :: L)) : Hp w0 w (.many [(b, o)] :: L) := h.none'.swap.join
theorem Hp.nilrow {w0 w : World} {L : List Ent} (h : Hp w0 w L) (E s : Nat) : Hp w0 w (.row E s (.slice none 0 0) 0 [] :: L) :=
  h.push (World.grownBy.refl w _) _ (World.ownsRow_nil w _ _ _) (fun k hk => by cases hk)

theorem ownsRow_mono {w : World} {B B' E s n : Nat} {v : Value} {xs : List Value} (h : w.ownsRow B E s v n xs) (hB : B' ≤ B) : w.ownsRow B' E s v n xs := by
  obtain ⟨hl, h | ⟨g, cap, cur, hv, hb, hr⟩⟩ := h
  · exact ⟨hl, .inl h⟩
  · exact ⟨hl, .inr ⟨g, cap, cur, hv, Nat.le_trans hB hb, hr⟩⟩
theorem Ent.sat.mono {w : World} {B B' : Nat} {x : Ent} (h : x.sat B w) (hB : B' ≤ B) : x.sat B' w := by
  cases x with
  | blk b o => exact ⟨Nat.le_trans hB h.1, h.2⟩
  | row E s v n xs => exact ownsRow_mono h hB
  | many bs => exact ⟨h.1, fun b o hb => ⟨Nat.le_trans hB (h.2 b o hb).1, (h.2 b o hb).2⟩⟩
/-- What a callee has made, beside what was known. -/
theorem Hp.comb {w0 w w' : World} {L L' : List Ent} (h : Hp w0 w L) (k : Hp w w' L') : Hp w0 w' (L' ++ L) := by
  have h1 := h.call k.below
  refine ⟨h1.below, ?_, ?_⟩
  · intro x hx
    rcases List.mem_append.1 hx with hx | hx
    · exact (k.sat x hx).mono h.below.size
    · exact h1.sat x hx
  · rw [List.pairwise_append]
    refine ⟨k.dist, h.dist, fun x hx y hy q hq1 hq2 => ?_⟩
    have := ((k.sat x hx).lt hq1).1
    have := ((h.sat y hy).lt hq2).2
    omega

/-- The slots of e', told by e. -/
def SubL : Env → Env → Prop
  | [], _ => True
  | (s, v) :: r, e => look e s = some v ∧ SubL r e
theorem SubL.look {e' e : Env} (h : SubL e' e) : ∀ t v, W.look e' t = some v → W.look e t = some v := by
  induction e' with
  | nil => intro t v ht; simp [W.look] at ht
  | cons p r ih =>
    intro t v ht
    obtain ⟨s, u⟩ := p
    rcases look_cons ht with ⟨e1, _, e2⟩ | ⟨_, e2⟩
    · rw [← e1, ← e2]; exact h.1
    · exact ih h.2 t v e2
theorem SubL.none {e' e : Env} (h : SubL e' e) : ∀ p ∈ e', p.1 ≠ 1000000000 := by
  induction e' with
  | nil => intro p hp; cases hp
  | cons p r ih =>
    intro q hq
    rcases List.mem_cons.1 hq with hq | hq
    · rw [hq]; exact look_ne h.1
    · exact ih h.2 q hq

/-- What an iterator does: it hands the values xs to yield, one after the other. -/
def Iter (P : Program) (gf : FuncId) (caps : List Value) (xs : List Value) (w0 w1 : World) : Prop :=
  ∀ (l : Nat) (I : Nat → World → Prop), I 0 w1 → (∀ i w', I i w' → Below w0.heap.size w0 w') →
    (∀ (i : Nat) (x : Value) (w' : World), xs[i]? = some x → I i w' → Yld P l [x] w' fun v w'' => v = .bool true ∧ I (i + 1) w'') →
    Ret P gf (.func (.yield l) #[] #[] :: caps) w1 fun _ w' => I xs.length w'

theorem WC.rangeF {gop : Operand} {p : Nat} {assign body : Code} {gf : FuncId} {caps : Array Value} {w0 : World} (xs : List Value)
    (σ : Type) (Lσ : σ → List Ent) (Φ : Nat → σ → Prop) (s₀ : σ) (e' : Env)
    (hg : opv e gop = some (.func (.func gf) #[] caps)) (hE : Ents P gf) (hp : Nat.blt p n = true) (he' : SubL e' e)
    (h0 : Hp w0 w (Lσ s₀)) (hΦ : Φ 0 s₀)
    (hit : ∀ w1, Hp w0 w1 (Lσ s₀) → Iter P gf caps.toList xs w0 w1)
    (hbody : ∀ (i : Nat) (x : Value) (s : σ) (l D : Nat) (o : Loop) (w' : World), xs[i]? = some x → Φ i s → Hp w0 w' (.blk l (.loop o) :: .blk D dfr :: Lσ s) →
      WC P (some l) n assign (fun e1 w1 => ∃ L1, Hp w0 w1 (.blk l (.loop o) :: .blk D dfr :: L1) ∧ ∀ o' w2, Hp w0 w2 (.blk l (.loop o') :: .blk D dfr :: L1) →
        WC P (some l) n body (fun _ w3 => ∃ s', Φ (i + 1) s' ∧ Hp w0 w3 (.blk l (.loop o') :: .blk D dfr :: Lσ s')) (fun _ _ => False) (fun _ _ _ => False) (fun _ _ => False) e1 w2)
        (fun _ _ => False) (fun _ _ _ => False) (fun _ _ => False) ((p, x) :: e') w')
    (hk : ∀ s D w', Φ xs.length s → Hp w0 w' (.blk D dfr :: Lσ s) → N ((1000000000, enc (D :: marks e)) :: e) w') :
    WC P none n (.rangeFunc gop #[p] assign body) N R X Z e w := by
  intro a ha
  have hag := ha.agree gop _ hg
  refine wpIn_rangeFunc ?_
  intro fn _
  obtain ⟨rc, hrc⟩ : ∃ rc : LoopState → Option Code → Loop, rc = fun st pe => { state := st, pending := pe, fn, tmps := a.tmps, params := #[p], assign, body, defers := w.heap.size } := ⟨_, rfl⟩
  have hn1 : NewB w w.heap.size dfr (w.alloc dfr) := newB w dfr
  have hn2 : NewB (w.alloc dfr) (w.heap.size + 1) (.loop (rc .ready none)) ((w.alloc dfr).alloc (.loop (rc .ready none))) := by
    have := newB (w.alloc dfr) (.loop (rc .ready none)); rwa [World.size_alloc] at this
  have hp1 := (h0.new hn1).new hn2
  generalize hl : w.heap.size + 1 = l at *
  generalize hD : w.heap.size = D at *
  generalize hw1 : (w.alloc dfr).alloc (.loop (rc .ready none)) = w1 at *
  refine ⟨l, [markOf D], w1, { target := .fn (.func gf) caps, args := #[.func (.yield l) #[] #[]] }, w1, gf, #[.func (.yield l) #[] #[]] ++ caps, w1, ?_, ?_, fun _ _ => trivial, ?_, fun h => (by rw [fen_depth] at h; cases h), ?_⟩
  · have := run_enterLoop_outer (P := P) (w := w) fn a.tmps #[p] assign body
    rw [fen_round, this, ← hw1, hrc, ← hl, hD]
    rfl
  · simp only [resolve, hag, Deferred.ofValue, Sem.run_bind, Sem.run_pure, Result.andThen_ok]
    simp [Act.eval]
  · have := hE (#[.func (.yield l) #[] #[]] ++ caps) w1
    simp only [invoke]
    simpa using this
  · have hit' := hit w1 hp1.tail.tail l (fun i w' => ∃ s, Φ i s ∧ Hp w0 w' (.blk l (.loop (rc .ready none)) :: .blk D dfr :: Lσ s)) ⟨s₀, hΦ, hp1⟩ (fun i w' ⟨s, _, h⟩ => h.below) ?_
    · have hargs : (#[.func (.yield l) #[] #[]] ++ caps : Array Value) = (Value.func (.yield l) #[] #[] :: caps.toList).toArray := by rw [← Array.toList_inj]; simp
      rw [hargs]
      refine CallsIn.mono (fen_calls (ro := none) hit') ?_
      rintro en w2 ⟨v, rfl, s, hs, h2⟩
      have hlp := h2.obj 0 rfl
      refine ⟨none, w2.putObj l (.loop { rc .ready none with state := .exhausted }), by have h9 := run_endLoop (P := P) hlp (by rw [hrc]; simp); rw [hrc] at h9 ⊢; exact h9, ?_⟩
      have h3 := (h2.set 0 rfl rfl (setB_put hlp (o' := .loop { rc .ready none with state := .exhausted }))).tail
      refine ⟨_, ⟨ha.le, ha.size, ?_, ?_⟩, hk s D _ hs h3⟩
      · show markOf D :: a.defers = _
        rw [ha.defers]
        simp only [marks, Nat.beq_refl, dec_enc, List.map_cons]
      · intro t u ht
        rcases look_cons ht with ⟨_, h, _⟩ | ⟨_, h⟩
        · exact absurd rfl h
        · exact ha.slot t u h
    · rintro i x w2 hx ⟨s, hs, h2⟩
      have hlp := h2.obj 0 rfl
      have hy := run_yield (P := P) (args := #[x]) hlp (by rw [hrc]; rfl)
      refine ⟨_, _, _, _, hy, roundIn_of_wpIn (F := Fence.wide) trivial ?_⟩
      have hkn : Kn n ((p, x) :: e') { tmps := ((rc .ready none).params.zip #[x]).foldl (fun tmps (t, a) => tmps.setIfInBounds t a) (rc .ready none).tmps, defers := [] } := by
        have hk1 : Kn n e' { tmps := a.tmps, defers := [] } := ⟨ha.le, ha.size, by rw [marks_none he'.none]; rfl, fun t v ht => ha.slot t v (he'.look t v ht)⟩
        have := hk1.put (v := x) hp
        rw [hrc]
        simpa [Act.put] using this
      have hb := hbody i x s l D (rc .ready none) w2 hx hs h2 _ hkn
      rw [hrc] at hb ⊢
      refine wpIn_mono hb ?_
      intro ex a1 w3 hq
      cases ex with
      | normal =>
        obtain ⟨e1, hk1, L1, h3, hbd⟩ := hq
        have hlp3 := h3.obj 0 rfl
        refine ⟨_, run_beginRound hlp3 rfl, ?_⟩
        have h4 := h3.set 0 rfl rfl (setB_put hlp3 (o' := .loop { { state := .ready, pending := none, fn, tmps := a.tmps, params := #[p], assign, body, defers := D : Loop } with state := .busy }))
        refine wpIn_mono (hbd _ _ h4 _ hk1) ?_
        intro ex2 a2 w4 hq2
        cases ex2 with
        | normal =>
          obtain ⟨e2, hk2, s', hs', h5⟩ := hq2
          have hlp5 := h5.obj 0 rfl
          refine ⟨_, _, run_endRound none hlp5, _, rfl, rfl, s', hs', ?_⟩
          exact h5.set 0 rfl rfl (setB_put hlp5)
        | ret => obtain ⟨_, _, hf⟩ := hq2; exact hf.elim
        | exit i => obtain ⟨_, _, hf⟩ := hq2; exact hf.elim
        | panic ch => exact hq2.2.elim
        | goto l => exact hq2.elim
        | outgrown => exact hq2.elim
      | ret => obtain ⟨_, _, hf⟩ := hq; exact hf.elim
      | exit i => obtain ⟨_, _, hf⟩ := hq; exact hf.elim
      | panic ch => exact hq.2.elim
      | goto l => exact hq.elim
      | outgrown => exact hq.elim
end
end Go.W
