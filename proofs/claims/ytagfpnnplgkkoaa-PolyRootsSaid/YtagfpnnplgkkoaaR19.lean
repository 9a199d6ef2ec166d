/- Ranges over functions that yield two values. -/
import Derived.Test.YtagfpnnplgkkoaaR18
namespace Go.W
open Go.RowKit
section
variable {P : Program} {n : Nat} {N R : Nor} {X : Ext} {Z : Pan} {e : Env} {w : World}
/-- What an iterator does: it hands the values xs to yield, one after the other. -/
def Iter2 (P : Program) (gf : FuncId) (caps : List Value) (xs : List (Value × Value)) (C : World → Prop) (w1 : World) : Prop :=
  ∀ (l : Nat) (I : Nat → World → Prop), I 0 w1 → (∀ i w', I i w' → C w') →
    (∀ (i : Nat) (x : Value × Value) (w' : World), xs[i]? = some x → I i w' → Yld P l [x.1, x.2] w' fun v w'' => v = .bool true ∧ I (i + 1) w'') →
    Ret P gf (.func (.yield l) #[] #[] :: caps) w1 fun _ w' => I xs.length w'

theorem WC.rangeF2 {gop : Operand} {p p2 : Nat} {assign body : Code} {gf : FuncId} {caps : Array Value} {w0 : World} (xs : List (Value × Value))
    (σ : Type) (Lσ : σ → List Ent) (Φ : Nat → σ → Prop) (s₀ : σ) (e' : Env)
    (hg : opv e gop = some (.func (.func gf) #[] caps)) (hE : Ents P gf) (hp : Nat.blt p n = true) (hp2 : Nat.blt p2 n = true) (he' : SubL e' e)
    (h0 : Hp w0 w (Lσ s₀)) (hΦ : Φ 0 s₀) (C : World → Prop) (hC : ∀ w' L1 s, Hp w0 w' (L1 ++ Lσ s) → C w')
    (hit : ∀ w1, Hp w0 w1 (Lσ s₀) → Iter2 P gf caps.toList xs C w1)
    (hbody : ∀ (i : Nat) (x : Value × Value) (s : σ) (l D : Nat) (o : Loop) (w' : World), xs[i]? = some x → Φ i s → Hp w0 w' (.blk l (.loop o) :: .blk D dfr :: Lσ s) →
      WC P (some l) n assign (fun e1 w1 => ∃ L1, Hp w0 w1 (.blk l (.loop o) :: .blk D dfr :: L1) ∧ ∀ o' w2, Hp w0 w2 (.blk l (.loop o') :: .blk D dfr :: L1) →
        WC P (some l) n body (fun _ w3 => ∃ s', Φ (i + 1) s' ∧ Hp w0 w3 (.blk l (.loop o') :: .blk D dfr :: Lσ s')) (fun _ _ => False) (fun _ _ _ => False) (fun _ _ => False) e1 w2)
        (fun _ _ => False) (fun _ _ _ => False) (fun _ _ => False) ((p2, x.2) :: (p, x.1) :: e') w')
    (hk : ∀ s D w', Φ xs.length s → Hp w0 w' (.blk D dfr :: Lσ s) → N ((1000000000, enc (D :: marks e)) :: e) w') :
    WC P none n (.rangeFunc gop #[p, p2] assign body) N R X Z e w := by
  intro a ha
  have hag := ha.agree gop _ hg
  refine wpIn_rangeFunc ?_
  intro fn _
  obtain ⟨rc, hrc⟩ : ∃ rc : LoopState → Option Code → Loop, rc = fun st pe => { state := st, pending := pe, fn, tmps := a.tmps, params := #[p, p2], assign, body, defers := w.heap.size } := ⟨_, rfl⟩
  have hn1 : NewB w w.heap.size dfr (w.alloc dfr) := newB w dfr
  have hn2 : NewB (w.alloc dfr) (w.heap.size + 1) (.loop (rc .ready none)) ((w.alloc dfr).alloc (.loop (rc .ready none))) := by
    have := newB (w.alloc dfr) (.loop (rc .ready none)); rwa [World.size_alloc] at this
  have hp1 := (h0.new hn1).new hn2
  generalize hl : w.heap.size + 1 = l at *
  generalize hD : w.heap.size = D at *
  generalize hw1 : (w.alloc dfr).alloc (.loop (rc .ready none)) = w1 at *
  refine ⟨l, [markOf D], w1, { target := .fn (.func gf) caps, args := #[.func (.yield l) #[] #[]] }, w1, gf, #[.func (.yield l) #[] #[]] ++ caps, w1, ?_, ?_, fun _ _ => trivial, ?_, fun h => (by rw [fen_depth] at h; cases h), ?_⟩
  · have := run_enterLoop_outer (P := P) (w := w) fn a.tmps #[p, p2] assign body
    rw [fen_round, this, ← hw1, hrc, ← hl, hD]
    rfl
  · simp only [resolve, hag, Deferred.ofValue, Sem.run_pure]
    simp [Act.eval]
  · have := hE (#[.func (.yield l) #[] #[]] ++ caps) w1
    simp only [invoke]
    simpa using this
  · have hit' := hit w1 hp1.tail.tail l (fun i w' => ∃ s, Φ i s ∧ Hp w0 w' (.blk l (.loop (rc .ready none)) :: .blk D dfr :: Lσ s)) ⟨s₀, hΦ, hp1⟩ (fun i w' ⟨s, _, h⟩ => hC w' [_, _] s h) ?_
    · have hargs : (#[.func (.yield l) #[] #[]] ++ caps : Array Value) = (Value.func (.yield l) #[] #[] :: caps.toList).toArray := by rw [← Array.toList_inj]; simp
      rw [hargs]
      refine CallsIn.mono (fen_calls (ro := none) hit') ?_
      rintro en w2 ⟨v, rfl, s, hs, h2⟩
      have hlp := h2.obj 0 rfl
      refine ⟨none, w2.putObj l (.loop { rc .ready none with state := .exhausted }), by have h9 := run_endLoop (P := P) hlp (by rw [hrc]; simp); rw [hrc] at h9 ⊢; exact h9, ?_⟩
      have h3 := (h2.set 0 rfl rfl (setB_put hlp (o' := .loop { rc .ready none with state := .exhausted }))).tail
      refine ⟨_, ⟨ha.le, ha.size, ?_, ?_⟩, hk s D _ hs h3⟩
      · show markOf D :: a.defers = _
        rw [ha.defers]
        simp only [marks, dec_enc, List.map_cons]
      · intro t u ht
        rcases look_cons ht with ⟨_, h, _⟩ | ⟨_, h⟩
        · exact absurd rfl h
        · exact ha.slot t u h
    · rintro i x w2 hx ⟨s, hs, h2⟩
      have hlp := h2.obj 0 rfl
      have hy := run_yield (P := P) (args := #[x.1, x.2]) hlp (by rw [hrc]; rfl)
      refine ⟨_, _, _, _, hy, roundIn_of_wpIn (F := Fence.wide) trivial ?_⟩
      have hkn : Kn n ((p2, x.2) :: (p, x.1) :: e') { tmps := ((rc .ready none).params.zip #[x.1, x.2]).foldl (fun tmps (t, a) => tmps.setIfInBounds t a) (rc .ready none).tmps, defers := [] } := by
        have hk1 : Kn n e' { tmps := a.tmps, defers := [] } := ⟨ha.le, ha.size, by rw [marks_none he'.none]; rfl, fun t v ht => ha.slot t v (he'.look t v ht)⟩
        have := (hk1.put (v := x.1) hp).put (v := x.2) hp2
        rw [hrc]
        simpa [Act.put] using this
      have hb := hbody i x s l D (rc .ready none) w2 hx hs h2 _ hkn
      rw [hrc] at hb ⊢
      refine wpIn_mono hb ?_
      intro ex a1 w3 hq
      cases ex with
      | normal =>
        obtain ⟨e1, hk1, L1, h3, hbd⟩ := hq
        have hlp3 := h3.obj 0 rfl
        refine ⟨_, run_beginRound hlp3 rfl, ?_⟩
        have h4 := h3.set 0 rfl rfl (setB_put hlp3 (o' := .loop { { state := .ready, pending := none, fn, tmps := a.tmps, params := #[p, p2], assign, body, defers := D : Loop } with state := .busy }))
        refine wpIn_mono (hbd _ _ h4 _ hk1) ?_
        intro ex2 a2 w4 hq2
        cases ex2 with
        | normal =>
          obtain ⟨e2, hk2, s', hs', h5⟩ := hq2
          have hlp5 := h5.obj 0 rfl
          refine ⟨_, _, run_endRound none hlp5, _, rfl, rfl, s', hs', ?_⟩
          exact h5.set 0 rfl rfl (setB_put hlp5)
        | ret => obtain ⟨_, _, hf⟩ := hq2; exact hf.elim
        | exit i => obtain ⟨_, _, hf⟩ := hq2; exact hf.elim
        | panic ch => exact hq2.2.elim
        | goto l => exact hq2.elim
        | outgrown => exact hq2.elim
      | ret => obtain ⟨_, _, hf⟩ := hq; exact hf.elim
      | exit i => obtain ⟨_, _, hf⟩ := hq; exact hf.elim
      | panic ch => exact hq.2.elim
      | goto l => exact hq.elim
      | outgrown => exact hq.elim
end
end Go.W

namespace Go.Proofs.Ytagfpnnplgkkoaa
open Go.W Go.Poly Go.Tree Go.RowKit
set_option maxRecDepth 100000
attribute [local irreducible] WC WL WQ WS WH

/-- What going backward yields. -/
def bks (f : List Nat) : List (Value × Value) := (List.range f.length).map fun k => (.int .i64 (f.length - 1 - k : Nat), .int .i64 (co f (f.length - 1 - k) : Nat))
theorem bks_len (f : List Nat) : (bks f).length = f.length := by simp [bks]
theorem bks_at {f : List Nat} {k : Nat} (h : k < f.length) : (bks f)[k]? = some (.int .i64 (f.length - 1 - k : Nat), .int .i64 (co f (f.length - 1 - k) : Nat)) := by simp [bks, h]

theorem back1_iter (b : Nat) (a : Option Addr) (c : Nat) (f : List Nat) (hl : f.length ≤ 1000) (w1 : World) (hc : w1.cell? ⟨b, 0, none⟩ = some (.slice a f.length c) ∧ Sl w1 a (ints f)) :
    Iter2 Try.prog 96 [.pointer (some ⟨b, 0, none⟩)] (bks f) (fun w' => w'.cell? ⟨b, 0, none⟩ = some (.slice a f.length c) ∧ Sl w' a (ints f)) w1 := by
  intro l I h0 hC hround
  have e0 : IntKind.i64.wrap ((f.length : Int) - 1) = (f.length : Int) - 1 := wrap_mid (by omega) (by omega)
  refine enter Try.func96 rfl rfl ⟨rfl, rfl⟩ rfl ?_
  repeat (first | refine WC.seq ?_ | refine WC.reg ?_ | refine WL.pure rfl rfl rfl ?_ | refine WL.nil ?_ | refine WC.skip ?_ | refine WC.block ?_ | refine WC.condT rfl ?_ | refine WC.condF rfl ?_ | refine WL.off rfl rfl rfl ?_ | refine WL.off0 rfl rfl ?_ | refine WC.exit ?_ | refine blk_hit ?_ | refine blk_miss rfl ?_ | refine WC.ret ?_)
  refine WL.load rfl rfl rfl rfl rfl hc.1 ?_
  repeat (first | refine WC.seq ?_ | refine WC.reg ?_ | refine WL.pure rfl rfl rfl ?_ | refine WL.nil ?_ | refine WC.skip ?_ | refine WC.block ?_ | refine WC.condT rfl ?_ | refine WC.condF rfl ?_ | refine WL.off rfl rfl rfl ?_ | refine WL.off0 rfl rfl ?_ | refine WC.exit ?_ | refine blk_hit ?_ | refine blk_miss rfl ?_ | refine WC.ret ?_)
  refine WC.loop Nat (fun m => [(0, .func (.yield l) #[] #[]), (1, .pointer (some ⟨b, 0, none⟩)), (3, .int .i64 ((m : Int) - 1))]) (fun m w' => m ≤ f.length ∧ I (f.length - m) w') (fun m => m) f.length
    ⟨rfl, rfl, congrArg (fun z => some (Value.int .i64 z)) e0, rfl⟩ ⟨Nat.le_refl _, by rw [Nat.sub_self]; exact h0⟩ ?_
  rintro m w2 ⟨hm, hI⟩
  repeat (first | refine WC.seq ?_ | refine WC.reg ?_ | refine WL.pure rfl rfl rfl ?_ | refine WL.nil ?_ | refine WC.skip ?_ | refine WC.block ?_ | refine WC.condT rfl ?_ | refine WC.condF rfl ?_ | refine WL.off rfl rfl rfl ?_ | refine WL.off0 rfl rfl ?_ | refine WC.exit ?_ | refine blk_hit ?_ | refine blk_miss rfl ?_ | refine WC.ret ?_)
  refine WC.cond rfl (fun h => ?_) (fun h => ?_)
  · have hm0 : 0 < m := by have := of_decide_eq_true h; omega
    obtain ⟨k, rfl⟩ : ∃ k, m = k + 1 := ⟨m - 1, by omega⟩
    have ek : ((k + 1 : Nat) : Int) - 1 = ((k : Nat) : Int) := by omega
    have step : IntKind.i64.wrap ((((k + 1 : Nat) : Int) - 1) - 1) = ((k : Nat) : Int) - 1 := by rw [ek]; exact wrap_mid (by omega) (by omega)
    have hC2 := hC _ _ hI
    have hat := bks_at (f := f) (k := f.length - (k + 1)) (by omega)
    rw [show f.length - 1 - (f.length - (k + 1)) = k by omega] at hat
    repeat (first | refine WC.seq ?_ | refine WC.reg ?_ | refine WL.pure rfl rfl rfl ?_ | refine WL.nil ?_ | refine WC.skip ?_ | refine WC.block ?_ | refine WC.condT rfl ?_ | refine WC.condF rfl ?_ | refine WL.off rfl rfl rfl ?_ | refine WL.off0 rfl rfl ?_ | refine WC.exit ?_ | refine blk_hit ?_ | refine blk_miss rfl ?_ | refine WC.ret ?_)
    refine WL.load rfl rfl rfl rfl rfl hC2.1 ?_
    repeat (first | refine WC.seq ?_ | refine WC.reg ?_ | refine WL.pure rfl rfl rfl ?_ | refine WL.nil ?_ | refine WC.skip ?_ | refine WC.block ?_ | refine WC.condT rfl ?_ | refine WC.condF rfl ?_ | refine WL.off rfl rfl rfl ?_ | refine WL.off0 rfl rfl ?_ | refine WC.exit ?_ | refine blk_hit ?_ | refine blk_miss rfl ?_ | refine WC.ret ?_)
    refine WL.known (d := 14) (congrArg (fun z => some (Value.int .i64 z)) ek) ?_
    refine WL.ixload rfl (fun _ => rfl) rfl rfl rfl rfl rfl rfl rfl (show k < f.length by omega) rfl rfl hC2.2 (ints_at (show k < f.length by omega)) ?_
    intro pa
    refine WL.known (d := 12) (congrArg (fun z => some (Value.int .i64 z)) ek) ?_
    refine WL.yld rfl rfl rfl rfl (hround _ _ w2 hat hI) ?_
    rintro v w3 ⟨rfl, hI2⟩
    repeat (first | refine WC.seq ?_ | refine WC.reg ?_ | refine WL.pure rfl rfl rfl ?_ | refine WL.nil ?_ | refine WC.skip ?_ | refine WC.block ?_ | refine WC.condT rfl ?_ | refine WC.condF rfl ?_ | refine WL.off rfl rfl rfl ?_ | refine WL.off0 rfl rfl ?_ | refine WC.exit ?_ | refine blk_hit ?_ | refine blk_miss rfl ?_ | refine WC.ret ?_)
    refine ⟨k, by show k < k + 1; omega, ⟨rfl, rfl, congrArg (fun z => some (Value.int .i64 z)) step, rfl⟩, by omega, ?_⟩
    rw [show f.length - (k + 1) + 1 = f.length - k by omega] at hI2
    exact hI2
  · have hm0 : m = 0 := by have := of_decide_eq_false h; omega
    subst hm0
    repeat (first | refine WC.seq ?_ | refine WC.reg ?_ | refine WL.pure rfl rfl rfl ?_ | refine WL.nil ?_ | refine WC.skip ?_ | refine WC.block ?_ | refine WC.condT rfl ?_ | refine WC.condF rfl ?_ | refine WL.off rfl rfl rfl ?_ | refine WL.off0 rfl rfl ?_ | refine WC.exit ?_ | refine blk_hit ?_ | refine blk_miss rfl ?_ | refine WC.ret ?_)
    refine Res.zero rfl rfl ?_
    rw [bks_len]; exact hI

theorem back_any (a : Option Addr) (n c : Nat) (w : World) : Ret Try.prog 77 [.slice a n c] w fun v w' => ∃ b, NewB w b (.cells #[.slice a n c] 22 (0, 0)) w' ∧ v = .func (.func 96) #[] #[.pointer (some ⟨b, 0, none⟩)] := by
  refine enter Try.func77 rfl rfl ⟨rfl, rfl⟩ rfl ?_
  repeat (first | refine WC.seq ?_ | refine WC.reg ?_ | refine WL.pure rfl rfl rfl ?_ | refine WL.nil ?_ | refine WC.skip ?_ | refine WC.block ?_ | refine WC.condT rfl ?_ | refine WC.condF rfl ?_ | refine WL.off rfl rfl rfl ?_ | refine WL.off0 rfl rfl ?_ | refine WC.exit ?_ | refine blk_hit ?_ | refine blk_miss rfl ?_ | refine WC.ret ?_)
  refine WL.box rfl rfl rfl ?_
  intro b w1 hb
  repeat (first | refine WC.seq ?_ | refine WC.reg ?_ | refine WL.pure rfl rfl rfl ?_ | refine WL.nil ?_ | refine WC.skip ?_ | refine WC.block ?_ | refine WC.condT rfl ?_ | refine WC.condF rfl ?_ | refine WL.off rfl rfl rfl ?_ | refine WL.off0 rfl rfl ?_ | refine WC.exit ?_ | refine blk_hit ?_ | refine blk_miss rfl ?_ | refine WC.ret ?_)
  exact Res.one rfl rfl rfl ⟨b, hb, rfl⟩

theorem value_pd (p x : Nat) (vf : Value) (f : List Nat) (hp0 : 0 < p) (hp : p ≤ 1021) (hf : IsP p f) (hx : x < p) (hlf : f.length ≤ 1000) (w : World) (sf : Pd w vf f) :
    Ret Try.prog 50 [.int .i64 (p : Nat), vf, .int .i64 (x : Nat)] w fun u w' => u = .int .i64 (valL p f x : Nat) ∧ Hp w w' [] := by
  obtain ⟨a, c, rfl, sf, _⟩ := sf
  refine enterM Try.func50 rfl rfl ⟨rfl, rfl⟩ rfl ?_
  repeat (first | refine WC.seq ?_ | refine WC.reg ?_ | refine WL.pure rfl rfl rfl ?_ | refine WL.nil ?_ | refine WC.skip ?_ | refine WC.block ?_ | refine WC.condT rfl ?_ | refine WC.condF rfl ?_ | refine WL.off rfl rfl rfl ?_ | refine WL.off0 rfl rfl ?_ | refine WC.exit ?_ | refine blk_hit ?_ | refine blk_miss rfl ?_ | refine WC.ret ?_)
  refine WL.box rfl rfl rfl ?_
  intro b3 w1 hb3
  have hp1 := (Hp.start w).new hb3
  refine WL.box rfl rfl rfl ?_
  intro b5 w2 hb5
  have hp2 := hp1.new hb5
  repeat (first | refine WC.seq ?_ | refine WC.reg ?_ | refine WL.pure rfl rfl rfl ?_ | refine WL.nil ?_ | refine WC.skip ?_ | refine WC.block ?_ | refine WC.condT rfl ?_ | refine WC.condF rfl ?_ | refine WL.off rfl rfl rfl ?_ | refine WL.off0 rfl rfl ?_ | refine WC.exit ?_ | refine blk_hit ?_ | refine blk_miss rfl ?_ | refine WC.ret ?_)
  refine WL.var rfl rfl rfl (fun _ => rfl) rfl rfl (by intro y hy; simp [Value.cells] at hy; subst hy; rfl) ?_
  intro b7 w3 hb7
  have hp3 := hp2.new hb7
  repeat (first | refine WC.seq ?_ | refine WC.reg ?_ | refine WL.pure rfl rfl rfl ?_ | refine WL.nil ?_ | refine WC.skip ?_ | refine WC.block ?_ | refine WC.condT rfl ?_ | refine WC.condF rfl ?_ | refine WL.off rfl rfl rfl ?_ | refine WL.off0 rfl rfl ?_ | refine WC.exit ?_ | refine blk_hit ?_ | refine blk_miss rfl ?_ | refine WC.ret ?_)
  refine WL.call rfl rfl rfl rfl rfl ent77 (back_any a f.length c w3) ?_
  rintro _ w4 ⟨b8, hb8, rfl⟩
  have hp4 := hp3.new hb8
  repeat (first | refine WC.seq ?_ | refine WC.reg ?_ | refine WL.pure rfl rfl rfl ?_ | refine WL.nil ?_ | refine WC.skip ?_ | refine WC.block ?_ | refine WC.condT rfl ?_ | refine WC.condF rfl ?_ | refine WL.off rfl rfl rfl ?_ | refine WL.off0 rfl rfl ?_ | refine WC.exit ?_ | refine blk_hit ?_ | refine blk_miss rfl ?_ | refine WC.ret ?_)
  refine WC.rangeF2 (bks f) Nat (fun y => [.blk b8 (.cells #[.slice a f.length c] 22 (0, 0)), .blk b7 (.cells #[.int .i64 (y : Nat)] 3 (0, 0)), .blk b5 (.cells #[.int .i64 (x : Nat)] 3 (0, 0)), .blk b3 (.cells #[.int .i64 (p : Nat)] 66 (0, 0))])
    (fun i y => y = valN p f x i) 0 [(3, .pointer (some ⟨b3, 0, none⟩)), (5, .pointer (some ⟨b5, 0, none⟩)), (7, .pointer (some ⟨b7, 0, none⟩))] rfl ent96 rfl rfl ⟨rfl, rfl, rfl, trivial⟩ hp4 rfl
    (fun w' => w'.cell? ⟨b8, 0, none⟩ = some (.slice a f.length c) ∧ Sl w' a (ints f)) ?_ ?_ ?_ ?_
  · intro w' L1 y h
    refine ⟨?_, sf.hp h⟩
    have hm := h.sat (.blk b8 (.cells #[.slice a f.length c] 22 (0, 0))) (by simp)
    exact cell_of_obj hm.2 rfl
  · intro w5 hp5
    exact back1_iter b8 a c f hlf w5 ⟨cell_of_obj (hp5.obj 0 rfl) rfl, sf.hp hp5⟩
  · rintro i xx y l D o w5 hx2 rfl hp5
    have hi : i < f.length := by
      have := (List.getElem?_eq_some_iff.1 hx2).1
      rwa [bks_len] at this
    rw [bks_at hi] at hx2
    obtain rfl := Option.some.inj hx2
    have hv := valN_lt hp0 f x i
    have hc1 := hf.co hp0 (f.length - 1 - i)
    have hnext : valN p f x (i + 1) = (valN p f x i * x + co f (f.length - 1 - i)) % p := by
      rw [valN, show f.length - (i + 1) = f.length - 1 - i by omega]
    generalize valN p f x i = v at *
    have h1 : v * x ≤ 1021 * 1021 := Nat.mul_le_mul (by omega) (by omega)
    have ev : (IntKind.i64.wrap (IntKind.i64.wrap ((v : Int) * (x : Int)) + (co f (f.length - 1 - i) : Int))).tmod (p : Int) = (valN p f x (i + 1) : Int) := by
      rw [hnext, ← Int.natCast_mul]
      generalize v * x = z at *
      rw [wrap_mid (z := (z : Int)) (by omega) (by omega), wrap_mid (by omega) (by omega), ← Int.natCast_add, ← Int.ofNat_tmod]
    repeat (first | refine WC.seq ?_ | refine WC.reg ?_ | refine WL.pure rfl rfl rfl ?_ | refine WL.nil ?_ | refine WC.skip ?_ | refine WC.block ?_ | refine WC.condT rfl ?_ | refine WC.condF rfl ?_ | refine WL.off rfl rfl rfl ?_ | refine WL.off0 rfl rfl ?_ | refine WC.exit ?_ | refine blk_hit ?_ | refine blk_miss rfl ?_ | refine WC.ret ?_)
    refine ⟨_, hp5, fun o' w6 hp6 => ?_⟩
    repeat (first | refine WC.seq ?_ | refine WC.reg ?_ | refine WL.pure rfl rfl rfl ?_ | refine WL.nil ?_ | refine WC.skip ?_ | refine WC.block ?_ | refine WC.condT rfl ?_ | refine WC.condF rfl ?_ | refine WL.off rfl rfl rfl ?_ | refine WL.off0 rfl rfl ?_ | refine WC.exit ?_ | refine blk_hit ?_ | refine blk_miss rfl ?_ | refine WC.ret ?_)
    refine WL.loadB rfl rfl rfl rfl rfl (hp6.obj 3 rfl) rfl ?_
    refine WL.loadB rfl rfl rfl rfl rfl (hp6.obj 4 rfl) rfl ?_
    repeat (first | refine WC.seq ?_ | refine WC.reg ?_ | refine WL.pure rfl rfl rfl ?_ | refine WL.nil ?_ | refine WC.skip ?_ | refine WC.block ?_ | refine WC.condT rfl ?_ | refine WC.condF rfl ?_ | refine WL.off rfl rfl rfl ?_ | refine WL.off0 rfl rfl ?_ | refine WC.exit ?_ | refine blk_hit ?_ | refine blk_miss rfl ?_ | refine WC.ret ?_)
    refine WL.loadB rfl rfl rfl rfl rfl (hp6.obj 5 rfl) rfl ?_
    refine WL.rem rfl rfl rfl rfl (by omega) ?_
    refine WL.known (d := 20) (congrArg (fun z => some (Value.int .i64 z)) ev) ?_
    refine WL.store rfl rfl rfl rfl rfl rfl (hp6.obj 3 rfl) (show 0 < 1 by decide) (fun w7 hw7 => ?_)
    have hp7 := hp6.set 3 rfl rfl hw7
    repeat (first | refine WC.seq ?_ | refine WC.reg ?_ | refine WL.pure rfl rfl rfl ?_ | refine WL.nil ?_ | refine WC.skip ?_ | refine WC.block ?_ | refine WC.condT rfl ?_ | refine WC.condF rfl ?_ | refine WL.off rfl rfl rfl ?_ | refine WL.off0 rfl rfl ?_ | refine WC.exit ?_ | refine blk_hit ?_ | refine blk_miss rfl ?_ | refine WC.ret ?_)
    exact ⟨_, rfl, hp7⟩
  · rintro y D w5 hy hp5
    rw [bks_len] at hy
    subst hy
    repeat (first | refine WC.seq ?_ | refine WC.reg ?_ | refine WL.pure rfl rfl rfl ?_ | refine WL.nil ?_ | refine WC.skip ?_ | refine WC.block ?_ | refine WC.condT rfl ?_ | refine WC.condF rfl ?_ | refine WL.off rfl rfl rfl ?_ | refine WL.off0 rfl rfl ?_ | refine WC.exit ?_ | refine blk_hit ?_ | refine blk_miss rfl ?_ | refine WC.ret ?_)
    refine WL.loadB rfl rfl rfl rfl rfl (hp5.obj 2 rfl) rfl ?_
    repeat (first | refine WC.seq ?_ | refine WC.reg ?_ | refine WL.pure rfl rfl rfl ?_ | refine WL.nil ?_ | refine WC.skip ?_ | refine WC.block ?_ | refine WC.condT rfl ?_ | refine WC.condF rfl ?_ | refine WL.off rfl rfl rfl ?_ | refine WL.off0 rfl rfl ?_ | refine WC.exit ?_ | refine blk_hit ?_ | refine blk_miss rfl ?_ | refine WC.ret ?_)
    have hp6 : Hp w w5 (.many (dfrs [D]) :: _) := hp5.single
    exact ResM.one (ds := [D]) rfl rfl rfl hp6 (fun w6 hp7 => ⟨rfl, hp7.nil'⟩)
end Go.Proofs.Ytagfpnnplgkkoaa
