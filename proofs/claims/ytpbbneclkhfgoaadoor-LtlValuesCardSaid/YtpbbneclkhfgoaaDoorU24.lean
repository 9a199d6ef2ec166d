/- ltl, twenty-fourth: way. -/
import Derived.Test.YtpbbneclkhfgoaaDoorU23
namespace Go.W
open Go.RowKit
theorem Hp.rowSome {w0 w : World} {L : List Ent} {E s n c : Nat} {a : Option Addr} {xs : List Value} (h : Hp w0 w L) (i : Nat) (hi : nth L i = some (.row E s (.slice a n c) n xs)) (hn : 0 < n) : ∃ b, a = some ⟨b, 0, none⟩ := by
  obtain ⟨_, ⟨_, h0⟩ | ⟨b, _, _, hv, _⟩⟩ := h.at i hi
  · omega
  · simp only [Value.slice.injEq] at hv
    exact ⟨b, hv.1⟩
end Go.W
namespace Go.Ltl
open Go.W
/-- What is known of who was before whom, and of the states still to look at. -/
structure BefOk (N : Nat) (B : Bef) (q : List Nat) : Prop where
  nd : (B.map (·.1)).Nodup
  key : ∀ p ∈ B, p.1 < N
  qb : ∀ x ∈ q, x < N
  len : q.length ≤ B.length
theorem lkB_none {B : Bef} {u : Nat} (h : lkB B u = none) : u ∉ B.map (·.1) := by
  induction B with
  | nil => simp
  | cons p r ih =>
    unfold lkB at h
    split at h
    · cases h
    · rename_i hk
      simp only [List.map_cons, List.mem_cons, not_or]
      exact ⟨hk, ih h⟩
theorem BefOk.small {N : Nat} {B : Bef} {q : List Nat} (h : BefOk N B q) : q.length ≤ N := by
  have h1 := h.nd.length_le_of_subset (l₂ := List.range N) (fun x hx => by
    obtain ⟨p, hp, rfl⟩ := List.mem_map.1 hx
    exact List.mem_range.2 (h.key p hp))
  rw [List.length_map, List.length_range] at h1
  exact Nat.le_trans h.len h1
theorem BefOk.add {N : Nat} {B : Bef} {q : List Nat} (h : BefOk N B q) {u : Nat} {par : Int} (hu : u < N) (hn : lkB B u = none) : BefOk N (B ++ [(u, par)]) (q ++ [u]) := by
  refine ⟨?_, ?_, ?_, by simp [h.len]⟩
  · rw [List.map_append, List.nodup_append]
    refine ⟨h.nd, by simp, ?_⟩
    intro a ha b hb e
    simp only [List.map_cons, List.map_nil, List.mem_singleton] at hb
    subst hb
    subst e
    exact lkB_none hn ha
  · intro p hp
    rcases List.mem_append.1 hp with hp | hp
    · exact h.key p hp
    · rw [List.mem_singleton.1 hp]; exact hu
  · intro x hx
    rcases List.mem_append.1 hx with hx | hx
    · exact h.qb x hx
    · rw [List.mem_singleton.1 hx]; exact hu
theorem BefOk.tail {N : Nat} {B : Bef} {v : Nat} {q : List Nat} (h : BefOk N B (v :: q)) : BefOk N B q := ⟨h.nd, h.key, fun x hx => h.qb x (List.mem_cons_of_mem _ hx), by have := h.len; simp only [List.length_cons] at this; omega⟩
theorem addM_no {may : Nat → Bool} {par : Int} {B : Bef} {q : List Nat} {u : Nat} (h : ¬ ((lkB B u).isNone && may u) = true) : addM may par (B, q) u = (B, q) := by unfold addM; rw [if_neg h]
theorem addM_yes {may : Nat → Bool} {par : Int} {B : Bef} {q : List Nat} {u : Nat} (h : ((lkB B u).isNone && may u) = true) : addM may par (B, q) u = (B ++ [(u, par)], q ++ [u]) := by unfold addM; rw [if_pos h]
theorem backM_ne {B : Bef} : ∀ (f v : Nat) (out l : List Nat), out ≠ [] → backM B f v out = some l → l ≠ [] := by
  intro f
  induction f with
  | zero =>
    intro v out l h1 h
    unfold backM at h
    split at h
    · cases h
    · simp only [Option.some.injEq] at h; rw [← h]; exact h1
  | succ f ih =>
    intro v out l h1 h
    unfold backM at h
    split at h
    · exact ih _ _ _ (List.cons_ne_nil _ _) h
    · simp only [Option.some.injEq] at h; rw [← h]; exact h1
theorem backM_go {B : Bef} {f v : Nat} {out l : List Nat} (h : backM B f v out = some l) (hx : 0 ≤ (lkB B v).getD 0) : ∃ f0, f = f0 + 1 ∧ backM B f0 ((lkB B v).getD 0).toNat (((lkB B v).getD 0).toNat :: out) = some l := by
  cases f with
  | zero => unfold backM at h; rw [if_pos hx] at h; cases h
  | succ f => unfold backM at h; rw [if_pos hx] at h; exact ⟨f, rfl, h⟩
theorem backM_end {B : Bef} {f v : Nat} {out l : List Nat} (h : backM B f v out = some l) (hx : ¬ 0 ≤ (lkB B v).getD 0) : out = l := by
  cases f with
  | zero => unfold backM at h; rw [if_neg hx] at h; simpa using h
  | succ f => unfold backM at h; rw [if_neg hx] at h; simpa using h
end Go.Ltl
namespace Go.Proofs.YtpbbneclkhfgoaaDoor
open Go.W Go.Ltl Go.RowKit
set_option maxRecDepth 100000
attribute [local irreducible] WC WL WQ WS WH

def bV (B : Bef) : List (Int × Value) := B.map fun p => ((p.1 : Int), Value.int .i64 p.2)
theorem lkB_get (B : Bef) (k : Nat) : lkB B k = kGet B k := by
  induction B with
  | nil => rfl
  | cons p r ih => unfold lkB kGet; rw [ih]
theorem bV_get (B : Bef) (k : Nat) : kGet (bV B) (k : Int) = (lkB B k).map (Value.int .i64) := by
  rw [lkB_get]
  exact kGet_map (fun (n : Nat) => (n : Int)) (Value.int .i64) (fun a b h => Int.ofNat_inj.1 h) B k
theorem bV_put {B : Bef} {k : Nat} (x : Int) (h : lkB B k = none) : kPut (bV B) (k : Int) (Value.int .i64 x) = bV (B ++ [(k, x)]) := by
  rw [kPut_none _ _ _ (by rw [bV_get, h]; rfl)]
  simp [bV]
abbrev mE (mb : Nat) (B : Bef) : Ent := .blk mb (mapO iKey (bV B))
section
variable {P : Program} [T : TT P] {ro : Option Nat} {n : Nat} {l0 rest : List Oper} {N : Nor} {Z : Pan} {e : Env} {w : World} {ty : TypeId} {pos : String} {aft : Array Edge} {g : Option (Nat × Bool)}
/-- append of a number to a queue of numbers. -/
theorem WL.appN {d : Nat} {s y : Operand} {t : TypeId} {i : TI} {z : Value} {s0 b0 : Nat} {w0 : World} {A Q : List Ent} {qa : Option Addr} {qc u : Nat} {q : List Nat} {a : Addr} {c : Nat}
    (hg : grd l0 e g = some true) (hd : Nat.blt d n = true) (ht : T.ti t = some ⟨.slice 3, z, s0, b0⟩) (hi : T.ti 3 = some i) (hzs : i.zero.cells.size = 1) (hsz : i.size = 1)
    (hsv : opv e s = some (.slice qa q.length qc)) (hyv : opv e y = some (.slice (some a) 1 c)) (hp : Hp w0 w (A ++ Q)) (hq : Quo 3 (.slice qa q.length qc) (natL q) Q) (hx : w.cell? a = some (.int .i64 (u : Nat))) (hn : q.length ≤ 1000000000) (hb : i.bytes ≤ 16)
    (h : ∀ qa' qc' w' Q', Hp w0 w' (A ++ Q') → Quo 3 (.slice qa' (q ++ [u]).length qc') (natL (q ++ [u])) Q' → Go.W.WL P ro n l0 N Z rest ((d, .slice qa' (q ++ [u]).length qc') :: e) w') :
    Go.W.WL P ro n l0 N Z (⟨some d, .call ⟨.builtin .append, #[s, y], #[t, t]⟩, ty, pos, aft, g⟩ :: rest) e w := by
  refine Go.W.WL.appQ hg hd ht hi hzs hsz hsv hyv hp hq hx rfl (by rw [natL_len]; exact hn) hb ?_
  intro v' w' Q' hp' hq'
  rw [show natL q ++ [Value.int .i64 (u : Nat)] = natL (q ++ [u]) from by simp [natL]] at hq'
  obtain ⟨a', c', rfl, _⟩ := hq'.shape
  rw [natL_len] at hq' ⊢
  exact h a' c' w' Q' hp' hq'
end
/-- What a way is answered by. -/
def WayR (r : Option (List Nat)) (w : World) (u : Value) (w' : World) : Prop := match r with
  | none => u = .slice none 0 0 ∧ Hp w w' []
  | some l => l ≠ [] ∧ ∃ b c, u = .slice (some ⟨b, 0, none⟩) l.length c ∧ Hp w w' [Rna (.slice (some ⟨b, 0, none⟩) l.length c) l.length l]
abbrev wyE (an : Option Addr) (cn N : Nat) (mf : FuncId) (mc : List Value) (ff : FuncId) (fc : List Value) (mb : Nat) (q : List Nat) (qa : Option Addr) (qc : Nat) : Env :=
  [(0, .slice an N cn), (2, .func (.func mf) #[] mc.toArray), (3, .func (.func ff) #[] fc.toArray), (9, .map (some mb)), (10, .slice qa q.length qc)]

theorem way_any (an : Option Addr) (cn N : Nat) (rs : Nrs) (w : World) (hN : rs.length = N) (hT : Tbl w an rs) (hn : N ≤ 65536) (hrow : ∀ x ∈ rs, x.2.2.length ≤ 1048576) (hin : ∀ x ∈ rs, ∀ u ∈ x.2.2, u < N)
    (fa : Option Addr) (fcap : Nat) (start : List Nat) (hS : Sl w fa (natL start)) (hsl : start.length ≤ 1048576) (hst : ∀ u ∈ start, u < N)
    (mf : FuncId) (mc : List Value) (may : Nat → Bool) (hmE : Ents Tryd.prog mf) (hmay : ∀ (v : Nat) w', v < N → Hp w w' [] → Ret Tryd.prog mf (.int .i64 (v : Nat) :: mc) w' fun u w'' => u = .bool (may v) ∧ Hp w' w'' [])
    (ff : FuncId) (fc : List Value) (fits : Nat → Bool) (hfE : Ents Tryd.prog ff) (hfits : ∀ (v : Nat) w', v < N → Hp w w' [] → Ret Tryd.prog ff (.int .i64 (v : Nat) :: fc) w' fun u w'' => u = .bool (fits v) ∧ Hp w' w'' [])
    (F : Nat) (hF : F ≤ 8589934592) (r : Option (List Nat)) (hM : wayM F (rsN rs) start may fits = some r) :
    Ret Tryd.prog 90 [.slice an N cn, .slice fa start.length fcap, .func (.func mf) #[] mc.toArray, .func (.func ff) #[] fc.toArray] w fun u w' => WayR r w u w' := by
  refine enter Tryd.func90 rfl rfl ⟨rfl, rfl⟩ rfl ?_
  repeat (first | refine WC.seq ?_ | refine WC.reg ?_ | refine WL.pure rfl rfl rfl ?_ | refine WL.nil ?_ | refine WC.skip ?_ | refine WC.block ?_ | refine WC.condT rfl ?_ | refine WC.condF rfl ?_ | refine WL.off rfl rfl rfl ?_ | refine WL.off0 rfl rfl ?_ | refine WC.exit ?_ | refine blk_hit ?_ | refine blk_miss rfl ?_ | refine WC.ret ?_)
  refine WL.makeMap rfl rfl ?_
  intro mb w1 h1
  have hp1 : Hp w w1 ([mE mb []] ++ []) := (Hp.start w).new h1
  repeat (first | refine WC.seq ?_ | refine WC.reg ?_ | refine WL.pure rfl rfl rfl ?_ | refine WL.nil ?_ | refine WC.skip ?_ | refine WC.block ?_ | refine WC.condT rfl ?_ | refine WC.condF rfl ?_ | refine WL.off rfl rfl rfl ?_ | refine WL.off0 rfl rfl ?_ | refine WC.exit ?_ | refine blk_hit ?_ | refine blk_miss rfl ?_ | refine WC.ret ?_)
  refine WC.loop (Nat × Bef × List Nat × Option Addr × Nat × List Ent) (fun (i, B, q, qa, qc, Q) => [(22, .slice fa start.length fcap), (23, .int .i64 (start.length : Nat)), (24, .int .i64 (i : Nat))] ++ wyE an cn N mf mc ff fc mb q qa qc)
    (fun (i, B, q, qa, qc, Q) w' => i ≤ start.length ∧ (start.take i).foldl (addM may (-1)) ([], []) = (B, q) ∧ BefOk N B q ∧ Quo 3 (.slice qa q.length qc) (natL q) Q ∧ Hp w w' ([mE mb B] ++ Q)) (fun (i, _) => start.length - i) (0, [], [], none, 0, []) ⟨rfl, rfl, rfl, rfl, rfl, rfl, rfl, rfl, rfl⟩
    ⟨Nat.zero_le _, rfl, ⟨List.nodup_nil, fun p h => (by cases h), fun p h => (by cases h), Nat.le_refl _⟩, Quo.nil _, hp1⟩ ?_
  clear hp1
  rintro ⟨i, B, q, qa, qc, Q⟩ w2 ⟨hi, hB, hok, hQ, hp2⟩
  replace hi : i ≤ start.length := hi
  replace hB : (start.take i).foldl (addM may (-1)) ([], []) = (B, q) := hB
  replace hok : BefOk N B q := hok
  replace hQ : Quo 3 (.slice qa q.length qc) (natL q) Q := hQ
  replace hp2 : Hp w w2 ([mE mb B] ++ Q) := hp2
  have hqs := hok.small
  repeat (first | refine WC.seq ?_ | refine WC.reg ?_ | refine WL.pure rfl rfl rfl ?_ | refine WL.nil ?_ | refine WC.skip ?_ | refine WC.block ?_ | refine WC.condT rfl ?_ | refine WC.condF rfl ?_ | refine WL.off rfl rfl rfl ?_ | refine WL.off0 rfl rfl ?_ | refine WC.exit ?_ | refine blk_hit ?_ | refine blk_miss rfl ?_ | refine WC.ret ?_)
  refine WC.cond rfl (fun c1 => ?_) (fun c1 => ?_)
  · have hi : i < start.length := by have := of_decide_eq_true c1; omega
    have step := wrap_succ (i := i) (n := i + 1) (by omega) (by omega)
    obtain ⟨u, hu⟩ : ∃ u, u = start[i] := ⟨_, rfl⟩
    have huN : u < N := by rw [hu]; exact hst _ (List.getElem_mem hi)
    have hB' : (start.take (i + 1)).foldl (addM may (-1)) ([], []) = addM may (-1) (B, q) u := by rw [List.take_succ_eq_append_getElem hi, List.foldl_append, hB, ← hu]; rfl
    repeat (first | refine WC.seq ?_ | refine WC.reg ?_ | refine WL.pure rfl rfl rfl ?_ | refine WL.nil ?_ | refine WC.skip ?_ | refine WC.block ?_ | refine WC.condT rfl ?_ | refine WC.condF rfl ?_ | refine WL.off rfl rfl rfl ?_ | refine WL.off0 rfl rfl ?_ | refine WC.exit ?_ | refine blk_hit ?_ | refine blk_miss rfl ?_ | refine WC.ret ?_)
    refine WL.ixload rfl (fun _ => rfl) rfl rfl rfl rfl rfl rfl rfl hi rfl rfl (hS.hp hp2) (natL_at hi) ?_
    intro q0
    rw [← hu]
    repeat (first | refine WC.seq ?_ | refine WC.reg ?_ | refine WL.pure rfl rfl rfl ?_ | refine WL.nil ?_ | refine WC.skip ?_ | refine WC.block ?_ | refine WC.condT rfl ?_ | refine WC.condF rfl ?_ | refine WL.off rfl rfl rfl ?_ | refine WL.off0 rfl rfl ?_ | refine WC.exit ?_ | refine blk_hit ?_ | refine blk_miss rfl ?_ | refine WC.ret ?_)
    refine WL.val rfl rfl rfl (yLookM (k := ((u : Nat) : Int)) (l := bV B) (keyT_int rfl) rfl rfl rfl rfl (hp2.obj 0 rfl)) ?_
    unfold lkM
    rw [bV_get]
    cases hq : lkB B u with
    | none =>
      repeat (first | refine WC.seq ?_ | refine WC.reg ?_ | refine WL.pure rfl rfl rfl ?_ | refine WL.nil ?_ | refine WC.skip ?_ | refine WC.block ?_ | refine WC.condT rfl ?_ | refine WC.condF rfl ?_ | refine WL.off rfl rfl rfl ?_ | refine WL.off0 rfl rfl ?_ | refine WC.exit ?_ | refine blk_hit ?_ | refine blk_miss rfl ?_ | refine WC.ret ?_)
      refine WL.call rfl rfl rfl rfl rfl hmE (hmay u w2 huN hp2.nil') ?_
      rintro _ w3 ⟨rfl, hp3⟩
      replace hp3 := hp2.call hp3.below
      repeat (first | refine WC.seq ?_ | refine WC.reg ?_ | refine WL.pure rfl rfl rfl ?_ | refine WL.nil ?_ | refine WC.skip ?_ | refine WC.block ?_ | refine WC.condT rfl ?_ | refine WC.condF rfl ?_ | refine WL.off rfl rfl rfl ?_ | refine WL.off0 rfl rfl ?_ | refine WC.exit ?_ | refine blk_hit ?_ | refine blk_miss rfl ?_ | refine WC.ret ?_)
      refine WC.cond rfl (fun c2 => ?_) (fun c2 => ?_)
      · rw [addM_yes (by rw [hq, c2]; rfl)] at hB'
        repeat (first | refine WC.seq ?_ | refine WC.reg ?_ | refine WL.pure rfl rfl rfl ?_ | refine WL.nil ?_ | refine WC.skip ?_ | refine WC.block ?_ | refine WC.condT rfl ?_ | refine WC.condF rfl ?_ | refine WL.off rfl rfl rfl ?_ | refine WL.off0 rfl rfl ?_ | refine WC.exit ?_ | refine blk_hit ?_ | refine blk_miss rfl ?_ | refine WC.ret ?_)
        refine WL.skip rfl rfl (yMapSet (k := ((u : Nat) : Int)) (l := bV B) (v := .int .i64 (-1)) (keyT_int rfl) rfl rfl rfl rfl (hp3.obj 0 rfl)) ?_
        have hp4 := hp3.set 0 rfl rfl (setB_put (hp3.obj 0 rfl) (o' := mapO iKey (kPut (bV B) ((u : Nat) : Int) (.int .i64 (-1)))))
        generalize (w3.putObj mb (mapO iKey (kPut (bV B) ((u : Nat) : Int) (.int .i64 (-1))))) = w4 at *
        rw [bV_put (-1) hq] at hp4
        repeat (first | refine WC.seq ?_ | refine WC.reg ?_ | refine WL.pure rfl rfl rfl ?_ | refine WL.nil ?_ | refine WC.skip ?_ | refine WC.block ?_ | refine WC.condT rfl ?_ | refine WC.condF rfl ?_ | refine WL.off rfl rfl rfl ?_ | refine WL.off0 rfl rfl ?_ | refine WC.exit ?_ | refine blk_hit ?_ | refine blk_miss rfl ?_ | refine WC.ret ?_)
        refine WL.buildS (cs := [.int .i64 (u : Nat)]) rfl rfl rfl rfl rfl rfl rfl rfl rfl (fun b5 w5 h5 => ?_)
        have hp5 := hp4.new h5
        refine WL.appN (A := [_, _]) rfl rfl rfl rfl rfl rfl rfl rfl hp5 hQ (cell_of_obj (hp5.obj 0 rfl) rfl) (by omega) (by decide) ?_
        intro qa2 qc2 w6 Q2 hp6 hQ2
        repeat (first | refine WC.seq ?_ | refine WC.reg ?_ | refine WL.pure rfl rfl rfl ?_ | refine WL.nil ?_ | refine WC.skip ?_ | refine WC.block ?_ | refine WC.condT rfl ?_ | refine WC.condF rfl ?_ | refine WL.off rfl rfl rfl ?_ | refine WL.off0 rfl rfl ?_ | refine WC.exit ?_ | refine blk_hit ?_ | refine blk_miss rfl ?_ | refine WC.ret ?_)
        exact ⟨(i + 1, B ++ [(u, -1)], q ++ [u], qa2, qc2, Q2), (by show start.length - (i + 1) < start.length - i; omega), ⟨rfl, rfl, congrArg (fun z => some (Value.int .i64 z)) step, rfl, rfl, rfl, rfl, rfl, rfl⟩, hi, hB', hok.add huN hq, hQ2, hp6.tail⟩
      · rw [addM_no (by rw [hq, c2]; decide)] at hB'
        repeat (first | refine WC.seq ?_ | refine WC.reg ?_ | refine WL.pure rfl rfl rfl ?_ | refine WL.nil ?_ | refine WC.skip ?_ | refine WC.block ?_ | refine WC.condT rfl ?_ | refine WC.condF rfl ?_ | refine WL.off rfl rfl rfl ?_ | refine WL.off0 rfl rfl ?_ | refine WC.exit ?_ | refine blk_hit ?_ | refine blk_miss rfl ?_ | refine WC.ret ?_)
        exact ⟨(i + 1, B, q, qa, qc, Q), (by show start.length - (i + 1) < start.length - i; omega), ⟨rfl, rfl, congrArg (fun z => some (Value.int .i64 z)) step, rfl, rfl, rfl, rfl, rfl, rfl⟩, hi, hB', hok, hQ, hp3⟩
    | some x =>
      rw [addM_no (by rw [hq]; simp)] at hB'
      repeat (first | refine WC.seq ?_ | refine WC.reg ?_ | refine WL.pure rfl rfl rfl ?_ | refine WL.nil ?_ | refine WC.skip ?_ | refine WC.block ?_ | refine WC.condT rfl ?_ | refine WC.condF rfl ?_ | refine WL.off rfl rfl rfl ?_ | refine WL.off0 rfl rfl ?_ | refine WC.exit ?_ | refine blk_hit ?_ | refine blk_miss rfl ?_ | refine WC.ret ?_)
      exact ⟨(i + 1, B, q, qa, qc, Q), (by show start.length - (i + 1) < start.length - i; omega), ⟨rfl, rfl, congrArg (fun z => some (Value.int .i64 z)) step, rfl, rfl, rfl, rfl, rfl, rfl⟩, hi, hB', hok, hQ, hp2⟩
  · have hi : i = start.length := by have := of_decide_eq_false c1; omega
    subst hi
    rw [List.take_length] at hB
    unfold wayM at hM
    rw [hB] at hM
    obtain ⟨FB, hFB⟩ : ∃ FB, FB = F := ⟨_, rfl⟩
    have hFb : FB ≤ 8589934592 := by omega
    replace hM : wayGo FB (rsN rs) may fits F (B, q) = some r := by rw [hFB]; exact hM
    clear hFB hB
    repeat (first | refine WC.seq ?_ | refine WC.reg ?_ | refine WL.pure rfl rfl rfl ?_ | refine WL.nil ?_ | refine WC.skip ?_ | refine WC.block ?_ | refine WC.condT rfl ?_ | refine WC.condF rfl ?_ | refine WL.off rfl rfl rfl ?_ | refine WL.off0 rfl rfl ?_ | refine WC.exit ?_ | refine blk_hit ?_ | refine blk_miss rfl ?_ | refine WC.ret ?_)
    refine WC.loop (Nat × Bef × List Nat × Option Addr × Nat × List Ent) (fun (f, B, q, qa, qc, Q) => wyE an cn N mf mc ff fc mb q qa qc)
      (fun (f, B, q, qa, qc, Q) w' => wayGo FB (rsN rs) may fits f (B, q) = some r ∧ BefOk N B q ∧ Quo 3 (.slice qa q.length qc) (natL q) Q ∧ Hp w w' ([mE mb B] ++ Q)) (fun (f, _) => f) (F, B, q, qa, qc, Q) ⟨rfl, rfl, rfl, rfl, rfl, rfl⟩ ⟨hM, hok, hQ, hp2⟩ ?_
    clear hM hok hQ hp2 hqs
    rintro ⟨f, B, q, qa, qc, Q⟩ w2 ⟨hM, hok, hQ, hp2⟩
    replace hM : wayGo FB (rsN rs) may fits f (B, q) = some r := hM
    replace hok : BefOk N B q := hok
    replace hQ : Quo 3 (.slice qa q.length qc) (natL q) Q := hQ
    replace hp2 : Hp w w2 ([mE mb B] ++ Q) := hp2
    have hqs := hok.small
    repeat (first | refine WC.seq ?_ | refine WC.reg ?_ | refine WL.pure rfl rfl rfl ?_ | refine WL.nil ?_ | refine WC.skip ?_ | refine WC.block ?_ | refine WC.condT rfl ?_ | refine WC.condF rfl ?_ | refine WL.off rfl rfl rfl ?_ | refine WL.off0 rfl rfl ?_ | refine WC.exit ?_ | refine blk_hit ?_ | refine blk_miss rfl ?_ | refine WC.ret ?_)
    refine WC.cond rfl (fun c2 => ?_) (fun c2 => ?_)
    · have c2 : 0 < q.length := by have h : (0 : Int) < ((q.length : Nat) : Int) := of_decide_eq_true c2; omega
      obtain ⟨v, q, rfl⟩ : ∃ v q2, q = v :: q2 := by
        cases q with
        | nil => exact absurd c2 (Nat.lt_irrefl _)
        | cons v q2 => exact ⟨v, q2, rfl⟩
      have hv : v < N := hok.qb v (by simp)
      obtain ⟨f0, rfl⟩ : ∃ f0, f = f0 + 1 := by
        cases f with
        | zero => unfold wayGo at hM; cases hM
        | succ f0 => exact ⟨f0, rfl⟩
      unfold wayGo at hM
      repeat (first | refine WC.seq ?_ | refine WC.reg ?_ | refine WL.pure rfl rfl rfl ?_ | refine WL.nil ?_ | refine WC.skip ?_ | refine WC.block ?_ | refine WC.condT rfl ?_ | refine WC.condF rfl ?_ | refine WL.off rfl rfl rfl ?_ | refine WL.off0 rfl rfl ?_ | refine WC.exit ?_ | refine blk_hit ?_ | refine blk_miss rfl ?_ | refine WC.ret ?_)
      refine WL.ixload (j := 0) rfl (fun _ => rfl) rfl rfl rfl rfl rfl rfl rfl (Nat.succ_pos _) rfl rfl (hQ.sl hp2) (v := .int .i64 (v : Nat)) rfl ?_
      intro q0
      repeat (first | refine WC.seq ?_ | refine WC.reg ?_ | refine WL.pure rfl rfl rfl ?_ | refine WL.nil ?_ | refine WC.skip ?_ | refine WC.block ?_ | refine WC.condT rfl ?_ | refine WC.condF rfl ?_ | refine WL.off rfl rfl rfl ?_ | refine WL.off0 rfl rfl ?_ | refine WC.exit ?_ | refine blk_hit ?_ | refine blk_miss rfl ?_ | refine WC.ret ?_)
      refine WL.tailQ (x := .int .i64 (v : Nat)) (xs := natL q) rfl rfl rfl rfl rfl rfl rfl hQ ?_
      intro v' hQ'
      obtain ⟨qa2, qc2, rfl, _⟩ := hQ'.shape
      rw [natL_len] at hQ' ⊢
      clear hQ
      repeat (first | refine WC.seq ?_ | refine WC.reg ?_ | refine WL.pure rfl rfl rfl ?_ | refine WL.nil ?_ | refine WC.skip ?_ | refine WC.block ?_ | refine WC.condT rfl ?_ | refine WC.condF rfl ?_ | refine WL.off rfl rfl rfl ?_ | refine WL.off0 rfl rfl ?_ | refine WC.exit ?_ | refine blk_hit ?_ | refine blk_miss rfl ?_ | refine WC.ret ?_)
      refine WL.call rfl rfl rfl rfl rfl hfE (hfits v w2 hv hp2.nil') ?_
      rintro _ w3 ⟨rfl, hp3⟩
      replace hp3 := hp2.call hp3.below
      clear hp2
      repeat (first | refine WC.seq ?_ | refine WC.reg ?_ | refine WL.pure rfl rfl rfl ?_ | refine WL.nil ?_ | refine WC.skip ?_ | refine WC.block ?_ | refine WC.condT rfl ?_ | refine WC.condF rfl ?_ | refine WL.off rfl rfl rfl ?_ | refine WL.off0 rfl rfl ?_ | refine WC.exit ?_ | refine blk_hit ?_ | refine blk_miss rfl ?_ | refine WC.ret ?_)
      refine WC.cond rfl (fun c3 => ?_) (fun c3 => ?_)
      · rw [if_pos c3] at hM
        obtain ⟨l, hbk, hrl⟩ := Option.map_eq_some_iff.1 hM
        subst hrl
        have hne := backM_ne _ _ _ _ (List.cons_ne_nil _ _) hbk
        repeat (first | refine WC.seq ?_ | refine WC.reg ?_ | refine WL.pure rfl rfl rfl ?_ | refine WL.nil ?_ | refine WC.skip ?_ | refine WC.block ?_ | refine WC.condT rfl ?_ | refine WC.condF rfl ?_ | refine WL.off rfl rfl rfl ?_ | refine WL.off0 rfl rfl ?_ | refine WC.exit ?_ | refine blk_hit ?_ | refine blk_miss rfl ?_ | refine WC.ret ?_)
        refine WL.buildS (cs := [.int .i64 (v : Nat)]) rfl rfl rfl rfl rfl rfl rfl rfl rfl (fun b5 w5 h5 => ?_)
        have hp5 : Hp w w5 (Rna (.slice (some ⟨b5, 0, none⟩) [v].length 1) [v].length [v] :: [mE mb B] ++ Q) := Hp.toRow (s := 1) (m := 1) (hp3.new h5) rfl (by unfold maxLen; decide)
        repeat (first | refine WC.seq ?_ | refine WC.reg ?_ | refine WL.pure rfl rfl rfl ?_ | refine WL.nil ?_ | refine WC.skip ?_ | refine WC.block ?_ | refine WC.condT rfl ?_ | refine WC.condF rfl ?_ | refine WL.off rfl rfl rfl ?_ | refine WL.off0 rfl rfl ?_ | refine WC.exit ?_ | refine blk_hit ?_ | refine blk_miss rfl ?_ | refine WC.ret ?_)
        refine WC.loop (Nat × Nat × List Nat × Option Addr × Nat) (fun (g, v, out, oa, oc) => [(9, .map (some mb)), (15, .int .i64 (v : Nat)), (16, .slice oa out.length oc)])
          (fun (g, v, out, oa, oc) w' => backM B g v out = some l ∧ out.length + g = 1 + FB ∧ Hp w w' (Rna (.slice oa out.length oc) out.length out :: [mE mb B] ++ Q)) (fun (g, _) => g) (FB, v, [v], some ⟨b5, 0, none⟩, 1) ⟨rfl, rfl, rfl, rfl⟩ ⟨hbk, rfl, hp5⟩ ?_
        clear hbk hp5
        rintro ⟨g, v, out, oa, oc⟩ w6 ⟨hbk, hgl, hp6⟩
        replace hbk : backM B g v out = some l := hbk
        replace hgl : out.length + g = 1 + FB := hgl
        replace hp6 : Hp w w6 (Rna (.slice oa out.length oc) out.length out :: [mE mb B] ++ Q) := hp6
        have hlk : (kGet (bV B) ((v : Nat) : Int)).getD (Value.int .i64 0) = Value.int .i64 ((lkB B v).getD 0) := by rw [bV_get]; cases lkB B v <;> rfl
        repeat (first | refine WC.seq ?_ | refine WC.reg ?_ | refine WL.pure rfl rfl rfl ?_ | refine WL.nil ?_ | refine WC.skip ?_ | refine WC.block ?_ | refine WC.condT rfl ?_ | refine WC.condF rfl ?_ | refine WL.off rfl rfl rfl ?_ | refine WL.off0 rfl rfl ?_ | refine WC.exit ?_ | refine blk_hit ?_ | refine blk_miss rfl ?_ | refine WC.ret ?_)
        refine WL.val rfl rfl rfl (yLookM (k := ((v : Nat) : Int)) (l := bV B) (keyT_int rfl) rfl rfl rfl rfl (hp6.obj 1 rfl)) ?_
        rw [show lkM (bV B) ((v : Nat) : Int) ti3.zero false = Value.int .i64 ((lkB B v).getD 0) from hlk]
        repeat (first | refine WC.seq ?_ | refine WC.reg ?_ | refine WL.pure rfl rfl rfl ?_ | refine WL.nil ?_ | refine WC.skip ?_ | refine WC.block ?_ | refine WC.condT rfl ?_ | refine WC.condF rfl ?_ | refine WL.off rfl rfl rfl ?_ | refine WL.off0 rfl rfl ?_ | refine WC.exit ?_ | refine blk_hit ?_ | refine blk_miss rfl ?_ | refine WC.ret ?_)
        refine WC.cond rfl (fun c4 => ?_) (fun c4 => ?_)
        · have c4 : 0 ≤ (lkB B v).getD 0 := of_decide_eq_true c4
          obtain ⟨g0, rfl, hbk2⟩ := backM_go hbk c4
          obtain ⟨u, hu⟩ : ∃ u : Nat, u = ((lkB B v).getD 0).toNat := ⟨_, rfl⟩
          have hu2 : (lkB B v).getD 0 = ((u : Nat) : Int) := by omega
          rw [← hu] at hbk2
          repeat (first | refine WC.seq ?_ | refine WC.reg ?_ | refine WL.pure rfl rfl rfl ?_ | refine WL.nil ?_ | refine WC.skip ?_ | refine WC.block ?_ | refine WC.condT rfl ?_ | refine WC.condF rfl ?_ | refine WL.off rfl rfl rfl ?_ | refine WL.off0 rfl rfl ?_ | refine WC.exit ?_ | refine blk_hit ?_ | refine blk_miss rfl ?_ | refine WC.ret ?_)
          refine WL.val rfl rfl rfl (yLookM (k := ((v : Nat) : Int)) (l := bV B) (keyT_int rfl) rfl rfl rfl rfl (hp6.obj 1 rfl)) ?_
          rw [show lkM (bV B) ((v : Nat) : Int) ti3.zero false = Value.int .i64 ((u : Nat) : Int) from by rw [← hu2]; exact hlk]
          repeat (first | refine WC.seq ?_ | refine WC.reg ?_ | refine WL.pure rfl rfl rfl ?_ | refine WL.nil ?_ | refine WC.skip ?_ | refine WC.block ?_ | refine WC.condT rfl ?_ | refine WC.condF rfl ?_ | refine WL.off rfl rfl rfl ?_ | refine WL.off0 rfl rfl ?_ | refine WC.exit ?_ | refine blk_hit ?_ | refine blk_miss rfl ?_ | refine WC.ret ?_)
          refine WL.buildS (cs := [.int .i64 (u : Nat)]) rfl rfl rfl rfl rfl rfl rfl rfl rfl (fun b7 w7 h7 => ?_)
          have hp7 : Hp w w7 (Rna (.slice (some ⟨b7, 0, none⟩) 1 1) 1 [u] :: Rna (.slice oa out.length oc) out.length out :: [mE mb B] ++ Q) := Hp.toRow (s := 1) (m := 1) (hp6.new h7) rfl (by unfold maxLen; decide)
          repeat (first | refine WC.seq ?_ | refine WC.reg ?_ | refine WL.pure rfl rfl rfl ?_ | refine WL.nil ?_ | refine WC.skip ?_ | refine WC.block ?_ | refine WC.condT rfl ?_ | refine WC.condF rfl ?_ | refine WL.off rfl rfl rfl ?_ | refine WL.off0 rfl rfl ?_ | refine WC.exit ?_ | refine blk_hit ?_ | refine blk_miss rfl ?_ | refine WC.ret ?_)
          refine WL.append 0 hp7 rfl rfl rfl rfl rfl (by decide) rfl rfl rfl (news := natL out) (Sl.of_row (hp7.at 1 rfl)) (by rw [natL_len]; exact (Nat.mul_one _).symm) (natL_cells _) (by unfold maxLen; omega) (by show (1 + out.length) * 8 ≤ _; omega) ?_
          intro oa2 oc2 w8 hp8 _
          have hp9 : Hp w w8 (Rna (.slice oa2 (u :: out).length oc2) (u :: out).length (u :: out) :: Rna (.slice oa out.length oc) out.length out :: [mE mb B] ++ Q) := by
            rw [show (u :: out).length = 1 + out.length by rw [List.length_cons]; omega]
            exact hp8
          have e9 : Value.slice oa2 (1 + out.length) oc2 = .slice oa2 (u :: out).length oc2 := by rw [List.length_cons, Nat.add_comm]
          rw [e9]
          repeat (first | refine WC.seq ?_ | refine WC.reg ?_ | refine WL.pure rfl rfl rfl ?_ | refine WL.nil ?_ | refine WC.skip ?_ | refine WC.block ?_ | refine WC.condT rfl ?_ | refine WC.condF rfl ?_ | refine WL.off rfl rfl rfl ?_ | refine WL.off0 rfl rfl ?_ | refine WC.exit ?_ | refine blk_hit ?_ | refine blk_miss rfl ?_ | refine WC.ret ?_)
          exact ⟨(g0, u, u :: out, oa2, oc2), Nat.lt_succ_self g0, ⟨rfl, rfl, rfl, rfl⟩, hbk2, by rw [List.length_cons]; omega, hp9.drop1⟩
        · have c4 : ¬ 0 ≤ (lkB B v).getD 0 := of_decide_eq_false c4
          obtain rfl := backM_end hbk c4
          obtain ⟨b, rfl⟩ := hp6.rowSome 0 rfl (List.length_pos_iff.2 hne)
          repeat (first | refine WC.seq ?_ | refine WC.reg ?_ | refine WL.pure rfl rfl rfl ?_ | refine WL.nil ?_ | refine WC.skip ?_ | refine WC.block ?_ | refine WC.condT rfl ?_ | refine WC.condF rfl ?_ | refine WL.off rfl rfl rfl ?_ | refine WL.off0 rfl rfl ?_ | refine WC.exit ?_ | refine blk_hit ?_ | refine blk_miss rfl ?_ | refine WC.ret ?_)
          exact Res.one rfl rfl rfl ⟨hne, b, oc, rfl, hp6.pick [0] (by decide)⟩
      · rw [if_neg (by rw [c3]; decide)] at hM
        have hvr : v < rs.length := by omega
        have hrb := hrow _ (List.getElem_mem hvr)
        have hrin := hin _ (List.getElem_mem hvr)
        have hrs := hT.rows _ (List.getElem_mem hvr)
        have htab := hT.tab
        have hat := rsV_at hvr
        rw [rsN_at hvr] at hM
        generalize rs[v] = x at *
        obtain ⟨ra, rc, row⟩ := x
        simp only at hrb hrin hrs hM hat
        have hok := hok.tail
        repeat (first | refine WC.seq ?_ | refine WC.reg ?_ | refine WL.pure rfl rfl rfl ?_ | refine WL.nil ?_ | refine WC.skip ?_ | refine WC.block ?_ | refine WC.condT rfl ?_ | refine WC.condF rfl ?_ | refine WL.off rfl rfl rfl ?_ | refine WL.off0 rfl rfl ?_ | refine WC.exit ?_ | refine blk_hit ?_ | refine blk_miss rfl ?_ | refine WC.ret ?_)
        refine WL.ixload rfl (fun _ => rfl) rfl rfl rfl rfl rfl rfl rfl hv rfl rfl (htab.hp hp3) hat ?_
        intro q0
        repeat (first | refine WC.seq ?_ | refine WC.reg ?_ | refine WL.pure rfl rfl rfl ?_ | refine WL.nil ?_ | refine WC.skip ?_ | refine WC.block ?_ | refine WC.condT rfl ?_ | refine WC.condF rfl ?_ | refine WL.off rfl rfl rfl ?_ | refine WL.off0 rfl rfl ?_ | refine WC.exit ?_ | refine blk_hit ?_ | refine blk_miss rfl ?_ | refine WC.ret ?_)
        refine WC.loop (Nat × Bef × List Nat × Option Addr × Nat × List Ent) (fun (i, B, q, qa, qc, Q) => [(15, .int .i64 (v : Nat)), (76, .slice ra row.length rc), (77, .int .i64 (row.length : Nat)), (78, .int .i64 (i : Nat))] ++ wyE an cn N mf mc ff fc mb q qa qc)
          (fun (i, B, q, qa, qc, Q) w' => i ≤ row.length ∧ wayGo FB (rsN rs) may fits f0 ((row.drop i).foldl (addM may v) (B, q)) = some r ∧ BefOk N B q ∧ Quo 3 (.slice qa q.length qc) (natL q) Q ∧ Hp w w' ([mE mb B] ++ Q)) (fun (i, _) => row.length - i) (0, B, q, qa2, qc2, Q) ⟨rfl, rfl, rfl, rfl, rfl, rfl, rfl, rfl, rfl, rfl⟩
          ⟨Nat.zero_le _, hM, hok, hQ', hp3⟩ ?_
        clear hM hok hQ' hp3 hqs
        rintro ⟨i, B, q, qa, qc, Q⟩ w4 ⟨hi, hM, hok, hQ, hp4⟩
        replace hi : i ≤ row.length := hi
        replace hM : wayGo FB (rsN rs) may fits f0 ((row.drop i).foldl (addM may v) (B, q)) = some r := hM
        replace hok : BefOk N B q := hok
        replace hQ : Quo 3 (.slice qa q.length qc) (natL q) Q := hQ
        replace hp4 : Hp w w4 ([mE mb B] ++ Q) := hp4
        have hqs := hok.small
        repeat (first | refine WC.seq ?_ | refine WC.reg ?_ | refine WL.pure rfl rfl rfl ?_ | refine WL.nil ?_ | refine WC.skip ?_ | refine WC.block ?_ | refine WC.condT rfl ?_ | refine WC.condF rfl ?_ | refine WL.off rfl rfl rfl ?_ | refine WL.off0 rfl rfl ?_ | refine WC.exit ?_ | refine blk_hit ?_ | refine blk_miss rfl ?_ | refine WC.ret ?_)
        refine WC.cond rfl (fun c4 => ?_) (fun c4 => ?_)
        · have hi : i < row.length := by have h : ((i : Nat) : Int) < ((row.length : Nat) : Int) := of_decide_eq_true c4; omega
          have step := wrap_succ (i := i) (n := i + 1) (by omega) (by omega)
          obtain ⟨u, hu⟩ : ∃ u, u = row[i] := ⟨_, rfl⟩
          have huN : u < N := by rw [hu]; exact hrin _ (List.getElem_mem hi)
          rw [List.drop_eq_getElem_cons hi, List.foldl_cons, ← hu] at hM
          repeat (first | refine WC.seq ?_ | refine WC.reg ?_ | refine WL.pure rfl rfl rfl ?_ | refine WL.nil ?_ | refine WC.skip ?_ | refine WC.block ?_ | refine WC.condT rfl ?_ | refine WC.condF rfl ?_ | refine WL.off rfl rfl rfl ?_ | refine WL.off0 rfl rfl ?_ | refine WC.exit ?_ | refine blk_hit ?_ | refine blk_miss rfl ?_ | refine WC.ret ?_)
          refine WL.ixload rfl (fun _ => rfl) rfl rfl rfl rfl rfl rfl rfl hi rfl rfl (hrs.hp hp4) (natL_at hi) ?_
          intro q0
          rw [← hu]
          repeat (first | refine WC.seq ?_ | refine WC.reg ?_ | refine WL.pure rfl rfl rfl ?_ | refine WL.nil ?_ | refine WC.skip ?_ | refine WC.block ?_ | refine WC.condT rfl ?_ | refine WC.condF rfl ?_ | refine WL.off rfl rfl rfl ?_ | refine WL.off0 rfl rfl ?_ | refine WC.exit ?_ | refine blk_hit ?_ | refine blk_miss rfl ?_ | refine WC.ret ?_)
          refine WL.val rfl rfl rfl (yLookM (k := ((u : Nat) : Int)) (l := bV B) (keyT_int rfl) rfl rfl rfl rfl (hp4.obj 0 rfl)) ?_
          unfold lkM
          rw [bV_get]
          cases hq : lkB B u with
          | none =>
            repeat (first | refine WC.seq ?_ | refine WC.reg ?_ | refine WL.pure rfl rfl rfl ?_ | refine WL.nil ?_ | refine WC.skip ?_ | refine WC.block ?_ | refine WC.condT rfl ?_ | refine WC.condF rfl ?_ | refine WL.off rfl rfl rfl ?_ | refine WL.off0 rfl rfl ?_ | refine WC.exit ?_ | refine blk_hit ?_ | refine blk_miss rfl ?_ | refine WC.ret ?_)
            refine WL.call rfl rfl rfl rfl rfl hmE (hmay u w4 huN hp4.nil') ?_
            rintro _ w5 ⟨rfl, hp5⟩
            replace hp5 := hp4.call hp5.below
            repeat (first | refine WC.seq ?_ | refine WC.reg ?_ | refine WL.pure rfl rfl rfl ?_ | refine WL.nil ?_ | refine WC.skip ?_ | refine WC.block ?_ | refine WC.condT rfl ?_ | refine WC.condF rfl ?_ | refine WL.off rfl rfl rfl ?_ | refine WL.off0 rfl rfl ?_ | refine WC.exit ?_ | refine blk_hit ?_ | refine blk_miss rfl ?_ | refine WC.ret ?_)
            refine WC.cond rfl (fun c5 => ?_) (fun c5 => ?_)
            · rw [addM_yes (by rw [hq, c5]; rfl)] at hM
              repeat (first | refine WC.seq ?_ | refine WC.reg ?_ | refine WL.pure rfl rfl rfl ?_ | refine WL.nil ?_ | refine WC.skip ?_ | refine WC.block ?_ | refine WC.condT rfl ?_ | refine WC.condF rfl ?_ | refine WL.off rfl rfl rfl ?_ | refine WL.off0 rfl rfl ?_ | refine WC.exit ?_ | refine blk_hit ?_ | refine blk_miss rfl ?_ | refine WC.ret ?_)
              refine WL.skip rfl rfl (yMapSet (k := ((u : Nat) : Int)) (l := bV B) (v := .int .i64 ((v : Nat) : Int)) (keyT_int rfl) rfl rfl rfl rfl (hp5.obj 0 rfl)) ?_
              have hp6 := hp5.set 0 rfl rfl (setB_put (hp5.obj 0 rfl) (o' := mapO iKey (kPut (bV B) ((u : Nat) : Int) (.int .i64 ((v : Nat) : Int)))))
              generalize (w5.putObj mb (mapO iKey (kPut (bV B) ((u : Nat) : Int) (.int .i64 ((v : Nat) : Int))))) = w6 at *
              rw [bV_put ((v : Nat) : Int) hq] at hp6
              repeat (first | refine WC.seq ?_ | refine WC.reg ?_ | refine WL.pure rfl rfl rfl ?_ | refine WL.nil ?_ | refine WC.skip ?_ | refine WC.block ?_ | refine WC.condT rfl ?_ | refine WC.condF rfl ?_ | refine WL.off rfl rfl rfl ?_ | refine WL.off0 rfl rfl ?_ | refine WC.exit ?_ | refine blk_hit ?_ | refine blk_miss rfl ?_ | refine WC.ret ?_)
              refine WL.buildS (cs := [.int .i64 (u : Nat)]) rfl rfl rfl rfl rfl rfl rfl rfl rfl (fun b7 w7 h7 => ?_)
              have hp7 := hp6.new h7
              refine WL.appN (A := [_, _]) rfl rfl rfl rfl rfl rfl rfl rfl hp7 hQ (cell_of_obj (hp7.obj 0 rfl) rfl) (by omega) (by decide) ?_
              intro qa2 qc2 w8 Q2 hp8 hQ2
              repeat (first | refine WC.seq ?_ | refine WC.reg ?_ | refine WL.pure rfl rfl rfl ?_ | refine WL.nil ?_ | refine WC.skip ?_ | refine WC.block ?_ | refine WC.condT rfl ?_ | refine WC.condF rfl ?_ | refine WL.off rfl rfl rfl ?_ | refine WL.off0 rfl rfl ?_ | refine WC.exit ?_ | refine blk_hit ?_ | refine blk_miss rfl ?_ | refine WC.ret ?_)
              exact ⟨(i + 1, B ++ [(u, ((v : Nat) : Int))], q ++ [u], qa2, qc2, Q2), (by show row.length - (i + 1) < row.length - i; omega), ⟨rfl, rfl, rfl, congrArg (fun z => some (Value.int .i64 z)) step, rfl, rfl, rfl, rfl, rfl, rfl⟩, hi, hM, hok.add huN hq, hQ2, hp8.tail⟩
            · rw [addM_no (by rw [hq, c5]; decide)] at hM
              repeat (first | refine WC.seq ?_ | refine WC.reg ?_ | refine WL.pure rfl rfl rfl ?_ | refine WL.nil ?_ | refine WC.skip ?_ | refine WC.block ?_ | refine WC.condT rfl ?_ | refine WC.condF rfl ?_ | refine WL.off rfl rfl rfl ?_ | refine WL.off0 rfl rfl ?_ | refine WC.exit ?_ | refine blk_hit ?_ | refine blk_miss rfl ?_ | refine WC.ret ?_)
              exact ⟨(i + 1, B, q, qa, qc, Q), (by show row.length - (i + 1) < row.length - i; omega), ⟨rfl, rfl, rfl, congrArg (fun z => some (Value.int .i64 z)) step, rfl, rfl, rfl, rfl, rfl, rfl⟩, hi, hM, hok, hQ, hp5⟩
          | some x =>
            rw [addM_no (by rw [hq]; simp)] at hM
            repeat (first | refine WC.seq ?_ | refine WC.reg ?_ | refine WL.pure rfl rfl rfl ?_ | refine WL.nil ?_ | refine WC.skip ?_ | refine WC.block ?_ | refine WC.condT rfl ?_ | refine WC.condF rfl ?_ | refine WL.off rfl rfl rfl ?_ | refine WL.off0 rfl rfl ?_ | refine WC.exit ?_ | refine blk_hit ?_ | refine blk_miss rfl ?_ | refine WC.ret ?_)
            exact ⟨(i + 1, B, q, qa, qc, Q), (by show row.length - (i + 1) < row.length - i; omega), ⟨rfl, rfl, rfl, congrArg (fun z => some (Value.int .i64 z)) step, rfl, rfl, rfl, rfl, rfl, rfl⟩, hi, hM, hok, hQ, hp4⟩
        · have hi : i = row.length := by have h : ¬ ((i : Nat) : Int) < ((row.length : Nat) : Int) := of_decide_eq_false c4; omega
          subst hi
          rw [List.drop_length, List.foldl_nil] at hM
          repeat (first | refine WC.seq ?_ | refine WC.reg ?_ | refine WL.pure rfl rfl rfl ?_ | refine WL.nil ?_ | refine WC.skip ?_ | refine WC.block ?_ | refine WC.condT rfl ?_ | refine WC.condF rfl ?_ | refine WL.off rfl rfl rfl ?_ | refine WL.off0 rfl rfl ?_ | refine WC.exit ?_ | refine blk_hit ?_ | refine blk_miss rfl ?_ | refine WC.ret ?_)
          exact ⟨(f0, B, q, qa, qc, Q), Nat.lt_succ_self f0, ⟨rfl, rfl, rfl, rfl, rfl, rfl⟩, hM, hok, hQ, hp4⟩
    · have c2 : q = [] := List.eq_nil_of_length_eq_zero (by have h : ¬ (0 : Int) < ((q.length : Nat) : Int) := of_decide_eq_false c2; omega)
      subst c2
      have : r = none := by
        cases f with
        | zero => unfold wayGo at hM; simpa using hM.symm
        | succ f => unfold wayGo at hM; simpa using hM.symm
      subst this
      repeat (first | refine WC.seq ?_ | refine WC.reg ?_ | refine WL.pure rfl rfl rfl ?_ | refine WL.nil ?_ | refine WC.skip ?_ | refine WC.block ?_ | refine WC.condT rfl ?_ | refine WC.condF rfl ?_ | refine WL.off rfl rfl rfl ?_ | refine WL.off0 rfl rfl ?_ | refine WC.exit ?_ | refine blk_hit ?_ | refine blk_miss rfl ?_ | refine WC.ret ?_)
      exact Res.one rfl rfl rfl ⟨rfl, hp2.nil'⟩
end Go.Proofs.YtpbbneclkhfgoaaDoor
