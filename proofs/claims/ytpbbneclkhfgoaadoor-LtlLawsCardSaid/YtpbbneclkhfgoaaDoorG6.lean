/- Texts on the way to LtlLaws, one behind the other: U24 U25 U26 U27 Zb U41 U28 U29 U30 U42 U48 U44 U45 U46 U49 Yk Zc U52. -/
import Derived.Test.YtpbbneclkhfgoaaDoorG5
section
/- ltl, twenty-fourth: way. -/
namespace Go.W
open Go.RowKit
theorem Hp.rowSome {w0 w : World} {L : List Ent} {E s n c : Nat} {a : Option Addr} {xs : List Value} (h : Hp w0 w L) (i : Nat) (hi : nth L i = some (.row E s (.slice a n c) n xs)) (hn : 0 < n) : ∃ b, a = some ⟨b, 0, none⟩ := by
  obtain ⟨_, ⟨_, h0⟩ | ⟨b, _, _, hv, _⟩⟩ := h.at i hi
  · omega
  · simp only [Value.slice.injEq] at hv
    exact ⟨b, hv.1⟩
end Go.W
namespace Go.Ltl
open Go.W
/-- What is known of who was before whom, and of the states still to look at. -/
structure BefOk (N : Nat) (B : Bef) (q : List Nat) : Prop where
  nd : (B.map (·.1)).Nodup
  key : ∀ p ∈ B, p.1 < N
  qb : ∀ x ∈ q, x < N
  len : q.length ≤ B.length
theorem lkB_none {B : Bef} {u : Nat} (h : lkB B u = none) : u ∉ B.map (·.1) := by
  induction B with
  | nil => simp
  | cons p r ih =>
    unfold lkB at h
    split at h
    · cases h
    · rename_i hk
      simp only [List.map_cons, List.mem_cons, not_or]
      exact ⟨hk, ih h⟩
theorem BefOk.small {N : Nat} {B : Bef} {q : List Nat} (h : BefOk N B q) : q.length ≤ N := by
  have h1 := h.nd.length_le_of_subset (l₂ := List.range N) (fun x hx => by
    obtain ⟨p, hp, rfl⟩ := List.mem_map.1 hx
    exact List.mem_range.2 (h.key p hp))
  rw [List.length_map, List.length_range] at h1
  exact Nat.le_trans h.len h1
theorem BefOk.add {N : Nat} {B : Bef} {q : List Nat} (h : BefOk N B q) {u : Nat} {par : Int} (hu : u < N) (hn : lkB B u = none) : BefOk N (B ++ [(u, par)]) (q ++ [u]) := by
  refine ⟨?_, ?_, ?_, by simp [h.len]⟩
  · rw [List.map_append, List.nodup_append]
    refine ⟨h.nd, by simp, ?_⟩
    intro a ha b hb e
    simp only [List.map_cons, List.map_nil, List.mem_singleton] at hb
    subst hb
    subst e
    exact lkB_none hn ha
  · intro p hp
    rcases List.mem_append.1 hp with hp | hp
    · exact h.key p hp
    · rw [List.mem_singleton.1 hp]; exact hu
  · intro x hx
    rcases List.mem_append.1 hx with hx | hx
    · exact h.qb x hx
    · rw [List.mem_singleton.1 hx]; exact hu
theorem BefOk.tail {N : Nat} {B : Bef} {v : Nat} {q : List Nat} (h : BefOk N B (v :: q)) : BefOk N B q := ⟨h.nd, h.key, fun x hx => h.qb x (List.mem_cons_of_mem _ hx), by have := h.len; simp only [List.length_cons] at this; omega⟩
theorem addM_no {may : Nat → Bool} {par : Int} {B : Bef} {q : List Nat} {u : Nat} (h : ¬ ((lkB B u).isNone && may u) = true) : addM may par (B, q) u = (B, q) := by unfold addM; rw [if_neg h]
theorem addM_yes {may : Nat → Bool} {par : Int} {B : Bef} {q : List Nat} {u : Nat} (h : ((lkB B u).isNone && may u) = true) : addM may par (B, q) u = (B ++ [(u, par)], q ++ [u]) := by unfold addM; rw [if_pos h]
theorem backM_ne {B : Bef} : ∀ (f v : Nat) (out l : List Nat), out ≠ [] → backM B f v out = some l → l ≠ [] := by
  intro f
  induction f with
  | zero =>
    intro v out l h1 h
    unfold backM at h
    split at h
    · cases h
    · simp only [Option.some.injEq] at h; rw [← h]; exact h1
  | succ f ih =>
    intro v out l h1 h
    unfold backM at h
    split at h
    · exact ih _ _ _ (List.cons_ne_nil _ _) h
    · simp only [Option.some.injEq] at h; rw [← h]; exact h1
theorem backM_go {B : Bef} {f v : Nat} {out l : List Nat} (h : backM B f v out = some l) (hx : 0 ≤ (lkB B v).getD 0) : ∃ f0, f = f0 + 1 ∧ backM B f0 ((lkB B v).getD 0).toNat (((lkB B v).getD 0).toNat :: out) = some l := by
  cases f with
  | zero => unfold backM at h; rw [if_pos hx] at h; cases h
  | succ f => unfold backM at h; rw [if_pos hx] at h; exact ⟨f, rfl, h⟩
theorem backM_end {B : Bef} {f v : Nat} {out l : List Nat} (h : backM B f v out = some l) (hx : ¬ 0 ≤ (lkB B v).getD 0) : out = l := by
  cases f with
  | zero => unfold backM at h; rw [if_neg hx] at h; simpa using h
  | succ f => unfold backM at h; rw [if_neg hx] at h; simpa using h
end Go.Ltl
namespace Go.Proofs.YtpbbneclkhfgoaaDoor
open Go.W Go.Ltl Go.RowKit
set_option maxRecDepth 100000
attribute [local irreducible] WC WL WQ WS WH

def bV (B : Bef) : List (Int × Value) := B.map fun p => ((p.1 : Int), Value.int .i64 p.2)
theorem lkB_get (B : Bef) (k : Nat) : lkB B k = kGet B k := by
  induction B with
  | nil => rfl
  | cons p r ih => unfold lkB kGet; rw [ih]
theorem bV_get (B : Bef) (k : Nat) : kGet (bV B) (k : Int) = (lkB B k).map (Value.int .i64) := by
  rw [lkB_get]
  exact kGet_map (fun (n : Nat) => (n : Int)) (Value.int .i64) (fun a b h => Int.ofNat_inj.1 h) B k
theorem bV_put {B : Bef} {k : Nat} (x : Int) (h : lkB B k = none) : kPut (bV B) (k : Int) (Value.int .i64 x) = bV (B ++ [(k, x)]) := by
  rw [kPut_none _ _ _ (by rw [bV_get, h]; rfl)]
  simp [bV]
abbrev mE (mb : Nat) (B : Bef) : Ent := .blk mb (mapO iKey (bV B))
section
variable {P : Program} [T : TT P] {ro : Option Nat} {n : Nat} {l0 rest : List Oper} {N : Nor} {Z : Pan} {e : Env} {w : World} {ty : TypeId} {pos : String} {aft : Array Edge} {g : Option (Nat × Bool)}
/-- append of a number to a queue of numbers. -/
theorem WL.appN {d : Nat} {s y : Operand} {t : TypeId} {i : TI} {z : Value} {s0 b0 : Nat} {w0 : World} {A Q : List Ent} {qa : Option Addr} {qc u : Nat} {q : List Nat} {a : Addr} {c : Nat}
    (hg : grd l0 e g = some true) (hd : Nat.blt d n = true) (ht : T.ti t = some ⟨.slice 3, z, s0, b0⟩) (hi : T.ti 3 = some i) (hzs : i.zero.cells.size = 1) (hsz : i.size = 1)
    (hsv : opv e s = some (.slice qa q.length qc)) (hyv : opv e y = some (.slice (some a) 1 c)) (hp : Hp w0 w (A ++ Q)) (hq : Quo 3 (.slice qa q.length qc) (natL q) Q) (hx : w.cell? a = some (.int .i64 (u : Nat))) (hn : q.length ≤ 1000000000) (hb : i.bytes ≤ 16)
    (h : ∀ qa' qc' w' Q', Hp w0 w' (A ++ Q') → Quo 3 (.slice qa' (q ++ [u]).length qc') (natL (q ++ [u])) Q' → Go.W.WL P ro n l0 N Z rest ((d, .slice qa' (q ++ [u]).length qc') :: e) w') :
    Go.W.WL P ro n l0 N Z (⟨some d, .call ⟨.builtin .append, #[s, y], #[t, t]⟩, ty, pos, aft, g⟩ :: rest) e w := by
  refine Go.W.WL.appQ hg hd ht hi hzs hsz hsv hyv hp hq hx rfl (by rw [natL_len]; exact hn) hb ?_
  intro v' w' Q' hp' hq'
  rw [show natL q ++ [Value.int .i64 (u : Nat)] = natL (q ++ [u]) from by simp [natL]] at hq'
  obtain ⟨a', c', rfl, _⟩ := hq'.shape
  rw [natL_len] at hq' ⊢
  exact h a' c' w' Q' hp' hq'
end
/-- What a way is answered by. -/
def WayR (r : Option (List Nat)) (w : World) (u : Value) (w' : World) : Prop := match r with
  | none => u = .slice none 0 0 ∧ Hp w w' []
  | some l => l ≠ [] ∧ ∃ b c, u = .slice (some ⟨b, 0, none⟩) l.length c ∧ Hp w w' [Rna (.slice (some ⟨b, 0, none⟩) l.length c) l.length l]
abbrev wyE (an : Option Addr) (cn N : Nat) (mf : FuncId) (mc : List Value) (ff : FuncId) (fc : List Value) (mb : Nat) (q : List Nat) (qa : Option Addr) (qc : Nat) : Env :=
  [(0, .slice an N cn), (2, .func (.func mf) #[] mc.toArray), (3, .func (.func ff) #[] fc.toArray), (9, .map (some mb)), (10, .slice qa q.length qc)]

theorem way_any (an : Option Addr) (cn N : Nat) (rs : Nrs) (w : World) (hN : rs.length = N) (hT : Tbl w an rs) (hn : N ≤ 65536) (hrow : ∀ x ∈ rs, x.2.2.length ≤ 1048576) (hin : ∀ x ∈ rs, ∀ u ∈ x.2.2, u < N)
    (fa : Option Addr) (fcap : Nat) (start : List Nat) (hS : Sl w fa (natL start)) (hsl : start.length ≤ 1048576) (hst : ∀ u ∈ start, u < N)
    (mf : FuncId) (mc : List Value) (may : Nat → Bool) (hmE : Ents Tryd.prog mf) (hmay : ∀ (v : Nat) w', v < N → Hp w w' [] → Ret Tryd.prog mf (.int .i64 (v : Nat) :: mc) w' fun u w'' => u = .bool (may v) ∧ Hp w' w'' [])
    (ff : FuncId) (fc : List Value) (fits : Nat → Bool) (hfE : Ents Tryd.prog ff) (hfits : ∀ (v : Nat) w', v < N → Hp w w' [] → Ret Tryd.prog ff (.int .i64 (v : Nat) :: fc) w' fun u w'' => u = .bool (fits v) ∧ Hp w' w'' [])
    (F : Nat) (hF : F ≤ 1099511627776) (r : Option (List Nat)) (hM : wayM F (rsN rs) start may fits = some r) :
    Ret Tryd.prog 90 [.slice an N cn, .slice fa start.length fcap, .func (.func mf) #[] mc.toArray, .func (.func ff) #[] fc.toArray] w fun u w' => WayR r w u w' := by
  refine enter Tryd.func90 rfl rfl ⟨rfl, rfl⟩ rfl ?_
  repeat (first | refine zA ?_ | refine zB ?_ | refine zC rfl rfl rfl ?_ | refine zD ?_ | refine zE ?_ | refine zF ?_ | refine zG rfl ?_ | refine zH rfl ?_ | refine zI rfl rfl rfl ?_ | refine zJ rfl rfl ?_ | refine zK ?_ | refine zL ?_ | refine zM rfl ?_ | refine zN ?_)
  refine WL.makeMap rfl rfl ?_
  intro mb w1 h1
  have hp1 : Hp w w1 ([mE mb []] ++ []) := (Hp.start w).new h1
  repeat (first | refine zA ?_ | refine zB ?_ | refine zC rfl rfl rfl ?_ | refine zD ?_ | refine zE ?_ | refine zF ?_ | refine zG rfl ?_ | refine zH rfl ?_ | refine zI rfl rfl rfl ?_ | refine zJ rfl rfl ?_ | refine zK ?_ | refine zL ?_ | refine zM rfl ?_ | refine zN ?_)
  refine WC.loop (Nat × Bef × List Nat × Option Addr × Nat × List Ent) (fun (i, B, q, qa, qc, Q) => [(22, .slice fa start.length fcap), (23, .int .i64 (start.length : Nat)), (24, .int .i64 (i : Nat))] ++ wyE an cn N mf mc ff fc mb q qa qc)
    (fun (i, B, q, qa, qc, Q) w' => i ≤ start.length ∧ (start.take i).foldl (addM may (-1)) ([], []) = (B, q) ∧ BefOk N B q ∧ Quo 3 (.slice qa q.length qc) (natL q) Q ∧ Hp w w' ([mE mb B] ++ Q)) (fun (i, _) => start.length - i) (0, [], [], none, 0, []) ⟨rfl, rfl, rfl, rfl, rfl, rfl, rfl, rfl, rfl⟩
    ⟨Nat.zero_le _, rfl, ⟨List.nodup_nil, fun p h => (by cases h), fun p h => (by cases h), Nat.le_refl _⟩, Quo.nil _, hp1⟩ ?_
  clear hp1
  rintro ⟨i, B, q, qa, qc, Q⟩ w2 ⟨hi, hB, hok, hQ, hp2⟩
  replace hi : i ≤ start.length := hi
  replace hB : (start.take i).foldl (addM may (-1)) ([], []) = (B, q) := hB
  replace hok : BefOk N B q := hok
  replace hQ : Quo 3 (.slice qa q.length qc) (natL q) Q := hQ
  replace hp2 : Hp w w2 ([mE mb B] ++ Q) := hp2
  have hqs := hok.small
  repeat (first | refine zA ?_ | refine zB ?_ | refine zC rfl rfl rfl ?_ | refine zD ?_ | refine zE ?_ | refine zF ?_ | refine zG rfl ?_ | refine zH rfl ?_ | refine zI rfl rfl rfl ?_ | refine zJ rfl rfl ?_ | refine zK ?_ | refine zL ?_ | refine zM rfl ?_ | refine zN ?_)
  refine WC.cond rfl (fun c1 => ?_) (fun c1 => ?_)
  · have hi : i < start.length := by have := of_decide_eq_true c1; omega
    have step := wrap_succ (i := i) (n := i + 1) (by omega) (by omega)
    obtain ⟨u, hu⟩ : ∃ u, u = start[i] := ⟨_, rfl⟩
    have huN : u < N := by rw [hu]; exact hst _ (List.getElem_mem hi)
    have hB' : (start.take (i + 1)).foldl (addM may (-1)) ([], []) = addM may (-1) (B, q) u := by rw [List.take_succ_eq_append_getElem hi, List.foldl_append, hB, ← hu]; rfl
    repeat (first | refine zA ?_ | refine zB ?_ | refine zC rfl rfl rfl ?_ | refine zD ?_ | refine zE ?_ | refine zF ?_ | refine zG rfl ?_ | refine zH rfl ?_ | refine zI rfl rfl rfl ?_ | refine zJ rfl rfl ?_ | refine zK ?_ | refine zL ?_ | refine zM rfl ?_ | refine zN ?_)
    refine WL.ixload rfl (fun _ => rfl) rfl rfl rfl rfl rfl rfl rfl hi rfl rfl (hS.hp hp2) (natL_at hi) ?_
    intro q0
    rw [← hu]
    repeat (first | refine zA ?_ | refine zB ?_ | refine zC rfl rfl rfl ?_ | refine zD ?_ | refine zE ?_ | refine zF ?_ | refine zG rfl ?_ | refine zH rfl ?_ | refine zI rfl rfl rfl ?_ | refine zJ rfl rfl ?_ | refine zK ?_ | refine zL ?_ | refine zM rfl ?_ | refine zN ?_)
    refine WL.val rfl rfl rfl (yLookM (k := ((u : Nat) : Int)) (l := bV B) (keyT_int rfl) rfl rfl rfl rfl (hp2.obj 0 rfl)) ?_
    unfold lkM
    rw [bV_get]
    cases hq : lkB B u with
    | none =>
      repeat (first | refine zA ?_ | refine zB ?_ | refine zC rfl rfl rfl ?_ | refine zD ?_ | refine zE ?_ | refine zF ?_ | refine zG rfl ?_ | refine zH rfl ?_ | refine zI rfl rfl rfl ?_ | refine zJ rfl rfl ?_ | refine zK ?_ | refine zL ?_ | refine zM rfl ?_ | refine zN ?_)
      refine WL.call rfl rfl rfl rfl rfl hmE (hmay u w2 huN hp2.nil') ?_
      rintro _ w3 ⟨rfl, hp3⟩
      replace hp3 := hp2.call hp3.below
      repeat (first | refine zA ?_ | refine zB ?_ | refine zC rfl rfl rfl ?_ | refine zD ?_ | refine zE ?_ | refine zF ?_ | refine zG rfl ?_ | refine zH rfl ?_ | refine zI rfl rfl rfl ?_ | refine zJ rfl rfl ?_ | refine zK ?_ | refine zL ?_ | refine zM rfl ?_ | refine zN ?_)
      refine WC.cond rfl (fun c2 => ?_) (fun c2 => ?_)
      · rw [addM_yes (by rw [hq, c2]; rfl)] at hB'
        repeat (first | refine zA ?_ | refine zB ?_ | refine zC rfl rfl rfl ?_ | refine zD ?_ | refine zE ?_ | refine zF ?_ | refine zG rfl ?_ | refine zH rfl ?_ | refine zI rfl rfl rfl ?_ | refine zJ rfl rfl ?_ | refine zK ?_ | refine zL ?_ | refine zM rfl ?_ | refine zN ?_)
        refine WL.skip rfl rfl (yMapSet (k := ((u : Nat) : Int)) (l := bV B) (v := .int .i64 (-1)) (keyT_int rfl) rfl rfl rfl rfl (hp3.obj 0 rfl)) ?_
        have hp4 := hp3.set 0 rfl rfl (setB_put (hp3.obj 0 rfl) (o' := mapO iKey (kPut (bV B) ((u : Nat) : Int) (.int .i64 (-1)))))
        generalize (w3.putObj mb (mapO iKey (kPut (bV B) ((u : Nat) : Int) (.int .i64 (-1))))) = w4 at *
        rw [bV_put (-1) hq] at hp4
        repeat (first | refine zA ?_ | refine zB ?_ | refine zC rfl rfl rfl ?_ | refine zD ?_ | refine zE ?_ | refine zF ?_ | refine zG rfl ?_ | refine zH rfl ?_ | refine zI rfl rfl rfl ?_ | refine zJ rfl rfl ?_ | refine zK ?_ | refine zL ?_ | refine zM rfl ?_ | refine zN ?_)
        refine WL.buildS (cs := [.int .i64 (u : Nat)]) rfl rfl rfl rfl rfl rfl rfl rfl rfl (fun b5 w5 h5 => ?_)
        have hp5 := hp4.new h5
        refine WL.appN (A := [_, _]) rfl rfl rfl rfl rfl rfl rfl rfl hp5 hQ (cell_of_obj (hp5.obj 0 rfl) rfl) (by omega) (by decide) ?_
        intro qa2 qc2 w6 Q2 hp6 hQ2
        repeat (first | refine zA ?_ | refine zB ?_ | refine zC rfl rfl rfl ?_ | refine zD ?_ | refine zE ?_ | refine zF ?_ | refine zG rfl ?_ | refine zH rfl ?_ | refine zI rfl rfl rfl ?_ | refine zJ rfl rfl ?_ | refine zK ?_ | refine zL ?_ | refine zM rfl ?_ | refine zN ?_)
        exact ⟨(i + 1, B ++ [(u, -1)], q ++ [u], qa2, qc2, Q2), (by show start.length - (i + 1) < start.length - i; omega), ⟨rfl, rfl, congrArg (fun z => some (Value.int .i64 z)) step, rfl, rfl, rfl, rfl, rfl, rfl⟩, hi, hB', hok.add huN hq, hQ2, hp6.tail⟩
      · rw [addM_no (by rw [hq, c2]; decide)] at hB'
        repeat (first | refine zA ?_ | refine zB ?_ | refine zC rfl rfl rfl ?_ | refine zD ?_ | refine zE ?_ | refine zF ?_ | refine zG rfl ?_ | refine zH rfl ?_ | refine zI rfl rfl rfl ?_ | refine zJ rfl rfl ?_ | refine zK ?_ | refine zL ?_ | refine zM rfl ?_ | refine zN ?_)
        exact ⟨(i + 1, B, q, qa, qc, Q), (by show start.length - (i + 1) < start.length - i; omega), ⟨rfl, rfl, congrArg (fun z => some (Value.int .i64 z)) step, rfl, rfl, rfl, rfl, rfl, rfl⟩, hi, hB', hok, hQ, hp3⟩
    | some x =>
      rw [addM_no (by rw [hq]; simp)] at hB'
      repeat (first | refine zA ?_ | refine zB ?_ | refine zC rfl rfl rfl ?_ | refine zD ?_ | refine zE ?_ | refine zF ?_ | refine zG rfl ?_ | refine zH rfl ?_ | refine zI rfl rfl rfl ?_ | refine zJ rfl rfl ?_ | refine zK ?_ | refine zL ?_ | refine zM rfl ?_ | refine zN ?_)
      exact ⟨(i + 1, B, q, qa, qc, Q), (by show start.length - (i + 1) < start.length - i; omega), ⟨rfl, rfl, congrArg (fun z => some (Value.int .i64 z)) step, rfl, rfl, rfl, rfl, rfl, rfl⟩, hi, hB', hok, hQ, hp2⟩
  · have hi : i = start.length := by have := of_decide_eq_false c1; omega
    subst hi
    rw [List.take_length] at hB
    unfold wayM at hM
    rw [hB] at hM
    obtain ⟨FB, hFB⟩ : ∃ FB, FB = F := ⟨_, rfl⟩
    have hFb : FB ≤ 1099511627776 := by omega
    replace hM : wayGo FB (rsN rs) may fits F (B, q) = some r := by rw [hFB]; exact hM
    clear hFB hB
    repeat (first | refine zA ?_ | refine zB ?_ | refine zC rfl rfl rfl ?_ | refine zD ?_ | refine zE ?_ | refine zF ?_ | refine zG rfl ?_ | refine zH rfl ?_ | refine zI rfl rfl rfl ?_ | refine zJ rfl rfl ?_ | refine zK ?_ | refine zL ?_ | refine zM rfl ?_ | refine zN ?_)
    refine WC.loop (Nat × Bef × List Nat × Option Addr × Nat × List Ent) (fun (f, B, q, qa, qc, Q) => wyE an cn N mf mc ff fc mb q qa qc)
      (fun (f, B, q, qa, qc, Q) w' => wayGo FB (rsN rs) may fits f (B, q) = some r ∧ BefOk N B q ∧ Quo 3 (.slice qa q.length qc) (natL q) Q ∧ Hp w w' ([mE mb B] ++ Q)) (fun (f, _) => f) (F, B, q, qa, qc, Q) ⟨rfl, rfl, rfl, rfl, rfl, rfl⟩ ⟨hM, hok, hQ, hp2⟩ ?_
    clear hM hok hQ hp2 hqs
    rintro ⟨f, B, q, qa, qc, Q⟩ w2 ⟨hM, hok, hQ, hp2⟩
    replace hM : wayGo FB (rsN rs) may fits f (B, q) = some r := hM
    replace hok : BefOk N B q := hok
    replace hQ : Quo 3 (.slice qa q.length qc) (natL q) Q := hQ
    replace hp2 : Hp w w2 ([mE mb B] ++ Q) := hp2
    have hqs := hok.small
    repeat (first | refine zA ?_ | refine zB ?_ | refine zC rfl rfl rfl ?_ | refine zD ?_ | refine zE ?_ | refine zF ?_ | refine zG rfl ?_ | refine zH rfl ?_ | refine zI rfl rfl rfl ?_ | refine zJ rfl rfl ?_ | refine zK ?_ | refine zL ?_ | refine zM rfl ?_ | refine zN ?_)
    refine WC.cond rfl (fun c2 => ?_) (fun c2 => ?_)
    · have c2 : 0 < q.length := by have h : (0 : Int) < ((q.length : Nat) : Int) := of_decide_eq_true c2; omega
      obtain ⟨v, q, rfl⟩ : ∃ v q2, q = v :: q2 := by
        cases q with
        | nil => exact absurd c2 (Nat.lt_irrefl _)
        | cons v q2 => exact ⟨v, q2, rfl⟩
      have hv : v < N := hok.qb v (by simp)
      obtain ⟨f0, rfl⟩ : ∃ f0, f = f0 + 1 := by
        cases f with
        | zero => unfold wayGo at hM; cases hM
        | succ f0 => exact ⟨f0, rfl⟩
      unfold wayGo at hM
      repeat (first | refine zA ?_ | refine zB ?_ | refine zC rfl rfl rfl ?_ | refine zD ?_ | refine zE ?_ | refine zF ?_ | refine zG rfl ?_ | refine zH rfl ?_ | refine zI rfl rfl rfl ?_ | refine zJ rfl rfl ?_ | refine zK ?_ | refine zL ?_ | refine zM rfl ?_ | refine zN ?_)
      refine WL.ixload (j := 0) rfl (fun _ => rfl) rfl rfl rfl rfl rfl rfl rfl (Nat.succ_pos _) rfl rfl (hQ.sl hp2) (v := .int .i64 (v : Nat)) rfl ?_
      intro q0
      repeat (first | refine zA ?_ | refine zB ?_ | refine zC rfl rfl rfl ?_ | refine zD ?_ | refine zE ?_ | refine zF ?_ | refine zG rfl ?_ | refine zH rfl ?_ | refine zI rfl rfl rfl ?_ | refine zJ rfl rfl ?_ | refine zK ?_ | refine zL ?_ | refine zM rfl ?_ | refine zN ?_)
      refine WL.tailQ (x := .int .i64 (v : Nat)) (xs := natL q) rfl rfl rfl rfl rfl rfl rfl hQ ?_
      intro v' hQ'
      obtain ⟨qa2, qc2, rfl, _⟩ := hQ'.shape
      rw [natL_len] at hQ' ⊢
      clear hQ
      repeat (first | refine zA ?_ | refine zB ?_ | refine zC rfl rfl rfl ?_ | refine zD ?_ | refine zE ?_ | refine zF ?_ | refine zG rfl ?_ | refine zH rfl ?_ | refine zI rfl rfl rfl ?_ | refine zJ rfl rfl ?_ | refine zK ?_ | refine zL ?_ | refine zM rfl ?_ | refine zN ?_)
      refine WL.call rfl rfl rfl rfl rfl hfE (hfits v w2 hv hp2.nil') ?_
      rintro _ w3 ⟨rfl, hp3⟩
      replace hp3 := hp2.call hp3.below
      clear hp2
      repeat (first | refine zA ?_ | refine zB ?_ | refine zC rfl rfl rfl ?_ | refine zD ?_ | refine zE ?_ | refine zF ?_ | refine zG rfl ?_ | refine zH rfl ?_ | refine zI rfl rfl rfl ?_ | refine zJ rfl rfl ?_ | refine zK ?_ | refine zL ?_ | refine zM rfl ?_ | refine zN ?_)
      refine WC.cond rfl (fun c3 => ?_) (fun c3 => ?_)
      · rw [if_pos c3] at hM
        obtain ⟨l, hbk, hrl⟩ := Option.map_eq_some_iff.1 hM
        subst hrl
        have hne := backM_ne _ _ _ _ (List.cons_ne_nil _ _) hbk
        repeat (first | refine zA ?_ | refine zB ?_ | refine zC rfl rfl rfl ?_ | refine zD ?_ | refine zE ?_ | refine zF ?_ | refine zG rfl ?_ | refine zH rfl ?_ | refine zI rfl rfl rfl ?_ | refine zJ rfl rfl ?_ | refine zK ?_ | refine zL ?_ | refine zM rfl ?_ | refine zN ?_)
        refine WL.buildS (cs := [.int .i64 (v : Nat)]) rfl rfl rfl rfl rfl rfl rfl rfl rfl (fun b5 w5 h5 => ?_)
        have hp5 : Hp w w5 (Rna (.slice (some ⟨b5, 0, none⟩) [v].length 1) [v].length [v] :: [mE mb B] ++ Q) := Hp.toRow (s := 1) (m := 1) (hp3.new h5) rfl (by unfold maxLen; decide)
        repeat (first | refine zA ?_ | refine zB ?_ | refine zC rfl rfl rfl ?_ | refine zD ?_ | refine zE ?_ | refine zF ?_ | refine zG rfl ?_ | refine zH rfl ?_ | refine zI rfl rfl rfl ?_ | refine zJ rfl rfl ?_ | refine zK ?_ | refine zL ?_ | refine zM rfl ?_ | refine zN ?_)
        refine WC.loop (Nat × Nat × List Nat × Option Addr × Nat) (fun (g, v, out, oa, oc) => [(9, .map (some mb)), (15, .int .i64 (v : Nat)), (16, .slice oa out.length oc)])
          (fun (g, v, out, oa, oc) w' => backM B g v out = some l ∧ out.length + g = 1 + FB ∧ Hp w w' (Rna (.slice oa out.length oc) out.length out :: [mE mb B] ++ Q)) (fun (g, _) => g) (FB, v, [v], some ⟨b5, 0, none⟩, 1) ⟨rfl, rfl, rfl, rfl⟩ ⟨hbk, rfl, hp5⟩ ?_
        clear hbk hp5
        rintro ⟨g, v, out, oa, oc⟩ w6 ⟨hbk, hgl, hp6⟩
        replace hbk : backM B g v out = some l := hbk
        replace hgl : out.length + g = 1 + FB := hgl
        replace hp6 : Hp w w6 (Rna (.slice oa out.length oc) out.length out :: [mE mb B] ++ Q) := hp6
        have hlk : (kGet (bV B) ((v : Nat) : Int)).getD (Value.int .i64 0) = Value.int .i64 ((lkB B v).getD 0) := by rw [bV_get]; cases lkB B v <;> rfl
        repeat (first | refine zA ?_ | refine zB ?_ | refine zC rfl rfl rfl ?_ | refine zD ?_ | refine zE ?_ | refine zF ?_ | refine zG rfl ?_ | refine zH rfl ?_ | refine zI rfl rfl rfl ?_ | refine zJ rfl rfl ?_ | refine zK ?_ | refine zL ?_ | refine zM rfl ?_ | refine zN ?_)
        refine WL.val rfl rfl rfl (yLookM (k := ((v : Nat) : Int)) (l := bV B) (keyT_int rfl) rfl rfl rfl rfl (hp6.obj 1 rfl)) ?_
        rw [show lkM (bV B) ((v : Nat) : Int) ti3.zero false = Value.int .i64 ((lkB B v).getD 0) from hlk]
        repeat (first | refine zA ?_ | refine zB ?_ | refine zC rfl rfl rfl ?_ | refine zD ?_ | refine zE ?_ | refine zF ?_ | refine zG rfl ?_ | refine zH rfl ?_ | refine zI rfl rfl rfl ?_ | refine zJ rfl rfl ?_ | refine zK ?_ | refine zL ?_ | refine zM rfl ?_ | refine zN ?_)
        refine WC.cond rfl (fun c4 => ?_) (fun c4 => ?_)
        · have c4 : 0 ≤ (lkB B v).getD 0 := of_decide_eq_true c4
          obtain ⟨g0, rfl, hbk2⟩ := backM_go hbk c4
          obtain ⟨u, hu⟩ : ∃ u : Nat, u = ((lkB B v).getD 0).toNat := ⟨_, rfl⟩
          have hu2 : (lkB B v).getD 0 = ((u : Nat) : Int) := by omega
          rw [← hu] at hbk2
          repeat (first | refine zA ?_ | refine zB ?_ | refine zC rfl rfl rfl ?_ | refine zD ?_ | refine zE ?_ | refine zF ?_ | refine zG rfl ?_ | refine zH rfl ?_ | refine zI rfl rfl rfl ?_ | refine zJ rfl rfl ?_ | refine zK ?_ | refine zL ?_ | refine zM rfl ?_ | refine zN ?_)
          refine WL.val rfl rfl rfl (yLookM (k := ((v : Nat) : Int)) (l := bV B) (keyT_int rfl) rfl rfl rfl rfl (hp6.obj 1 rfl)) ?_
          rw [show lkM (bV B) ((v : Nat) : Int) ti3.zero false = Value.int .i64 ((u : Nat) : Int) from by rw [← hu2]; exact hlk]
          repeat (first | refine zA ?_ | refine zB ?_ | refine zC rfl rfl rfl ?_ | refine zD ?_ | refine zE ?_ | refine zF ?_ | refine zG rfl ?_ | refine zH rfl ?_ | refine zI rfl rfl rfl ?_ | refine zJ rfl rfl ?_ | refine zK ?_ | refine zL ?_ | refine zM rfl ?_ | refine zN ?_)
          refine WL.buildS (cs := [.int .i64 (u : Nat)]) rfl rfl rfl rfl rfl rfl rfl rfl rfl (fun b7 w7 h7 => ?_)
          have hp7 : Hp w w7 (Rna (.slice (some ⟨b7, 0, none⟩) 1 1) 1 [u] :: Rna (.slice oa out.length oc) out.length out :: [mE mb B] ++ Q) := Hp.toRow (s := 1) (m := 1) (hp6.new h7) rfl (by unfold maxLen; decide)
          repeat (first | refine zA ?_ | refine zB ?_ | refine zC rfl rfl rfl ?_ | refine zD ?_ | refine zE ?_ | refine zF ?_ | refine zG rfl ?_ | refine zH rfl ?_ | refine zI rfl rfl rfl ?_ | refine zJ rfl rfl ?_ | refine zK ?_ | refine zL ?_ | refine zM rfl ?_ | refine zN ?_)
          refine WL.append 0 hp7 rfl rfl rfl rfl rfl (by decide) rfl rfl rfl (news := natL out) (Sl.of_row (hp7.at 1 rfl)) (by rw [natL_len]; exact (Nat.mul_one _).symm) (natL_cells _) (by unfold maxLen; omega) (by show (1 + out.length) * 8 ≤ _; omega) ?_
          intro oa2 oc2 w8 hp8 _
          have hp9 : Hp w w8 (Rna (.slice oa2 (u :: out).length oc2) (u :: out).length (u :: out) :: Rna (.slice oa out.length oc) out.length out :: [mE mb B] ++ Q) := by
            rw [show (u :: out).length = 1 + out.length by rw [List.length_cons]; omega]
            exact hp8
          have e9 : Value.slice oa2 (1 + out.length) oc2 = .slice oa2 (u :: out).length oc2 := by rw [List.length_cons, Nat.add_comm]
          rw [e9]
          repeat (first | refine zA ?_ | refine zB ?_ | refine zC rfl rfl rfl ?_ | refine zD ?_ | refine zE ?_ | refine zF ?_ | refine zG rfl ?_ | refine zH rfl ?_ | refine zI rfl rfl rfl ?_ | refine zJ rfl rfl ?_ | refine zK ?_ | refine zL ?_ | refine zM rfl ?_ | refine zN ?_)
          exact ⟨(g0, u, u :: out, oa2, oc2), Nat.lt_succ_self g0, ⟨rfl, rfl, rfl, rfl⟩, hbk2, by rw [List.length_cons]; omega, hp9.drop1⟩
        · have c4 : ¬ 0 ≤ (lkB B v).getD 0 := of_decide_eq_false c4
          obtain rfl := backM_end hbk c4
          obtain ⟨b, rfl⟩ := hp6.rowSome 0 rfl (List.length_pos_iff.2 hne)
          repeat (first | refine zA ?_ | refine zB ?_ | refine zC rfl rfl rfl ?_ | refine zD ?_ | refine zE ?_ | refine zF ?_ | refine zG rfl ?_ | refine zH rfl ?_ | refine zI rfl rfl rfl ?_ | refine zJ rfl rfl ?_ | refine zK ?_ | refine zL ?_ | refine zM rfl ?_ | refine zN ?_)
          exact Res.one rfl rfl rfl ⟨hne, b, oc, rfl, hp6.pick [0] (by decide)⟩
      · rw [if_neg (by rw [c3]; decide)] at hM
        have hvr : v < rs.length := by omega
        have hrb := hrow _ (List.getElem_mem hvr)
        have hrin := hin _ (List.getElem_mem hvr)
        have hrs := hT.rows _ (List.getElem_mem hvr)
        have htab := hT.tab
        have hat := rsV_at hvr
        rw [rsN_at hvr] at hM
        generalize rs[v] = x at *
        obtain ⟨ra, rc, row⟩ := x
        simp only at hrb hrin hrs hM hat
        have hok := hok.tail
        repeat (first | refine zA ?_ | refine zB ?_ | refine zC rfl rfl rfl ?_ | refine zD ?_ | refine zE ?_ | refine zF ?_ | refine zG rfl ?_ | refine zH rfl ?_ | refine zI rfl rfl rfl ?_ | refine zJ rfl rfl ?_ | refine zK ?_ | refine zL ?_ | refine zM rfl ?_ | refine zN ?_)
        refine WL.ixload rfl (fun _ => rfl) rfl rfl rfl rfl rfl rfl rfl hv rfl rfl (htab.hp hp3) hat ?_
        intro q0
        repeat (first | refine zA ?_ | refine zB ?_ | refine zC rfl rfl rfl ?_ | refine zD ?_ | refine zE ?_ | refine zF ?_ | refine zG rfl ?_ | refine zH rfl ?_ | refine zI rfl rfl rfl ?_ | refine zJ rfl rfl ?_ | refine zK ?_ | refine zL ?_ | refine zM rfl ?_ | refine zN ?_)
        refine WC.loop (Nat × Bef × List Nat × Option Addr × Nat × List Ent) (fun (i, B, q, qa, qc, Q) => [(15, .int .i64 (v : Nat)), (76, .slice ra row.length rc), (77, .int .i64 (row.length : Nat)), (78, .int .i64 (i : Nat))] ++ wyE an cn N mf mc ff fc mb q qa qc)
          (fun (i, B, q, qa, qc, Q) w' => i ≤ row.length ∧ wayGo FB (rsN rs) may fits f0 ((row.drop i).foldl (addM may v) (B, q)) = some r ∧ BefOk N B q ∧ Quo 3 (.slice qa q.length qc) (natL q) Q ∧ Hp w w' ([mE mb B] ++ Q)) (fun (i, _) => row.length - i) (0, B, q, qa2, qc2, Q) ⟨rfl, rfl, rfl, rfl, rfl, rfl, rfl, rfl, rfl, rfl⟩
          ⟨Nat.zero_le _, hM, hok, hQ', hp3⟩ ?_
        clear hM hok hQ' hp3 hqs
        rintro ⟨i, B, q, qa, qc, Q⟩ w4 ⟨hi, hM, hok, hQ, hp4⟩
        replace hi : i ≤ row.length := hi
        replace hM : wayGo FB (rsN rs) may fits f0 ((row.drop i).foldl (addM may v) (B, q)) = some r := hM
        replace hok : BefOk N B q := hok
        replace hQ : Quo 3 (.slice qa q.length qc) (natL q) Q := hQ
        replace hp4 : Hp w w4 ([mE mb B] ++ Q) := hp4
        have hqs := hok.small
        repeat (first | refine zA ?_ | refine zB ?_ | refine zC rfl rfl rfl ?_ | refine zD ?_ | refine zE ?_ | refine zF ?_ | refine zG rfl ?_ | refine zH rfl ?_ | refine zI rfl rfl rfl ?_ | refine zJ rfl rfl ?_ | refine zK ?_ | refine zL ?_ | refine zM rfl ?_ | refine zN ?_)
        refine WC.cond rfl (fun c4 => ?_) (fun c4 => ?_)
        · have hi : i < row.length := by have h : ((i : Nat) : Int) < ((row.length : Nat) : Int) := of_decide_eq_true c4; omega
          have step := wrap_succ (i := i) (n := i + 1) (by omega) (by omega)
          obtain ⟨u, hu⟩ : ∃ u, u = row[i] := ⟨_, rfl⟩
          have huN : u < N := by rw [hu]; exact hrin _ (List.getElem_mem hi)
          rw [List.drop_eq_getElem_cons hi, List.foldl_cons, ← hu] at hM
          repeat (first | refine zA ?_ | refine zB ?_ | refine zC rfl rfl rfl ?_ | refine zD ?_ | refine zE ?_ | refine zF ?_ | refine zG rfl ?_ | refine zH rfl ?_ | refine zI rfl rfl rfl ?_ | refine zJ rfl rfl ?_ | refine zK ?_ | refine zL ?_ | refine zM rfl ?_ | refine zN ?_)
          refine WL.ixload rfl (fun _ => rfl) rfl rfl rfl rfl rfl rfl rfl hi rfl rfl (hrs.hp hp4) (natL_at hi) ?_
          intro q0
          rw [← hu]
          repeat (first | refine zA ?_ | refine zB ?_ | refine zC rfl rfl rfl ?_ | refine zD ?_ | refine zE ?_ | refine zF ?_ | refine zG rfl ?_ | refine zH rfl ?_ | refine zI rfl rfl rfl ?_ | refine zJ rfl rfl ?_ | refine zK ?_ | refine zL ?_ | refine zM rfl ?_ | refine zN ?_)
          refine WL.val rfl rfl rfl (yLookM (k := ((u : Nat) : Int)) (l := bV B) (keyT_int rfl) rfl rfl rfl rfl (hp4.obj 0 rfl)) ?_
          unfold lkM
          rw [bV_get]
          cases hq : lkB B u with
          | none =>
            repeat (first | refine zA ?_ | refine zB ?_ | refine zC rfl rfl rfl ?_ | refine zD ?_ | refine zE ?_ | refine zF ?_ | refine zG rfl ?_ | refine zH rfl ?_ | refine zI rfl rfl rfl ?_ | refine zJ rfl rfl ?_ | refine zK ?_ | refine zL ?_ | refine zM rfl ?_ | refine zN ?_)
            refine WL.call rfl rfl rfl rfl rfl hmE (hmay u w4 huN hp4.nil') ?_
            rintro _ w5 ⟨rfl, hp5⟩
            replace hp5 := hp4.call hp5.below
            repeat (first | refine zA ?_ | refine zB ?_ | refine zC rfl rfl rfl ?_ | refine zD ?_ | refine zE ?_ | refine zF ?_ | refine zG rfl ?_ | refine zH rfl ?_ | refine zI rfl rfl rfl ?_ | refine zJ rfl rfl ?_ | refine zK ?_ | refine zL ?_ | refine zM rfl ?_ | refine zN ?_)
            refine WC.cond rfl (fun c5 => ?_) (fun c5 => ?_)
            · rw [addM_yes (by rw [hq, c5]; rfl)] at hM
              repeat (first | refine zA ?_ | refine zB ?_ | refine zC rfl rfl rfl ?_ | refine zD ?_ | refine zE ?_ | refine zF ?_ | refine zG rfl ?_ | refine zH rfl ?_ | refine zI rfl rfl rfl ?_ | refine zJ rfl rfl ?_ | refine zK ?_ | refine zL ?_ | refine zM rfl ?_ | refine zN ?_)
              refine WL.skip rfl rfl (yMapSet (k := ((u : Nat) : Int)) (l := bV B) (v := .int .i64 ((v : Nat) : Int)) (keyT_int rfl) rfl rfl rfl rfl (hp5.obj 0 rfl)) ?_
              have hp6 := hp5.set 0 rfl rfl (setB_put (hp5.obj 0 rfl) (o' := mapO iKey (kPut (bV B) ((u : Nat) : Int) (.int .i64 ((v : Nat) : Int)))))
              generalize (w5.putObj mb (mapO iKey (kPut (bV B) ((u : Nat) : Int) (.int .i64 ((v : Nat) : Int))))) = w6 at *
              rw [bV_put ((v : Nat) : Int) hq] at hp6
              repeat (first | refine zA ?_ | refine zB ?_ | refine zC rfl rfl rfl ?_ | refine zD ?_ | refine zE ?_ | refine zF ?_ | refine zG rfl ?_ | refine zH rfl ?_ | refine zI rfl rfl rfl ?_ | refine zJ rfl rfl ?_ | refine zK ?_ | refine zL ?_ | refine zM rfl ?_ | refine zN ?_)
              refine WL.buildS (cs := [.int .i64 (u : Nat)]) rfl rfl rfl rfl rfl rfl rfl rfl rfl (fun b7 w7 h7 => ?_)
              have hp7 := hp6.new h7
              refine WL.appN (A := [_, _]) rfl rfl rfl rfl rfl rfl rfl rfl hp7 hQ (cell_of_obj (hp7.obj 0 rfl) rfl) (by omega) (by decide) ?_
              intro qa2 qc2 w8 Q2 hp8 hQ2
              repeat (first | refine zA ?_ | refine zB ?_ | refine zC rfl rfl rfl ?_ | refine zD ?_ | refine zE ?_ | refine zF ?_ | refine zG rfl ?_ | refine zH rfl ?_ | refine zI rfl rfl rfl ?_ | refine zJ rfl rfl ?_ | refine zK ?_ | refine zL ?_ | refine zM rfl ?_ | refine zN ?_)
              exact ⟨(i + 1, B ++ [(u, ((v : Nat) : Int))], q ++ [u], qa2, qc2, Q2), (by show row.length - (i + 1) < row.length - i; omega), ⟨rfl, rfl, rfl, congrArg (fun z => some (Value.int .i64 z)) step, rfl, rfl, rfl, rfl, rfl, rfl⟩, hi, hM, hok.add huN hq, hQ2, hp8.tail⟩
            · rw [addM_no (by rw [hq, c5]; decide)] at hM
              repeat (first | refine zA ?_ | refine zB ?_ | refine zC rfl rfl rfl ?_ | refine zD ?_ | refine zE ?_ | refine zF ?_ | refine zG rfl ?_ | refine zH rfl ?_ | refine zI rfl rfl rfl ?_ | refine zJ rfl rfl ?_ | refine zK ?_ | refine zL ?_ | refine zM rfl ?_ | refine zN ?_)
              exact ⟨(i + 1, B, q, qa, qc, Q), (by show row.length - (i + 1) < row.length - i; omega), ⟨rfl, rfl, rfl, congrArg (fun z => some (Value.int .i64 z)) step, rfl, rfl, rfl, rfl, rfl, rfl⟩, hi, hM, hok, hQ, hp5⟩
          | some x =>
            rw [addM_no (by rw [hq]; simp)] at hM
            repeat (first | refine zA ?_ | refine zB ?_ | refine zC rfl rfl rfl ?_ | refine zD ?_ | refine zE ?_ | refine zF ?_ | refine zG rfl ?_ | refine zH rfl ?_ | refine zI rfl rfl rfl ?_ | refine zJ rfl rfl ?_ | refine zK ?_ | refine zL ?_ | refine zM rfl ?_ | refine zN ?_)
            exact ⟨(i + 1, B, q, qa, qc, Q), (by show row.length - (i + 1) < row.length - i; omega), ⟨rfl, rfl, rfl, congrArg (fun z => some (Value.int .i64 z)) step, rfl, rfl, rfl, rfl, rfl, rfl⟩, hi, hM, hok, hQ, hp4⟩
        · have hi : i = row.length := by have h : ¬ ((i : Nat) : Int) < ((row.length : Nat) : Int) := of_decide_eq_false c4; omega
          subst hi
          rw [List.drop_length, List.foldl_nil] at hM
          repeat (first | refine zA ?_ | refine zB ?_ | refine zC rfl rfl rfl ?_ | refine zD ?_ | refine zE ?_ | refine zF ?_ | refine zG rfl ?_ | refine zH rfl ?_ | refine zI rfl rfl rfl ?_ | refine zJ rfl rfl ?_ | refine zK ?_ | refine zL ?_ | refine zM rfl ?_ | refine zN ?_)
          exact ⟨(f0, B, q, qa, qc, Q), Nat.lt_succ_self f0, ⟨rfl, rfl, rfl, rfl, rfl, rfl⟩, hM, hok, hQ, hp4⟩
    · have c2 : q = [] := List.eq_nil_of_length_eq_zero (by have h : ¬ (0 : Int) < ((q.length : Nat) : Int) := of_decide_eq_false c2; omega)
      subst c2
      have : r = none := by
        cases f with
        | zero => unfold wayGo at hM; simpa using hM.symm
        | succ f => unfold wayGo at hM; simpa using hM.symm
      subst this
      repeat (first | refine zA ?_ | refine zB ?_ | refine zC rfl rfl rfl ?_ | refine zD ?_ | refine zE ?_ | refine zF ?_ | refine zG rfl ?_ | refine zH rfl ?_ | refine zI rfl rfl rfl ?_ | refine zJ rfl rfl ?_ | refine zK ?_ | refine zL ?_ | refine zM rfl ?_ | refine zN ?_)
      exact Res.one rfl rfl rfl ⟨rfl, hp2.nil'⟩
end Go.Proofs.YtpbbneclkhfgoaaDoor
end
section
/- ltl, twenty-fifth: the other two tests of run. -/
namespace Go.Proofs.YtpbbneclkhfgoaaDoor
open Go.W Go.Ltl Go.RowKit
set_option maxRecDepth 100000
attribute [local irreducible] WC WL WQ WS WH

section
variable {P : Program} [T : TT P] {n : Nat} {l0 rest : List Oper} {C : World → Prop} {M : Env → Prop} {e : Env} {ty : TypeId} {pos : String} {aft : Array Edge} {g : Option (Nat × Bool)}
/-- A lookup of a number, in every world of the class. -/
theorem WQ.lookM {d : Nat} {t kt vt : TypeId} {z : Value} {s0 b0 b : Nat} {iv : TI} {x ix : Operand} {l : List (Int × Value)} {k : Int} {v : Value} (hg : grd l0 e g = some true) (hd : Nat.blt d n = true)
    (hK : KeyT P kt iKey) (ht : T.ti t = some ⟨.map kt vt, z, s0, b0⟩) (hv : T.ti vt = some iv) (hx : opv e x = some (.map (some b))) (hix : opv e ix = some (.int .i64 k)) (hb : ∀ w, C w → w.heap[b]? = some (mapO iKey l)) (hl : (kGet l k).getD iv.zero = v)
    (h : Go.W.WQ P n l0 C M rest ((d, v) :: e)) : Go.W.WQ P n l0 C M (⟨some d, .lookup t x ix false, ty, pos, aft, g⟩ :: rest) e :=
  Go.W.WQ.val hg hd (fun w hw => by rw [← hl]; exact yLookM (k := k) (c := false) hK ht hv hx hix (hb w hw)) h
end
/-- What the test of the stem reads. -/
structure Rd2 (w : World) (N b9 b6 b8 b7 : Nat) (of_ : List Nat) (tb fb ob : Nat) (TL FL : List (Int × Value)) (tn : Nat → Bool) (fr : Nat → Nat) (all : Nat) : Prop where
  h9 : w.cell? ⟨b9, 0, none⟩ = some (.map (some tb))
  hT : w.heap[tb]? = some (mapO iKey TL)
  tn : ∀ c : Nat, (kGet TL (c : Int)).getD (.bool false) = .bool (tn c)
  h6 : w.cell? ⟨b6, 0, none⟩ = some (sN ob N)
  hO : Sl w (some ⟨ob, 0, none⟩) (natL of_)
  hN : of_.length = N
  h8 : w.cell? ⟨b8, 0, none⟩ = some (.map (some fb))
  hF : w.heap[fb]? = some (mapO iKey FL)
  fr : ∀ c : Nat, (kGet FL (c : Int)).getD (.int .i64 0) = .int .i64 (fr c : Nat)
  h7 : w.cell? ⟨b7, 0, none⟩ = some (.int .i64 (all : Nat))
theorem Rd2.below {w w' : World} {N b9 b6 b8 b7 : Nat} {of_ : List Nat} {tb fb ob : Nat} {TL FL : List (Int × Value)} {tn : Nat → Bool} {fr : Nat → Nat} {all : Nat} (h : Rd2 w N b9 b6 b8 b7 of_ tb fb ob TL FL tn fr all) (hb : Below w.heap.size w w') : Rd2 w' N b9 b6 b8 b7 of_ tb fb ob TL FL tn fr all :=
  ⟨cell_below hb h.h9, by rw [hb.block tb (Array.getElem?_eq_some_iff.1 h.hT).1]; exact h.hT, h.tn, cell_below hb h.h6, h.hO.below hb, h.hN, cell_below hb h.h8, by rw [hb.block fb (Array.getElem?_eq_some_iff.1 h.hF).1]; exact h.hF, h.fr, cell_below hb h.h7⟩
theorem run2_any {w : World} {N b9 b6 b8 b7 : Nat} {of_ : List Nat} {tb fb ob : Nat} {TL FL : List (Int × Value)} {tn : Nat → Bool} {fr : Nat → Nat} {all : Nat} (h : Rd2 w N b9 b6 b8 b7 of_ tb fb ob TL FL tn fr all) (v : Nat) (hv : v < N) :
    Ret Tryd.prog 91 [.int .i64 (v : Nat), ptr b9, ptr b6, ptr b8, ptr b7] w fun u w' => u = .bool (tn (of_.getD v 0) && decide (fr (of_.getD v 0) = all)) ∧ Hp w w' [] := by
  refine enter Tryd.func91 rfl rfl ⟨rfl, rfl⟩ rfl ?_
  repeat (first | refine zA ?_ | refine zB ?_ | refine zC rfl rfl rfl ?_ | refine zD ?_ | refine zE ?_ | refine zF ?_ | refine zG rfl ?_ | refine zH rfl ?_ | refine zI rfl rfl rfl ?_ | refine zJ rfl rfl ?_ | refine zK ?_ | refine zL ?_ | refine zM rfl ?_ | refine zN ?_)
  refine WC.regQ (fun w' => Hp w w' []) mixed (by kernel_rfl) (fun w' hw' => (Hp.start w).keep hw') ?_
  refine WQ.load rfl rfl rfl rfl rfl (fun w' q => cell_below q.below h.h9) ?_
  refine WQ.load rfl rfl rfl rfl rfl (fun w' q => cell_below q.below h.h6) ?_
  repeat (first | refine WQ.pure rfl rfl rfl ?_ | refine WQ.off rfl rfl rfl ?_ | refine WQ.nil ?_)
  refine WQ.ixload rfl (fun _ => rfl) rfl rfl rfl rfl rfl rfl rfl hv rfl rfl (fun w' q => Sl.cell (h.hO.hp q) (nd h.hN hv)) ?_
  refine WQ.lookM (k := ((of_.getD v 0 : Nat) : Int)) rfl rfl (keyT_int rfl) rfl rfl rfl rfl (fun w' q => (h.below q.below).hT) (h.tn _) ?_
  repeat (first | refine WQ.pure rfl rfl rfl ?_ | refine WQ.off rfl rfl rfl ?_ | refine WQ.nil ?_)
  refine WQ.split 13 rfl (fun c1 => ?_) (fun c1 => ?_)
  · rw [c1, Bool.true_and]
    refine WQ.load rfl rfl rfl rfl rfl (fun w' q => cell_below q.below h.h8) ?_
    refine WQ.load rfl rfl rfl rfl rfl (fun w' q => cell_below q.below h.h6) ?_
    repeat (first | refine WQ.pure rfl rfl rfl ?_ | refine WQ.off rfl rfl rfl ?_ | refine WQ.nil ?_)
    refine WQ.ixload rfl (fun _ => rfl) rfl rfl rfl rfl rfl rfl rfl hv rfl rfl (fun w' q => Sl.cell (h.hO.hp q) (nd h.hN hv)) ?_
    refine WQ.lookM (k := ((of_.getD v 0 : Nat) : Int)) rfl rfl (keyT_int rfl) rfl rfl rfl rfl (fun w' q => (h.below q.below).hF) (h.fr _) ?_
    refine WQ.load rfl rfl rfl rfl rfl (fun w' q => cell_below q.below h.h7) ?_
    repeat (first | refine WQ.pure rfl rfl rfl ?_ | refine WQ.off rfl rfl rfl ?_ | refine WQ.nil ?_)
    intro w2 hp2
    repeat (first | refine zA ?_ | refine zB ?_ | refine zC rfl rfl rfl ?_ | refine zD ?_ | refine zE ?_ | refine zF ?_ | refine zG rfl ?_ | refine zH rfl ?_ | refine zI rfl rfl rfl ?_ | refine zJ rfl rfl ?_ | refine zK ?_ | refine zL ?_ | refine zM rfl ?_ | refine zN ?_)
    refine Res.one rfl rfl rfl ⟨?_, hp2⟩
    congr 1
    rw [Bool.eq_iff_iff, beq_iff_eq, decide_eq_true_iff]
    exact Int.ofNat_inj
  · rw [c1, Bool.false_and]
    repeat (first | refine WQ.pure rfl rfl rfl ?_ | refine WQ.off rfl rfl rfl ?_ | refine WQ.nil ?_)
    intro w2 hp2
    repeat (first | refine zA ?_ | refine zB ?_ | refine zC rfl rfl rfl ?_ | refine zD ?_ | refine zE ?_ | refine zF ?_ | refine zG rfl ?_ | refine zH rfl ?_ | refine zI rfl rfl rfl ?_ | refine zJ rfl rfl ?_ | refine zK ?_ | refine zL ?_ | refine zM rfl ?_ | refine zN ?_)
    exact Res.one rfl rfl rfl ⟨rfl, hp2⟩
theorem run4_any {w : World} {b1 b21 b7 b18 xb : Nat} {nx mk : Value} {starts : Nat} {lv : Value} {pairs : Nat} {wv tv : Value} {fa : Option Addr} {fcap N : Nat} {fair : List Nat} {seen all home : Nat} (h1 : w.cell? ⟨b1, 0, none⟩ = some (ptr xb))
    (hx : w.heap[xb]? = some (Sxo nx mk starts lv pairs wv tv (.slice fa N fcap))) (hf : Sl w fa (natL fair)) (hN : fair.length = N) (hfb : ∀ x ∈ fair, x < 2 ^ 40) (hsb : seen < 2 ^ 40)
    (h21 : w.cell? ⟨b21, 0, none⟩ = some (.int .i64 (seen : Nat))) (h7 : w.cell? ⟨b7, 0, none⟩ = some (.int .i64 (all : Nat))) (h18 : w.cell? ⟨b18, 0, none⟩ = some (.int .i64 (home : Nat))) (v : Nat) (hv : v < N) :
    Ret Tryd.prog 93 [.int .i64 (v : Nat), ptr b1, ptr b21, ptr b7, ptr b18] w fun u w' => u = .bool (loopFits fair all home seen v) ∧ Hp w w' [] := by
  have hc7 : w.cell? ⟨xb, 7, none⟩ = some (.slice fa N fcap) := cell_of_obj (j := 7) hx rfl
  have hfv : fair.getD v 0 < 2 ^ 40 := by
    have : fair.getD v 0 = fair[v]'(by omega) := by simp [hN, hv]
    rw [this]; exact hfb _ (List.getElem_mem _)
  obtain ⟨fb, fo, rfl, hfc⟩ := hf _ _ (nd hN hv)
  have e1 : bits .andNot .i64 ((fair.getD v 0 : Nat) : Int) ((seen : Nat) : Int) = ((bd (fair.getD v 0) seen : Nat) : Int) := andNot_i64 (by omega) (by omega)
  unfold loopFits
  refine enter Tryd.func93 rfl rfl ⟨rfl, rfl⟩ rfl ?_
  repeat (first | refine zA ?_ | refine zB ?_ | refine zC rfl rfl rfl ?_ | refine zD ?_ | refine zE ?_ | refine zF ?_ | refine zG rfl ?_ | refine zH rfl ?_ | refine zI rfl rfl rfl ?_ | refine zJ rfl rfl ?_ | refine zK ?_ | refine zL ?_ | refine zM rfl ?_ | refine zN ?_)
  refine WC.regQ (fun w' => Hp w w' []) mixed (by kernel_rfl) (fun w' hw' => (Hp.start w).keep hw') ?_
  refine WQ.load rfl rfl rfl rfl rfl (fun w' q => cell_below q.below h1) ?_
  refine WQ.nilC rfl rfl rfl ?_
  repeat (first | refine WQ.pure rfl rfl rfl ?_ | refine WQ.off rfl rfl rfl ?_ | refine WQ.nil ?_)
  refine WQ.load rfl rfl rfl rfl rfl (fun w' q => cell_below q.below hc7) ?_
  repeat (first | refine WQ.pure rfl rfl rfl ?_ | refine WQ.off rfl rfl rfl ?_ | refine WQ.nil ?_)
  refine WQ.ixload rfl (fun _ => rfl) rfl rfl rfl rfl rfl rfl rfl hv rfl rfl (fun w' q => cell_below q.below hfc) ?_
  refine WQ.load rfl rfl rfl rfl rfl (fun w' q => cell_below q.below h21) ?_
  refine WQ.pure rfl rfl rfl ?_
  refine WQ.known (d := 15) (congrArg (fun z => some (Value.int .i64 z)) e1) ?_
  generalize bd (fair.getD v 0) seen = dif at *
  repeat (first | refine WQ.pure rfl rfl rfl ?_ | refine WQ.off rfl rfl rfl ?_ | refine WQ.nil ?_)
  refine WQ.split 17 rfl (fun c1 => ?_) (fun c1 => ?_)
  · have c1 : dif ≠ 0 := by simpa using c1
    rw [decide_eq_true c1, Bool.true_or]
    repeat (first | refine WQ.pure rfl rfl rfl ?_ | refine WQ.off rfl rfl rfl ?_ | refine WQ.nil ?_)
    intro w2 hp2
    repeat (first | refine zA ?_ | refine zB ?_ | refine zC rfl rfl rfl ?_ | refine zD ?_ | refine zE ?_ | refine zF ?_ | refine zG rfl ?_ | refine zH rfl ?_ | refine zI rfl rfl rfl ?_ | refine zJ rfl rfl ?_ | refine zK ?_ | refine zL ?_ | refine zM rfl ?_ | refine zN ?_)
    exact Res.one rfl rfl rfl ⟨rfl, hp2⟩
  · have c1 : ¬ dif ≠ 0 := by simpa using c1
    rw [decide_eq_false c1, Bool.false_or]
    refine WQ.load rfl rfl rfl rfl rfl (fun w' q => cell_below q.below h21) ?_
    refine WQ.load rfl rfl rfl rfl rfl (fun w' q => cell_below q.below h7) ?_
    repeat (first | refine WQ.pure rfl rfl rfl ?_ | refine WQ.off rfl rfl rfl ?_ | refine WQ.nil ?_)
    refine WQ.split 21 rfl (fun c2 => ?_) (fun c2 => ?_)
    · have c2 : seen = all := Int.ofNat_inj.1 (beq_iff_eq.1 c2)
      rw [decide_eq_true c2, Bool.true_and]
      repeat (first | refine WQ.pure rfl rfl rfl ?_ | refine WQ.off rfl rfl rfl ?_ | refine WQ.nil ?_)
      refine WQ.load rfl rfl rfl rfl rfl (fun w' q => cell_below q.below h18) ?_
      repeat (first | refine WQ.pure rfl rfl rfl ?_ | refine WQ.off rfl rfl rfl ?_ | refine WQ.nil ?_)
      intro w2 hp2
      repeat (first | refine zA ?_ | refine zB ?_ | refine zC rfl rfl rfl ?_ | refine zD ?_ | refine zE ?_ | refine zF ?_ | refine zG rfl ?_ | refine zH rfl ?_ | refine zI rfl rfl rfl ?_ | refine zJ rfl rfl ?_ | refine zK ?_ | refine zL ?_ | refine zM rfl ?_ | refine zN ?_)
      refine Res.one rfl rfl rfl ⟨?_, hp2⟩
      congr 1
      rw [Bool.eq_iff_iff, beq_iff_eq, decide_eq_true_iff]
      exact Int.ofNat_inj
    · have c2 : ¬ seen = all := fun h => by rw [h] at c2; simp at c2
      rw [decide_eq_false c2, Bool.false_and]
      repeat (first | refine WQ.pure rfl rfl rfl ?_ | refine WQ.off rfl rfl rfl ?_ | refine WQ.nil ?_)
      intro w2 hp2
      repeat (first | refine zA ?_ | refine zB ?_ | refine zC rfl rfl rfl ?_ | refine zD ?_ | refine zE ?_ | refine zF ?_ | refine zG rfl ?_ | refine zH rfl ?_ | refine zI rfl rfl rfl ?_ | refine zJ rfl rfl ?_ | refine zK ?_ | refine zL ?_ | refine zM rfl ?_ | refine zN ?_)
      exact Res.one rfl rfl rfl ⟨rfl, hp2⟩
end Go.Proofs.YtpbbneclkhfgoaaDoor
end
section
/- ltl, twenty-sixth: run. -/
namespace Go.Proofs.YtpbbneclkhfgoaaDoor
open Go.W Go.Ltl Go.RowKit
set_option maxRecDepth 100000
attribute [local irreducible] WC WL WQ WS WH

theorem states2_any (xb : Nat) (nx mk : Value) (starts : Nat) (lv : Value) (pairs : Nat) (wv tv fv : Value) (hp0 : 0 < pairs) (a : Option Addr) (c : Nat) (l : List Nat) (hl : l.length ≤ 4398046511104) (hb : ∀ x ∈ l, x < 9223372036854775808) (w : World)
    (hx : w.heap[xb]? = some (Sxo nx mk starts lv pairs wv tv fv)) (hs : Sl w a (natL l)) :
    Ret Tryd.prog 94 [ptr xb, .slice a l.length c] w fun v w' => ∃ ra rc, v = .slice ra l.length rc ∧ Hp w w' [Rna (.slice ra l.length rc) l.length (l.map (· / pairs))] := by
  have hne : ((pairs : Nat) : Int) ≠ 0 := by omega
  refine enter Tryd.func94 rfl rfl ⟨rfl, rfl⟩ rfl ?_
  have hpc : w.cell? ⟨xb, 0 + 4, none⟩ = some (.int .i64 (pairs : Nat)) := cell_of_obj hx rfl
  repeat (first | refine zA ?_ | refine zB ?_ | refine zC rfl rfl rfl ?_ | refine zD ?_ | refine zE ?_ | refine zF ?_ | refine zG rfl ?_ | refine zH rfl ?_ | refine zI rfl rfl rfl ?_ | refine zJ rfl rfl ?_ | refine zK ?_ | refine zL ?_ | refine zM rfl ?_ | refine zN ?_)
  refine WC.loop (Nat × Option Addr × Nat) (fun (i, ra, rc) => [(0, ptr xb), (5, .slice ra i rc), (8, .slice a l.length c), (9, .int .i64 (l.length : Nat)), (10, .int .i64 (i : Nat))])
    (fun (i, ra, rc) w' => i ≤ l.length ∧ Hp w w' [Rna (.slice ra i rc) i ((l.take i).map (· / pairs))]) (fun (i, _, _) => l.length - i) (0, none, 0) ⟨rfl, rfl, rfl, rfl, rfl, rfl⟩ ⟨Nat.zero_le _, (Hp.start w).nilrow _ _⟩ ?_
  rintro ⟨i, ra, rc⟩ w1 ⟨hi, hp1⟩
  replace hi : i ≤ l.length := hi
  replace hp1 : Hp w w1 [Rna (.slice ra i rc) i ((l.take i).map (· / pairs))] := hp1
  repeat (first | refine zA ?_ | refine zB ?_ | refine zC rfl rfl rfl ?_ | refine zD ?_ | refine zE ?_ | refine zF ?_ | refine zG rfl ?_ | refine zH rfl ?_ | refine zI rfl rfl rfl ?_ | refine zJ rfl rfl ?_ | refine zK ?_ | refine zL ?_ | refine zM rfl ?_ | refine zN ?_)
  refine WC.cond rfl (fun h1 => ?_) (fun h1 => ?_)
  · have hi : i < l.length := by have := of_decide_eq_true h1; omega
    have step := wrap_succ (i := i) (n := i + 1) (by omega) (by omega)
    repeat (first | refine zA ?_ | refine zB ?_ | refine zC rfl rfl rfl ?_ | refine zD ?_ | refine zE ?_ | refine zF ?_ | refine zG rfl ?_ | refine zH rfl ?_ | refine zI rfl rfl rfl ?_ | refine zJ rfl rfl ?_ | refine zK ?_ | refine zL ?_ | refine zM rfl ?_ | refine zN ?_)
    refine WL.ixload rfl (fun _ => rfl) rfl rfl rfl rfl rfl rfl rfl hi rfl rfl (hs.hp hp1) (natL_at hi) ?_
    intro q
    repeat (first | refine zA ?_ | refine zB ?_ | refine zC rfl rfl rfl ?_ | refine zD ?_ | refine zE ?_ | refine zF ?_ | refine zG rfl ?_ | refine zH rfl ?_ | refine zI rfl rfl rfl ?_ | refine zJ rfl rfl ?_ | refine zK ?_ | refine zL ?_ | refine zM rfl ?_ | refine zN ?_)
    refine WL.nilC rfl rfl rfl ?_
    repeat (first | refine zA ?_ | refine zB ?_ | refine zC rfl rfl rfl ?_ | refine zD ?_ | refine zE ?_ | refine zF ?_ | refine zG rfl ?_ | refine zH rfl ?_ | refine zI rfl rfl rfl ?_ | refine zJ rfl rfl ?_ | refine zK ?_ | refine zL ?_ | refine zM rfl ?_ | refine zN ?_)
    refine WL.load rfl rfl rfl rfl rfl (cell_below hp1.below hpc) ?_
    refine WL.quo rfl rfl rfl rfl hne ?_
    refine WL.known (d := 20) (congrArg (fun z => some (Value.int .i64 z)) (wrap_div (hb _ (List.getElem_mem hi)))) ?_
    refine WL.buildS (cs := [.int .i64 (l[i] / pairs : Nat)]) rfl rfl rfl rfl rfl rfl rfl rfl rfl (fun b2 w2 h2 => ?_)
    have hp2 := hp1.new h2
    refine WL.append 1 hp2 rfl rfl rfl rfl rfl (by decide) rfl rfl rfl (news := [.int .i64 (l[i] / pairs : Nat)]) (Sl.of_obj (hp2.obj 0 rfl) (fun q u hq => by simpa using hq)) rfl (natL_cells [l[i] / pairs]) (by unfold maxLen; omega) (by show (i + 1) * 8 ≤ _; omega) ?_
    intro ra2 rc2 w3 hp3 hg3
    repeat (first | refine zA ?_ | refine zB ?_ | refine zC rfl rfl rfl ?_ | refine zD ?_ | refine zE ?_ | refine zF ?_ | refine zG rfl ?_ | refine zH rfl ?_ | refine zI rfl rfl rfl ?_ | refine zJ rfl rfl ?_ | refine zK ?_ | refine zL ?_ | refine zM rfl ?_ | refine zN ?_)
    refine ⟨(i + 1, ra2, rc2), (by show l.length - (i + 1) < l.length - i; omega), ⟨rfl, rfl, rfl, rfl, congrArg (fun z => some (Value.int .i64 z)) step, rfl⟩, hi, ?_⟩
    have e1 : natL ((l.take (i + 1)).map (· / pairs)) = natL ((l.take i).map (· / pairs)) ++ [.int .i64 (l[i] / pairs : Nat)] := by
      rw [List.take_succ_eq_append_getElem hi]
      unfold natL
      rw [List.map_append, List.map_append]
      rfl
    show Hp w w3 [Rna (.slice ra2 (i + 1) rc2) (i + 1) ((l.take (i + 1)).map (· / pairs))]
    unfold Rna
    rw [e1]
    exact hp3.tail
  · have hi : i = l.length := by have := of_decide_eq_false h1; omega
    subst hi
    rw [List.take_length] at hp1
    repeat (first | refine zA ?_ | refine zB ?_ | refine zC rfl rfl rfl ?_ | refine zD ?_ | refine zE ?_ | refine zF ?_ | refine zG rfl ?_ | refine zH rfl ?_ | refine zI rfl rfl rfl ?_ | refine zJ rfl rfl ?_ | refine zK ?_ | refine zL ?_ | refine zM rfl ?_ | refine zN ?_)
    exact Res.one rfl rfl rfl ⟨ra, rc, rfl, hp1⟩
theorem last_at {l : List Nat} (h : l ≠ []) : (natL l)[l.length - 1]? = some (.int .i64 (l.getLastD 0 : Nat)) := by
  unfold natL
  rw [List.getElem?_map, ← List.getLast?_eq_getElem?, List.getLastD_eq_getLast?]
  cases hq : l.getLast? with
  | none => exact absurd (List.getLast?_eq_none_iff.1 hq) h
  | some x => rfl
theorem last_mem {l : List Nat} (h : l ≠ []) : l.getLastD 0 ∈ l := by
  rw [List.getLastD_eq_getLast?, List.getLast?_eq_some_getLast h]
  exact List.getLast_mem h
theorem bl_get {l : List Bool} {i : Nat} (h : i < l.length) : (bl l)[i]? = some (.bool (l.getD i false)) := by simp [bl, h]
theorem kPut_spec {V : Type} {l : List (Int × Value)} {z : Value} {mkV : V → Value} {f : Nat → V} (h : ∀ c : Nat, (kGet l (c : Int)).getD z = mkV (f c)) (k : Nat) (x : V) : ∀ c : Nat, (kGet (kPut l (k : Int) (mkV x)) (c : Int)).getD z = mkV (if c = k then x else f c) := by
  intro c
  rw [kGet_put]
  by_cases hc : c = k
  · rw [if_pos (by omega), if_pos hc]; rfl
  · rw [if_neg (by omega), if_neg hc]; exact h c
/-- What a run is answered by. -/
def RunR (pairs : Nat) (r : Option (List Nat × List Nat)) (w : World) (u : Value) (w' : World) : Prop := match r with
  | none => u = .tuple #[.slice none 0 0, .slice none 0 0, .bool false] ∧ Hp w w' []
  | some (stem, loop) => ∃ sa sc pa pc, u = .tuple #[.slice sa stem.length sc, .slice pa loop.length pc, .bool true] ∧ Hp w w' [Rna (.slice pa loop.length pc) loop.length (loop.map (· / pairs)), Rna (.slice sa stem.length sc) stem.length (stem.map (· / pairs))]
abbrev rnE (b1 ob b6 b7 b8 b9 N : Nat) : Env := [(1, ptr b1), (5, sN ob N), (6, ptr b6), (7, ptr b7), (8, ptr b8), (9, ptr b9)]
abbrev rnL (b9 b8 b7 b6 tb fb cb N all : Nat) (TL FL : List (Int × Value)) (of_ : List Nat) : List Ent :=
  [.blk b9 (.cells #[.map (some tb)] 148 (0, 0)), .blk b8 (.cells #[.map (some fb)] 147 (0, 0)), .blk tb (mapO iKey TL), .blk fb (mapO iKey FL), .blk b7 (.cells #[.int .i64 (all : Nat)] 3 (0, 0)), .blk b6 (.cells #[sN cb N] 22 (0, 0)), cE cb of_]

theorem run_any (xb : Nat) (an : Option Addr) (cn : Nat) (rs : Nrs) (mk : Value) (starts : Nat) (la : Option Addr) (nl lc : Nat) (pairs N : Nat) (wa : Option Addr) (wc : Nat) (want : List Nat) (ta : Option Addr) (tc : Nat) (truth : List Bool) (fa : Option Addr) (fcap : Nat) (fair : List Nat) (w : World)
    (hx : w.heap[xb]? = some (Sxo (.slice an rs.length cn) mk starts (.slice la nl lc) pairs (.slice wa N wc) (.slice ta N tc) (.slice fa N fcap))) (hT : Tbl w an rs) (hW : Sl w wa (natL want)) (hTr : Sl w ta (bl truth)) (hFr : Sl w fa (natL fair))
    (hp0 : 0 < pairs) (hwl : want.length = N) (htl : truth.length = N) (hfl : fair.length = N) (hN : N = rs.length * pairs) (hrs : ∀ x ∈ rs, x.2.2.length ≤ 16) (hn : rs.length ≤ 16) (hpp : pairs ≤ 4096) (hpl : pairs = 2 ^ nl)
    (hwb : ∀ x ∈ want, x < 2 ^ 40) (hfb : ∀ x ∈ fair, x < 2 ^ 40) (hss : starts ≤ rs.length) (F G : Nat) (hF : F ≤ 1099511627776) (hG : G ≤ 1048576) (r : Option (List Nat × List Nat))
    (hM : runM F G (graphM (rsN rs) pairs want) pairs starts nl truth fair = some r) :
    Ret Tryd.prog 61 [ptr xb] w fun u w' => RunR pairs r w u w' := by
  have hNb : N ≤ 65536 := by rw [hN]; exact Nat.le_trans (Nat.mul_le_mul hn hpp) (by decide)
  have hps : pairs * starts ≤ N := by rw [hN, Nat.mul_comm]; exact Nat.mul_le_mul_right _ hss
  have hnl : nl ≤ 12 := by
    rcases Nat.lt_or_ge 12 nl with h | h
    · have := Nat.pow_le_pow_right (n := 2) (by decide) h
      have h13 : 2 ^ (12 + 1) = 8192 := by decide
      rw [hpl] at hpp
      omega
    · exact h
  refine enter Tryd.func61 rfl rfl ⟨rfl, rfl⟩ rfl ?_
  repeat (first | refine zA ?_ | refine zB ?_ | refine zC rfl rfl rfl ?_ | refine zD ?_ | refine zE ?_ | refine zF ?_ | refine zG rfl ?_ | refine zH rfl ?_ | refine zI rfl rfl rfl ?_ | refine zJ rfl rfl ?_ | refine zK ?_ | refine zL ?_ | refine zM rfl ?_ | refine zN ?_)
  refine WL.box rfl rfl rfl (fun b1 w1 h1 => ?_)
  have hp1 : Hp w w1 [.blk b1 (.cells #[ptr xb] 111 (0, 0))] := (Hp.start w).new h1
  have hxl : xb < w.heap.size := (Array.getElem?_eq_some_iff.1 hx).1
  repeat (first | refine zA ?_ | refine zB ?_ | refine zC rfl rfl rfl ?_ | refine zD ?_ | refine zE ?_ | refine zF ?_ | refine zG rfl ?_ | refine zH rfl ?_ | refine zI rfl rfl rfl ?_ | refine zJ rfl rfl ?_ | refine zK ?_ | refine zL ?_ | refine zM rfl ?_ | refine zN ?_)
  refine WL.loadB rfl rfl rfl rfl rfl (hp1.obj 0 rfl) (j := 0) rfl ?_
  refine WL.call rfl rfl rfl rfl rfl ent87 (graph_any xb an cn rs mk starts _ pairs wa wc want _ _ w1 (by rw [hp1.below.block xb hxl, hwl]; exact hx) (hT.hp hp1) (hW.hp hp1) hp0 (by rw [hwl]; exact hN) hrs hn hpp hwb) ?_
  rintro _ w2 ⟨ob, R, rfl, hRl, hRn, hp2, hTR⟩
  rw [hwl] at hRl
  have hpW := hp1.call hp2.below
  have hbW := hpW.below
  have hx2 : w2.heap[xb]? = some (Sxo (.slice an rs.length cn) mk starts (.slice la nl lc) pairs (.slice wa N wc) (.slice ta N tc) (.slice fa N fcap)) := by rw [hbW.block xb hxl]; exact hx
  have hTr2 := hTr.hp hpW
  have hFr2 := hFr.hp hpW
  have hc1 : w2.cell? ⟨b1, 0, none⟩ = some (ptr xb) := cell_of_obj (hpW.obj 0 rfl) rfl
  have hc3 : w2.cell? ⟨xb, 3, none⟩ = some (.slice la nl lc) := cell_of_obj (j := 3) hx2 rfl
  have hc2 : w2.cell? ⟨xb, 2, none⟩ = some (.int .i64 (starts : Nat)) := cell_of_obj (j := 2) hx2 rfl
  have hc4 : w2.cell? ⟨xb, 4, none⟩ = some (.int .i64 (pairs : Nat)) := cell_of_obj (j := 4) hx2 rfl
  have hc6 : w2.cell? ⟨xb, 6, none⟩ = some (.slice ta N tc) := cell_of_obj (j := 6) hx2 rfl
  have hc7 : w2.cell? ⟨xb, 7, none⟩ = some (.slice fa N fcap) := cell_of_obj (j := 7) hx2 rfl
  clear hp2 hp1 h1 hT hW hTr hFr
  rw [hRl]
  have hrow2 : ∀ x ∈ R, (∀ u ∈ x.2.2, u < N) ∧ x.2.2.length ≤ 1048576 := by
    intro x hxR
    have h1 : x.2.2 ∈ graphM (rsN rs) pairs want := by rw [← hRn]; exact List.mem_map.2 ⟨x, hxR, rfl⟩
    have h2 := graph_row (fun r hr => by
      obtain ⟨y, hy, rfl⟩ := List.mem_map.1 hr
      exact hrs y hy) h1
    rw [hwl] at h2
    exact ⟨h2.1, by omega⟩
  rw [← hRn] at hM
  clear hRn
  have hrin : ∀ x ∈ R, ∀ u ∈ x.2.2, u < N := fun x h => (hrow2 x h).1
  have hrlen : ∀ x ∈ R, x.2.2.length ≤ 1048576 := fun x h => (hrow2 x h).2
  have hnext : ∀ v, ∀ u ∈ (rsN R).getD v [], u < N := by
    intro v u hu
    rcases Nat.lt_or_ge v R.length with h | h
    · rw [rsN_at h] at hu
      exact hrin _ (List.getElem_mem h) u hu
    · rw [List.getD_eq_getElem?_getD, List.getElem?_eq_none (by rw [rsN_len]; exact h)] at hu
      cases hu
  unfold runM at hM
  cases hcm : compM F (rsN R) with
  | none => rw [hcm] at hM; cases hM
  | some of_ =>
  rw [hcm] at hM
  simp only at hM
  repeat (first | refine zA ?_ | refine zB ?_ | refine zC rfl rfl rfl ?_ | refine zD ?_ | refine zE ?_ | refine zF ?_ | refine zG rfl ?_ | refine zH rfl ?_ | refine zI rfl rfl rfl ?_ | refine zJ rfl rfl ?_ | refine zK ?_ | refine zL ?_ | refine zM rfl ?_ | refine zN ?_)
  refine WL.call rfl rfl rfl rfl rfl ent88 (components_any (some ⟨ob, 0, none⟩) N N R w2 hRl hTR hNb hrlen hrin F hF of_ hcm) ?_
  rintro _ w3 ⟨cb, rfl, hofl, hp3⟩
  refine WL.alloc rfl rfl rfl (fun b6 w4 h4 => ?_)
  have hp4 := hp3.new h4
  refine WL.store rfl rfl rfl rfl rfl rfl (hp4.obj 0 rfl) (Nat.lt_succ_self 0) (fun w5 h5 => ?_)
  have hp5 : Hp w2 w5 [.blk b6 (.cells #[sN cb N] 22 (0, 0)), cE cb of_] := hp4.set 0 rfl rfl h5
  clear hp4 hp3
  have e35 : shl .i64 1 nl = ((2 ^ nl : Nat) : Int) := shl_one (by omega)
  obtain ⟨all, hall⟩ : ∃ all, all = 2 ^ nl - 1 := ⟨_, rfl⟩
  have hallb : all < 2 ^ 40 := by rw [hall, ← hpl]; omega
  have hpos : 0 < 2 ^ nl := Nat.two_pow_pos nl
  have e36 : IntKind.i64.wrap (((2 ^ nl : Nat) : Int) - 1) = ((all : Nat) : Int) := by rw [hall, ← hpl, wrap_mid (by omega) (by omega)]; omega
  rw [← hall] at hM
  repeat (first | refine zA ?_ | refine zB ?_ | refine zC rfl rfl rfl ?_ | refine zD ?_ | refine zE ?_ | refine zF ?_ | refine zG rfl ?_ | refine zH rfl ?_ | refine zI rfl rfl rfl ?_ | refine zJ rfl rfl ?_ | refine zK ?_ | refine zL ?_ | refine zM rfl ?_ | refine zN ?_)
  refine WL.load rfl rfl rfl rfl rfl (cell_below hp5.below hc1) ?_
  refine WL.nilC rfl rfl rfl ?_
  repeat (first | refine zA ?_ | refine zB ?_ | refine zC rfl rfl rfl ?_ | refine zD ?_ | refine zE ?_ | refine zF ?_ | refine zG rfl ?_ | refine zH rfl ?_ | refine zI rfl rfl rfl ?_ | refine zJ rfl rfl ?_ | refine zK ?_ | refine zL ?_ | refine zM rfl ?_ | refine zN ?_)
  refine WL.load rfl rfl rfl rfl rfl (cell_below hp5.below hc3) ?_
  refine WL.pure rfl rfl rfl ?_
  refine WL.pure rfl rfl rfl ?_
  refine WL.known (d := 35) (congrArg (fun z => some (Value.int .i64 z)) e35) ?_
  refine WL.pure rfl rfl rfl ?_
  refine WL.known (d := 36) (congrArg (fun z => some (Value.int .i64 z)) e36) ?_
  refine WL.alloc rfl rfl rfl (fun b7 w6 h6 => ?_)
  have hp6 := hp5.new h6
  refine WL.store rfl rfl rfl rfl rfl rfl (hp6.obj 0 rfl) (Nat.lt_succ_self 0) (fun w7 h7 => ?_)
  have hp7 : Hp w2 w7 [.blk b7 (.cells #[.int .i64 (all : Nat)] 3 (0, 0)), .blk b6 (.cells #[sN cb N] 22 (0, 0)), cE cb of_] := hp6.set 0 rfl rfl h7
  clear hp6 hp5
  repeat (first | refine zA ?_ | refine zB ?_ | refine zC rfl rfl rfl ?_ | refine zD ?_ | refine zE ?_ | refine zF ?_ | refine zG rfl ?_ | refine zH rfl ?_ | refine zI rfl rfl rfl ?_ | refine zJ rfl rfl ?_ | refine zK ?_ | refine zL ?_ | refine zM rfl ?_ | refine zN ?_)
  refine WL.makeMap rfl rfl ?_
  intro fb w8 h8
  have hp8 := hp7.new h8
  refine WL.makeMap rfl rfl ?_
  intro tb w9 h9
  have hp9 := hp8.new h9
  refine WL.alloc rfl rfl rfl (fun b8 w10 h10 => ?_)
  have hp10 := hp9.new h10
  refine WL.alloc rfl rfl rfl (fun b9 w11 h11 => ?_)
  have hp11 := hp10.new h11
  refine WL.store rfl rfl rfl rfl rfl rfl (hp11.obj 1 rfl) (Nat.lt_succ_self 0) (fun w12 h12 => ?_)
  have hp12 := hp11.set 1 rfl rfl h12
  refine WL.store rfl rfl rfl rfl rfl rfl (hp12.obj 0 rfl) (Nat.lt_succ_self 0) (fun w13 h13 => ?_)
  have hp13 : Hp w2 w13 (rnL b9 b8 b7 b6 tb fb cb N all [] [] of_) := hp12.set 0 rfl rfl h13
  clear hp12 hp11 hp10 hp9 hp8 hp7
  repeat (first | refine zA ?_ | refine zB ?_ | refine zC rfl rfl rfl ?_ | refine zD ?_ | refine zE ?_ | refine zF ?_ | refine zG rfl ?_ | refine zH rfl ?_ | refine zI rfl rfl rfl ?_ | refine zJ rfl rfl ?_ | refine zK ?_ | refine zL ?_ | refine zM rfl ?_ | refine zN ?_)
  refine WC.loop (Nat × List (Int × Value) × List (Int × Value)) (fun (m, TL, FL) => [(39, sN ob N), (40, .int .i64 (N : Nat)), (41, .int .i64 (m : Nat))] ++ rnE b1 ob b6 b7 b8 b9 N)
    (fun (m, TL, FL) w' => m ≤ N ∧ (∀ c : Nat, (kGet TL (c : Int)).getD (.bool false) = .bool (turnC of_ (rsN R) m c)) ∧ (∀ c : Nat, (kGet FL (c : Int)).getD (.int .i64 0) = .int .i64 (fairC of_ fair m c : Nat)) ∧ Hp w2 w' (rnL b9 b8 b7 b6 tb fb cb N all TL FL of_)) (fun (m, _) => N - m) (0, [], []) ⟨rfl, rfl, rfl, rfl, rfl, rfl, rfl, rfl, rfl, rfl⟩ ⟨Nat.zero_le _, fun c => rfl, fun c => rfl, hp13⟩ ?_
  clear hp13
  rintro ⟨m, TL, FL⟩ w14 ⟨hm, hTL, hFL, hp14⟩
  replace hm : m ≤ N := hm
  replace hTL : ∀ c : Nat, (kGet TL (c : Int)).getD (.bool false) = .bool (turnC of_ (rsN R) m c) := hTL
  replace hFL : ∀ c : Nat, (kGet FL (c : Int)).getD (.int .i64 0) = .int .i64 (fairC of_ fair m c : Nat) := hFL
  replace hp14 : Hp w2 w14 (rnL b9 b8 b7 b6 tb fb cb N all TL FL of_) := hp14
  repeat (first | refine zA ?_ | refine zB ?_ | refine zC rfl rfl rfl ?_ | refine zD ?_ | refine zE ?_ | refine zF ?_ | refine zG rfl ?_ | refine zH rfl ?_ | refine zI rfl rfl rfl ?_ | refine zJ rfl rfl ?_ | refine zK ?_ | refine zL ?_ | refine zM rfl ?_ | refine zN ?_)
  refine WC.cond rfl (fun c1 => ?_) (fun c1 => ?_)
  · have hm : m < N := by have h : ((m : Nat) : Int) < ((N : Nat) : Int) := of_decide_eq_true c1; omega
    have step := wrap_succ (i := m) (n := m + 1) (by omega) (by omega)
    have hmR : m < R.length := by omega
    have hmin := hrin _ (List.getElem_mem hmR)
    have hmlen := hrlen _ (List.getElem_mem hmR)
    have hmsl := hTR.rows _ (List.getElem_mem hmR)
    have hmat := rsV_at hmR
    have hmN := rsN_at hmR
    have htab := hTR.tab
    generalize R[m] = x at *
    obtain ⟨ra, rc, row⟩ := x
    simp only at hmin hmlen hmsl hmat hmN
    have hfv := getD_lt40 hfb m
    have hfc := fairC_lt (of_ := of_) hfb (of_.getD m 0) m
    have eor : bits .or .i64 ((fairC of_ fair m (of_.getD m 0) : Nat) : Int) ((fair.getD m 0 : Nat) : Int) = ((fairC of_ fair m (of_.getD m 0) ||| fair.getD m 0 : Nat) : Int) := or_i64 (by omega) (by omega)
    repeat (first | refine zA ?_ | refine zB ?_ | refine zC rfl rfl rfl ?_ | refine zD ?_ | refine zE ?_ | refine zF ?_ | refine zG rfl ?_ | refine zH rfl ?_ | refine zI rfl rfl rfl ?_ | refine zJ rfl rfl ?_ | refine zK ?_ | refine zL ?_ | refine zM rfl ?_ | refine zN ?_)
    refine WL.ixload rfl (fun _ => rfl) rfl rfl rfl rfl rfl rfl rfl hm rfl rfl (htab.hp hp14) hmat ?_
    intro q
    repeat (first | refine zA ?_ | refine zB ?_ | refine zC rfl rfl rfl ?_ | refine zD ?_ | refine zE ?_ | refine zF ?_ | refine zG rfl ?_ | refine zH rfl ?_ | refine zI rfl rfl rfl ?_ | refine zJ rfl rfl ?_ | refine zK ?_ | refine zL ?_ | refine zM rfl ?_ | refine zN ?_)
    refine WC.mid (List (Int × Value)) (fun FL => [(10, .int .i64 (m : Nat)), (11, .slice ra row.length rc), (39, sN ob N), (40, .int .i64 (N : Nat)), (41, .int .i64 (m : Nat))] ++ rnE b1 ob b6 b7 b8 b9 N)
      (fun FL w' => (∀ c : Nat, (kGet FL (c : Int)).getD (.int .i64 0) = .int .i64 (fairC of_ fair (m + 1) c : Nat)) ∧ Hp w2 w' (rnL b9 b8 b7 b6 tb fb cb N all TL FL of_)) ?_ ?_
    · refine WC.regS 14 mixed (by kernel_rfl) rfl rfl (fun w15 hw15 hh15 => ?_)
      have hp15 := hp14.keep hw15
      refine WS.loadB rfl rfl rfl rfl rfl (hp15.obj 1 rfl) (j := 0) rfl ?_
      refine WS.loadB rfl rfl rfl rfl rfl (hp15.obj 5 rfl) (j := 0) rfl ?_
      repeat (first | refine WS.pure rfl rfl rfl ?_ | refine WS.off rfl rfl rfl ?_ | refine WS.nil ?_)
      refine WS.ix1 rfl rfl rfl rfl rfl rfl rfl hm ?_
      refine WS.load rfl rfl rfl rfl rfl (Sl.cell (cE_sl hp15 6 rfl) (nd hofl hm)) ?_
      refine WS.val rfl rfl (yLookM (k := ((of_.getD m 0 : Nat) : Int)) (l := FL) (c := false) (keyT_int rfl) rfl rfl rfl rfl (hp15.obj 3 rfl)) ?_
      rw [show lkM FL ((of_.getD m 0 : Nat) : Int) ti3.zero false = Value.int .i64 (fairC of_ fair m (of_.getD m 0) : Nat) from hFL _]
      refine WS.load rfl rfl rfl rfl rfl (cell_below hp15.below hc1) ?_
      refine WS.val rfl rfl (yNil rfl) ?_
      repeat (first | refine WS.pure rfl rfl rfl ?_ | refine WS.off rfl rfl rfl ?_ | refine WS.nil ?_)
      refine WS.load rfl rfl rfl rfl rfl (cell_below hp15.below hc7) ?_
      repeat (first | refine WS.pure rfl rfl rfl ?_ | refine WS.off rfl rfl rfl ?_ | refine WS.nil ?_)
      obtain ⟨fb2, fo2, hfae, hfcell⟩ := hFr2 _ _ (nd hfl hm)
      subst hfae
      refine WS.ix1 rfl rfl rfl rfl rfl rfl rfl hm ?_
      refine WS.load rfl rfl rfl rfl rfl (cell_below hp15.below hfcell) ?_
      refine WS.pure rfl rfl rfl ?_
      refine WS.known (d := 59) (congrArg (fun z => some (Value.int .i64 z)) eor) ?_
      repeat (first | refine WS.pure rfl rfl rfl ?_ | refine WS.off rfl rfl rfl ?_ | refine WS.nil ?_)
      refine WL.skip rfl rfl (yMapSet (k := ((of_.getD m 0 : Nat) : Int)) (l := FL) (v := .int .i64 (fairC of_ fair m (of_.getD m 0) ||| fair.getD m 0 : Nat)) (keyT_int rfl) rfl rfl rfl rfl (hp15.obj 3 rfl)) ?_
      have hp16 := hp15.set 3 rfl rfl (setB_put (hp15.obj 3 rfl) (o' := mapO iKey (kPut FL ((of_.getD m 0 : Nat) : Int) (.int .i64 (fairC of_ fair m (of_.getD m 0) ||| fair.getD m 0 : Nat)))))
      refine WL.nil ⟨kPut FL ((of_.getD m 0 : Nat) : Int) (.int .i64 (fairC of_ fair m (of_.getD m 0) ||| fair.getD m 0 : Nat)), ⟨rfl, rfl, rfl, rfl, rfl, rfl, rfl, rfl, rfl, rfl, rfl, rfl⟩, ?_, hp16⟩
      intro c
      have := kPut_spec (mkV := fun (n : Nat) => Value.int .i64 (n : Nat)) hFL (of_.getD m 0) (fairC of_ fair m (of_.getD m 0) ||| fair.getD m 0) c
      rw [this]
      show Value.int .i64 _ = Value.int .i64 ((fairC of_ fair (m + 1) c : Nat) : Int)
      congr 2
      conv => rhs; unfold fairC
      by_cases hc : c = of_.getD m 0
      · rw [if_pos hc, if_pos hc.symm, hc]
      · rw [if_neg hc, if_neg (fun h => hc h.symm)]
    rintro FL e15 w15 hsub ⟨hFL, hp15⟩
    refine WC.sub hsub ?_
    clear hsub e15 hp14
    replace hp15 : Hp w2 w15 (rnL b9 b8 b7 b6 tb fb cb N all TL FL of_) := hp15
    repeat (first | refine zA ?_ | refine zB ?_ | refine zC rfl rfl rfl ?_ | refine zD ?_ | refine zE ?_ | refine zF ?_ | refine zG rfl ?_ | refine zH rfl ?_ | refine zI rfl rfl rfl ?_ | refine zJ rfl rfl ?_ | refine zK ?_ | refine zL ?_ | refine zM rfl ?_ | refine zN ?_)
    refine WC.loop (Nat × List (Int × Value)) (fun (j, TL) => [(10, .int .i64 (m : Nat)), (39, sN ob N), (40, .int .i64 (N : Nat)), (41, .int .i64 (m : Nat)), (60, .slice ra row.length rc), (61, .int .i64 (row.length : Nat)), (62, .int .i64 (j : Nat))] ++ rnE b1 ob b6 b7 b8 b9 N)
      (fun (j, TL) w' => j ≤ row.length ∧ (∀ c : Nat, (kGet TL (c : Int)).getD (.bool false) = .bool (turnP of_ (rsN R) m j c)) ∧ Hp w2 w' (rnL b9 b8 b7 b6 tb fb cb N all TL FL of_)) (fun (j, _) => row.length - j) (0, TL) ⟨rfl, rfl, rfl, rfl, rfl, rfl, rfl, rfl, rfl, rfl, rfl, rfl, rfl, rfl⟩ ⟨Nat.zero_le _, fun c => by rw [hTL, turnP_zero], hp15⟩ ?_
    clear hp15 hTL
    rintro ⟨j, TL⟩ w16 ⟨hj, hTL, hp16⟩
    replace hj : j ≤ row.length := hj
    replace hTL : ∀ c : Nat, (kGet TL (c : Int)).getD (.bool false) = .bool (turnP of_ (rsN R) m j c) := hTL
    replace hp16 : Hp w2 w16 (rnL b9 b8 b7 b6 tb fb cb N all TL FL of_) := hp16
    repeat (first | refine zA ?_ | refine zB ?_ | refine zC rfl rfl rfl ?_ | refine zD ?_ | refine zE ?_ | refine zF ?_ | refine zG rfl ?_ | refine zH rfl ?_ | refine zI rfl rfl rfl ?_ | refine zJ rfl rfl ?_ | refine zK ?_ | refine zL ?_ | refine zM rfl ?_ | refine zN ?_)
    refine WC.cond rfl (fun c2 => ?_) (fun c2 => ?_)
    · have hj : j < row.length := by have h : ((j : Nat) : Int) < ((row.length : Nat) : Int) := of_decide_eq_true c2; omega
      have stepj := wrap_succ (i := j) (n := j + 1) (by omega) (by omega)
      obtain ⟨u, hu⟩ : ∃ u, u = row[j] := ⟨_, rfl⟩
      have huN : u < N := by rw [hu]; exact hmin _ (List.getElem_mem hj)
      have htp : ∀ c, turnP of_ (rsN R) m (j + 1) c = if c = of_.getD m 0 then turnP of_ (rsN R) m j (of_.getD m 0) || decide (of_.getD u 0 = of_.getD m 0) else turnP of_ (rsN R) m j c := by
        intro c
        rw [turnP_succ of_ (rsN R) m j c u (by rw [hmN, hu]; simp [hj])]
        by_cases hc : c = of_.getD m 0
        · rw [if_pos hc, if_pos hc, hc]
        · rw [if_neg hc, if_neg hc]
      have hTLm := hTL (of_.getD m 0)
      generalize turnP of_ (rsN R) m j (of_.getD m 0) = tq at *
      repeat (first | refine zA ?_ | refine zB ?_ | refine zC rfl rfl rfl ?_ | refine zD ?_ | refine zE ?_ | refine zF ?_ | refine zG rfl ?_ | refine zH rfl ?_ | refine zI rfl rfl rfl ?_ | refine zJ rfl rfl ?_ | refine zK ?_ | refine zL ?_ | refine zM rfl ?_ | refine zN ?_)
      refine WL.ixload rfl (fun _ => rfl) rfl rfl rfl rfl rfl rfl rfl hj rfl rfl (hmsl.hp hp16) (natL_at hj) ?_
      intro q2
      rw [← hu]
      repeat (first | refine zA ?_ | refine zB ?_ | refine zC rfl rfl rfl ?_ | refine zD ?_ | refine zE ?_ | refine zF ?_ | refine zG rfl ?_ | refine zH rfl ?_ | refine zI rfl rfl rfl ?_ | refine zJ rfl rfl ?_ | refine zK ?_ | refine zL ?_ | refine zM rfl ?_ | refine zN ?_)
      refine WC.mid (List (Int × Value)) (fun TL => [(10, .int .i64 (m : Nat)), (39, sN ob N), (40, .int .i64 (N : Nat)), (41, .int .i64 (m : Nat)), (60, .slice ra row.length rc), (61, .int .i64 (row.length : Nat)), (62, .int .i64 (j : Nat))] ++ rnE b1 ob b6 b7 b8 b9 N)
        (fun TL w' => (∀ c : Nat, (kGet TL (c : Int)).getD (.bool false) = .bool (turnP of_ (rsN R) m (j + 1) c)) ∧ Hp w2 w' (rnL b9 b8 b7 b6 tb fb cb N all TL FL of_)) ?_ ?_
      · have fin : ∀ (b : Bool) (w17 : World), b = (tq || decide (of_.getD u 0 = of_.getD m 0)) → Hp w2 w17 (rnL b9 b8 b7 b6 tb fb cb N all TL FL of_) → (∀ c : Nat, (kGet (kPut TL ((of_.getD m 0 : Nat) : Int) (.bool b)) (c : Int)).getD (.bool false) = .bool (turnP of_ (rsN R) m (j + 1) c)) := by
          intro b w17 hb hp17 c
          rw [kPut_spec (mkV := Value.bool) hTL (of_.getD m 0) b c, htp]
          by_cases hc : c = of_.getD m 0
          · rw [if_pos hc, if_pos hc, hb]
          · rw [if_neg hc, if_neg hc]
        refine WC.regS 22 mixed (by kernel_rfl) rfl rfl (fun w17 hw17 hh17 => ?_)
        have hp17 := hp16.keep hw17
        refine WS.loadB rfl rfl rfl rfl rfl (hp17.obj 0 rfl) (j := 0) rfl ?_
        refine WS.loadB rfl rfl rfl rfl rfl (hp17.obj 5 rfl) (j := 0) rfl ?_
        repeat (first | refine WS.pure rfl rfl rfl ?_ | refine WS.off rfl rfl rfl ?_ | refine WS.nil ?_)
        refine WS.ix1 rfl rfl rfl rfl rfl rfl rfl hm ?_
        refine WS.load rfl rfl rfl rfl rfl (Sl.cell (cE_sl hp17 6 rfl) (nd hofl hm)) ?_
        refine WS.loadB rfl rfl rfl rfl rfl (hp17.obj 0 rfl) (j := 0) rfl ?_
        refine WS.loadB rfl rfl rfl rfl rfl (hp17.obj 5 rfl) (j := 0) rfl ?_
        repeat (first | refine WS.pure rfl rfl rfl ?_ | refine WS.off rfl rfl rfl ?_ | refine WS.nil ?_)
        refine WS.ix1 rfl rfl rfl rfl rfl rfl rfl hm ?_
        refine WS.load rfl rfl rfl rfl rfl (Sl.cell (cE_sl hp17 6 rfl) (nd hofl hm)) ?_
        refine WS.val rfl rfl (yLookM (k := ((of_.getD m 0 : Nat) : Int)) (l := TL) (c := false) (keyT_int rfl) rfl rfl rfl rfl (hp17.obj 2 rfl)) ?_
        rw [show lkM TL ((of_.getD m 0 : Nat) : Int) ti4.zero false = Value.bool tq from hTLm]
        refine WS.pure rfl rfl rfl ?_
        refine WS.split 77 rfl (fun c3 => ?_) (fun c3 => ?_)
        · rw [c3, Bool.true_or] at fin
          repeat (first | refine WS.pure rfl rfl rfl ?_ | refine WS.off rfl rfl rfl ?_ | refine WS.nil ?_)
          refine WL.skip rfl rfl (yMapSet (k := ((of_.getD m 0 : Nat) : Int)) (l := TL) (v := .bool true) (keyT_int rfl) rfl rfl rfl rfl (hp17.obj 2 rfl)) ?_
          have hp18 := hp17.set 2 rfl rfl (setB_put (hp17.obj 2 rfl) (o' := mapO iKey (kPut TL ((of_.getD m 0 : Nat) : Int) (.bool true))))
          exact WL.nil ⟨kPut TL ((of_.getD m 0 : Nat) : Int) (.bool true), ⟨rfl, rfl, rfl, rfl, rfl, rfl, rfl, rfl, rfl, rfl, rfl, rfl, rfl, rfl⟩, fin true w17 rfl hp17, hp18⟩
        · rw [c3, Bool.false_or] at fin
          refine WS.loadB rfl rfl rfl rfl rfl (hp17.obj 5 rfl) (j := 0) rfl ?_
          repeat (first | refine WS.pure rfl rfl rfl ?_ | refine WS.off rfl rfl rfl ?_ | refine WS.nil ?_)
          refine WS.ix1 rfl rfl rfl rfl rfl rfl rfl huN ?_
          refine WS.load rfl rfl rfl rfl rfl (Sl.cell (cE_sl hp17 6 rfl) (nd hofl huN)) ?_
          refine WS.loadB rfl rfl rfl rfl rfl (hp17.obj 5 rfl) (j := 0) rfl ?_
          repeat (first | refine WS.pure rfl rfl rfl ?_ | refine WS.off rfl rfl rfl ?_ | refine WS.nil ?_)
          refine WS.ix1 rfl rfl rfl rfl rfl rfl rfl hm ?_
          refine WS.load rfl rfl rfl rfl rfl (Sl.cell (cE_sl hp17 6 rfl) (nd hofl hm)) ?_
          repeat (first | refine WS.pure rfl rfl rfl ?_ | refine WS.off rfl rfl rfl ?_ | refine WS.nil ?_)
          have ed : (((of_.getD u 0 : Nat) : Int) == ((of_.getD m 0 : Nat) : Int)) = decide (of_.getD u 0 = of_.getD m 0) := by
            rw [Bool.eq_iff_iff, beq_iff_eq, decide_eq_true_iff]; exact Int.ofNat_inj
          refine WL.skip rfl rfl (yMapSet (k := ((of_.getD m 0 : Nat) : Int)) (l := TL) (v := .bool (((of_.getD u 0 : Nat) : Int) == ((of_.getD m 0 : Nat) : Int))) (keyT_int rfl) rfl rfl rfl rfl (hp17.obj 2 rfl)) ?_
          have hp18 := hp17.set 2 rfl rfl (setB_put (hp17.obj 2 rfl) (o' := mapO iKey (kPut TL ((of_.getD m 0 : Nat) : Int) (.bool (((of_.getD u 0 : Nat) : Int) == ((of_.getD m 0 : Nat) : Int))))))
          exact WL.nil ⟨kPut TL ((of_.getD m 0 : Nat) : Int) (.bool (((of_.getD u 0 : Nat) : Int) == ((of_.getD m 0 : Nat) : Int))), ⟨rfl, rfl, rfl, rfl, rfl, rfl, rfl, rfl, rfl, rfl, rfl, rfl, rfl, rfl⟩, fin _ w17 ed hp17, hp18⟩
      · rintro TL e17 w17 hsub ⟨hTL, hp17⟩
        refine WC.sub hsub ?_
        repeat (first | refine zA ?_ | refine zB ?_ | refine zC rfl rfl rfl ?_ | refine zD ?_ | refine zE ?_ | refine zF ?_ | refine zG rfl ?_ | refine zH rfl ?_ | refine zI rfl rfl rfl ?_ | refine zJ rfl rfl ?_ | refine zK ?_ | refine zL ?_ | refine zM rfl ?_ | refine zN ?_)
        exact ⟨(j + 1, TL), (by show row.length - (j + 1) < row.length - j; omega), ⟨rfl, rfl, rfl, rfl, rfl, rfl, congrArg (fun z => some (Value.int .i64 z)) stepj, rfl, rfl, rfl, rfl, rfl, rfl, rfl⟩, hj, hTL, hp17⟩
    · have hj : j = row.length := by have h : ¬ ((j : Nat) : Int) < ((row.length : Nat) : Int) := of_decide_eq_false c2; omega
      subst hj
      repeat (first | refine zA ?_ | refine zB ?_ | refine zC rfl rfl rfl ?_ | refine zD ?_ | refine zE ?_ | refine zF ?_ | refine zG rfl ?_ | refine zH rfl ?_ | refine zI rfl rfl rfl ?_ | refine zJ rfl rfl ?_ | refine zK ?_ | refine zL ?_ | refine zM rfl ?_ | refine zN ?_)
      exact ⟨(m + 1, TL, FL), (by show N - (m + 1) < N - m; omega), ⟨rfl, rfl, congrArg (fun z => some (Value.int .i64 z)) step, rfl, rfl, rfl, rfl, rfl, rfl, rfl⟩, hm, fun c => by rw [hTL, turnP_all]; rw [hmN]; exact Nat.le_refl _, hFL, hp16⟩
  · have hm : m = N := by have h : ¬ ((m : Nat) : Int) < ((N : Nat) : Int) := of_decide_eq_false c1; omega
    subst hm
    obtain ⟨N, hNN⟩ : ∃ N, N = m := ⟨_, rfl⟩
    have hNR : (rsN R).length = m := by rw [rsN_len]; exact hRl
    have e98 : IntKind.i64.wrap (((pairs : Nat) : Int) * ((starts : Nat) : Int)) = ((pairs * starts : Nat) : Int) := by
      rw [Int.natCast_mul, wrap_mid (by rw [← Int.natCast_mul]; omega) (by rw [← Int.natCast_mul]; omega)]
    have hbg : ∀ i, ((List.range (i + 1)).filter fun v => truth.getD v false) = ((List.range i).filter fun v => truth.getD v false) ++ if truth.getD i false = true then [i] else [] := by
      intro i
      rw [List.range_succ, List.filter_append]
      congr 1
      rw [List.filter_cons]
      rfl
    have hbl : ∀ i, ((List.range i).filter fun v => truth.getD v false).length ≤ i := by
      intro i
      have := List.length_filter_le (fun v => truth.getD v false) (List.range i)
      rwa [List.length_range] at this
    repeat (first | refine zA ?_ | refine zB ?_ | refine zC rfl rfl rfl ?_ | refine zD ?_ | refine zE ?_ | refine zF ?_ | refine zG rfl ?_ | refine zH rfl ?_ | refine zI rfl rfl rfl ?_ | refine zJ rfl rfl ?_ | refine zK ?_ | refine zL ?_ | refine zM rfl ?_ | refine zN ?_)
    refine WC.regQ (fun w' => Hp w2 w' (rnL b9 b8 b7 b6 tb fb cb m all TL FL of_)) mixed (by kernel_rfl) (fun w' hw' => hp14.keep hw') ?_
    refine WQ.load rfl rfl rfl rfl rfl (fun w' h => cell_below h.below hc1) ?_
    refine WQ.nilC rfl rfl rfl ?_
    repeat (first | refine WQ.pure rfl rfl rfl ?_ | refine WQ.off rfl rfl rfl ?_ | refine WQ.nil ?_)
    refine WQ.load rfl rfl rfl rfl rfl (fun w' h => cell_below h.below hc4) ?_
    refine WQ.load rfl rfl rfl rfl rfl (fun w' h => cell_below h.below hc1) ?_
    refine WQ.nilC rfl rfl rfl ?_
    repeat (first | refine WQ.pure rfl rfl rfl ?_ | refine WQ.off rfl rfl rfl ?_ | refine WQ.nil ?_)
    refine WQ.load rfl rfl rfl rfl rfl (fun w' h => cell_below h.below hc2) ?_
    refine WQ.pure rfl rfl rfl ?_
    refine WQ.known (d := 98) (congrArg (fun z => some (Value.int .i64 z)) e98) ?_
    repeat (first | refine WQ.pure rfl rfl rfl ?_ | refine WQ.off rfl rfl rfl ?_ | refine WQ.nil ?_)
    intro w15 hp15
    clear hp14
    repeat (first | refine zA ?_ | refine zB ?_ | refine zC rfl rfl rfl ?_ | refine zD ?_ | refine zE ?_ | refine zF ?_ | refine zG rfl ?_ | refine zH rfl ?_ | refine zI rfl rfl rfl ?_ | refine zJ rfl rfl ?_ | refine zK ?_ | refine zL ?_ | refine zM rfl ?_ | refine zN ?_)
    refine WC.loop (Nat × Option Addr × Nat) (fun (i, ba, bc) => [(14, .slice ba ((List.range i).filter fun v => truth.getD v false).length bc), (98, .int .i64 (pairs * starts : Nat)), (99, .int .i64 (i : Nat))] ++ rnE b1 ob b6 b7 b8 b9 m)
      (fun (i, ba, bc) w' => i ≤ pairs * starts ∧ Hp w2 w' (Rna (.slice ba ((List.range i).filter fun v => truth.getD v false).length bc) ((List.range i).filter fun v => truth.getD v false).length ((List.range i).filter fun v => truth.getD v false) :: rnL b9 b8 b7 b6 tb fb cb m all TL FL of_)) (fun (i, _) => pairs * starts - i) (0, none, 0) ⟨rfl, rfl, rfl, rfl, rfl, rfl, rfl, rfl, rfl, rfl⟩ ⟨Nat.zero_le _, hp15.nilrow _ _⟩ ?_
    clear hp15
    rintro ⟨i, ba, bc⟩ w16 ⟨hi, hp16⟩
    replace hi : i ≤ pairs * starts := hi
    have hbi := hbl i
    have hbgi := hbg i
    obtain ⟨bg, hbgq⟩ : ∃ bg, bg = (List.range i).filter fun v => truth.getD v false := ⟨_, rfl⟩
    replace hp16 : Hp w2 w16 (Rna (.slice ba bg.length bc) bg.length bg :: rnL b9 b8 b7 b6 tb fb cb m all TL FL of_) := by rw [hbgq]; exact hp16
    simp only [← hbgq] at hbi hbgi ⊢
    repeat (first | refine zA ?_ | refine zB ?_ | refine zC rfl rfl rfl ?_ | refine zD ?_ | refine zE ?_ | refine zF ?_ | refine zG rfl ?_ | refine zH rfl ?_ | refine zI rfl rfl rfl ?_ | refine zJ rfl rfl ?_ | refine zK ?_ | refine zL ?_ | refine zM rfl ?_ | refine zN ?_)
    refine WC.cond rfl (fun c2 => ?_) (fun c2 => ?_)
    · have hi : i < pairs * starts := by have h : ((i : Nat) : Int) < ((pairs * starts : Nat) : Int) := of_decide_eq_true c2; omega
      have hiN : i < m := by omega
      have step := wrap_succ (i := i) (n := i + 1) (by omega) (by omega)
      repeat (first | refine zA ?_ | refine zB ?_ | refine zC rfl rfl rfl ?_ | refine zD ?_ | refine zE ?_ | refine zF ?_ | refine zG rfl ?_ | refine zH rfl ?_ | refine zI rfl rfl rfl ?_ | refine zJ rfl rfl ?_ | refine zK ?_ | refine zL ?_ | refine zM rfl ?_ | refine zN ?_)
      refine WL.load rfl rfl rfl rfl rfl (cell_below hp16.below hc1) ?_
      refine WL.nilC rfl rfl rfl ?_
      repeat (first | refine zA ?_ | refine zB ?_ | refine zC rfl rfl rfl ?_ | refine zD ?_ | refine zE ?_ | refine zF ?_ | refine zG rfl ?_ | refine zH rfl ?_ | refine zI rfl rfl rfl ?_ | refine zJ rfl rfl ?_ | refine zK ?_ | refine zL ?_ | refine zM rfl ?_ | refine zN ?_)
      refine WL.load rfl rfl rfl rfl rfl (cell_below hp16.below hc6) ?_
      repeat (first | refine zA ?_ | refine zB ?_ | refine zC rfl rfl rfl ?_ | refine zD ?_ | refine zE ?_ | refine zF ?_ | refine zG rfl ?_ | refine zH rfl ?_ | refine zI rfl rfl rfl ?_ | refine zJ rfl rfl ?_ | refine zK ?_ | refine zL ?_ | refine zM rfl ?_ | refine zN ?_)
      refine WL.ixload rfl (fun _ => rfl) rfl rfl rfl rfl rfl rfl rfl hiN rfl rfl (hTr2.hp hp16) (bl_get (by omega)) ?_
      intro q
      repeat (first | refine zA ?_ | refine zB ?_ | refine zC rfl rfl rfl ?_ | refine zD ?_ | refine zE ?_ | refine zF ?_ | refine zG rfl ?_ | refine zH rfl ?_ | refine zI rfl rfl rfl ?_ | refine zJ rfl rfl ?_ | refine zK ?_ | refine zL ?_ | refine zM rfl ?_ | refine zN ?_)
      refine WC.cond rfl (fun c3 => ?_) (fun c3 => ?_)
      · rw [if_pos c3] at hbgi
        repeat (first | refine zA ?_ | refine zB ?_ | refine zC rfl rfl rfl ?_ | refine zD ?_ | refine zE ?_ | refine zF ?_ | refine zG rfl ?_ | refine zH rfl ?_ | refine zI rfl rfl rfl ?_ | refine zJ rfl rfl ?_ | refine zK ?_ | refine zL ?_ | refine zM rfl ?_ | refine zN ?_)
        refine WL.buildS (cs := [.int .i64 (i : Nat)]) rfl rfl rfl rfl rfl rfl rfl rfl rfl (fun b17 w17 h17 => ?_)
        have hp17 := hp16.new h17
        refine WL.append 1 hp17 rfl rfl rfl rfl rfl (by decide) rfl rfl rfl (news := [.int .i64 (i : Nat)]) (Sl.of_obj (hp17.obj 0 rfl) (fun q u hq => by simpa using hq)) rfl (natL_cells [i]) (by unfold maxLen; omega) (by show (bg.length + 1) * 8 ≤ _; omega) ?_
        intro ba2 bc2 w18 hp18 _
        repeat (first | refine zA ?_ | refine zB ?_ | refine zC rfl rfl rfl ?_ | refine zD ?_ | refine zE ?_ | refine zF ?_ | refine zG rfl ?_ | refine zH rfl ?_ | refine zI rfl rfl rfl ?_ | refine zJ rfl rfl ?_ | refine zK ?_ | refine zL ?_ | refine zM rfl ?_ | refine zN ?_)
        refine ⟨(i + 1, ba2, bc2), (by show pairs * starts - (i + 1) < pairs * starts - i; omega), ?_, hi, ?_⟩
        · show Sub ([(14, .slice ba2 ((List.range (i + 1)).filter fun v => truth.getD v false).length bc2), (98, .int .i64 (pairs * starts : Nat)), (99, .int .i64 (i + 1 : Nat))] ++ rnE b1 ob b6 b7 b8 b9 m) _
          rw [hbgi, List.length_append]
          exact ⟨rfl, rfl, congrArg (fun z => some (Value.int .i64 z)) step, rfl, rfl, rfl, rfl, rfl, rfl, rfl⟩
        · show Hp w2 w18 (Rna (.slice ba2 ((List.range (i + 1)).filter fun v => truth.getD v false).length bc2) ((List.range (i + 1)).filter fun v => truth.getD v false).length ((List.range (i + 1)).filter fun v => truth.getD v false) :: rnL b9 b8 b7 b6 tb fb cb m all TL FL of_)
          rw [hbgi, List.length_append]
          unfold Rna
          rw [show natL (bg ++ [i]) = natL bg ++ [.int .i64 (i : Nat)] from by simp [natL]]
          exact hp18.tail
      · rw [if_neg (by rw [c3]; decide), List.append_nil] at hbgi
        repeat (first | refine zA ?_ | refine zB ?_ | refine zC rfl rfl rfl ?_ | refine zD ?_ | refine zE ?_ | refine zF ?_ | refine zG rfl ?_ | refine zH rfl ?_ | refine zI rfl rfl rfl ?_ | refine zJ rfl rfl ?_ | refine zK ?_ | refine zL ?_ | refine zM rfl ?_ | refine zN ?_)
        refine ⟨(i + 1, ba, bc), (by show pairs * starts - (i + 1) < pairs * starts - i; omega), ?_, hi, ?_⟩
        · show Sub ([(14, .slice ba ((List.range (i + 1)).filter fun v => truth.getD v false).length bc), (98, .int .i64 (pairs * starts : Nat)), (99, .int .i64 (i + 1 : Nat))] ++ rnE b1 ob b6 b7 b8 b9 m) _
          rw [hbgi]
          exact ⟨rfl, rfl, congrArg (fun z => some (Value.int .i64 z)) step, rfl, rfl, rfl, rfl, rfl, rfl, rfl⟩
        · show Hp w2 w16 (Rna (.slice ba ((List.range (i + 1)).filter fun v => truth.getD v false).length bc) ((List.range (i + 1)).filter fun v => truth.getD v false).length ((List.range (i + 1)).filter fun v => truth.getD v false) :: rnL b9 b8 b7 b6 tb fb cb m all TL FL of_)
          rw [hbgi]
          exact hp16
    · have hi : i = pairs * starts := by have h : ¬ ((i : Nat) : Int) < ((pairs * starts : Nat) : Int) := of_decide_eq_false c2; omega
      subst hi
      have hbgM : bg = beginM pairs starts truth := hbgq
      have hbgN : ∀ u ∈ bg, u < m := fun u hu => by
        rw [hbgq] at hu
        have := List.mem_range.1 (List.mem_filter.1 hu).1
        omega
      rw [← hbgM] at hM
      have hrd : Rd2 w16 m b9 b6 b8 b7 of_ tb fb cb TL FL (turnC of_ (rsN R) m) (fairC of_ fair m) all :=
        ⟨cell_of_obj (hp16.obj 1 rfl) rfl, hp16.obj 3 rfl, hTL, cell_of_obj (hp16.obj 6 rfl) rfl, cE_sl hp16 7 rfl, hofl, cell_of_obj (hp16.obj 2 rfl) rfl, hp16.obj 4 rfl, hFL, cell_of_obj (hp16.obj 5 rfl) rfl⟩
      cases hway : wayM G (rsN R) bg (fun _ => true) (stemFits of_ fair (rsN R) all) with
      | none => rw [hway] at hM; cases hM
      | some rw1 =>
      rw [hway] at hM
      repeat (first | refine zA ?_ | refine zB ?_ | refine zC rfl rfl rfl ?_ | refine zD ?_ | refine zE ?_ | refine zF ?_ | refine zG rfl ?_ | refine zH rfl ?_ | refine zI rfl rfl rfl ?_ | refine zJ rfl rfl ?_ | refine zK ?_ | refine zL ?_ | refine zM rfl ?_ | refine zN ?_)
      refine WL.call rfl rfl rfl rfl rfl ent90 (way_any (some ⟨ob, 0, none⟩) m m R w16 hRl (hTR.hp hp16) hNb hrlen hrin ba bc bg (Sl.of_row (hp16.at 0 rfl)) (by omega) hbgN
        89 [] (fun _ => true) ent89 (fun v w' _ _ => Ret.mono (run1_any v w') (by rintro _ _ ⟨rfl, rfl⟩; exact ⟨rfl, Hp.start _⟩))
        91 [ptr b9, ptr b6, ptr b8, ptr b7] (stemFits of_ fair (rsN R) all) ent91 (fun v w' hv hp' => by unfold stemFits; rw [hNR]; exact run2_any (hrd.below hp'.below) v hv) G (by omega) rw1 hway) ?_
      rintro uu w17 hwr
      cases rw1 with
      | none =>
        obtain ⟨rfl, hp17⟩ := hwr
        simp only [Option.some.injEq] at hM
        subst hM
        repeat (first | refine zA ?_ | refine zB ?_ | refine zC rfl rfl rfl ?_ | refine zD ?_ | refine zE ?_ | refine zF ?_ | refine zG rfl ?_ | refine zH rfl ?_ | refine zI rfl rfl rfl ?_ | refine zJ rfl rfl ?_ | refine zK ?_ | refine zL ?_ | refine zM rfl ?_ | refine zN ?_)
        refine WL.eqNil rfl rfl rfl rfl ?_
        repeat (first | refine zA ?_ | refine zB ?_ | refine zC rfl rfl rfl ?_ | refine zD ?_ | refine zE ?_ | refine zF ?_ | refine zG rfl ?_ | refine zH rfl ?_ | refine zI rfl rfl rfl ?_ | refine zJ rfl rfl ?_ | refine zK ?_ | refine zL ?_ | refine zM rfl ?_ | refine zN ?_)
        exact Res.three rfl rfl rfl rfl rfl ⟨rfl, (hpW.call (hp16.call hp17.below).below).nil'⟩
      | some stem =>
        obtain ⟨hsne, sb, sc, rfl, hp17⟩ := hwr
        have hp17 := hp16.comb hp17
        replace hp17 : Hp w2 w17 (Rna (.slice (some ⟨sb, 0, none⟩) stem.length sc) stem.length stem :: rnL b9 b8 b7 b6 tb fb cb m all TL FL of_) := hp17.pick [0, 2, 3, 4, 5, 6, 7, 8] (by decide)
        clear hp16 hrd
        have hsb := wayM_bd hnext hbgN hway
        have hslp : 0 < stem.length := List.length_pos_iff.2 hsne
        obtain ⟨home, hhome⟩ : ∃ home, home = stem.getLastD 0 := ⟨_, rfl⟩
        have hhN : home < m := by rw [hhome]; exact hsb.1 _ (last_mem hsne)
        have hlast := last_at hsne
        simp only [← hhome] at hM
        rw [← hhome] at hlast
        have e124 : IntKind.i64.wrap (((stem.length : Nat) : Int) - 1) = ((stem.length - 1 : Nat) : Int) := by rw [wrap_mid (by omega) (by omega)]; omega
        repeat (first | refine zA ?_ | refine zB ?_ | refine zC rfl rfl rfl ?_ | refine zD ?_ | refine zE ?_ | refine zF ?_ | refine zG rfl ?_ | refine zH rfl ?_ | refine zI rfl rfl rfl ?_ | refine zJ rfl rfl ?_ | refine zK ?_ | refine zL ?_ | refine zM rfl ?_ | refine zN ?_)
        refine WL.eqNil rfl rfl rfl rfl ?_
        repeat (first | refine zA ?_ | refine zB ?_ | refine zC rfl rfl rfl ?_ | refine zD ?_ | refine zE ?_ | refine zF ?_ | refine zG rfl ?_ | refine zH rfl ?_ | refine zI rfl rfl rfl ?_ | refine zJ rfl rfl ?_ | refine zK ?_ | refine zL ?_ | refine zM rfl ?_ | refine zN ?_)
        refine WL.known (d := 124) (congrArg (fun z => some (Value.int .i64 z)) e124) ?_
        refine WL.ixload (j := stem.length - 1) rfl (fun _ => rfl) rfl rfl rfl rfl rfl rfl rfl (by omega) rfl rfl (Sl.of_row (hp17.at 0 rfl)) hlast ?_
        intro q
        refine WL.alloc rfl rfl rfl (fun b18 w18 h18 => ?_)
        have hp18 := hp17.new h18
        refine WL.store rfl rfl rfl rfl rfl rfl (hp18.obj 0 rfl) (Nat.lt_succ_self 0) (fun w19 h19 => ?_)
        have hp19 : Hp w2 w19 (.blk b18 (.cells #[.int .i64 (home : Nat)] 3 (0, 0)) :: Rna (.slice (some ⟨sb, 0, none⟩) stem.length sc) stem.length stem :: rnL b9 b8 b7 b6 tb fb cb m all TL FL of_) := hp18.set 0 rfl rfl h19
        clear hp18 hp17
        obtain ⟨fbb, foo, hfae, hfcell⟩ := hFr2 _ _ (nd hfl hhN)
        repeat (first | refine zA ?_ | refine zB ?_ | refine zC rfl rfl rfl ?_ | refine zD ?_ | refine zE ?_ | refine zF ?_ | refine zG rfl ?_ | refine zH rfl ?_ | refine zI rfl rfl rfl ?_ | refine zJ rfl rfl ?_ | refine zK ?_ | refine zL ?_ | refine zM rfl ?_ | refine zN ?_)
        refine WC.mid Nat (fun b21 => [(17, .slice (some ⟨sb, 0, none⟩) stem.length sc), (18, ptr b18), (19, .func (.func 92) #[] #[ptr b6, ptr b18]), (20, .slice none 0 0), (21, ptr b21)] ++ rnE b1 ob b6 b7 b8 b9 m)
          (fun b21 w' => Hp w2 w' (.blk b21 (.cells #[.int .i64 (fair.getD home 0 : Nat)] 3 (0, 0)) :: .blk b18 (.cells #[.int .i64 (home : Nat)] 3 (0, 0)) :: Rna (.slice (some ⟨sb, 0, none⟩) stem.length sc) stem.length stem :: rnL b9 b8 b7 b6 tb fb cb m all TL FL of_)) ?_ ?_
        · subst hfae
          refine WC.regH (fun w' => Hp w2 w' [.blk b18 (.cells #[.int .i64 (home : Nat)] 3 (0, 0))]) mixed (by kernel_rfl) (fun w20 hw20 hh20 => ?_)
          have hp20 := hp19.keep hw20
          have hS := hp20.pick [0] (by decide)
          refine WH.load 0 (by kernel_rfl) rfl (by kernel_rfl) rfl rfl rfl rfl rfl (fun w' h => cell_below h.below hc1) hS ?_
          refine WH.nilC 1 (by kernel_rfl) rfl (by kernel_rfl) rfl rfl rfl hS ?_
          refine WH.pure 2 (by kernel_rfl) rfl (by kernel_rfl) rfl rfl rfl (hS) ?_
          refine WH.load 3 (by kernel_rfl) rfl (by kernel_rfl) rfl rfl rfl rfl rfl (fun w' h => cell_below h.below hc7) hS ?_
          refine WH.load 4 (by kernel_rfl) rfl (by kernel_rfl) rfl rfl rfl rfl rfl (fun w' h => cell_of_obj (h.obj 0 rfl) (j := 0) rfl) hS ?_
          refine WH.ix1 5 (by kernel_rfl) rfl (by kernel_rfl) rfl rfl rfl rfl rfl rfl rfl hhN hS ?_
          refine WH.load 6 (by kernel_rfl) rfl (by kernel_rfl) rfl rfl rfl rfl rfl (fun w' h => cell_below h.below hfcell) hS ?_
          refine WH.one 7 rfl (by kernel_rfl) ?_
          refine WL.alloc rfl rfl rfl (fun b21 w21 h21 => ?_)
          have hp21 := hp20.new h21
          refine WL.nil ⟨hp21.pick [1] (by decide), ?_⟩
          refine WH.one 8 rfl (by kernel_rfl) ?_
          refine WL.store rfl rfl rfl rfl rfl rfl (hp21.obj 0 rfl) (Nat.lt_succ_self 0) (fun w22 h22 => ?_)
          have hp22 := hp21.set 0 rfl rfl h22
          refine WL.nil ⟨hp22.pick [1] (by decide), ?_⟩
          refine WH.done (by kernel_rfl) ?_
          exact ⟨b21, ⟨rfl, rfl, rfl, rfl, rfl, rfl, rfl, rfl, rfl, rfl, rfl, rfl⟩, hp22⟩
        rintro b21 e20 w20 hsub hp20
        refine WC.sub hsub ?_
        clear hsub e20 hp19 h18 h19
        replace hp20 : Hp w2 w20 (.blk b21 (.cells #[.int .i64 (fair.getD home 0 : Nat)] 3 (0, 0)) :: .blk b18 (.cells #[.int .i64 (home : Nat)] 3 (0, 0)) :: Rna (.slice (some ⟨sb, 0, none⟩) stem.length sc) stem.length stem :: rnL b9 b8 b7 b6 tb fb cb m all TL FL of_) := hp20
        cases hlp : loopM G (rsN R) of_ fair all home G home (fair.getD home 0) [] with
        | none => rw [hlp] at hM; cases hM
        | some loop =>
        rw [hlp] at hM
        simp only [Option.some.injEq] at hM
        subst hM
        have hGG : G * (1 + G) ≤ 1048576 * 1048577 := Nat.mul_le_mul hG (by omega)
        have eg : ∀ v (h : v < of_.length), of_[v] = of_.getD v 0 := fun v h => by simp [h]
        have hp21 := (hp20.nilrow 3 1).swap
        clear hp20
        repeat (first | refine zA ?_ | refine zB ?_ | refine zC rfl rfl rfl ?_ | refine zD ?_ | refine zE ?_ | refine zF ?_ | refine zG rfl ?_ | refine zH rfl ?_ | refine zI rfl rfl rfl ?_ | refine zJ rfl rfl ?_ | refine zK ?_ | refine zL ?_ | refine zM rfl ?_ | refine zN ?_)
        refine WL.loadB rfl rfl rfl rfl rfl (hp21.obj 2 rfl) (j := 0) rfl ?_
        repeat (first | refine zA ?_ | refine zB ?_ | refine zC rfl rfl rfl ?_ | refine zD ?_ | refine zE ?_ | refine zF ?_ | refine zG rfl ?_ | refine zH rfl ?_ | refine zI rfl rfl rfl ?_ | refine zJ rfl rfl ?_ | refine zK ?_ | refine zL ?_ | refine zM rfl ?_ | refine zN ?_)
        refine WC.loop (Nat × Nat × Nat × List Nat × Option Addr × Nat) (fun (f, at_, seen, acc, pa, pc) => [(17, .slice (some ⟨sb, 0, none⟩) stem.length sc), (18, ptr b18), (19, .func (.func 92) #[] #[ptr b6, ptr b18]), (20, .slice pa acc.length pc), (21, ptr b21), (22, .int .i64 (at_ : Nat))] ++ rnE b1 ob b6 b7 b8 b9 m)
          (fun (f, at_, seen, acc, pa, pc) w' => loopM G (rsN R) of_ fair all home f at_ seen acc = some loop ∧ at_ < m ∧ seen < 2 ^ 40 ∧ acc.length + f * (1 + G) ≤ G * (1 + G) ∧ (∀ x ∈ acc, x < m) ∧
            Hp w2 w' (.blk b21 (.cells #[.int .i64 (seen : Nat)] 3 (0, 0)) :: Rna (.slice pa acc.length pc) acc.length acc :: .blk b18 (.cells #[.int .i64 (home : Nat)] 3 (0, 0)) :: Rna (.slice (some ⟨sb, 0, none⟩) stem.length sc) stem.length stem :: rnL b9 b8 b7 b6 tb fb cb m all TL FL of_)) (fun (f, _) => f)
          (G, home, fair.getD home 0, [], none, 0) ⟨rfl, rfl, rfl, rfl, rfl, rfl, rfl, rfl, rfl, rfl, rfl, rfl, rfl⟩ ⟨hlp, hhN, getD_lt40 hfb home, by simp, fun x hx => (by cases hx), hp21⟩ ?_
        clear hp21 hlp hfcell hfae fbb foo
        rintro ⟨f, at_, seen, acc, pa, pc⟩ w21 ⟨hlp, hatN, hsn, hacl, haccN, hp21⟩
        replace hlp : loopM G (rsN R) of_ fair all home f at_ seen acc = some loop := hlp
        replace hatN : at_ < m := hatN
        replace hsn : seen < 2 ^ 40 := hsn
        replace hacl : acc.length + f * (1 + G) ≤ G * (1 + G) := hacl
        replace haccN : ∀ x ∈ acc, x < m := haccN
        replace hp21 : Hp w2 w21 (.blk b21 (.cells #[.int .i64 (seen : Nat)] 3 (0, 0)) :: Rna (.slice pa acc.length pc) acc.length acc :: .blk b18 (.cells #[.int .i64 (home : Nat)] 3 (0, 0)) :: Rna (.slice (some ⟨sb, 0, none⟩) stem.length sc) stem.length stem :: rnL b9 b8 b7 b6 tb fb cb m all TL FL of_) := hp21
        obtain ⟨f0, rfl⟩ : ∃ f0, f = f0 + 1 := by
          cases f with
          | zero => unfold loopM at hlp; cases hlp
          | succ f0 => exact ⟨f0, rfl⟩
        unfold loopM at hlp
        have hatR : at_ < R.length := by omega
        have hrin1 := hrin _ (List.getElem_mem hatR)
        have hrlen1 := hrlen _ (List.getElem_mem hatR)
        have hrsl := hTR.rows _ (List.getElem_mem hatR)
        have hrat := rsV_at hatR
        rw [rsN_at hatR] at hlp
        have htab := hTR.tab
        generalize R[at_] = x at *
        obtain ⟨ra, rc, row⟩ := x
        simp only at hrin1 hrlen1 hrsl hrat hlp
        cases hway2 : wayM G (rsN R) row (fun v => decide (of_.getD v 0 = of_.getD home 0)) (loopFits fair all home seen) with
        | none => rw [hway2] at hlp; cases hlp
        | some pp =>
        cases pp with
        | none => rw [hway2] at hlp; cases hlp
        | some part =>
        rw [hway2] at hlp
        simp only at hlp
        have hpb := wayM_bd hnext hrin1 hway2
        rw [Nat.add_mul, Nat.one_mul] at hacl
        repeat (first | refine zA ?_ | refine zB ?_ | refine zC rfl rfl rfl ?_ | refine zD ?_ | refine zE ?_ | refine zF ?_ | refine zG rfl ?_ | refine zH rfl ?_ | refine zI rfl rfl rfl ?_ | refine zJ rfl rfl ?_ | refine zK ?_ | refine zL ?_ | refine zM rfl ?_ | refine zN ?_)
        refine WL.ixload rfl (fun _ => rfl) rfl rfl rfl rfl rfl rfl rfl hatN rfl rfl (htab.hp hp21) hrat ?_
        intro q
        repeat (first | refine zA ?_ | refine zB ?_ | refine zC rfl rfl rfl ?_ | refine zD ?_ | refine zE ?_ | refine zF ?_ | refine zG rfl ?_ | refine zH rfl ?_ | refine zI rfl rfl rfl ?_ | refine zJ rfl rfl ?_ | refine zK ?_ | refine zL ?_ | refine zM rfl ?_ | refine zN ?_)
        refine WL.call rfl rfl rfl rfl rfl ent90 (way_any (some ⟨ob, 0, none⟩) m m R w21 hRl (hTR.hp hp21) hNb hrlen hrin ra rc row (hrsl.hp hp21) hrlen1 hrin1
          92 [ptr b6, ptr b18] (fun v => decide (of_.getD v 0 = of_.getD home 0)) ent92
          (fun v w' hv hp' => Ret.mono (run3_any home (cell_below hp'.below (cell_of_obj (hp21.obj 9 rfl) (j := 0) rfl)) (cell_below hp'.below (cell_of_obj (hp21.obj 2 rfl) (j := 0) rfl)) hofl.symm (fun i h => Sl.cell ((cE_sl hp21 10 rfl).hp hp') (natL_at h)) v (by omega) (by omega)) (by rintro _ _ ⟨rfl, h⟩; exact ⟨by rw [eg, eg], h⟩))
          93 [ptr b1, ptr b21, ptr b7, ptr b18] (loopFits fair all home seen) ent93
          (fun v w' hv hp' => run4_any (cell_below hp'.below (cell_below hp21.below hc1)) (by rw [hp'.below.block xb (Nat.lt_of_lt_of_le (Array.getElem?_eq_some_iff.1 hx2).1 hp21.below.size), hp21.below.block xb (Array.getElem?_eq_some_iff.1 hx2).1]; exact hx2) ((hFr2.hp hp21).hp hp') hfl hfb hsn (cell_below hp'.below (cell_of_obj (hp21.obj 0 rfl) (j := 0) rfl)) (cell_below hp'.below (cell_of_obj (hp21.obj 8 rfl) (j := 0) rfl)) (cell_below hp'.below (cell_of_obj (hp21.obj 2 rfl) (j := 0) rfl)) v hv) G (by omega) (some part) hway2) ?_
        rintro uu w22 ⟨hpne, qb, qc, rfl, hp22⟩
        have hp23 := hp21.comb hp22
        clear hp22 hp21
        have hplp : 0 < part.length := List.length_pos_iff.2 hpne
        have hplast := last_at hpne
        have hatM := last_mem hpne
        have e150 : IntKind.i64.wrap (((part.length : Nat) : Int) - 1) = ((part.length - 1 : Nat) : Int) := by rw [wrap_mid (by omega) (by omega)]; omega
        repeat (first | refine zA ?_ | refine zB ?_ | refine zC rfl rfl rfl ?_ | refine zD ?_ | refine zE ?_ | refine zF ?_ | refine zG rfl ?_ | refine zH rfl ?_ | refine zI rfl rfl rfl ?_ | refine zJ rfl rfl ?_ | refine zK ?_ | refine zL ?_ | refine zM rfl ?_ | refine zN ?_)
        refine WL.append 2 hp23 rfl rfl rfl rfl rfl (by decide) rfl rfl rfl (news := natL part) (Sl.of_row (hp23.at 0 rfl)) (by rw [natL_len]; exact (Nat.mul_one _).symm) (natL_cells _) (by unfold maxLen; omega) (by show (acc.length + part.length) * 8 ≤ _; omega) ?_
        intro pa2 pc2 w23 hp24 _
        have eal : acc.length + part.length = (acc ++ part).length := by rw [List.length_append]
        rw [eal] at hp24 ⊢
        replace hp24 : Hp w2 w23 (Rna (.slice (some ⟨qb, 0, none⟩) part.length qc) part.length part :: .blk b21 (.cells #[.int .i64 (seen : Nat)] 3 (0, 0)) :: Rna (.slice pa2 (acc ++ part).length pc2) (acc ++ part).length (acc ++ part) :: .blk b18 (.cells #[.int .i64 (home : Nat)] 3 (0, 0)) :: Rna (.slice (some ⟨sb, 0, none⟩) stem.length sc) stem.length stem :: rnL b9 b8 b7 b6 tb fb cb m all TL FL of_) := by
          unfold Rna at hp24 ⊢
          rw [show natL (acc ++ part) = natL acc ++ natL part from List.map_append]
          exact hp24
        clear hp23
        repeat (first | refine zA ?_ | refine zB ?_ | refine zC rfl rfl rfl ?_ | refine zD ?_ | refine zE ?_ | refine zF ?_ | refine zG rfl ?_ | refine zH rfl ?_ | refine zI rfl rfl rfl ?_ | refine zJ rfl rfl ?_ | refine zK ?_ | refine zL ?_ | refine zM rfl ?_ | refine zN ?_)
        refine WL.known (d := 150) (congrArg (fun z => some (Value.int .i64 z)) e150) ?_
        refine WL.ixload (j := part.length - 1) rfl (fun _ => rfl) rfl rfl rfl rfl rfl rfl rfl (by omega) rfl rfl (Sl.of_row (hp24.at 0 rfl)) hplast ?_
        intro q
        obtain ⟨at2, hat2⟩ : ∃ at2, at2 = part.getLastD 0 := ⟨_, rfl⟩
        rw [← hat2] at hatM
        simp only [← hat2] at hlp ⊢
        have hat2N : at2 < m := hpb.1 _ hatM
        repeat (first | refine zA ?_ | refine zB ?_ | refine zC rfl rfl rfl ?_ | refine zD ?_ | refine zE ?_ | refine zF ?_ | refine zG rfl ?_ | refine zH rfl ?_ | refine zI rfl rfl rfl ?_ | refine zJ rfl rfl ?_ | refine zK ?_ | refine zL ?_ | refine zM rfl ?_ | refine zN ?_)
        refine WC.loop (Nat × Nat) (fun (i, sn) => [(17, .slice (some ⟨sb, 0, none⟩) stem.length sc), (18, ptr b18), (19, .func (.func 92) #[] #[ptr b6, ptr b18]), (20, .slice pa2 (acc ++ part).length pc2), (21, ptr b21), (22, .int .i64 (at2 : Nat)), (153, .slice (some ⟨qb, 0, none⟩) part.length qc), (154, .int .i64 (part.length : Nat)), (155, .int .i64 (i : Nat))] ++ rnE b1 ob b6 b7 b8 b9 m)
          (fun (i, sn) w' => i ≤ part.length ∧ seenM fair seen (part.take i) = sn ∧ Hp w2 w' (Rna (.slice (some ⟨qb, 0, none⟩) part.length qc) part.length part :: .blk b21 (.cells #[.int .i64 (sn : Nat)] 3 (0, 0)) :: Rna (.slice pa2 (acc ++ part).length pc2) (acc ++ part).length (acc ++ part) :: .blk b18 (.cells #[.int .i64 (home : Nat)] 3 (0, 0)) :: Rna (.slice (some ⟨sb, 0, none⟩) stem.length sc) stem.length stem :: rnL b9 b8 b7 b6 tb fb cb m all TL FL of_)) (fun (i, _) => part.length - i)
          (0, seen) ⟨rfl, rfl, rfl, rfl, rfl, rfl, rfl, rfl, rfl, rfl, rfl, rfl, rfl, rfl, rfl, rfl⟩ ⟨Nat.zero_le _, rfl, hp24⟩ ?_
        clear hp24
        rintro ⟨i, sn⟩ w24 ⟨hi, hsnq, hp24⟩
        replace hi : i ≤ part.length := hi
        replace hsnq : seenM fair seen (part.take i) = sn := hsnq
        replace hp24 : Hp w2 w24 (Rna (.slice (some ⟨qb, 0, none⟩) part.length qc) part.length part :: .blk b21 (.cells #[.int .i64 (sn : Nat)] 3 (0, 0)) :: Rna (.slice pa2 (acc ++ part).length pc2) (acc ++ part).length (acc ++ part) :: .blk b18 (.cells #[.int .i64 (home : Nat)] 3 (0, 0)) :: Rna (.slice (some ⟨sb, 0, none⟩) stem.length sc) stem.length stem :: rnL b9 b8 b7 b6 tb fb cb m all TL FL of_) := hp24
        have hsnb : sn < 2 ^ 40 := by rw [← hsnq]; exact seenM_lt hfb _ _ hsn
        repeat (first | refine zA ?_ | refine zB ?_ | refine zC rfl rfl rfl ?_ | refine zD ?_ | refine zE ?_ | refine zF ?_ | refine zG rfl ?_ | refine zH rfl ?_ | refine zI rfl rfl rfl ?_ | refine zJ rfl rfl ?_ | refine zK ?_ | refine zL ?_ | refine zM rfl ?_ | refine zN ?_)
        refine WC.cond rfl (fun c3 => ?_) (fun c3 => ?_)
        · have hi : i < part.length := by have h : ((i : Nat) : Int) < ((part.length : Nat) : Int) := of_decide_eq_true c3; omega
          have step := wrap_succ (i := i) (n := i + 1) (by omega) (by omega)
          obtain ⟨v, hv⟩ : ∃ v, v = part[i] := ⟨_, rfl⟩
          have hvN : v < m := by rw [hv]; exact hpb.1 _ (List.getElem_mem hi)
          have hfv := getD_lt40 hfb v
          have eor : bits .or .i64 ((sn : Nat) : Int) ((fair.getD v 0 : Nat) : Int) = ((sn ||| fair.getD v 0 : Nat) : Int) := or_i64 (by omega) (by omega)
          have hsn2 : seenM fair seen (part.take (i + 1)) = sn ||| fair.getD v 0 := by
            rw [← hsnq, List.take_succ_eq_append_getElem hi, ← hv]
            unfold seenM
            rw [List.foldl_append]; rfl
          obtain ⟨fbb, foo, hfae, hfcell⟩ := hFr2 _ _ (nd hfl hvN)
          repeat (first | refine zA ?_ | refine zB ?_ | refine zC rfl rfl rfl ?_ | refine zD ?_ | refine zE ?_ | refine zF ?_ | refine zG rfl ?_ | refine zH rfl ?_ | refine zI rfl rfl rfl ?_ | refine zJ rfl rfl ?_ | refine zK ?_ | refine zL ?_ | refine zM rfl ?_ | refine zN ?_)
          refine WL.ixload rfl (fun _ => rfl) rfl rfl rfl rfl rfl rfl rfl hi rfl rfl (Sl.of_row (hp24.at 0 rfl)) (natL_at hi) ?_
          intro q
          rw [← hv]
          repeat (first | refine zA ?_ | refine zB ?_ | refine zC rfl rfl rfl ?_ | refine zD ?_ | refine zE ?_ | refine zF ?_ | refine zG rfl ?_ | refine zH rfl ?_ | refine zI rfl rfl rfl ?_ | refine zJ rfl rfl ?_ | refine zK ?_ | refine zL ?_ | refine zM rfl ?_ | refine zN ?_)
          subst hfae
          refine WC.regS 9 mixed (by kernel_rfl) rfl rfl (fun w25 hw25 hh25 => ?_)
          have hp25 := hp24.keep hw25
          refine WS.loadB rfl rfl rfl rfl rfl (hp25.obj 1 rfl) (j := 0) rfl ?_
          refine WS.load rfl rfl rfl rfl rfl (cell_below hp25.below hc1) ?_
          refine WS.val rfl rfl (yNil rfl) ?_
          repeat (first | refine WS.pure rfl rfl rfl ?_ | refine WS.off rfl rfl rfl ?_ | refine WS.nil ?_)
          refine WS.load rfl rfl rfl rfl rfl (cell_below hp25.below hc7) ?_
          repeat (first | refine WS.pure rfl rfl rfl ?_ | refine WS.off rfl rfl rfl ?_ | refine WS.nil ?_)
          refine WS.ix1 rfl rfl rfl rfl rfl rfl rfl hvN ?_
          refine WS.load rfl rfl rfl rfl rfl (cell_below hp25.below hfcell) ?_
          refine WS.pure rfl rfl rfl ?_
          refine WS.known (d := 167) (congrArg (fun z => some (Value.int .i64 z)) eor) ?_
          repeat (first | refine WS.pure rfl rfl rfl ?_ | refine WS.off rfl rfl rfl ?_ | refine WS.nil ?_)
          refine WL.store rfl rfl rfl rfl rfl rfl (hp25.obj 1 rfl) (Nat.lt_succ_self 0) (fun w26 h26 => ?_)
          have hp26 := hp25.set 1 rfl rfl h26
          repeat (first | refine zA ?_ | refine zB ?_ | refine zC rfl rfl rfl ?_ | refine zD ?_ | refine zE ?_ | refine zF ?_ | refine zG rfl ?_ | refine zH rfl ?_ | refine zI rfl rfl rfl ?_ | refine zJ rfl rfl ?_ | refine zK ?_ | refine zL ?_ | refine zM rfl ?_ | refine zN ?_)
          exact ⟨(i + 1, sn ||| fair.getD v 0), (by show part.length - (i + 1) < part.length - i; omega), ⟨rfl, rfl, rfl, rfl, rfl, rfl, rfl, rfl, congrArg (fun z => some (Value.int .i64 z)) step, rfl, rfl, rfl, rfl, rfl, rfl, rfl⟩, hi, hsn2, hp26⟩
        · have hi : i = part.length := by have h : ¬ ((i : Nat) : Int) < ((part.length : Nat) : Int) := of_decide_eq_false c3; omega
          subst hi
          rw [List.take_length] at hsnq
          rw [hsnq] at hlp
          repeat (first | refine zA ?_ | refine zB ?_ | refine zC rfl rfl rfl ?_ | refine zD ?_ | refine zE ?_ | refine zF ?_ | refine zG rfl ?_ | refine zH rfl ?_ | refine zI rfl rfl rfl ?_ | refine zJ rfl rfl ?_ | refine zK ?_ | refine zL ?_ | refine zM rfl ?_ | refine zN ?_)
          refine WL.loadB rfl rfl rfl rfl rfl (hp24.obj 1 rfl) (j := 0) rfl ?_
          refine WL.loadB rfl rfl rfl rfl rfl (hp24.obj 9 rfl) (j := 0) rfl ?_
          refine WL.pure rfl rfl rfl ?_
          refine WL.pure rfl rfl rfl ?_
          have more : ∀ w25, ¬ (sn = all ∧ at2 = home) → Hp w2 w25 (Rna (.slice (some ⟨qb, 0, none⟩) part.length qc) part.length part :: .blk b21 (.cells #[.int .i64 (sn : Nat)] 3 (0, 0)) :: Rna (.slice pa2 (acc ++ part).length pc2) (acc ++ part).length (acc ++ part) :: .blk b18 (.cells #[.int .i64 (home : Nat)] 3 (0, 0)) :: Rna (.slice (some ⟨sb, 0, none⟩) stem.length sc) stem.length stem :: rnL b9 b8 b7 b6 tb fb cb m all TL FL of_) →
              loopM G (rsN R) of_ fair all home f0 at2 sn (acc ++ part) = some loop ∧ at2 < m ∧ sn < 2 ^ 40 ∧ (acc ++ part).length + f0 * (1 + G) ≤ G * (1 + G) ∧ (∀ x ∈ acc ++ part, x < m) ∧ Hp w2 w25 (.blk b21 (.cells #[.int .i64 (sn : Nat)] 3 (0, 0)) :: Rna (.slice pa2 (acc ++ part).length pc2) (acc ++ part).length (acc ++ part) :: .blk b18 (.cells #[.int .i64 (home : Nat)] 3 (0, 0)) :: Rna (.slice (some ⟨sb, 0, none⟩) stem.length sc) stem.length stem :: rnL b9 b8 b7 b6 tb fb cb m all TL FL of_) := by
            intro w25 hno hp25
            rw [if_neg hno] at hlp
            refine ⟨hlp, hat2N, hsnb, by rw [List.length_append]; omega, fun x hx => ?_, hp25.tail⟩
            rcases List.mem_append.1 hx with h | h
            · exact haccN x h
            · exact hpb.1 x h
          refine WL.split 172 rfl (fun c4 => ?_) (fun c4 => ?_)
          · have c4 : sn = all := Int.ofNat_inj.1 (beq_iff_eq.1 c4)
            repeat (first | refine zA ?_ | refine zB ?_ | refine zC rfl rfl rfl ?_ | refine zD ?_ | refine zE ?_ | refine zF ?_ | refine zG rfl ?_ | refine zH rfl ?_ | refine zI rfl rfl rfl ?_ | refine zJ rfl rfl ?_ | refine zK ?_ | refine zL ?_ | refine zM rfl ?_ | refine zN ?_)
            refine WL.loadB rfl rfl rfl rfl rfl (hp24.obj 3 rfl) (j := 0) rfl ?_
            repeat (first | refine zA ?_ | refine zB ?_ | refine zC rfl rfl rfl ?_ | refine zD ?_ | refine zE ?_ | refine zF ?_ | refine zG rfl ?_ | refine zH rfl ?_ | refine zI rfl rfl rfl ?_ | refine zJ rfl rfl ?_ | refine zK ?_ | refine zL ?_ | refine zM rfl ?_ | refine zN ?_)
            refine WC.cond rfl (fun c5 => ?_) (fun c5 => ?_)
            · have c5 : at2 = home := Int.ofNat_inj.1 (beq_iff_eq.1 c5)
              rw [if_pos ⟨c4, c5⟩] at hlp
              simp only [Option.some.injEq] at hlp
              have hlN : ∀ x ∈ loop, x < m := fun x hx => by
                rw [← hlp] at hx
                rcases List.mem_append.1 hx with h | h
                · exact haccN x h
                · exact hpb.1 x h
              rw [hlp] at hp24
              have hll : loop.length ≤ 1048576 * 1048577 := by
                have := congrArg List.length hlp
                rw [List.length_append] at this
                omega
              rw [hlp]
              clear hlp more hsnq
              repeat (first | refine zA ?_ | refine zB ?_ | refine zC rfl rfl rfl ?_ | refine zD ?_ | refine zE ?_ | refine zF ?_ | refine zG rfl ?_ | refine zH rfl ?_ | refine zI rfl rfl rfl ?_ | refine zJ rfl rfl ?_ | refine zK ?_ | refine zL ?_ | refine zM rfl ?_ | refine zN ?_)
              refine WC.regH (fun w' => Hp w24 w' []) mixed (by kernel_rfl) (fun w25 hw25 hh25 => ?_)
              have hp25 := hp24.keep hw25
              have hS : Hp w24 w25 [] := (Hp.start w24).keep hw25
              have hxw : ∀ w', Hp w2 w' [] → w'.heap[xb]? = some (Sxo (.slice an rs.length cn) mk starts (.slice la nl lc) pairs (.slice wa m wc) (.slice ta m tc) (.slice fa m fcap)) := fun w' h => by rw [h.below.block xb (Array.getElem?_eq_some_iff.1 hx2).1]; exact hx2
              refine WH.load 0 (by kernel_rfl) rfl (by kernel_rfl) rfl rfl rfl rfl rfl (fun w' h => cell_below h.below (cell_below hp24.below hc1)) hS ?_
              refine WH.pure 1 (by kernel_rfl) rfl (by kernel_rfl) rfl rfl rfl (hS) ?_
              refine WH.load 3 (by kernel_rfl) rfl (by kernel_rfl) rfl rfl rfl rfl rfl (fun w' h => cell_below h.below (cell_below hp24.below hc1)) hS ?_
              refine WH.pure 4 (by kernel_rfl) rfl (by kernel_rfl) rfl rfl rfl (hS) ?_
              refine WH.one 2 rfl (by kernel_rfl) ?_
              refine WL.call rfl rfl rfl rfl rfl ent94 (states2_any xb _ _ _ _ pairs _ _ _ hp0 (some ⟨sb, 0, none⟩) sc stem (by omega) (fun x hx => by have := hsb.1 x hx; omega) w25 (hxw w25 hp25.nil') (Sl.of_row (hp25.at 4 rfl))) ?_
              rintro _ w26 ⟨ra1, rc1, rfl, hp26⟩
              have hp27 := hp25.comb hp26
              have hS2 := hS.call hp26.below
              refine WL.nil ⟨hS2, ?_⟩
              refine WH.one 5 rfl (by kernel_rfl) ?_
              refine WL.call rfl rfl rfl rfl rfl ent94 (states2_any xb _ _ _ _ pairs _ _ _ hp0 pa2 pc2 loop (by omega) (fun x hx => by have := hlN x hx; omega) w26 (hxw w26 hp27.nil') (Sl.of_row (hp27.at 3 rfl))) ?_
              rintro _ w28 ⟨ra2, rc2, rfl, hp28⟩
              have hp29 := hp27.comb hp28
              have hS3 := hS2.call hp28.below
              refine WL.nil ⟨hS3, ?_⟩
              refine WH.pure 6 (by kernel_rfl) rfl (by kernel_rfl) rfl rfl rfl (hS3) ?_
              refine WH.pure 7 (by kernel_rfl) rfl (by kernel_rfl) rfl rfl rfl (hS3) ?_
              refine WH.pure 8 (by kernel_rfl) rfl (by kernel_rfl) rfl rfl rfl (hS3) ?_
              refine WH.done (by kernel_rfl) ?_
              repeat (first | refine zA ?_ | refine zB ?_ | refine zC rfl rfl rfl ?_ | refine zD ?_ | refine zE ?_ | refine zF ?_ | refine zG rfl ?_ | refine zH rfl ?_ | refine zI rfl rfl rfl ?_ | refine zJ rfl rfl ?_ | refine zK ?_ | refine zL ?_ | refine zM rfl ?_ | refine zN ?_)
              refine Res.three rfl rfl rfl rfl rfl ⟨ra1, rc1, ra2, rc2, rfl, ?_⟩
              exact (hpW.comb (hp29.pick [0, 1] (by decide))).pick [0, 1] (by decide)
            · have c5 : ¬ at2 = home := fun h => by rw [h] at c5; simp at c5
              repeat (first | refine zA ?_ | refine zB ?_ | refine zC rfl rfl rfl ?_ | refine zD ?_ | refine zE ?_ | refine zF ?_ | refine zG rfl ?_ | refine zH rfl ?_ | refine zI rfl rfl rfl ?_ | refine zJ rfl rfl ?_ | refine zK ?_ | refine zL ?_ | refine zM rfl ?_ | refine zN ?_)
              exact ⟨(f0, at2, sn, acc ++ part, pa2, pc2), Nat.lt_succ_self f0, ⟨rfl, rfl, rfl, rfl, rfl, rfl, rfl, rfl, rfl, rfl, rfl, rfl, rfl⟩, more w24 (fun h => c5 h.2) hp24⟩
          · have c4 : ¬ sn = all := fun h => by rw [h] at c4; simp at c4
            repeat (first | refine zA ?_ | refine zB ?_ | refine zC rfl rfl rfl ?_ | refine zD ?_ | refine zE ?_ | refine zF ?_ | refine zG rfl ?_ | refine zH rfl ?_ | refine zI rfl rfl rfl ?_ | refine zJ rfl rfl ?_ | refine zK ?_ | refine zL ?_ | refine zM rfl ?_ | refine zN ?_)
            exact ⟨(f0, at2, sn, acc ++ part, pa2, pc2), Nat.lt_succ_self f0, ⟨rfl, rfl, rfl, rfl, rfl, rfl, rfl, rfl, rfl, rfl, rfl, rfl, rfl⟩, more w24 (fun h => c4 h.1) hp24⟩
end Go.Proofs.YtpbbneclkhfgoaaDoor
end
section
/- ltl, twenty-seventh: refute, Holds. -/
namespace Go.W
open Go.RowKit
section
variable {P : Program} {fn : Func} {R : Value → World → Prop} {e : Env} {w : World}
/-- Results of which the first lies in a block. -/
theorem Res.cellT [T : TT P] {t t2 b : Nat} {ty ty2 : TypeId} {i : TI} {cs : Array Value} {fr : Nat × Nat} {v2 : Value} (hm : marks e = []) (hr : fn.results = #[.cell t ty, .tmp t2]) (ht : T.ti ty = some i) (h1 : isOne i.k = false) (hs : cs.size = i.size)
    (hv : look e t = some (.pointer (some ⟨b, 0, none⟩))) (hv2 : look e t2 = some v2) (hh : w.heap[b]? = some (.cells cs ty2 fr)) (h : R (.tuple #[.agg cs, v2]) w) : Res P fn R e w := by
  refine ⟨hm, _, fun tm htm => ?_, h⟩
  have hag : i.k.isAgg = true := by cases hk2 : i.k <;> rw [hk2] at h1 <;> first | rfl | (simp [isOne] at h1)
  have hagg := (T.ok ty i ht).isAgg w
  rw [hag] at hagg
  have hsz := (T.ok ty i ht).sizeOf w
  rw [← hs] at hsz
  have hc := run_loadCells_list (P := P) w ⟨b, 0, none⟩ cs.toList (fun j v hj => by rw [Addr.add_lit, Nat.zero_add]; exact cell_of_obj hh (by simpa using hj))
  simp only [Array.length_toList] at hc
  have k2 := htm t _ hv
  have k3 := htm t2 _ hv2
  rw [Array.getD_eq_getD_getElem?] at k2 k3
  simp [results, hr, k2, k3, asAddr, loadVar, hagg, hsz, hc]
end
end Go.W
namespace Go.Ltl
open Go.W
/-- A search, from the states and the formula to the lasso of states of the structure. -/
def srchM (F G : Nat) (nx : List (List Nat)) (ms : List Int) (p : Fm) (starts : Nat) : Option (Option (List Nat × List Nat)) :=
  (runM F G (graphM nx (2 ^ looksN p) ((newM p (2 ^ looksN p) ms).map (·.2.2.1))) (2 ^ looksN p) starts (looksN p) ((newM p (2 ^ looksN p) ms).map (·.1)) ((newM p (2 ^ looksN p) ms).map (·.2.2.2))).map
    (Option.map fun r => (r.1.map (· / 2 ^ looksN p), r.2.map (· / 2 ^ looksN p)))
theorem pushM_looks : ∀ (f : Fm) (c : Bool), looksN (pushM f c) ≤ sizeF f := by
  intro f
  induction f with
  | at_ w =>
    intro c
    unfold pushM
    split
    · exact Nat.zero_le _
    · split
      · show looksN (.on_ wNot (.at_ w)) ≤ _
        unfold looksN; rw [if_pos rfl]; exact Nat.zero_le _
      · exact Nat.zero_le _
  | on_ w f ih =>
    intro c
    unfold pushM
    split
    · have := ih (!c); unfold sizeF; omega
    · have := ih c
      unfold looksN sizeF
      split <;> omega
  | tw_ w f g ihf ihg =>
    intro c
    have h1 := ihf c
    have h2 := ihg c
    unfold pushM looksN sizeF
    split <;> omega
theorem dual_wf {w : Str} (h : w ∈ twosL) : nameM true w ∈ twosL := by
  have hs : w = wAnd ∨ w = wOr ∨ w = wUntil ∨ w = wRelease := by simpa [twosL] using h
  rcases hs with rfl | rfl | rfl | rfl <;> decide
theorem dual_wf1 {w : Str} (h : w ∈ onesL) (hn : w ≠ wNot) : nameM true w ∈ onesL := by
  have hs : w = wNot ∨ w = wNext ∨ w = wAlways ∨ w = wFinally := by simpa [onesL] using h
  rcases hs with rfl | rfl | rfl | rfl
  · exact absurd rfl hn
  all_goals decide
theorem dual_wf0 {w : Str} (h : w ∈ atomsL) (hs : (dualM w).isSome = true) : nameM true w ∈ atomsL := by
  have h2 : w = wTrue ∨ w = wFalse ∨ w = [112, 48] ∨ w = [112, 49] ∨ w = [112, 50] ∨ w = [112, 51] := by simpa [atomsL] using h
  rcases h2 with rfl | rfl | rfl | rfl | rfl | rfl
  · decide
  · decide
  all_goals (revert hs; decide)
theorem pushM_wf : ∀ (f : Fm) (c : Bool), wfF f → wfF (pushM f c) := by
  intro f
  induction f with
  | at_ w =>
    intro c h
    unfold pushM
    split
    · rename_i hs
      cases c with
      | true => exact dual_wf0 h hs
      | false => exact h
    · split
      · exact ⟨by decide, h⟩
      · exact h
  | on_ w f ih =>
    intro c h
    unfold pushM
    split
    · exact ih _ h.2
    · rename_i hn
      cases c with
      | true => exact ⟨dual_wf1 h.1 hn, ih _ h.2⟩
      | false => exact ⟨h.1, ih _ h.2⟩
  | tw_ w f g ihf ihg =>
    intro c h
    unfold pushM
    cases c with
    | true => exact ⟨dual_wf h.1, ihf _ h.2.1, ihg _ h.2.2⟩
    | false => exact ⟨h.1, ihf _ h.2.1, ihg _ h.2.2⟩
theorem newM_bd {p : Fm} {pairs : Nat} {ms : List Int} (h : looksN p ≤ 30) : ∀ e ∈ newM p pairs ms, e.2.2.1 < 2 ^ 40 ∧ e.2.2.2 < 2 ^ 40 := by
  intro e he
  unfold newM at he
  obtain ⟨m, _, h1⟩ := List.mem_flatMap.1 he
  obtain ⟨b, _, rfl⟩ := List.mem_map.1 h1
  have := (gval_ok m b p (0, 0, 0) (by show 0 + looksN p ≤ 30; omega) ⟨by decide, by decide⟩).2
  exact ⟨Nat.lt_trans this.1 (by decide), Nat.lt_trans this.2 (by decide)⟩
end Go.Ltl
namespace Go.Proofs.YtpbbneclkhfgoaaDoor
open Go.W Go.Ltl Go.RowKit
set_option maxRecDepth 100000
attribute [local irreducible] WC WL WQ WS WH

def rsOf (vs : Vs) : Nrs := vs.map fun x => (x.1, x.2.1, x.2.2.map Int.toNat)
def nxOf (vs : Vs) : List (List Nat) := vs.map fun x => x.2.2.map Int.toNat
theorem rsN_of (vs : Vs) : rsN (rsOf vs) = nxOf vs := by simp [rsN, rsOf, nxOf]
theorem zs_nat {l : List Int} (h : ∀ z ∈ l, 0 ≤ z) : zs l = natL (l.map Int.toNat) := by
  unfold zs natL
  rw [List.map_map]
  apply List.map_congr_left
  intro z hz
  have := h z hz
  show Value.int .i64 z = Value.int .i64 ((z.toNat : Nat) : Int)
  rw [Int.toNat_of_nonneg this]
theorem stc_tbl {w : World} {an am : Option Addr} {vs : Vs} {ms : List Int} (h : Stc w an am vs ms) (hnn : ∀ x ∈ vs, ∀ z ∈ x.2.2, 0 ≤ z) : Tbl w an (rsOf vs) := by
  refine ⟨?_, fun x hx => ?_⟩
  · have : rsV (rsOf vs) = catV vs := by
      unfold rsV rsOf catV
      rw [List.map_map]
      apply List.map_congr_left
      intro x _
      simp
    rw [this]; exact h.nx
  · obtain ⟨y, hy, rfl⟩ := List.mem_map.1 hx
    show Sl w y.1 (natL (y.2.2.map Int.toNat))
    rw [← zs_nat (hnn y hy)]
    exact h.rows y hy
/-- What a structure's test says. -/
structure StrOk (vs : Vs) (ms : List Int) : Prop where
  lo : 1 ≤ vs.length
  hi : vs.length ≤ 16
  ml : ms.length = vs.length
  mkk : ∀ m ∈ ms, 0 ≤ m ∧ m ≤ 15
  ne : ∀ x ∈ vs, x.2.2 ≠ []
  len : ∀ x ∈ vs, x.2.2.length ≤ 16
  ent : ∀ x ∈ vs, ∀ z ∈ x.2.2, 0 ≤ z ∧ z < (vs.length : Int)
theorem rowB_le {n : Nat} {l : List Int} (h : rowB n l = true) : ∀ i, i < l.length → (i : Int) ≤ l.getD i 0 := by
  simp only [rowB, Bool.and_eq_true, List.all_eq_true, List.mem_range, sucB, Bool.or_eq_true, decide_eq_true_eq] at h
  intro i
  induction i with
  | zero => intro hi; exact (h.2 0 hi).1.1
  | succ i ih =>
    intro hi
    have h1 := ih (by omega)
    rcases (h.2 (i + 1) hi).2 with h2 | h2
    · omega
    · simp only [Nat.add_sub_cancel] at h2
      omega
theorem strB_ok {vs : Vs} {ms : List Int} (h : strB vs ms = true) : StrOk vs ms := by
  simp only [strB, Bool.and_eq_true, decide_eq_true_eq, List.all_eq_true] at h
  obtain ⟨⟨⟨⟨h1, h2⟩, h3⟩, h4⟩, h5⟩ := h
  have hent : ∀ x ∈ vs, ∀ i, i < x.2.2.length → 0 ≤ x.2.2.getD i 0 ∧ x.2.2.getD i 0 < (vs.length : Int) := by
    intro x hx i hi
    have := h5 x hx
    simp only [rowB, Bool.and_eq_true, List.all_eq_true, List.mem_range, sucB, decide_eq_true_eq] at this
    exact (this.2 i hi).1
  refine ⟨h1, h2, h3, fun m hm => ?_, fun x hx => ?_, fun x hx => ?_, fun x hx z hz => ?_⟩
  · have := h4 m hm
    simp only [markB, Bool.and_eq_true, decide_eq_true_eq] at this
    exact this
  · have := h5 x hx
    simp only [rowB, Bool.and_eq_true, decide_eq_true_eq] at this
    exact this.1
  · rcases Nat.eq_zero_or_pos x.2.2.length with h0 | h0
    · omega
    · have e1 := rowB_le (h5 x hx) (x.2.2.length - 1) (by omega)
      have e2 := (hent x hx (x.2.2.length - 1) (by omega)).2
      omega
  · obtain ⟨i, hi, rfl⟩ := List.mem_iff_getElem.1 hz
    have := hent x hx i hi
    simpa [hi] using this
theorem StrOk.nn {vs : Vs} {ms : List Int} (h : StrOk vs ms) : ∀ x ∈ vs, ∀ z ∈ x.2.2, 0 ≤ z := fun x hx z hz => (h.ent x hx z hz).1
/-- A run, right behind newSearch. -/
theorem srch_any {w : World} {vs : Vs} {ms : List Int} (hok : StrOk vs ms) (an : Option Addr) (cn : Nat) (am : Option Addr) (cm : Nat) (p : Fm) (hwf : wfF p) (hlk : looksN p ≤ 12) (starts : Nat) (hss : starts ≤ vs.length) (F G : Nat) (hF : F ≤ 1099511627776) (hG : G ≤ 1048576) (r : Option (List Nat × List Nat))
    (hM : srchM F G (nxOf vs) ms p starts = some r) (xb : Nat) (la : Option Addr) (lc : Nat) (wa : Option Addr) (wc : Nat) (ta : Option Addr) (tc : Nat) (fa : Option Addr) (fcap : Nat) (w1 : World) (hst : Stc w1 an am vs ms)
    (hp : Hp w w1 (Sall xb (.slice an vs.length cn) (.slice am ms.length cm) starts la lc (findM p) (2 ^ looksN p) wa wc ta tc fa fcap (newM p (2 ^ looksN p) ms) [])) :
    Ret Tryd.prog 61 [ptr xb] w1 fun u w' => match r with
      | none => u = .tuple #[.slice none 0 0, .slice none 0 0, .bool false] ∧ Hp w1 w' []
      | some (stem, loop) => ∃ sa sc pa pc, u = .tuple #[.slice sa stem.length sc, .slice pa loop.length pc, .bool true] ∧ Hp w1 w' [Rna (.slice pa loop.length pc) loop.length loop, Rna (.slice sa stem.length sc) stem.length stem] := by
  unfold srchM at hM
  obtain ⟨r0, hr0, rfl⟩ := Option.map_eq_some_iff.1 hM
  have hpw : 2 ^ looksN p ≤ 4096 := Nat.pow_le_pow_right (n := 2) (by decide) hlk
  have hlen : (newM p (2 ^ looksN p) ms).length = vs.length * 2 ^ looksN p := by rw [newM_len, hok.ml]
  have hbd := newM_bd (pairs := 2 ^ looksN p) (ms := ms) (p := p) (by omega)
  have hfl := findM_len p hwf
  have hrl : (rsOf vs).length = vs.length := by simp [rsOf]
  have hx0 := hp.obj 0 rfl
  rw [hfl] at hx0
  have := run_any (starts := starts) xb an cn (rsOf vs) (.slice am ms.length cm) la (looksN p) lc (2 ^ looksN p) (newM p (2 ^ looksN p) ms).length wa wc ((newM p (2 ^ looksN p) ms).map (fun e : Bool × Gs => e.2.2.1)) ta tc ((newM p (2 ^ looksN p) ms).map (fun e : Bool × Gs => e.1)) fa fcap ((newM p (2 ^ looksN p) ms).map (fun e : Bool × Gs => e.2.2.2)) w1
    (by rw [hrl]; exact hx0) (stc_tbl hst hok.nn) (Sl.of_row (hp.at 2 rfl)) (Sl.of_row (hp.at 1 rfl)) (Sl.of_row (hp.at 3 rfl))
    (Nat.two_pow_pos _) (by simp) (by simp) (by simp) (by rw [hrl]; exact hlen) (fun x hx => by
      obtain ⟨y, hy, rfl⟩ := List.mem_map.1 hx
      show (y.2.2.map Int.toNat).length ≤ 16
      rw [List.length_map]; exact hok.len y hy) (by rw [hrl]; exact hok.hi) hpw rfl
    (fun x hx => by obtain ⟨e, he, rfl⟩ := List.mem_map.1 hx; exact (hbd e he).1) (fun x hx => by obtain ⟨e, he, rfl⟩ := List.mem_map.1 hx; exact (hbd e he).2) (by rw [hrl]; exact hss) F G hF hG r0 (by rw [rsN_of]; exact hr0)
  refine Ret.mono this ?_
  rintro u w' hu
  cases r0 with
  | none => exact hu
  | some q =>
    obtain ⟨stem, loop⟩ := q
    obtain ⟨sa, sc, pa, pc, rfl, hp2⟩ := hu
    exact ⟨sa, sc, pa, pc, by simp, by simpa using hp2⟩
/-- What a search's answer looks like as a result. -/
def ResR (r : Option (List Nat × List Nat)) (w : World) (u : Value) (w' : World) : Prop := match r with
  | none => u = .agg #[.bool true, .slice none 0 0, .slice none 0 0] ∧ Hp w w' []
  | some (stem, loop) => ∃ sa sc pa pc, u = .agg #[.bool false, .slice sa stem.length sc, .slice pa loop.length pc] ∧ Hp w w' [Rna (.slice pa loop.length pc) loop.length loop, Rna (.slice sa stem.length sc) stem.length stem]
theorem refute_any (an : Option Addr) (cn : Nat) (am : Option Addr) (cm : Nat) (vs : Vs) (ms : List Int) (hok : StrOk vs ms) (f : Fm) (hwf : wfF f) (hsz : sizeF f ≤ 12) (F G : Nat) (hF : F ≤ 1099511627776) (hG : G ≤ 1048576) (r : Option (List Nat × List Nat))
    (hM : srchM F G (nxOf vs) ms (pushM f true) 1 = some r) (w : World) (hGl : Gl w) (hst : Stc w an am vs ms) :
    Ret Tryd.prog 57 [stV an cn am cm vs ms, fmV f] w fun u w' => ResR r w u w' := by
  have hml := hok.ml
  have hhi := hok.hi
  refine enter Tryd.func57 rfl rfl ⟨rfl, rfl⟩ rfl ?_
  repeat (first | refine zA ?_ | refine zB ?_ | refine zC rfl rfl rfl ?_ | refine zD ?_ | refine zE ?_ | refine zF ?_ | refine zG rfl ?_ | refine zH rfl ?_ | refine zI rfl rfl rfl ?_ | refine zJ rfl rfl ?_ | refine zK ?_ | refine zL ?_ | refine zM rfl ?_ | refine zN ?_)
  refine WL.box rfl rfl rfl (fun b w1 h1 => ?_)
  have hp1 : Hp w w1 [Sb b an cn am cm vs ms] := (Hp.start w).new h1
  refine WL.alloc rfl rfl rfl (fun b4 w2 h2 => ?_)
  have hp2 := hp1.new h2
  repeat (first | refine zA ?_ | refine zB ?_ | refine zC rfl rfl rfl ?_ | refine zD ?_ | refine zE ?_ | refine zF ?_ | refine zG rfl ?_ | refine zH rfl ?_ | refine zI rfl rfl rfl ?_ | refine zJ rfl rfl ?_ | refine zK ?_ | refine zL ?_ | refine zM rfl ?_ | refine zN ?_)
  refine WC.mid (Value × Value × Bool) (fun (s, l, o) => [(4, ptr b4), (5, s), (6, l), (7, .bool o)])
    (fun (s, l, o) w' => match r with
      | none => s = .slice none 0 0 ∧ l = .slice none 0 0 ∧ o = false ∧ Hp w w' [.blk b4 (.cells ti48.zero.cells 48 (0, 0))]
      | some (stem, loop) => ∃ sa sc pa pc, s = .slice sa stem.length sc ∧ l = .slice pa loop.length pc ∧ o = true ∧ Hp w w' [.blk b4 (.cells ti48.zero.cells 48 (0, 0)), Rna (.slice pa loop.length pc) loop.length loop, Rna (.slice sa stem.length sc) stem.length stem]) ?_ ?_
  · refine WC.regH (fun w' => Hp w w' [Sb b an cn am cm vs ms]) mixed (by kernel_rfl) (fun w3 hw3 hh3 => ?_)
    have hp3 := hp2.keep hw3
    have hS := hp3.pick [1] (by decide)
    refine WH.take 0 (by kernel_rfl) rfl (by kernel_rfl) rfl rfl (fun w' h => run_loadN (cs := [.slice an vs.length cn, .slice am ms.length cm]) rfl rfl rfl rfl (fun q v hq => by rw [Addr.add_lit]; exact cell_of_obj (h.obj 0 rfl) (by rw [Nat.zero_add]; simpa using hq))) hS ?_
    refine WH.pure 1 (by kernel_rfl) rfl (by kernel_rfl) rfl rfl rfl (hS) ?_
    refine WH.one 2 rfl (by kernel_rfl) ?_
    refine WL.call rfl rfl rfl rfl rfl ent53 (push_any f true w3 (hGl.hp hp3)) ?_
    rintro _ w4 ⟨rfl, hp4⟩
    have hp4 := hp3.comb hp4
    refine WL.nil ⟨hp4.pick [1] (by decide), ?_⟩
    refine WH.one 3 rfl (by kernel_rfl) ?_
    refine WL.call rfl rfl rfl rfl rfl ent60 (newSearch_any an cn am cm vs ms (by omega) hok.mkk (pushM f true) (pushM_wf f true hwf) (Nat.le_trans (pushM_looks f true) hsz) 1 w4 (hst.hp hp4).mks) ?_
    rintro _ w5 ⟨xb, la, lc, wa, wc, ta, tc, fa, fcap, rfl, hp5⟩
    have hp6 := hp4.call hp5.below
    refine WL.nil ⟨hp6.pick [1] (by decide), ?_⟩
    refine WH.one 4 rfl (by kernel_rfl) ?_
    refine WL.call rfl rfl rfl rfl rfl ent61 (srch_any hok an cn am cm (pushM f true) (pushM_wf f true hwf) (Nat.le_trans (pushM_looks f true) hsz) 1 hok.lo F G hF hG r hM xb la lc wa wc ta tc fa fcap w5 (hst.hp hp6) hp5) ?_
    rintro u w6 hu
    cases r with
    | none =>
      obtain ⟨rfl, hp7⟩ := hu
      have hp8 := hp6.call hp7.below
      have hS := hp8.pick [1] (by decide)
      refine WL.nil ⟨hS, ?_⟩
      refine WH.pure 5 (by kernel_rfl) rfl (by kernel_rfl) rfl rfl rfl (hS) ?_
      refine WH.pure 6 (by kernel_rfl) rfl (by kernel_rfl) rfl rfl rfl (hS) ?_
      refine WH.pure 7 (by kernel_rfl) rfl (by kernel_rfl) rfl rfl rfl (hS) ?_
      refine WH.pure 8 (by kernel_rfl) rfl (by kernel_rfl) rfl rfl rfl (hS) ?_
      refine WH.pure 9 (by kernel_rfl) rfl (by kernel_rfl) rfl rfl rfl (hS) ?_
      refine WH.pure 10 (by kernel_rfl) rfl (by kernel_rfl) rfl rfl rfl (hS) ?_
      refine WH.pure 11 (by kernel_rfl) rfl (by kernel_rfl) rfl rfl rfl (hS) ?_
      refine WH.done (by kernel_rfl) ?_
      exact ⟨(.slice none 0 0, .slice none 0 0, false), ⟨rfl, rfl, rfl, rfl, rfl⟩, rfl, rfl, rfl, hp8.pick [0] (by decide)⟩
    | some q =>
      obtain ⟨stem, loop⟩ := q
      obtain ⟨sa, sc, pa, pc, rfl, hp7⟩ := hu
      have hp8 := hp6.comb hp7
      have hS := hp8.pick [3] (by decide)
      refine WL.nil ⟨hS, ?_⟩
      refine WH.pure 5 (by kernel_rfl) rfl (by kernel_rfl) rfl rfl rfl (hS) ?_
      refine WH.pure 6 (by kernel_rfl) rfl (by kernel_rfl) rfl rfl rfl (hS) ?_
      refine WH.pure 7 (by kernel_rfl) rfl (by kernel_rfl) rfl rfl rfl (hS) ?_
      refine WH.pure 8 (by kernel_rfl) rfl (by kernel_rfl) rfl rfl rfl (hS) ?_
      refine WH.pure 9 (by kernel_rfl) rfl (by kernel_rfl) rfl rfl rfl (hS) ?_
      refine WH.pure 10 (by kernel_rfl) rfl (by kernel_rfl) rfl rfl rfl (hS) ?_
      refine WH.pure 11 (by kernel_rfl) rfl (by kernel_rfl) rfl rfl rfl (hS) ?_
      refine WH.done (by kernel_rfl) ?_
      exact ⟨(.slice sa stem.length sc, .slice pa loop.length pc, true), ⟨rfl, rfl, rfl, rfl, rfl⟩, sa, sc, pa, pc, rfl, rfl, rfl, hp8.pick [2, 0, 1] (by decide)⟩
  · rintro ⟨s, l, o⟩ e3 w3 hsub hq
    refine WC.sub hsub ?_
    cases r with
    | none =>
      obtain ⟨rfl, rfl, rfl, hp3⟩ := hq
      repeat (first | refine zA ?_ | refine zB ?_ | refine zC rfl rfl rfl ?_ | refine zD ?_ | refine zE ?_ | refine zF ?_ | refine zG rfl ?_ | refine zH rfl ?_ | refine zI rfl rfl rfl ?_ | refine zJ rfl rfl ?_ | refine zK ?_ | refine zL ?_ | refine zM rfl ?_ | refine zN ?_)
      refine WL.buildT (cs := [.bool true, .slice none 0 0, .slice none 0 0]) rfl rfl rfl rfl rfl rfl ?_
      refine WL.storeN rfl rfl rfl rfl rfl (by simp [Value.oneCell']) (hp3.obj 0 rfl) (Nat.le_refl _) rfl (fun w4 h4 => ?_)
      have hp4 := hp3.set 0 rfl rfl h4
      repeat (first | refine zA ?_ | refine zB ?_ | refine zC rfl rfl rfl ?_ | refine zD ?_ | refine zE ?_ | refine zF ?_ | refine zG rfl ?_ | refine zH rfl ?_ | refine zI rfl rfl rfl ?_ | refine zJ rfl rfl ?_ | refine zK ?_ | refine zL ?_ | refine zM rfl ?_ | refine zN ?_)
      exact Res.cell rfl rfl rfl rfl rfl rfl (hp4.obj 0 rfl) ⟨rfl, hp4.nil'⟩
    | some q =>
      obtain ⟨stem, loop⟩ := q
      obtain ⟨sa, sc, pa, pc, rfl, rfl, rfl, hp3⟩ := hq
      repeat (first | refine zA ?_ | refine zB ?_ | refine zC rfl rfl rfl ?_ | refine zD ?_ | refine zE ?_ | refine zF ?_ | refine zG rfl ?_ | refine zH rfl ?_ | refine zI rfl rfl rfl ?_ | refine zJ rfl rfl ?_ | refine zK ?_ | refine zL ?_ | refine zM rfl ?_ | refine zN ?_)
      refine WL.buildT (cs := [.bool false, .slice sa stem.length sc, .slice pa loop.length pc]) rfl rfl rfl rfl rfl rfl ?_
      refine WL.storeN rfl rfl rfl rfl rfl (by simp [Value.oneCell']) (hp3.obj 0 rfl) (Nat.le_refl _) rfl (fun w4 h4 => ?_)
      have hp4 := hp3.set 0 rfl rfl h4
      repeat (first | refine zA ?_ | refine zB ?_ | refine zC rfl rfl rfl ?_ | refine zD ?_ | refine zE ?_ | refine zF ?_ | refine zG rfl ?_ | refine zH rfl ?_ | refine zI rfl rfl rfl ?_ | refine zJ rfl rfl ?_ | refine zK ?_ | refine zL ?_ | refine zM rfl ?_ | refine zN ?_)
      exact Res.cell rfl rfl rfl rfl rfl rfl (hp4.obj 0 rfl) ⟨sa, sc, pa, pc, rfl, hp4.tail⟩
/-- What Holds answers. -/
def HoldsR (F G : Nat) (vs : Vs) (ms : List Int) (s : Str) (w : World) (v : Value) (w' : World) : Prop :=
  if strB vs ms then match parseM s with
    | none => v = .tuple #[.agg #[.bool false, .slice none 0 0, .slice none 0 0], .int .i64 4] ∧ Hp w w' []
    | some f => ∃ r u, srchM F G (nxOf vs) ms (pushM f true) 1 = some r ∧ v = .tuple #[u, .int .i64 0] ∧ ResR r w u w'
  else v = .tuple #[.agg #[.bool false, .slice none 0 0, .slice none 0 0], .int .i64 2] ∧ Hp w w' []
theorem Holds_any (an : Option Addr) (cn : Nat) (am : Option Addr) (cm : Nat) (vs : Vs) (ms : List Int) (hms : ms.length ≤ 1000000) (hvs : ∀ x ∈ vs, x.2.2.length ≤ 1000000) (s : Str) (hs : s.length ≤ 2000) (F G : Nat) (hF : F ≤ 1099511627776) (hG : G ≤ 1048576)
    (hM : StrOk vs ms → ∀ f, parseM s = some f → (srchM F G (nxOf vs) ms (pushM f true) 1).isSome = true) (w : World) (hGl : Gl w) (hst : Stc w an am vs ms) :
    Ret Tryd.prog 26 [stV an cn am cm vs ms, st s] w fun v w' => HoldsR F G vs ms s w v w' := by
  refine enter Tryd.func26 rfl rfl ⟨rfl, rfl⟩ rfl ?_
  repeat (first | refine zA ?_ | refine zB ?_ | refine zC rfl rfl rfl ?_ | refine zD ?_ | refine zE ?_ | refine zF ?_ | refine zG rfl ?_ | refine zH rfl ?_ | refine zI rfl rfl rfl ?_ | refine zJ rfl rfl ?_ | refine zK ?_ | refine zL ?_ | refine zM rfl ?_ | refine zN ?_)
  refine WL.box rfl rfl rfl (fun b w1 h1 => ?_)
  have hp1 : Hp w w1 [Sb b an cn am cm vs ms] := (Hp.start w).new h1
  refine WL.alloc rfl rfl rfl (fun b4 w2 h2 => ?_)
  have hp2 := hp1.new h2
  repeat (first | refine zA ?_ | refine zB ?_ | refine zC rfl rfl rfl ?_ | refine zD ?_ | refine zE ?_ | refine zF ?_ | refine zG rfl ?_ | refine zH rfl ?_ | refine zI rfl rfl rfl ?_ | refine zJ rfl rfl ?_ | refine zK ?_ | refine zL ?_ | refine zM rfl ?_ | refine zN ?_)
  refine WL.loadN rfl rfl rfl rfl rfl (cs := [.slice an vs.length cn, .slice am ms.length cm]) rfl (fun q v hq => cell_of_obj (hp2.obj 1 rfl) (by rw [Nat.zero_add]; simpa using hq)) ?_
  refine WL.call rfl rfl rfl rfl rfl ent56 (isStructure_any an cn am cm vs ms hms hvs w2 (hst.hp hp2)) ?_
  rintro _ w3 ⟨rfl, hp3⟩
  have hp3 := hp2.comb hp3
  cases hsb : strB vs ms with
  | false =>
    repeat (first | refine zA ?_ | refine zB ?_ | refine zC rfl rfl rfl ?_ | refine zD ?_ | refine zE ?_ | refine zF ?_ | refine zG rfl ?_ | refine zH rfl ?_ | refine zI rfl rfl rfl ?_ | refine zJ rfl rfl ?_ | refine zK ?_ | refine zL ?_ | refine zM rfl ?_ | refine zN ?_)
    refine WL.buildT (cs := [.bool false, .slice none 0 0, .slice none 0 0]) rfl rfl rfl rfl rfl rfl ?_
    refine WL.storeN rfl rfl rfl rfl rfl (by simp [Value.oneCell']) (hp3.obj 0 rfl) (Nat.le_refl _) rfl (fun w4 h4 => ?_)
    have hp4 := hp3.set 0 rfl rfl h4
    repeat (first | refine zA ?_ | refine zB ?_ | refine zC rfl rfl rfl ?_ | refine zD ?_ | refine zE ?_ | refine zF ?_ | refine zG rfl ?_ | refine zH rfl ?_ | refine zI rfl rfl rfl ?_ | refine zJ rfl rfl ?_ | refine zK ?_ | refine zL ?_ | refine zM rfl ?_ | refine zN ?_)
    exact Res.cellT rfl rfl rfl rfl rfl rfl rfl (hp4.obj 0 rfl) (by unfold HoldsR; rw [hsb, if_neg (by decide)]; exact ⟨rfl, hp4.nil'⟩)
  | true =>
    have hok := strB_ok hsb
    repeat (first | refine zA ?_ | refine zB ?_ | refine zC rfl rfl rfl ?_ | refine zD ?_ | refine zE ?_ | refine zF ?_ | refine zG rfl ?_ | refine zH rfl ?_ | refine zI rfl rfl rfl ?_ | refine zJ rfl rfl ?_ | refine zK ?_ | refine zL ?_ | refine zM rfl ?_ | refine zN ?_)
    refine WL.call rfl rfl rfl rfl rfl ent48 (parse_any s hs w3 (hGl.hp hp3)) ?_
    rintro v w4 ⟨⟨f, hf, rfl⟩ | ⟨hf, x, rfl⟩, hp4⟩
    · have hp5 := hp3.comb hp4
      obtain ⟨r, hr⟩ := Option.isSome_iff_exists.1 (hM hok f hf)
      repeat (first | refine zA ?_ | refine zB ?_ | refine zC rfl rfl rfl ?_ | refine zD ?_ | refine zE ?_ | refine zF ?_ | refine zG rfl ?_ | refine zH rfl ?_ | refine zI rfl rfl rfl ?_ | refine zJ rfl rfl ?_ | refine zK ?_ | refine zL ?_ | refine zM rfl ?_ | refine zN ?_)
      refine WL.loadN rfl rfl rfl rfl rfl (cs := [.slice an vs.length cn, .slice am ms.length cm]) rfl (fun q v hq => cell_of_obj (hp5.obj 1 rfl) (by rw [Nat.zero_add]; simpa using hq)) ?_
      repeat (first | refine zA ?_ | refine zB ?_ | refine zC rfl rfl rfl ?_ | refine zD ?_ | refine zE ?_ | refine zF ?_ | refine zG rfl ?_ | refine zH rfl ?_ | refine zI rfl rfl rfl ?_ | refine zJ rfl rfl ?_ | refine zK ?_ | refine zL ?_ | refine zM rfl ?_ | refine zN ?_)
      refine WL.call rfl rfl rfl rfl rfl ent57 (refute_any an cn am cm vs ms hok f (parseM_wf hf) (parseM_sz hf).2 F G hF hG r hr w4 (hGl.hp hp5) (hst.hp hp5)) ?_
      rintro u w5 hu
      cases r with
      | none =>
        obtain ⟨rfl, hp6⟩ := hu
        have hp7 := hp5.comb hp6
        refine WL.storeN rfl rfl rfl rfl rfl (by simp [Value.oneCell']) (hp7.obj 0 rfl) (Nat.le_refl _) rfl (fun w6 h6 => ?_)
        have hp8 := hp7.set 0 rfl rfl h6
        repeat (first | refine zA ?_ | refine zB ?_ | refine zC rfl rfl rfl ?_ | refine zD ?_ | refine zE ?_ | refine zF ?_ | refine zG rfl ?_ | refine zH rfl ?_ | refine zI rfl rfl rfl ?_ | refine zJ rfl rfl ?_ | refine zK ?_ | refine zL ?_ | refine zM rfl ?_ | refine zN ?_)
        exact Res.cellT rfl rfl rfl rfl rfl rfl rfl (hp8.obj 0 rfl) (by unfold HoldsR; rw [hsb, if_pos rfl, hf]; exact ⟨none, _, hr, rfl, rfl, hp8.nil'⟩)
      | some q =>
        obtain ⟨stem, loop⟩ := q
        obtain ⟨sa, sc, pa, pc, rfl, hp6⟩ := hu
        have hp7 := hp5.comb hp6
        refine WL.storeN rfl rfl rfl rfl rfl (by simp [Value.oneCell']) (hp7.obj 2 rfl) (Nat.le_refl _) rfl (fun w6 h6 => ?_)
        have hp8 := hp7.set 2 rfl rfl h6
        repeat (first | refine zA ?_ | refine zB ?_ | refine zC rfl rfl rfl ?_ | refine zD ?_ | refine zE ?_ | refine zF ?_ | refine zG rfl ?_ | refine zH rfl ?_ | refine zI rfl rfl rfl ?_ | refine zJ rfl rfl ?_ | refine zK ?_ | refine zL ?_ | refine zM rfl ?_ | refine zN ?_)
        exact Res.cellT rfl rfl rfl rfl rfl rfl rfl (hp8.obj 2 rfl) (by unfold HoldsR; rw [hsb, if_pos rfl, hf]; exact ⟨some (stem, loop), _, hr, rfl, sa, sc, pa, pc, rfl, hp8.pick [0, 1] (by decide)⟩)
    · have hp5 := hp3.comb hp4
      repeat (first | refine zA ?_ | refine zB ?_ | refine zC rfl rfl rfl ?_ | refine zD ?_ | refine zE ?_ | refine zF ?_ | refine zG rfl ?_ | refine zH rfl ?_ | refine zI rfl rfl rfl ?_ | refine zJ rfl rfl ?_ | refine zK ?_ | refine zL ?_ | refine zM rfl ?_ | refine zN ?_)
      refine WL.buildT (cs := [.bool false, .slice none 0 0, .slice none 0 0]) rfl rfl rfl rfl rfl rfl ?_
      refine WL.pure rfl rfl rfl ?_
      refine WL.storeN rfl rfl rfl rfl rfl (by simp [Value.oneCell']) (hp5.obj 0 rfl) (Nat.le_refl _) rfl (fun w6 h6 => ?_)
      have hp6 := hp5.set 0 rfl rfl h6
      repeat (first | refine zA ?_ | refine zB ?_ | refine zC rfl rfl rfl ?_ | refine zD ?_ | refine zE ?_ | refine zF ?_ | refine zG rfl ?_ | refine zH rfl ?_ | refine zI rfl rfl rfl ?_ | refine zJ rfl rfl ?_ | refine zK ?_ | refine zL ?_ | refine zM rfl ?_ | refine zN ?_)
      exact Res.cellT rfl rfl rfl rfl rfl rfl rfl (hp6.obj 0 rfl) (by unfold HoldsR; rw [hsb, if_pos rfl, hf]; exact ⟨rfl, hp6.nil'⟩)
end Go.Proofs.YtpbbneclkhfgoaaDoor
end
section
/- The search is right: a lasso that satisfies the formula and is not too long, or no run satisfies it. -/
namespace Go.Ltl
open Go.W
theorem again {N : Nat} (τ : Nat → Nat) (h : ∀ i, τ i < N) : ∃ v, ∀ i, ∃ j, i ≤ j ∧ τ j = v := by
  refine Classical.byContradiction fun hn => ?_
  have h1 : ∀ v, ∃ i, ∀ j, i ≤ j → τ j ≠ v := fun v => Classical.byContradiction fun hv => hn ⟨v, fun i => Classical.byContradiction fun hi => hv ⟨i, fun j hj he => hi ⟨j, hj, he⟩⟩⟩
  have h2 : ∀ n, ∃ i, ∀ j, i ≤ j → n ≤ τ j := by
    intro n
    induction n with
    | zero => exact ⟨0, fun _ _ => Nat.zero_le _⟩
    | succ n ih =>
      obtain ⟨a, ha⟩ := ih
      obtain ⟨b, hb⟩ := h1 n
      refine ⟨a + b, fun j hj => ?_⟩
      have := ha j (by omega)
      have := hb j (by omega)
      omega
  obtain ⟨i, hi⟩ := h2 N
  have := hi i (Nat.le_refl _)
  have := h i
  omega
theorem seq_map {ms : List Int} {l : List Nat} {lp : Nat} (h : lp < l.length) (i : Nat) : seqL (l.map fun v => ms.getD v 0) lp i = ms.getD (l.getD (pos l.length lp i) 0) 0 := by
  unfold seqL
  rw [List.length_map, List.getD_eq_getElem?_getD (l := l.map _), List.getElem?_map, List.getD_eq_getElem?_getD (l := l), List.getElem?_eq_getElem (pos_lt h i)]
  rfl
structure SrOk (nx : List (List Nat)) (ms : List Int) (starts : Nat) : Prop where
  len : nx.length = ms.length
  hi : nx.length ≤ 16
  row : ∀ r ∈ nx, r.length ≤ 16 ∧ ∀ u ∈ r, u < nx.length
  st : starts ≤ nx.length
/-- An endless run. -/
def RunS (nx : List (List Nat)) (starts : Nat) (τ : Nat → Nat) : Prop := τ 0 < starts ∧ ∀ i, τ (i + 1) ∈ nx.getD (τ i) []
theorem getD_row {nx : List (List Nat)} {v u : Nat} (h : u ∈ nx.getD v []) : v < nx.length ∧ nx.getD v [] ∈ nx := by
  by_cases hv : v < nx.length
  · exact ⟨hv, by rw [List.getD_eq_getElem?_getD, List.getElem?_eq_getElem hv]; exact List.getElem_mem hv⟩
  · rw [List.getD_eq_getElem?_getD, List.getElem?_eq_none (by omega)] at h; cases h
theorem degS_le {nx : List (List Nat)} {m : Nat} (h : ∀ r ∈ nx, r.length ≤ m) : degS nx ≤ nx.length * m := by
  unfold degS
  induction nx with
  | nil => exact Nat.zero_le _
  | cons a l ih =>
    rw [List.map_cons, List.sum_cons, List.length_cons, Nat.succ_mul]
    have := ih (fun r hr => h r (List.mem_cons_of_mem _ hr))
    have := h a (by simp)
    omega
theorem cntF_range (q : Nat → Bool) : ∀ t, cntF (fun b => !q b) t = ((List.range t).filter q).length := by
  intro t
  induction t with
  | zero => rfl
  | succ t ih =>
    unfold cntF
    rw [ih, List.range_succ, List.filter_append, List.length_append, List.filter_cons, List.filter_nil]
    cases q t <;> rfl
theorem cntF_mono {A B : Nat → Bool} : ∀ t, (∀ b, b < t → B b = true → A b = true) → cntF A t ≤ cntF B t := by
  intro t
  induction t with
  | zero => intro _; exact Nat.le_refl _
  | succ t ih =>
    intro h
    have h1 := ih (fun b hb => h b (by omega))
    have h2 := h t (Nat.lt_succ_self t)
    unfold cntF
    cases hB : B t with
    | true => rw [h2 hB]; simp only [if_true]; omega
    | false => simp; split <;> omega
theorem mod_bit {v t b : Nat} (h : b < t) : (v % 2 ^ t).testBit b = v.testBit b := by
  rw [Nat.testBit_mod_two_pow, decide_eq_true h, Bool.true_and]
section
variable {nx : List (List Nat)} {ms : List Int} {p : Fm}
abbrev wantM (p : Fm) (ms : List Int) : List Nat := (newM p (2 ^ looksN p) ms).map (·.2.2.1)
abbrev fairM (p : Fm) (ms : List Int) : List Nat := (newM p (2 ^ looksN p) ms).map (·.2.2.2)
abbrev truthM (p : Fm) (ms : List Int) : List Bool := (newM p (2 ^ looksN p) ms).map (·.1)
abbrev grM (nx : List (List Nat)) (p : Fm) (ms : List Int) : List (List Nat) := graphM nx (2 ^ looksN p) (wantM p ms)
theorem wantM_len : (wantM p ms).length = ms.length * 2 ^ looksN p := by rw [List.length_map, newM_len]
theorem grM_len : (grM nx p ms).length = ms.length * 2 ^ looksN p := by rw [graph_len, wantM_len]
theorem grM_row : ∀ v, ∀ u ∈ (grM nx p ms).getD v [], u < (grM nx p ms).length := by
  intro v u hu
  have hv := (getD_row hu).1
  rw [grM_len, ← wantM_len] at hv
  rw [grM_len, ← wantM_len]
  exact ((graph_edge hv).1 hu).1
/-- An edge tells the guess. -/
theorem gr_edge {v u : Nat} (h : u ∈ (grM nx p ms).getD v []) (b : Nat) : lkF (ms.getD (u / 2 ^ looksN p) 0) (u % 2 ^ looksN p) p 0 b = (v % 2 ^ looksN p).testBit b := by
  have hv := (getD_row h).1
  rw [grM_len, ← wantM_len] at hv
  obtain ⟨h1, _, h3⟩ := (graph_edge hv).1 h
  rw [wantM_len] at h1
  rw [map_at (newM_num p ms (Nat.two_pow_pos _) h1)] at h3
  rw [← h3]
  exact ((gval_say _ _ p).2.1 b).symm
theorem rch_al (hwf : wfF p) {v x b : Nat} (hk : (kinds p)[b]? = some wAlways) (h : Rch (grM nx p ms) v x) (hv : v.testBit b = true) : x.testBit b = true := by
  have hb := kinds_lt hk
  induction h with
  | refl => exact hv
  | tail _ h2 ih =>
    have e := gr_edge h2 b
    rw [mod_bit hb, ih] at e
    have := (kinds_say _ _ p 0 b hwf).1 hk (by rw [Nat.zero_add]; exact e)
    rwa [Nat.zero_add, mod_bit hb] at this
theorem rch_fi (hwf : wfF p) {v x b : Nat} (hk : (kinds p)[b]? = some wFinally) (h : Rch (grM nx p ms) v x) (hv : x.testBit b = true) : v.testBit b = true := by
  have hb := kinds_lt hk
  induction h with
  | refl => exact hv
  | tail _ h2 ih =>
    rename_i y z _
    have e := gr_edge h2 b
    have := (kinds_say (ms.getD (z / 2 ^ looksN p) 0) (z % 2 ^ looksN p) p 0 b hwf).2.1 hk (by rw [Nat.zero_add, mod_bit hb]; exact hv)
    rw [Nat.zero_add, e, mod_bit hb] at this
    exact ih this
/-- A component is small. -/
theorem comp_len (hwf : wfF p) (hms : ms.length ≤ 16) (v0 : Nat) (l : List Nat) (hl : l.Nodup) (h : ∀ v ∈ l, v < (grM nx p ms).length ∧ Rch (grM nx p ms) v0 v ∧ Rch (grM nx p ms) v v0) : l.length ≤ 2 ^ (((kinds p).filter fun w => !isAF w).length + 4) := by
  have hA : ∀ b : Nat, ((kinds p)[b]?.map isAF).getD false = true → (kinds p)[b]? = some wAlways ∨ (kinds p)[b]? = some wFinally := by
    intro b hb
    cases hk : (kinds p)[b]? with
    | none => simp [hk] at hb
    | some w =>
      simp only [hk, Option.map_some, Option.getD_some, isAF, Bool.or_eq_true, decide_eq_true_eq] at hb
      rcases hb with rfl | rfl
      · exact .inl rfl
      · exact .inr rfl
  have h1 := agree_len (fun b : Nat => ((kinds p)[b]?.map isAF).getD false) (looksN p + 4) l hl (fun x hx => by
    have := (h x hx).1
    rw [grM_len] at this
    have h2 : ms.length * 2 ^ looksN p ≤ 16 * 2 ^ looksN p := Nat.mul_le_mul_right _ hms
    rw [Nat.pow_add, Nat.mul_comm]
    omega) (fun x hx y hy b _ hb => by
    obtain ⟨_, x1, x2⟩ := h x hx
    obtain ⟨_, y1, y2⟩ := h y hy
    have e : x.testBit b = true ↔ y.testBit b = true := by
      rcases hA b hb with hk | hk
      · exact ⟨rch_al hwf hk (x2.trans y1), rch_al hwf hk (y2.trans x1)⟩
      · exact ⟨rch_fi hwf hk (y2.trans x1), rch_fi hwf hk (x2.trans y1)⟩
    cases hx : x.testBit b <;> cases hy : y.testBit b <;> simp_all)
  have h2 := cntF_more (fun b : Nat => ((kinds p)[b]?.map isAF).getD false) (looksN p) 4
  have h3 := cntF_list (kinds p) isAF (looksN p) (by rw [kinds_len]; exact Nat.le_refl _)
  rw [← kinds_len, List.take_length] at h3
  rw [← kinds_len] at h1 h2
  exact Nat.le_trans h1 (Nat.pow_le_pow_right (by decide) (by rw [← h3]; exact h2))
theorem miss_le (hwf : wfF p) {v : Nat} (hv : v < (grM nx p ms).length) : missB (looksN p) ((fairM p ms).getD v 0) ≤ ((kinds p).filter fun w => decide (w ≠ wNext)).length := by
  rw [grM_len] at hv
  unfold missB fairM
  rw [map_at (newM_num p ms (Nat.two_pow_pos _) hv), ← cntF_range]
  have h3 := cntF_list (kinds p) (fun w => decide (w = wNext)) (looksN p) (by rw [kinds_len]; exact Nat.le_refl _)
  rw [← kinds_len, List.take_length] at h3
  have e : (fun w : Str => !decide (w = wNext)) = fun w => decide (w ≠ wNext) := by funext w; rw [decide_not]
  rw [e] at h3
  rw [← h3, kinds_len]
  refine cntF_mono _ fun b hb hB => ?_
  rw [Bool.not_not, (gval_say _ _ p).2.2.1]
  cases hk : (kinds p)[b]? with
  | none => simp [hk] at hB
  | some w =>
    simp only [hk, Option.map_some, Option.getD_some, decide_eq_true_eq] at hB
    subst hB
    have := (kinds_say (ms.getD (v / 2 ^ looksN p) 0) (v % 2 ^ looksN p) p 0 b hwf).2.2 hk
    rwa [Nat.zero_add] at this
end
/-- The search always answers, and rightly. -/
theorem srchM_ok {nx : List (List Nat)} {ms : List Int} {starts : Nat} {p : Fm} (h : SrOk nx ms starts) (hwf : wfF p) (hw : wgt (kinds p) ≤ 11) {F G : Nat} (hF : 1099511627776 ≤ F) (hG : 1048576 ≤ G) :
    (srchM F G nx ms p starts = some none ∧ ∀ τ, RunS nx starts τ → ¬ satS (fun i => ms.getD (τ i) 0) p 0) ∨
    ∃ stem loop, srchM F G nx ms p starts = some (some (stem, loop)) ∧ stem ≠ [] ∧ loop ≠ [] ∧ stem.length ≤ 32768 ∧ loop.length ≤ 32768 ∧
      RunS nx starts (fun i => (stem ++ loop).getD (pos (stem ++ loop).length stem.length i) 0) ∧ satS (seqL ((stem ++ loop).map fun v => ms.getD v 0) stem.length) p 0 := by
  have hlk : looksN p ≤ 11 := Nat.le_trans (looks_wgt p) hw
  have hpw : 2 ^ looksN p ≤ 2048 := Nat.pow_le_pow_right (n := 2) (by decide) hlk
  have hp0 : 0 < 2 ^ looksN p := Nat.two_pow_pos _
  have hml : ms.length ≤ 16 := by rw [← h.len]; exact h.hi
  have hN : (grM nx p ms).length = ms.length * 2 ^ looksN p := grM_len
  have hN2 : ms.length * 2 ^ looksN p ≤ 32768 := (Nat.mul_le_mul hml hpw : _ ≤ 16 * 2048)
  have hrow := grM_row (nx := nx) (p := p) (ms := ms)
  have hdeg : degS (grM nx p ms) ≤ (grM nx p ms).length * (16 * 32768) := degS_le fun r hr => by
    have := (graph_row (fun r hr => (h.row r hr).1) hr).2
    rw [wantM_len] at this
    omega
  have hdeg2 : (grM nx p ms).length * (16 * 32768) ≤ 32768 * (16 * 32768) := Nat.mul_le_mul_right _ (by rw [hN]; exact hN2)
  have hst : 2 ^ looksN p * starts ≤ ms.length * 2 ^ looksN p := by rw [Nat.mul_comm]; exact Nat.mul_le_mul_right _ (by rw [← h.len]; exact h.st)
  have hbegin : ∀ u ∈ beginM (2 ^ looksN p) starts (truthM p ms), u < (grM nx p ms).length := fun u hu => by
    have := List.mem_range.1 (List.mem_filter.1 hu).1
    rw [hN]; omega
  have hfair : ∀ x, x < (grM nx p ms).length → ∀ b, ((fairM p ms).getD x 0).testBit b = true → b < looksN p := fun x hx b hb => by
    rw [hN] at hx
    unfold fairM at hb
    rw [map_at (newM_num p ms hp0 hx)] at hb
    exact (gval_say _ _ p).2.2.2.2 b hb
  have hend : (((kinds p).filter fun w => decide (w ≠ wNext)).length + 1) * 2 ^ (((kinds p).filter fun w => !isAF w).length + 4) ≤ 32768 := by
    rw [wgt_split] at hw
    have h1 : ((kinds p).filter fun w => decide (w ≠ wNext)).length + 1 ≤ 2 ^ ((kinds p).filter fun w => decide (w ≠ wNext)).length := Nat.lt_two_pow_self
    refine Nat.le_trans (Nat.mul_le_mul_right _ h1) ?_
    rw [← Nat.pow_add]
    exact Nat.pow_le_pow_right (n := 2) (j := 15) (by decide) (by omega)
  unfold srchM
  rcases runM_ok (next := grM nx p ms) (F := F) (G := G) (pairs := 2 ^ looksN p) (starts := starts) (nl := looksN p) (truth := truthM p ms) (fair := fairM p ms) hrow (by omega) (by omega) (by omega) hbegin hfair
      (fun v0 l _ hl hv => comp_len hwf hml v0 l hl hv) (fun v hv => miss_le hwf hv) with ⟨h1, h2⟩ | ⟨stem, loop, h1, h2, h3, h4⟩
  · refine .inl ⟨by rw [h1]; rfl, fun τ hτ hs => ?_⟩
    have hτl : ∀ i, τ i < nx.length := fun i => (getD_row (hτ.2 i)).1
    have hβ : ∀ i, ∃ x : Nat, ∀ b, x.testBit b = true ↔ b < looksN p ∧ lkS (fun i => ms.getD (τ i) 0) p 0 b (i + 1) := fun i => numB _ _
    obtain ⟨β, hβ⟩ := Classical.axiomOfChoice hβ
    have hβl : ∀ i, β i < 2 ^ looksN p := fun i => Nat.lt_pow_two_of_testBit _ fun b hb => by
      cases hc : (β i).testBit b with
      | false => rfl
      | true => have := ((hβ i b).1 hc).1; omega
    have hS : SaysF (fun i => ms.getD (τ i) 0) β p 0 := fun i b _ h2 => by
      rw [hβ i b]
      exact ⟨fun h => h.2, fun h => ⟨by omega, h⟩⟩
    have hA := says_agree hS
    have hFr := says_fair p 0 hS
    obtain ⟨v, hv⟩ : ∃ v : Nat → Nat, ∀ i, v i = τ i * 2 ^ looksN p + β i := ⟨fun i => τ i * 2 ^ looksN p + β i, fun _ => rfl⟩
    have hvd : ∀ i, v i / 2 ^ looksN p = τ i := fun i => by
      rw [hv, Nat.mul_comm, Nat.mul_add_div hp0, Nat.div_eq_of_lt (hβl i), Nat.add_zero]
    have hvm : ∀ i, v i % 2 ^ looksN p = β i := fun i => by
      rw [hv, Nat.mul_comm, Nat.mul_add_mod, Nat.mod_eq_of_lt (hβl i)]
    have hvl : ∀ i, v i < ms.length * 2 ^ looksN p := fun i => (Nat.div_lt_iff_lt_mul hp0).1 (by rw [hvd, ← h.len]; exact hτl i)
    have hat := fun i => newM_num p ms hp0 (hvl i)
    simp only [hvd, hvm] at hat
    have hedge : ∀ i, v (i + 1) ∈ (grM nx p ms).getD (v i) [] := fun i => by
      refine (graph_edge (by rw [wantM_len]; exact hvl i)).2 ⟨by rw [wantM_len]; exact hvl (i + 1), by rw [hvd, hvd]; exact hτ.2 i, ?_⟩
      rw [hvm, map_at (hat (i + 1))]
      refine Nat.eq_of_testBit_eq fun b => ?_
      rw [(gval_say _ _ p).2.1]
      by_cases hb : b < looksN p
      · exact (hA i b (Nat.zero_le _) (by omega)).symm
      · rw [(lkF_out _ _ p 0 b (.inr (by omega))).1]
        exact (Nat.testBit_lt_two_pow (Nat.lt_of_lt_of_le (hβl i) (Nat.pow_le_pow_right (by decide) (by omega)))).symm
    have hb0 : v 0 ∈ beginM (2 ^ looksN p) starts (truthM p ms) := by
      refine List.mem_filter.2 ⟨List.mem_range.2 ?_, ?_⟩
      · rw [hv, Nat.mul_comm (2 ^ looksN p)]
        have h0 : (τ 0 + 1) * 2 ^ looksN p ≤ starts * 2 ^ looksN p := Nat.mul_le_mul_right _ hτ.1
        have := hβl 0
        rw [Nat.succ_mul] at h0
        omega
      · rw [List.getD_eq_getElem?_getD, List.getElem?_map, hat 0]
        show (gval _ _ p (0, 0, 0)).1 = true
        rw [(gval_say _ _ p).1]
        exact ((says_ok p 0 hS 0).1).2 hs
    have hreach : ∀ i, ReachW (grM nx p ms) (beginM (2 ^ looksN p) starts (truthM p ms)) (fun _ => true) (v i) := by
      intro i
      induction i with
      | zero => exact .start hb0 rfl
      | succ i ih => exact .step ih (hedge i) rfl
    have hrch : ∀ d i, Rch (grM nx p ms) (v i) (v (i + d)) := by
      intro d i
      induction d with
      | zero => exact .refl _
      | succ d ih => exact .tail ih (hedge (i + d))
    have hrch2 : ∀ {i j}, i ≤ j → Rch (grM nx p ms) (v i) (v j) := fun {i j} hij => by
      have := hrch (j - i) i
      rwa [show i + (j - i) = j by omega] at this
    obtain ⟨x, hx⟩ := again v hvl
    obtain ⟨i0, _, hi0⟩ := hx 0
    have back : ∀ j, Rch (grM nx p ms) (v j) (v i0) := fun j => by
      obtain ⟨j2, h3, h4⟩ := hx j
      rw [hi0, ← h4]
      exact hrch2 h3
    refine h2 (v i0) (hreach i0) ⟨v i0, v (i0 + 1), .refl _, hedge i0, back _⟩ fun b hb => ?_
    obtain ⟨j, h3, h4⟩ := hFr b (Nat.zero_le _) (by omega) i0
    refine ⟨v j, hrch2 h3, back j, ?_⟩
    unfold fairM
    rw [map_at (hat j), (gval_say _ _ p).2.2.1]
    exact h4
  · obtain ⟨h5, h6, h7, h8, h9⟩ := lasso_seq h2
    refine .inr ⟨stem.map (· / 2 ^ looksN p), loop.map (· / 2 ^ looksN p), by rw [h1]; rfl, by simpa using h5, by simpa using h6, ?_, ?_, ?_⟩
    · rw [List.length_map]; rw [hN] at h3; omega
    · rw [List.length_map]; omega
    · obtain ⟨τ, hτ⟩ : ∃ τ : Nat → Nat, ∀ i, τ i = (stem ++ loop).getD (pos (stem ++ loop).length stem.length i) 0 := ⟨fun i => (stem ++ loop).getD (pos (stem ++ loop).length stem.length i) 0, fun _ => rfl⟩
      simp only [← hτ] at h7 h8 h9
      have hlt : ∀ i, τ i < ms.length * 2 ^ looksN p := fun i => by
        have := (getD_row (h8 i)).1
        rwa [hN] at this
      obtain ⟨k1, k2⟩ := seq_truth (nx := nx) (f := p) (ms := ms) hlt h8 h9
      have hpl : ∀ i, pos (stem ++ loop).length stem.length i < (stem ++ loop).length := fun i => pos_lt (by
        have := List.length_pos_iff.2 h6
        rw [List.length_append]; omega) i
      have e : ∀ i, (stem.map (· / 2 ^ looksN p) ++ loop.map (· / 2 ^ looksN p)).getD (pos (stem.map (· / 2 ^ looksN p) ++ loop.map (· / 2 ^ looksN p)).length (stem.map (· / 2 ^ looksN p)).length i) 0 = τ i / 2 ^ looksN p := fun i => by
        rw [← List.map_append, List.length_map, List.length_map, hτ, List.getD_eq_getElem?_getD, List.getElem?_map, List.getD_eq_getElem?_getD, List.getElem?_eq_getElem (hpl i)]
        rfl
      refine ⟨⟨?_, fun i => ?_⟩, ?_⟩
      · show (stem.map (· / 2 ^ looksN p) ++ loop.map (· / 2 ^ looksN p)).getD (pos (stem.map (· / 2 ^ looksN p) ++ loop.map (· / 2 ^ looksN p)).length (stem.map (· / 2 ^ looksN p)).length 0) 0 < starts
        rw [e 0]
        have := List.mem_range.1 (List.mem_filter.1 h7).1
        exact (Nat.div_lt_iff_lt_mul hp0).2 (by rw [Nat.mul_comm]; exact this)
      · have := k1 i
        rw [← e i, ← e (i + 1)] at this
        exact this
      · have h10 := (List.mem_filter.1 h7).2
        have h11 := (k2 0).1 h10
        have := (satS_congr (σ := fun i => ms.getD (τ i / 2 ^ looksN p) 0) (τ := seqL ((stem.map (· / 2 ^ looksN p) ++ loop.map (· / 2 ^ looksN p)).map fun v => ms.getD v 0) (stem.map (· / 2 ^ looksN p)).length) (a := 0) (b := 0) (fun k => by
          rw [Nat.zero_add, seq_map (by rw [List.length_append, List.length_map, List.length_map]; have := List.length_pos_iff.2 h6; omega), e k]) p 0).1
        exact this h11
end Go.Ltl
end
section
/- ltl, forty-first: Holds always answers, and rightly. -/
namespace Go.Ltl
open Go.W
end Go.Ltl
namespace Go.Proofs.YtpbbneclkhfgoaaDoor
open Go.W Go.Ltl Go.RowKit
set_option maxRecDepth 100000
attribute [local irreducible] WC WL WQ WS WH

theorem nxOf_len (vs : Vs) : (nxOf vs).length = vs.length := by simp [nxOf]
theorem StrOk.sr {vs : Vs} {ms : List Int} (h : StrOk vs ms) : SrOk (nxOf vs) ms 1 := by
  refine ⟨by rw [nxOf_len, h.ml], by rw [nxOf_len]; exact h.hi, fun r hr => ?_, by rw [nxOf_len]; exact h.lo⟩
  obtain ⟨x, hx, rfl⟩ := List.mem_map.1 hr
  refine ⟨by rw [List.length_map]; exact h.len x hx, fun u hu => ?_⟩
  obtain ⟨z, hz, rfl⟩ := List.mem_map.1 hu
  have := h.ent x hx z hz
  rw [nxOf_len]; omega
end Go.Proofs.YtpbbneclkhfgoaaDoor
end
section
/- ltl, twenty-eighth: awake. -/
namespace Go.Proofs.YtpbbneclkhfgoaaDoor
open Go.W Go.Ltl Go.RowKit
set_option maxRecDepth 100000
attribute [local irreducible] WC WL WQ WS WH

def awA : Str := [40, 97, 108, 119, 97, 121, 115, 32, 112, 48, 41]
def awB : Str := [40, 102, 105, 110, 97, 108, 108, 121, 32, 112, 49, 41]
def awC : Str := [40, 110, 111, 116, 32, 40, 117, 110, 116, 105, 108, 32, 112, 48, 32, 40, 110, 111, 116, 32, 112, 49, 41, 41, 41]
def awD : Str := [40, 110, 101, 120, 116, 32, 112, 48, 41]
def awE : Str := [40, 114, 101, 108, 101, 97, 115, 101, 32, 40, 110, 111, 116, 32, 112, 48, 41, 32, 112, 49, 41]
theorem awA_is : (parseM awA).map (fun f => srchM 100 100 [[0]] [1] (pushM f true) 1) = some (some none) := by decide +kernel
theorem awB_is : (parseM awB).map (fun f => (srchM 100 100 [[0]] [1] (pushM f true) 1).map fun r => r.map fun q => (q.1.length, q.2.length)) = some (some (some (1, 1))) := by decide +kernel
theorem awC_is : PushM awC = .tuple #[st awE, .int .i64 0] := by kernel_rfl
theorem awD_is : ValueM [0] [1] awD = (true, 0) := by decide +kernel
/-- The two questions that awake asks of Holds. -/
theorem awA_run (w : World) (an am ra : Option Addr) (v : Value) (w' : World) (h : HoldsR 100 100 [(ra, 1, [0])] [1] awA w v w') : v = .tuple #[.agg #[.bool true, .slice none 0 0, .slice none 0 0], .int .i64 0] ∧ Hp w w' [] := by
  have hs : strB [(ra, 1, [0])] [1] = true := rfl
  unfold HoldsR at h
  rw [hs, if_pos rfl] at h
  obtain ⟨f, hf, hr⟩ := Option.map_eq_some_iff.1 awA_is
  rw [hf] at h
  obtain ⟨r, u, h1, rfl, h2⟩ := h
  have h1' : srchM 100 100 [[0]] [1] (pushM f true) 1 = some r := h1
  rw [hr] at h1'
  simp only [Option.some.injEq] at h1'
  subst h1'
  obtain ⟨rfl, hp⟩ := h2
  exact ⟨rfl, hp⟩
theorem awB_run (w : World) (an am ra : Option Addr) (v : Value) (w' : World) (h : HoldsR 100 100 [(ra, 1, [0])] [1] awB w v w') : ∃ sa sc pa pc, v = .tuple #[.agg #[.bool false, .slice sa 1 sc, .slice pa 1 pc], .int .i64 0] ∧ Hp w w' [] := by
  have hs : strB [(ra, 1, [0])] [1] = true := rfl
  unfold HoldsR at h
  rw [hs, if_pos rfl] at h
  obtain ⟨f, hf, hr⟩ := Option.map_eq_some_iff.1 awB_is
  rw [hf] at h
  obtain ⟨r, u, h1, rfl, h2⟩ := h
  have h1' : srchM 100 100 [[0]] [1] (pushM f true) 1 = some r := h1
  rw [h1'] at hr
  simp only [Option.map_some, Option.some.injEq] at hr
  cases r with
  | none => cases hr
  | some q =>
    obtain ⟨stem, loop⟩ := q
    simp only [Option.map_some, Option.some.injEq, Prod.mk.injEq] at hr
    obtain ⟨sa, sc, pa, pc, rfl, hp⟩ := h2
    exact ⟨sa, sc, pa, pc, by rw [hr.1, hr.2], hp.nil'⟩
theorem awake_any (w : World) (hGl : Gl w) : Ret Tryd.prog 20 [] w fun v w' => v = .bool true ∧ Hp w w' [] := by
  refine enter Tryd.func20 rfl rfl ⟨rfl, rfl⟩ rfl ?_
  repeat (first | refine zA ?_ | refine zB ?_ | refine zC rfl rfl rfl ?_ | refine zD ?_ | refine zE ?_ | refine zF ?_ | refine zG rfl ?_ | refine zH rfl ?_ | refine zI rfl rfl rfl ?_ | refine zJ rfl rfl ?_ | refine zK ?_ | refine zL ?_ | refine zM rfl ?_ | refine zN ?_)
  refine WL.buildS (cs := [.int .i64 0]) rfl rfl rfl rfl rfl rfl rfl rfl rfl (fun b1 w1 h1 => ?_)
  have hp1 := (Hp.start w).new h1
  refine WL.buildS (cs := [.slice (some ⟨b1, 0, none⟩) 1 1]) rfl rfl rfl rfl rfl rfl rfl rfl rfl (fun b2 w2 h2 => ?_)
  have hp2 := hp1.new h2
  refine WL.buildS (cs := [.int .i64 1]) rfl rfl rfl rfl rfl rfl rfl rfl rfl (fun b3 w3 h3 => ?_)
  have hp3 := hp2.new h3
  refine WL.buildT (cs := [.slice (some ⟨b2, 0, none⟩) 1 1, .slice (some ⟨b3, 0, none⟩) 1 1]) rfl rfl rfl rfl rfl rfl ?_
  refine WL.alloc rfl rfl rfl (fun b4 w4 h4 => ?_)
  have hp4 := hp3.new h4
  refine WL.storeN rfl rfl rfl rfl rfl (by simp [Value.oneCell']) (hp4.obj 0 rfl) (Nat.le_refl _) rfl (fun w5 h5 => ?_)
  have hp5 : Hp w w5 [Sb b4 (some ⟨b2, 0, none⟩) 1 (some ⟨b3, 0, none⟩) 1 [(some ⟨b1, 0, none⟩, 1, [0])] [1], .blk b3 (.cells #[.int .i64 1] 3 (0, 0)), .blk b2 (.cells #[.slice (some ⟨b1, 0, none⟩) 1 1] 22 (0, 0)), .blk b1 (.cells #[.int .i64 0] 3 (0, 0))] := hp4.set 0 rfl rfl h5
  have hst : ∀ {w' : World} {L : List Ent}, Hp w w' (Sb b4 (some ⟨b2, 0, none⟩) 1 (some ⟨b3, 0, none⟩) 1 [(some ⟨b1, 0, none⟩, 1, [0])] [1] :: .blk b3 (.cells #[.int .i64 1] 3 (0, 0)) :: .blk b2 (.cells #[.slice (some ⟨b1, 0, none⟩) 1 1] 22 (0, 0)) :: .blk b1 (.cells #[.int .i64 0] 3 (0, 0)) :: L) → Stc w' (some ⟨b2, 0, none⟩) (some ⟨b3, 0, none⟩) [(some ⟨b1, 0, none⟩, 1, [0])] [1] := by
    intro w' L hp
    refine ⟨Sl.of_obj (hp.obj 2 rfl) (fun q u hq => by simpa [catV] using hq), fun x hx => ?_, Sl.of_obj (hp.obj 1 rfl) (fun q u hq => by simpa [zs] using hq)⟩
    rw [List.mem_singleton.1 hx]
    exact Sl.of_obj (hp.obj 3 rfl) (fun q u hq => by simpa [zs] using hq)
  have hoA : StrOk [(some ⟨b1, 0, none⟩, 1, [0])] [1] → ∀ f, parseM awA = some f → (srchM 100 100 (nxOf [(some ⟨b1, 0, none⟩, 1, [0])]) [1] (pushM f true) 1).isSome = true := fun _ f hf => by
    obtain ⟨f', hf', hr⟩ := Option.map_eq_some_iff.1 awA_is
    rw [hf] at hf'
    simp only [Option.some.injEq] at hf'
    subst hf'
    rw [show nxOf [(some ⟨b1, 0, none⟩, 1, [0])] = [[0]] from rfl, hr]; rfl
  have hoB : StrOk [(some ⟨b1, 0, none⟩, 1, [0])] [1] → ∀ f, parseM awB = some f → (srchM 100 100 (nxOf [(some ⟨b1, 0, none⟩, 1, [0])]) [1] (pushM f true) 1).isSome = true := fun _ f hf => by
    obtain ⟨f', hf', hr⟩ := Option.map_eq_some_iff.1 awB_is
    rw [hf] at hf'
    simp only [Option.some.injEq] at hf'
    subst hf'
    obtain ⟨q, hq, _⟩ := Option.map_eq_some_iff.1 hr
    rw [show nxOf [(some ⟨b1, 0, none⟩, 1, [0])] = [[0]] from rfl, hq]; rfl
  have hrows : ∀ x ∈ ([(some ⟨b1, 0, none⟩, 1, [0])] : Vs), x.2.2.length ≤ 1000000 := fun x hx => by rw [List.mem_singleton.1 hx]; show 1 ≤ 1000000; decide
  clear hp1 hp2 hp3 hp4
  repeat (first | refine zA ?_ | refine zB ?_ | refine zC rfl rfl rfl ?_ | refine zD ?_ | refine zE ?_ | refine zF ?_ | refine zG rfl ?_ | refine zH rfl ?_ | refine zI rfl rfl rfl ?_ | refine zJ rfl rfl ?_ | refine zK ?_ | refine zL ?_ | refine zM rfl ?_ | refine zN ?_)
  refine WL.loadN rfl rfl rfl rfl rfl (cs := [.slice (some ⟨b2, 0, none⟩) 1 1, .slice (some ⟨b3, 0, none⟩) 1 1]) rfl (fun q v hq => cell_of_obj (hp5.obj 0 rfl) (by rw [Nat.zero_add]; simpa using hq)) ?_
  refine WL.call rfl rfl rfl rfl rfl ent26 (Holds_any (some ⟨b2, 0, none⟩) 1 (some ⟨b3, 0, none⟩) 1 [(some ⟨b1, 0, none⟩, 1, [0])] [1] (by decide) hrows awA (by decide) 100 100 (by decide) (by decide) hoA w5 (hGl.hp hp5) (hst hp5)) ?_
  intro v w6 hv
  obtain ⟨rfl, hp6⟩ := awA_run w5 none none _ v w6 hv
  have hp6 := hp5.call hp6.below
  clear hp5
  repeat (first | refine zA ?_ | refine zB ?_ | refine zC rfl rfl rfl ?_ | refine zD ?_ | refine zE ?_ | refine zF ?_ | refine zG rfl ?_ | refine zH rfl ?_ | refine zI rfl rfl rfl ?_ | refine zJ rfl rfl ?_ | refine zK ?_ | refine zL ?_ | refine zM rfl ?_ | refine zN ?_)
  refine WL.alloc rfl rfl rfl (fun b7 w7 h7 => ?_)
  have hp7 := hp6.new h7
  refine WL.storeN rfl rfl rfl rfl rfl (by simp [Value.oneCell']) (hp7.obj 0 rfl) (Nat.le_refl _) rfl (fun w8 h8 => ?_)
  have hp8 := (hp7.set 0 rfl rfl h8).pick [1, 2, 3, 4, 0] (by decide)
  clear hp7 hp6
  repeat (first | refine zA ?_ | refine zB ?_ | refine zC rfl rfl rfl ?_ | refine zD ?_ | refine zE ?_ | refine zF ?_ | refine zG rfl ?_ | refine zH rfl ?_ | refine zI rfl rfl rfl ?_ | refine zJ rfl rfl ?_ | refine zK ?_ | refine zL ?_ | refine zM rfl ?_ | refine zN ?_)
  refine WL.loadN rfl rfl rfl rfl rfl (cs := [.slice (some ⟨b2, 0, none⟩) 1 1, .slice (some ⟨b3, 0, none⟩) 1 1]) rfl (fun q v hq => cell_of_obj (hp8.obj 0 rfl) (by rw [Nat.zero_add]; simpa using hq)) ?_
  refine WL.call rfl rfl rfl rfl rfl ent26 (Holds_any (some ⟨b2, 0, none⟩) 1 (some ⟨b3, 0, none⟩) 1 [(some ⟨b1, 0, none⟩, 1, [0])] [1] (by decide) hrows awB (by decide) 100 100 (by decide) (by decide) hoB w8 (hGl.hp hp8) (hst hp8)) ?_
  intro v w9 hv
  obtain ⟨sa, sc, pa, pc, rfl, hp9⟩ := awB_run w8 none none _ v w9 hv
  have hp9 := hp8.call hp9.below
  clear hp8
  repeat (first | refine zA ?_ | refine zB ?_ | refine zC rfl rfl rfl ?_ | refine zD ?_ | refine zE ?_ | refine zF ?_ | refine zG rfl ?_ | refine zH rfl ?_ | refine zI rfl rfl rfl ?_ | refine zJ rfl rfl ?_ | refine zK ?_ | refine zL ?_ | refine zM rfl ?_ | refine zN ?_)
  refine WL.alloc rfl rfl rfl (fun b10 w10 h10 => ?_)
  have hp10 := hp9.new h10
  refine WL.storeN rfl rfl rfl rfl rfl (by simp [Value.oneCell']) (hp10.obj 0 rfl) (Nat.le_refl _) rfl (fun w11 h11 => ?_)
  have hp11 := (hp10.set 0 rfl rfl h11).pick [0, 5] (by decide)
  clear hp10 hp9
  repeat (first | refine zA ?_ | refine zB ?_ | refine zC rfl rfl rfl ?_ | refine zD ?_ | refine zE ?_ | refine zF ?_ | refine zG rfl ?_ | refine zH rfl ?_ | refine zI rfl rfl rfl ?_ | refine zJ rfl rfl ?_ | refine zK ?_ | refine zL ?_ | refine zM rfl ?_ | refine zN ?_)
  refine WL.call rfl rfl rfl rfl rfl ent22 (Push_any awC (by decide) w11 (hGl.hp hp11)) ?_
  rintro _ w12 ⟨rfl, hp12⟩
  have hp12 := hp11.call hp12.below
  rw [awC_is]
  clear hp11
  repeat (first | refine zA ?_ | refine zB ?_ | refine zC rfl rfl rfl ?_ | refine zD ?_ | refine zE ?_ | refine zF ?_ | refine zG rfl ?_ | refine zH rfl ?_ | refine zI rfl rfl rfl ?_ | refine zJ rfl rfl ?_ | refine zK ?_ | refine zL ?_ | refine zM rfl ?_ | refine zN ?_)
  refine WL.buildS (cs := [.int .i64 0]) rfl rfl rfl rfl rfl rfl rfl rfl rfl (fun b13 w13 h13 => ?_)
  have hp13 := hp12.new h13
  refine WL.buildS (cs := [.int .i64 1]) rfl rfl rfl rfl rfl rfl rfl rfl rfl (fun b14 w14 h14 => ?_)
  have hp14 := hp13.new h14
  refine WL.call rfl rfl rfl rfl rfl ent17 (Value_any (some ⟨b13, 0, none⟩) (some ⟨b14, 0, none⟩) 1 1 [0] [1] awD (by decide) (by decide) w14 (hGl.hp hp14) (Sl.of_obj (hp14.obj 1 rfl) (fun q u hq => by simpa [zs] using hq)) (Sl.of_obj (hp14.obj 0 rfl) (fun q u hq => by simpa [zs] using hq))) ?_
  rintro _ w15 ⟨rfl, hp15⟩
  have hp15 := hp14.call hp15.below
  rw [awD_is]
  clear hp14 hp13 hp12
  repeat (first | refine zA ?_ | refine zB ?_ | refine zC rfl rfl rfl ?_ | refine zD ?_ | refine zE ?_ | refine zF ?_ | refine zG rfl ?_ | refine zH rfl ?_ | refine zI rfl rfl rfl ?_ | refine zJ rfl rfl ?_ | refine zK ?_ | refine zL ?_ | refine zM rfl ?_ | refine zN ?_)
  refine WL.loadB rfl rfl rfl rfl rfl (hp15.obj 3 rfl) (j := 0) rfl ?_
  repeat (first | refine zA ?_ | refine zB ?_ | refine zC rfl rfl rfl ?_ | refine zD ?_ | refine zE ?_ | refine zF ?_ | refine zG rfl ?_ | refine zH rfl ?_ | refine zI rfl rfl rfl ?_ | refine zJ rfl rfl ?_ | refine zK ?_ | refine zL ?_ | refine zM rfl ?_ | refine zN ?_)
  refine WL.loadB rfl rfl rfl rfl rfl (hp15.obj 2 rfl) (j := 0) rfl ?_
  repeat (first | refine zA ?_ | refine zB ?_ | refine zC rfl rfl rfl ?_ | refine zD ?_ | refine zE ?_ | refine zF ?_ | refine zG rfl ?_ | refine zH rfl ?_ | refine zI rfl rfl rfl ?_ | refine zJ rfl rfl ?_ | refine zK ?_ | refine zL ?_ | refine zM rfl ?_ | refine zN ?_)
  refine WL.loadB rfl rfl rfl rfl rfl (hp15.obj 2 rfl) (j := 2) rfl ?_
  repeat (first | refine zA ?_ | refine zB ?_ | refine zC rfl rfl rfl ?_ | refine zD ?_ | refine zE ?_ | refine zF ?_ | refine zG rfl ?_ | refine zH rfl ?_ | refine zI rfl rfl rfl ?_ | refine zJ rfl rfl ?_ | refine zK ?_ | refine zL ?_ | refine zM rfl ?_ | refine zN ?_)
  refine WL.sCmp (a := awE) (b := awE) (op := .neq) (r := false) rfl rfl rfl rfl (by simp [cmpS]) ?_
  repeat (first | refine zA ?_ | refine zB ?_ | refine zC rfl rfl rfl ?_ | refine zD ?_ | refine zE ?_ | refine zF ?_ | refine zG rfl ?_ | refine zH rfl ?_ | refine zI rfl rfl rfl ?_ | refine zJ rfl rfl ?_ | refine zK ?_ | refine zL ?_ | refine zM rfl ?_ | refine zN ?_)
  exact Res.one rfl rfl rfl ⟨rfl, hp15.nil'⟩
end Go.Proofs.YtpbbneclkhfgoaaDoor
end
section
/- ltl, twenty-ninth: the small functions of the laws. -/
namespace Go.W
open Go.RowKit
section
variable {P : Program} [T : TT P] {e : Env} {w : World} {ty : TypeId}
end
end Go.W
namespace Go.Ltl
open Go.W
def modN (x : Int) (n : Nat) : Nat := (x % 18446744073709551616).toNat % n
theorem modN_lt {n : Nat} (h : 0 < n) (x : Int) : modN x n < n := Nat.mod_lt _ h
def shortM (s : Str) : Str := s.take 400
end Go.Ltl
namespace Go.Proofs.YtpbbneclkhfgoaaDoor
open Go.W Go.Ltl Go.RowKit
set_option maxRecDepth 100000
attribute [local irreducible] WC WL WQ WS WH

theorem mod_any (x : Int) (n : Nat) (h0 : 0 < n) (hn : n < 1000) (w : World) : Ret Tryd.prog 29 [.int .i64 x, .int .i64 n] w fun u w' => u = .int .i64 (modN x n) ∧ w' = w := by
  refine enter Tryd.func29 rfl rfl ⟨rfl, rfl⟩ rfl ?_
  have e1 : IntKind.u64.wrap x = (((x % 18446744073709551616).toNat : Nat) : Int) := by rw [IntKind.wrap_u64]; omega
  have e2 : IntKind.u64.wrap (n : Int) = ((n : Nat) : Int) := by rw [IntKind.wrap_u64]; omega
  repeat (first | refine zA ?_ | refine zB ?_ | refine zC rfl rfl rfl ?_ | refine zD ?_ | refine zE ?_ | refine zF ?_ | refine zG rfl ?_ | refine zH rfl ?_ | refine zI rfl rfl rfl ?_ | refine zJ rfl rfl ?_ | refine zK ?_ | refine zL ?_ | refine zM rfl ?_ | refine zN ?_)
  refine WL.known (d := 6) (congrArg (fun z => some (Value.int .u64 z)) e1) ?_
  refine WL.known (d := 8) (congrArg (fun z => some (Value.int .u64 z)) e2) ?_
  refine WL.rem rfl rfl rfl rfl (by omega) ?_
  repeat (first | refine zA ?_ | refine zB ?_ | refine zC rfl rfl rfl ?_ | refine zD ?_ | refine zE ?_ | refine zF ?_ | refine zG rfl ?_ | refine zH rfl ?_ | refine zI rfl rfl rfl ?_ | refine zJ rfl rfl ?_ | refine zK ?_ | refine zL ?_ | refine zM rfl ?_ | refine zN ?_)
  refine Res.one rfl rfl rfl ⟨?_, rfl⟩
  have h1 : (((x % 18446744073709551616).toNat : Nat) : Int).tmod (n : Int) = ((modN x n : Nat) : Int) := (Int.ofNat_tmod _ _).symm
  have h2 := modN_lt h0 x
  rw [h1, wrap_i64_in (by omega) (by omega)]
theorem short_any (s : Str) (hl : s.length ≤ 9223372036854775807) (w : World) : Ret Tryd.prog 16 [st s] w fun u w' => u = st (shortM s) ∧ w' = w := by
  refine enter Tryd.func16 rfl rfl ⟨rfl, rfl⟩ rfl ?_
  have e1 : min (((sb s).size : Nat) : Int) 400 = ((min s.length 400 : Nat) : Int) := by rw [sb_size]; omega
  repeat (first | refine zA ?_ | refine zB ?_ | refine zC rfl rfl rfl ?_ | refine zD ?_ | refine zE ?_ | refine zF ?_ | refine zG rfl ?_ | refine zH rfl ?_ | refine zI rfl rfl rfl ?_ | refine zJ rfl rfl ?_ | refine zK ?_ | refine zL ?_ | refine zM rfl ?_ | refine zN ?_)
  refine WL.known (d := 6) (congrArg (fun z => some (Value.int .i64 z)) e1) ?_
  refine WL.sSl (a := 0) (b := min s.length 400) rfl rfl rfl rfl rfl rfl (Nat.zero_le _) (Nat.min_le_left _ _) ?_
  rw [List.drop_zero, Nat.sub_zero, show s.take (min s.length 400) = shortM s by unfold shortM; rw [Nat.min_comm]; exact (List.take_eq_take_min (l := s) (i := 400)).symm]
  repeat (first | refine zA ?_ | refine zB ?_ | refine zC rfl rfl rfl ?_ | refine zD ?_ | refine zE ?_ | refine zF ?_ | refine zG rfl ?_ | refine zH rfl ?_ | refine zI rfl rfl rfl ?_ | refine zJ rfl rfl ?_ | refine zK ?_ | refine zL ?_ | refine zM rfl ?_ | refine zN ?_)
  exact Res.one rfl rfl rfl ⟨rfl, rfl⟩
theorem shortM_len (s : Str) : (shortM s).length ≤ 400 := by unfold shortM; rw [List.length_take]; omega
end Go.Proofs.YtpbbneclkhfgoaaDoor
end
section
/- ltl, thirtieth: what Value says, and LtlTurns in plain words. -/
namespace Go.Ltl
open Go.W
theorem finF_inv {x f : Fm} {k k' : Nat} {l l' : List Str} (h : finF x k l = some (f, l', k')) : l = [41] :: l' ∧ x = f ∧ k = k' := by
  unfold finF at h
  split at h
  · simp only [Option.some.injEq, Prod.mk.injEq] at h
    obtain ⟨rfl, rfl, rfl⟩ := h
    exact ⟨rfl, rfl, rfl⟩
  · cases h
theorem tokN_close : ∀ (s cur : Str), tokN (s ++ [41]) cur = tokN s cur ++ [[41]] := by
  intro s
  induction s with
  | nil => intro cur; show tokN [41] cur = _; unfold tokN; rw [if_neg (by decide), if_pos (by decide)]; rfl
  | cons c s ih =>
    intro cur
    show tokN (c :: (s ++ [41])) cur = _
    unfold tokN
    split
    · rw [ih, List.append_assoc]
    · split
      · rw [ih, List.append_assoc]; rfl
      · rw [ih]
theorem parseM_inv {s : Str} {f : Fm} (h : parseM s = some f) : ∃ k, prsN ((tokM s).length + 1) (tokM s) 0 = some (f, [], k) := by
  unfold parseM at h
  split at h
  · rename_i f' k hq
    simp only [Option.some.injEq] at h
    subst h
    exact ⟨k, hq⟩
  · cases h
end Go.Ltl
namespace Go.Proofs.YtpbbneclkhfgoaaDoor
open Go.W Go.Ltl Go.RowKit
set_option maxRecDepth 100000
attribute [local irreducible] WC WL WQ WS WH

end Go.Proofs.YtpbbneclkhfgoaaDoor
end
section
/- ltl, forty-second: structures that a function makes itself. -/
namespace Go.Proofs.YtpbbneclkhfgoaaDoor
open Go.W Go.Ltl Go.RowKit
set_option maxRecDepth 100000
set_option linter.unusedSectionVars false
attribute [local irreducible] WC WL WQ WS WH

abbrev Stb (b : Nat) (na : Option Addr) (n nc : Nat) (ma : Option Addr) (m mc : Nat) : Ent := .blk b (.cells #[.slice na n nc, .slice ma m mc] 44 (0, 0))
theorem catV_snoc (vs : Vs) (x : Option Addr × Nat × List Int) : catV (vs ++ [x]) = catV vs ++ [.slice x.1 x.2.2.length x.2.1] := by unfold catV; rw [List.map_append]; rfl
end Go.Proofs.YtpbbneclkhfgoaaDoor
end
section
/- ltl, forty-eighth: the reference's Lasso, IsRun, Marks. -/
namespace Go.Proofs.YtpbbneclkhfgoaaDoor
open Go.W Go.Ltl Go.RowKit
set_option maxRecDepth 100000
set_option linter.unusedSectionVars false
attribute [local irreducible] WC WL WQ WS WH

end Go.Proofs.YtpbbneclkhfgoaaDoor
end
section
/- ltl, forty-fourth: machine, the reference's Structure. -/
namespace Go.Proofs.YtpbbneclkhfgoaaDoor
open Go.W Go.Ltl Go.RowKit
set_option maxRecDepth 100000
set_option linter.unusedSectionVars false
attribute [local irreducible] WC WL WQ WS WH

abbrev rowsOf (vs : Vs) : List (List Int) := vs.map fun x => x.2.2
end Go.Proofs.YtpbbneclkhfgoaaDoor
end
section
/- ltl, forty-fifth: the reference's Structure. -/
namespace Go.Proofs.YtpbbneclkhfgoaaDoor
open Go.W Go.Ltl Go.RowKit
set_option maxRecDepth 100000
set_option linter.unusedSectionVars false
attribute [local irreducible] WC WL WQ WS WH

end Go.Proofs.YtpbbneclkhfgoaaDoor
end
section
/- ltl, forty-sixth: tame. -/
namespace Go.Proofs.YtpbbneclkhfgoaaDoor
open Go.W Go.Ltl Go.RowKit
set_option maxRecDepth 100000
set_option linter.unusedSectionVars false
attribute [local irreducible] WC WL WQ WS WH

/-- What a structure's test says, of its rows. -/
def strR (R : List (List Int)) (M : List Int) : Bool := decide (1 ≤ R.length) && decide (R.length ≤ 16) && decide (M.length = R.length) && M.all markB && R.all (rowB R.length)
theorem strB_R (vs : Vs) (ms : List Int) : strB vs ms = strR (rowsOf vs) ms := by
  unfold strB strR rowsOf
  rw [List.length_map, List.all_map]
  rfl
end Go.Proofs.YtpbbneclkhfgoaaDoor
end
section
/- ltl, forty-ninth: lassos that are runs, in plain words. -/
namespace Go.Proofs.YtpbbneclkhfgoaaDoor
open Go.W Go.Ltl Go.RowKit
set_option maxRecDepth 100000

def upN (l : List Nat) : List Int := l.map fun n : Nat => (n : Int)
theorem upN_len (l : List Nat) : (upN l).length = l.length := List.length_map _
theorem upN_app (a b : List Nat) : upN (a ++ b) = upN a ++ upN b := List.map_append
theorem pos_small {n lp i : Nat} (h : lp < n) (hi : i < n) : pos n lp i = i := by
  rw [pos_eq h]
  split
  · rfl
  · rw [Nat.mod_eq_of_lt (by omega)]; omega
end Go.Proofs.YtpbbneclkhfgoaaDoor
end
section
/- The reference's formulas: lists of nodes; what it parses. -/
namespace Go.Ltl
open Go.W
abbrev Nd := Str × Int × Int
/-- The nodes of a formula, behind off others. -/
def nodesN : Nat → Fm → List Nd
  | _, .at_ w => [(w, -1, -1)]
  | off, .on_ w f => nodesN off f ++ [(w, ((off + sizeF f - 1 : Nat) : Int), -1)]
  | off, .tw_ w f g => nodesN off f ++ nodesN (off + sizeF f) g ++ [(w, ((off + sizeF f - 1 : Nat) : Int), ((off + sizeF f + sizeF g - 1 : Nat) : Int))]
theorem sizeF_pos : ∀ f, 1 ≤ sizeF f := by intro f; cases f <;> (unfold sizeF; omega)
theorem nodesN_len : ∀ (f : Fm) (off : Nat), (nodesN off f).length = sizeF f := by
  intro f
  induction f with
  | at_ w => intro off; rfl
  | on_ w f ih => intro off; unfold nodesN sizeF; rw [List.length_append, ih]; show sizeF f + 1 = _; omega
  | tw_ w f g ihf ihg => intro off; unfold nodesN sizeF; rw [List.length_append, List.length_append, ihf, ihg]; show sizeF f + sizeF g + 1 = _; omega
/-- A formula read from words, without a limit. -/
def rprs : Nat → List Str → Option (Fm × List Str)
  | 0, _ => none
  | _ + 1, [] => none
  | n + 1, s :: l => if s ∈ atomsL then some (.at_ s, l) else if s ≠ [40] then none else match l with
    | [] => none
    | s :: l => if s ∈ onesL then match rprs n l with
        | some (f, [41] :: l) => some (.on_ s f, l)
        | _ => none
      else if s ∈ twosL then match rprs n l with
        | some (f, l) => match rprs n l with
          | some (g, [41] :: l) => some (.tw_ s f g, l)
          | _ => none
        | none => none
      else none
def parB (s : Str) : Bool := decide (s = [40]) || decide (s = [41])
def wcnt (l : List Str) : Nat := (l.filter fun s => !parB s).length
theorem wcnt_cons (s : Str) (l : List Str) : wcnt (s :: l) = (if parB s then 0 else 1) + wcnt l := by
  unfold wcnt
  rw [List.filter_cons]
  cases parB s <;> simp <;> omega
theorem par_atom : ∀ s ∈ atomsL ++ onesL ++ twosL, parB s = false := by decide
theorem wcnt_op {s : Str} (l : List Str) (h : s ∈ atomsL ++ onesL ++ twosL) : wcnt (s :: l) = 1 + wcnt l := by rw [wcnt_cons, par_atom s h]; rfl
theorem wcnt_close (l : List Str) : wcnt ([41] :: l) = wcnt l := by rw [wcnt_cons]; simp [parB]
theorem wcnt_open (l : List Str) : wcnt ([40] :: l) = wcnt l := by rw [wcnt_cons]; simp [parB]
theorem rprs_wcnt : ∀ (n : Nat) (l : List Str) (f : Fm) (r : List Str), rprs n l = some (f, r) → wcnt l = sizeF f + wcnt r ∧ r.length < l.length ∧ wfF f := by
  intro n
  induction n with
  | zero => intro l f r h; cases h
  | succ n ih =>
    intro l f r h
    cases l with
    | nil => cases h
    | cons s l =>
      unfold rprs at h
      split at h
      · rename_i ha
        simp only [Option.some.injEq, Prod.mk.injEq] at h
        obtain ⟨rfl, rfl⟩ := h
        exact ⟨wcnt_op l (by simp [ha]), Nat.lt_succ_self _, ha⟩
      · split at h
        · cases h
        · rename_i hs
          have hs : s = [40] := Classical.not_not.1 hs
          subst hs
          cases l with
          | nil => cases h
          | cons s2 l2 =>
            simp only at h
            split at h
            · rename_i h1
              split at h
              · rename_i f1 l3 hp
                simp only [Option.some.injEq, Prod.mk.injEq] at h
                obtain ⟨rfl, rfl⟩ := h
                obtain ⟨e1, e2, e3⟩ := ih _ _ _ hp
                rw [wcnt_open, wcnt_op l2 (by simp [h1]), e1, wcnt_close]
                refine ⟨by show 1 + (sizeF f1 + wcnt l3) = 1 + sizeF f1 + wcnt l3; omega, ?_, h1, e3⟩
                simp only [List.length_cons] at e2 ⊢
                omega
              · cases h
            · split at h
              · rename_i h2
                split at h
                · rename_i f1 l3 hp
                  split at h
                  · rename_i g1 l4 hq
                    simp only [Option.some.injEq, Prod.mk.injEq] at h
                    obtain ⟨rfl, rfl⟩ := h
                    obtain ⟨e1, e2, e3⟩ := ih _ _ _ hp
                    obtain ⟨k1, k2, k3⟩ := ih _ _ _ hq
                    rw [wcnt_open, wcnt_op l2 (by simp [h2]), e1, k1, wcnt_close]
                    refine ⟨by show 1 + (sizeF f1 + (sizeF g1 + wcnt l4)) = 1 + sizeF f1 + sizeF g1 + wcnt l4; omega, ?_, h2, e3, k3⟩
                    simp only [List.length_cons] at e2 k2 ⊢
                    omega
                  · cases h
                · cases h
              · cases h
theorem atoms_40 : ([40] : Str) ∉ atomsL := by decide
theorem ops_word : ∀ s ∈ onesL ++ twosL, s ∉ atomsL := by decide
/-- Within the limit both parsers agree. -/
theorem prsN_rprs : ∀ (n : Nat) (l : List Str) (k : Nat), wcnt l + k ≤ 12 → prsN n l k = (rprs n l).map fun q => (q.1, q.2, k + sizeF q.1) := by
  intro n
  induction n with
  | zero => intro l k _; rfl
  | succ n ih =>
    intro l k hk
    cases l with
    | nil => rfl
    | cons s l =>
      by_cases hs : s = [40]
      · subst hs
        rw [wcnt_open] at hk
        unfold rprs
        rw [if_neg atoms_40, if_neg (by simp)]
        cases l with
        | nil => rfl
        | cons s2 l2 =>
          simp only
          by_cases h1 : s2 ∈ onesL
          · rw [wcnt_op l2 (by simp [h1])] at hk
            rw [prsN_on _ _ _ _ (by omega) h1, if_pos h1, ih l2 (k + 1) (by omega)]
            cases hp : rprs n l2 with
            | none => rfl
            | some q =>
              obtain ⟨f1, l3⟩ := q
              show finF (.on_ s2 f1) (k + 1 + sizeF f1) l3 = _
              have e : k + 1 + sizeF f1 = k + sizeF (.on_ s2 f1) := by show _ = k + (1 + sizeF f1); omega
              rw [e]
              unfold finF
              split <;> split <;> simp_all
          · rw [if_neg h1]
            by_cases h2 : s2 ∈ twosL
            · rw [wcnt_op l2 (by simp [h2])] at hk
              rw [prsN_tw _ _ _ _ (by omega) h1 h2, if_pos h2, ih l2 (k + 1) (by omega)]
              cases hp : rprs n l2 with
              | none => rfl
              | some q =>
                obtain ⟨f1, l3⟩ := q
                have hw := (rprs_wcnt _ _ _ _ hp).1
                simp only [Option.map_some]
                rw [ih l3 (k + 1 + sizeF f1) (by omega)]
                cases hq : rprs n l3 with
                | none => rfl
                | some q2 =>
                  obtain ⟨g1, l4⟩ := q2
                  show finF (.tw_ s2 f1 g1) (k + 1 + sizeF f1 + sizeF g1) l4 = _
                  have e : k + 1 + sizeF f1 + sizeF g1 = k + sizeF (.tw_ s2 f1 g1) := by show _ = k + (1 + sizeF f1 + sizeF g1); omega
                  rw [e]
                  unfold finF
                  split <;> split <;> simp_all
            · rw [prsN_un _ _ _ _ h1 h2, if_neg h2]; rfl
      · unfold rprs
        by_cases ha : s ∈ atomsL
        · rw [wcnt_op l (by simp [ha])] at hk
          rw [prsN_at _ _ _ _ hs (by omega), if_pos ha, if_pos ha]
          rfl
        · rw [if_neg ha, if_pos hs]
          by_cases hb : 12 < k + 1
          · rw [prsN_big _ _ _ _ hs hb]; rfl
          · rw [prsN_at _ _ _ _ hs (by omega), if_neg ha]; rfl
theorem prsN_wcnt : ∀ (n : Nat) (l : List Str) (k : Nat) (f : Fm) (r : List Str) (k' : Nat), prsN n l k = some (f, r, k') → wcnt l = sizeF f + wcnt r := by
  intro n
  induction n with
  | zero => intro l k f r k' h; cases h
  | succ n ih =>
    intro l k f r k' h
    cases l with
    | nil => rw [prsN_nil] at h; cases h
    | cons s l =>
      by_cases hs : s = [40]
      · subst hs
        cases l with
        | nil => rw [prsN_p0] at h; cases h
        | cons s l =>
          by_cases hb : 12 < k + 1
          · rw [prsN_pb _ _ _ _ hb] at h; cases h
          have hb : k + 1 ≤ 12 := by omega
          by_cases h1 : s ∈ onesL
          · rw [prsN_on _ _ _ _ hb h1] at h
            cases hp : prsN n l (k + 1) with
            | none => rw [hp] at h; cases h
            | some q =>
              obtain ⟨f1, l3, k3⟩ := q
              rw [hp] at h
              obtain ⟨rfl, rfl, rfl⟩ := finF_inv h
              rw [wcnt_open, wcnt_op l (by simp [h1]), ih _ _ _ _ _ hp, wcnt_close]
              show 1 + (sizeF f1 + wcnt r) = 1 + sizeF f1 + wcnt r; omega
          by_cases h2 : s ∈ twosL
          · rw [prsN_tw _ _ _ _ hb h1 h2] at h
            cases hp : prsN n l (k + 1) with
            | none => rw [hp] at h; cases h
            | some q =>
              obtain ⟨f1, l3, k3⟩ := q
              rw [hp] at h
              simp only at h
              cases hq : prsN n l3 k3 with
              | none => rw [hq] at h; cases h
              | some q2 =>
                obtain ⟨f2, l4, k4⟩ := q2
                rw [hq] at h
                obtain ⟨rfl, rfl, rfl⟩ := finF_inv h
                rw [wcnt_open, wcnt_op l (by simp [h2]), ih _ _ _ _ _ hp, ih _ _ _ _ _ hq, wcnt_close]
                show 1 + (sizeF f1 + (sizeF f2 + wcnt r)) = 1 + sizeF f1 + sizeF f2 + wcnt r; omega
          · rw [prsN_un _ _ _ _ h1 h2] at h; cases h
      · by_cases hb : 12 < k + 1
        · rw [prsN_big _ _ _ _ hs hb] at h; cases h
        rw [prsN_at _ _ _ _ hs (by omega)] at h
        split at h
        · rename_i ha
          simp only [Option.some.injEq, Prod.mk.injEq] at h
          obtain ⟨rfl, rfl, rfl⟩ := h
          exact wcnt_op l (by simp [ha])
        · cases h
/-- What the reference's Parse says. -/
theorem parseM_ref (s : Str) : parseM s = if 12 < wcnt (tokM s) then none else match rprs ((tokM s).length + 1) (tokM s) with
    | some (f, []) => some f
    | _ => none := by
  split
  · rename_i hw
    cases hp : parseM s with
    | none => rfl
    | some f =>
      exfalso
      obtain ⟨k, hk⟩ := parseM_inv hp
      have h1 := prsN_wcnt _ _ _ _ _ _ hk
      have h2 := (parseM_sz hp).2
      have h3 : wcnt [] = 0 := rfl
      omega
  · rename_i hw
    unfold parseM
    rw [prsN_rprs _ _ _ (by omega)]
    cases hp : rprs ((tokM s).length + 1) (tokM s) with
    | none => rfl
    | some q =>
      obtain ⟨f, r⟩ := q
      cases r <;> rfl
end Go.Ltl
end
section
/- The words of a formula, and what is read out of them. -/
namespace Go.Ltl
open Go.W
/-- The words of a formula. -/
def tks : Fm → List Str
  | .at_ w => [w]
  | .on_ w f => [40] :: w :: (tks f ++ [[41]])
  | .tw_ w f g => [40] :: w :: (tks f ++ tks g ++ [[41]])
theorem rprs_tks : ∀ (n : Nat) (l : List Str) (f : Fm) (r : List Str), rprs n l = some (f, r) → l = tks f ++ r := by
  intro n
  induction n with
  | zero => intro l f r h; cases h
  | succ n ih =>
    intro l f r h
    cases l with
    | nil => cases h
    | cons s l =>
      unfold rprs at h
      split at h
      · simp only [Option.some.injEq, Prod.mk.injEq] at h
        obtain ⟨rfl, rfl⟩ := h
        rfl
      · split at h
        · cases h
        · rename_i hs
          have hs : s = [40] := Classical.not_not.1 hs
          subst hs
          cases l with
          | nil => cases h
          | cons s l =>
            simp only at h
            split at h
            · split at h
              · rename_i f' l' hp
                simp only [Option.some.injEq, Prod.mk.injEq] at h
                obtain ⟨rfl, rfl⟩ := h
                have := ih _ _ _ hp
                rw [this]
                simp [tks]
              · cases h
            · split at h
              · split at h
                · rename_i f' l' hp
                  split at h
                  · rename_i g' l2 hq
                    simp only [Option.some.injEq, Prod.mk.injEq] at h
                    obtain ⟨rfl, rfl⟩ := h
                    have e1 := ih _ _ _ hp
                    have e2 := ih _ _ _ hq
                    rw [e1, e2]
                    simp [tks]
                  · cases h
                · cases h
              · cases h
theorem rprs_at (n : Nat) (s : Str) (l : List Str) (h : s ∈ atomsL) : rprs (n + 1) (s :: l) = some (.at_ s, l) := by
  unfold rprs; rw [if_pos h]
theorem rprs_one {n : Nat} {s : Str} {l r : List Str} {f : Fm} (h1 : s ∈ onesL) (h : rprs n l = some (f, [41] :: r)) : rprs (n + 1) ([40] :: s :: l) = some (.on_ s f, r) := by
  conv => lhs; unfold rprs
  rw [if_neg atoms_40, if_neg (by simp)]
  simp only [if_pos h1, h]
theorem twos_ones : ∀ s ∈ twosL, s ∉ onesL := by decide
theorem rprs_two {n : Nat} {s : Str} {l l2 r : List Str} {f g : Fm} (h1 : s ∈ twosL) (h : rprs n l = some (f, l2)) (h2 : rprs n l2 = some (g, [41] :: r)) : rprs (n + 1) ([40] :: s :: l) = some (.tw_ s f g, r) := by
  conv => lhs; unfold rprs
  rw [if_neg atoms_40, if_neg (by simp)]
  simp only [if_neg (twos_ones s h1), if_pos h1, h, h2]
theorem tks_rprs : ∀ (f : Fm), wfF f → ∀ (n : Nat) (r : List Str), sizeF f ≤ n → rprs n (tks f ++ r) = some (f, r) := by
  intro f
  induction f with
  | at_ w =>
    intro hw n r hn
    obtain ⟨n, rfl⟩ : ∃ m, n = m + 1 := ⟨n - 1, by unfold sizeF at hn; omega⟩
    exact rprs_at n w r hw
  | on_ w f ih =>
    rintro ⟨hw, hf⟩ n r hn
    unfold sizeF at hn
    obtain ⟨n, rfl⟩ : ∃ m, n = m + 1 := ⟨n - 1, by omega⟩
    have := ih hf n ([41] :: r) (by omega)
    show rprs (n + 1) ([40] :: w :: ((tks f ++ [[41]]) ++ r)) = _
    rw [List.append_assoc]
    exact rprs_one hw this
  | tw_ w f g ihf ihg =>
    rintro ⟨hw, hf, hg⟩ n r hn
    unfold sizeF at hn
    obtain ⟨n, rfl⟩ : ∃ m, n = m + 1 := ⟨n - 1, by omega⟩
    have h1 := ihf hf n (tks g ++ [41] :: r) (by omega)
    have h2 := ihg hg n ([41] :: r) (by omega)
    show rprs (n + 1) ([40] :: w :: ((tks f ++ tks g ++ [[41]]) ++ r)) = _
    rw [List.append_assoc, List.append_assoc]
    exact rprs_two hw h1 h2
theorem tks_len : ∀ f, sizeF f ≤ (tks f).length := by
  intro f
  induction f with
  | at_ w => exact Nat.le_refl _
  | on_ w f ih => unfold sizeF tks; simp only [List.length_cons, List.length_append, List.length_nil]; omega
  | tw_ w f g ihf ihg => unfold sizeF tks; simp only [List.length_cons, List.length_append, List.length_nil]; omega
theorem tks_inj {f g : Fm} (hf : wfF f) (hg : wfF g) (h : tks f = tks g) : f = g := by
  have h1 := tks_rprs f hf (sizeF f + sizeF g) [] (by omega)
  have h2 := tks_rprs g hg (sizeF f + sizeF g) [] (by omega)
  rw [h] at h1
  rw [h1] at h2
  simp only [Option.some.injEq, Prod.mk.injEq] at h2
  exact h2.1
theorem tks_wcnt {f : Fm} (hf : wfF f) : wcnt (tks f) = sizeF f := by
  have h1 := tks_rprs f hf (sizeF f) [] (Nat.le_refl _)
  have := (rprs_wcnt _ _ _ _ h1).1
  rw [List.append_nil] at this
  rw [this]; rfl
/-- What a string's words must be. -/
theorem parse_iff (s : Str) (f : Fm) : parseM s = some f ↔ wfF f ∧ sizeF f ≤ 12 ∧ tokM s = tks f := by
  constructor
  · intro h
    have h0 := h
    rw [parseM_ref] at h
    split at h
    · cases h
    · split at h
      · rename_i f' hp
        simp only [Option.some.injEq] at h
        subst h
        have h1 := rprs_tks _ _ _ _ hp
        rw [List.append_nil] at h1
        have h2 := rprs_wcnt _ _ _ _ hp
        exact ⟨h2.2.2, (parseM_sz h0).2, h1⟩
      · cases h
  · rintro ⟨h1, h2, h3⟩
    rw [parseM_ref, h3, tks_wcnt h1, if_neg (by omega)]
    have := tks_rprs f h1 ((tks f).length + 1) [] (by have := tks_len f; omega)
    rw [List.append_nil] at this
    rw [this]
theorem parse_none {s : Str} {f : Fm} (hf : wfF f) (ht : tokM s = tks f) (h : ¬ sizeF f ≤ 12) : parseM s = none := by
  cases hp : parseM s with
  | none => rfl
  | some g =>
    obtain ⟨h1, h2, h3⟩ := (parse_iff s g).1 hp
    have := tks_inj hf h1 (ht.symm.trans h3)
    subst this
    exact absurd h2 h
/-- No space, no parenthesis. -/
def plainW (w : Str) : Prop := ∀ c ∈ w, ¬ (c = 32 ∨ c = 10) ∧ ¬ (c = 40 ∨ c = 41)
theorem tokN_cons (c : UInt8) (s cur : Str) : tokN (c :: s) cur = if c = 32 ∨ c = 10 then flush cur ++ tokN s [] else if c = 40 ∨ c = 41 then flush cur ++ ([c] :: tokN s []) else tokN s (cur ++ [c]) := rfl
theorem tokN_word : ∀ (w : Str), plainW w → ∀ (r cur : Str), tokN (w ++ r) cur = tokN r (cur ++ w) := by
  intro w
  induction w with
  | nil => intro _ r cur; rw [List.append_nil]; rfl
  | cons c w ih =>
    intro h r cur
    have hc := h c (by simp)
    show tokN (c :: (w ++ r)) cur = _
    rw [tokN_cons, if_neg hc.1, if_neg hc.2, ih (fun x hx => h x (List.mem_cons_of_mem _ hx)), List.append_assoc]
    rfl
theorem tokN_sp : ∀ (s r cur : Str), tokN (s ++ 32 :: r) cur = tokN s cur ++ tokN r [] := by
  intro s
  induction s with
  | nil => intro r cur; show tokN (32 :: r) cur = flush cur ++ _; rw [tokN_cons, if_pos (by decide)]
  | cons c s ih =>
    intro r cur
    show tokN (c :: (s ++ 32 :: r)) cur = _
    rw [tokN_cons, tokN_cons, ih, ih]
    split
    · rw [List.append_assoc]
    · split
      · rw [List.append_assoc]; rfl
      · rfl
theorem tokN_par (w s : Str) (hw : plainW w) (hne : w ≠ []) : tokM ([40] ++ w ++ [32] ++ s) = [40] :: w :: tokM s := by
  show tokN (40 :: (w ++ [32] ++ s)) [] = _
  rw [tokN_cons, if_neg (by decide), if_pos (by decide), List.append_assoc, tokN_word w hw]
  show flush [] ++ ([40] :: tokN (32 :: s) ([] ++ w)) = _
  rw [tokN_cons, if_pos (by decide), List.nil_append, show flush w = [w] by unfold flush; rw [if_neg hne]]
  rfl
theorem tok_un (w s : Str) (hw : plainW w) (hne : w ≠ []) : tokM ([40] ++ w ++ [32] ++ s ++ [41]) = [40] :: w :: (tokM s ++ [[41]]) := by
  rw [List.append_assoc ([40] ++ w ++ [32]), tokN_par w _ hw hne]
  show [40] :: w :: tokN (s ++ [41]) [] = _
  rw [tokN_close]; rfl
theorem tok_bi (w s t : Str) (hw : plainW w) (hne : w ≠ []) : tokM ([40] ++ w ++ [32] ++ s ++ [32] ++ t ++ [41]) = [40] :: w :: (tokM s ++ tokM t ++ [[41]]) := by
  rw [List.append_assoc ([40] ++ w ++ [32] ++ s), List.append_assoc ([40] ++ w ++ [32] ++ s), List.append_assoc ([40] ++ w ++ [32]), tokN_par w _ hw hne]
  show [40] :: w :: tokN (s ++ 32 :: (t ++ [41])) [] = _
  rw [tokN_sp, tokN_close, ← List.append_assoc]; rfl
theorem words_plain : ∀ w ∈ atomsL ++ onesL ++ twosL, plainW w ∧ w ≠ [] := by
  unfold plainW; decide
theorem tok_text : ∀ f, wfF f → tokM (textF f) = tks f := by
  intro f
  induction f with
  | at_ w =>
    intro hw
    obtain ⟨h1, h2⟩ := words_plain w (by simp [show w ∈ atomsL from hw])
    have := tokN_word w h1 [] []
    rw [List.append_nil, List.nil_append] at this
    show tokN w [] = [w]
    rw [this]
    show flush w = [w]
    unfold flush; rw [if_neg h2]
  | on_ w f ih =>
    rintro ⟨hw, hf⟩
    obtain ⟨h1, h2⟩ := words_plain w (by simp [hw])
    unfold textF tks
    rw [tok_un w _ h1 h2, ih hf]
  | tw_ w f g ihf ihg =>
    rintro ⟨hw, hf, hg⟩
    obtain ⟨h1, h2⟩ := words_plain w (by simp [hw])
    unfold textF tks
    rw [tok_bi w _ _ h1 h2, ihf hf, ihg hg]
/-- A formula's text is read as this formula, if it is not too long. -/
theorem parse_text {f : Fm} (hf : wfF f) : parseM (textF f) = if sizeF f ≤ 12 then some f else none := by
  split
  · rename_i h; exact (parse_iff _ _).2 ⟨hf, h, tok_text f hf⟩
  · rename_i h; exact parse_none hf (tok_text f hf) h
end Go.Ltl
end
section
/- ltl, fifty-second: what Holds answers, in one shape; the values of a formula's text. -/
namespace Go.Proofs.YtpbbneclkhfgoaaDoor
open Go.W Go.Ltl Go.RowKit
set_option maxRecDepth 100000

abbrev Rb (b : Nat) (hb : Bool) (sa : Option Addr) (sl sc : Nat) (pa : Option Addr) (pl pc : Nat) : Ent := .blk b (.cells #[.bool hb, .slice sa sl sc, .slice pa pl pc] 48 (0, 0))
end Go.Proofs.YtpbbneclkhfgoaaDoor
end
