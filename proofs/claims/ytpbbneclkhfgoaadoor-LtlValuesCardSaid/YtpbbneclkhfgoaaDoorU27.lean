/- ltl, twenty-seventh: refute, Holds. -/
import Derived.Test.YtpbbneclkhfgoaaDoorU26
namespace Go.W
open Go.RowKit
section
variable {P : Program} {fn : Func} {R : Value → World → Prop} {e : Env} {w : World}
/-- Results of which the first lies in a block. -/
theorem Res.cellT [T : TT P] {t t2 b : Nat} {ty ty2 : TypeId} {i : TI} {cs : Array Value} {fr : Nat × Nat} {v2 : Value} (hm : marks e = []) (hr : fn.results = #[.cell t ty, .tmp t2]) (ht : T.ti ty = some i) (h1 : isOne i.k = false) (hs : cs.size = i.size)
    (hv : look e t = some (.pointer (some ⟨b, 0, none⟩))) (hv2 : look e t2 = some v2) (hh : w.heap[b]? = some (.cells cs ty2 fr)) (h : R (.tuple #[.agg cs, v2]) w) : Res P fn R e w := by
  refine ⟨hm, _, fun tm htm => ?_, h⟩
  have hag : i.k.isAgg = true := by cases hk2 : i.k <;> rw [hk2] at h1 <;> first | rfl | (simp [isOne] at h1)
  have hagg := (T.ok ty i ht).isAgg w
  rw [hag] at hagg
  have hsz := (T.ok ty i ht).sizeOf w
  rw [← hs] at hsz
  have hc := run_loadCells_list (P := P) w ⟨b, 0, none⟩ cs.toList (fun j v hj => by rw [Addr.add_lit, Nat.zero_add]; exact cell_of_obj hh (by simpa using hj))
  simp only [Array.length_toList] at hc
  have k2 := htm t _ hv
  have k3 := htm t2 _ hv2
  rw [Array.getD_eq_getD_getElem?] at k2 k3
  simp [results, hr, k2, k3, asAddr, loadVar, hagg, hsz, hc]
end
end Go.W
namespace Go.Ltl
open Go.W
/-- A search, from the states and the formula to the lasso of states of the structure. -/
def srchM (F G : Nat) (nx : List (List Nat)) (ms : List Int) (p : Fm) (starts : Nat) : Option (Option (List Nat × List Nat)) :=
  (runM F G (graphM nx (2 ^ looksN p) ((newM p (2 ^ looksN p) ms).map (·.2.2.1))) (2 ^ looksN p) starts (looksN p) ((newM p (2 ^ looksN p) ms).map (·.1)) ((newM p (2 ^ looksN p) ms).map (·.2.2.2))).map
    (Option.map fun r => (r.1.map (· / 2 ^ looksN p), r.2.map (· / 2 ^ looksN p)))
theorem pushM_looks : ∀ (f : Fm) (c : Bool), looksN (pushM f c) ≤ sizeF f := by
  intro f
  induction f with
  | at_ w =>
    intro c
    unfold pushM
    split
    · exact Nat.zero_le _
    · split
      · show looksN (.on_ wNot (.at_ w)) ≤ _
        unfold looksN; rw [if_pos rfl]; exact Nat.zero_le _
      · exact Nat.zero_le _
  | on_ w f ih =>
    intro c
    unfold pushM
    split
    · have := ih (!c); unfold sizeF; omega
    · have := ih c
      unfold looksN sizeF
      split <;> omega
  | tw_ w f g ihf ihg =>
    intro c
    have h1 := ihf c
    have h2 := ihg c
    unfold pushM looksN sizeF
    split <;> omega
theorem dual_wf {w : Str} (h : w ∈ twosL) : nameM true w ∈ twosL := by
  have hs : w = wAnd ∨ w = wOr ∨ w = wUntil ∨ w = wRelease := by simpa [twosL] using h
  rcases hs with rfl | rfl | rfl | rfl <;> decide
theorem dual_wf1 {w : Str} (h : w ∈ onesL) (hn : w ≠ wNot) : nameM true w ∈ onesL := by
  have hs : w = wNot ∨ w = wNext ∨ w = wAlways ∨ w = wFinally := by simpa [onesL] using h
  rcases hs with rfl | rfl | rfl | rfl
  · exact absurd rfl hn
  all_goals decide
theorem dual_wf0 {w : Str} (h : w ∈ atomsL) (hs : (dualM w).isSome = true) : nameM true w ∈ atomsL := by
  have h2 : w = wTrue ∨ w = wFalse ∨ w = [112, 48] ∨ w = [112, 49] ∨ w = [112, 50] ∨ w = [112, 51] := by simpa [atomsL] using h
  rcases h2 with rfl | rfl | rfl | rfl | rfl | rfl
  · decide
  · decide
  all_goals (revert hs; decide)
theorem pushM_wf : ∀ (f : Fm) (c : Bool), wfF f → wfF (pushM f c) := by
  intro f
  induction f with
  | at_ w =>
    intro c h
    unfold pushM
    split
    · rename_i hs
      cases c with
      | true => exact dual_wf0 h hs
      | false => exact h
    · split
      · exact ⟨by decide, h⟩
      · exact h
  | on_ w f ih =>
    intro c h
    unfold pushM
    split
    · exact ih _ h.2
    · rename_i hn
      cases c with
      | true => exact ⟨dual_wf1 h.1 hn, ih _ h.2⟩
      | false => exact ⟨h.1, ih _ h.2⟩
  | tw_ w f g ihf ihg =>
    intro c h
    unfold pushM
    cases c with
    | true => exact ⟨dual_wf h.1, ihf _ h.2.1, ihg _ h.2.2⟩
    | false => exact ⟨h.1, ihf _ h.2.1, ihg _ h.2.2⟩
theorem newM_bd {p : Fm} {pairs : Nat} {ms : List Int} (h : looksN p ≤ 30) : ∀ e ∈ newM p pairs ms, e.2.2.1 < 2 ^ 40 ∧ e.2.2.2 < 2 ^ 40 := by
  intro e he
  unfold newM at he
  obtain ⟨m, _, h1⟩ := List.mem_flatMap.1 he
  obtain ⟨b, _, rfl⟩ := List.mem_map.1 h1
  have := (gval_ok m b p (0, 0, 0) (by show 0 + looksN p ≤ 30; omega) ⟨by decide, by decide⟩).2
  exact ⟨Nat.lt_trans this.1 (by decide), Nat.lt_trans this.2 (by decide)⟩
end Go.Ltl
namespace Go.Proofs.YtpbbneclkhfgoaaDoor
open Go.W Go.Ltl Go.RowKit
set_option maxRecDepth 100000
attribute [local irreducible] WC WL WQ WS WH

def rsOf (vs : Vs) : Nrs := vs.map fun x => (x.1, x.2.1, x.2.2.map Int.toNat)
def nxOf (vs : Vs) : List (List Nat) := vs.map fun x => x.2.2.map Int.toNat
theorem rsN_of (vs : Vs) : rsN (rsOf vs) = nxOf vs := by simp [rsN, rsOf, nxOf]
theorem zs_nat {l : List Int} (h : ∀ z ∈ l, 0 ≤ z) : zs l = natL (l.map Int.toNat) := by
  unfold zs natL
  rw [List.map_map]
  apply List.map_congr_left
  intro z hz
  have := h z hz
  show Value.int .i64 z = Value.int .i64 ((z.toNat : Nat) : Int)
  rw [Int.toNat_of_nonneg this]
theorem stc_tbl {w : World} {an am : Option Addr} {vs : Vs} {ms : List Int} (h : Stc w an am vs ms) (hnn : ∀ x ∈ vs, ∀ z ∈ x.2.2, 0 ≤ z) : Tbl w an (rsOf vs) := by
  refine ⟨?_, fun x hx => ?_⟩
  · have : rsV (rsOf vs) = catV vs := by
      unfold rsV rsOf catV
      rw [List.map_map]
      apply List.map_congr_left
      intro x _
      simp
    rw [this]; exact h.nx
  · obtain ⟨y, hy, rfl⟩ := List.mem_map.1 hx
    show Sl w y.1 (natL (y.2.2.map Int.toNat))
    rw [← zs_nat (hnn y hy)]
    exact h.rows y hy
/-- What a structure's test says. -/
structure StrOk (vs : Vs) (ms : List Int) : Prop where
  lo : 1 ≤ vs.length
  hi : vs.length ≤ 16
  ml : ms.length = vs.length
  mkk : ∀ m ∈ ms, 0 ≤ m ∧ m ≤ 15
  ne : ∀ x ∈ vs, x.2.2 ≠ []
  len : ∀ x ∈ vs, x.2.2.length ≤ 16
  ent : ∀ x ∈ vs, ∀ z ∈ x.2.2, 0 ≤ z ∧ z < (vs.length : Int)
theorem rowB_le {n : Nat} {l : List Int} (h : rowB n l = true) : ∀ i, i < l.length → (i : Int) ≤ l.getD i 0 := by
  simp only [rowB, Bool.and_eq_true, List.all_eq_true, List.mem_range, sucB, Bool.or_eq_true, decide_eq_true_eq] at h
  intro i
  induction i with
  | zero => intro hi; exact (h.2 0 hi).1.1
  | succ i ih =>
    intro hi
    have h1 := ih (by omega)
    rcases (h.2 (i + 1) hi).2 with h2 | h2
    · omega
    · simp only [Nat.add_sub_cancel] at h2
      omega
theorem strB_ok {vs : Vs} {ms : List Int} (h : strB vs ms = true) : StrOk vs ms := by
  simp only [strB, Bool.and_eq_true, decide_eq_true_eq, List.all_eq_true] at h
  obtain ⟨⟨⟨⟨h1, h2⟩, h3⟩, h4⟩, h5⟩ := h
  have hent : ∀ x ∈ vs, ∀ i, i < x.2.2.length → 0 ≤ x.2.2.getD i 0 ∧ x.2.2.getD i 0 < (vs.length : Int) := by
    intro x hx i hi
    have := h5 x hx
    simp only [rowB, Bool.and_eq_true, List.all_eq_true, List.mem_range, sucB, decide_eq_true_eq] at this
    exact (this.2 i hi).1
  refine ⟨h1, h2, h3, fun m hm => ?_, fun x hx => ?_, fun x hx => ?_, fun x hx z hz => ?_⟩
  · have := h4 m hm
    simp only [markB, Bool.and_eq_true, decide_eq_true_eq] at this
    exact this
  · have := h5 x hx
    simp only [rowB, Bool.and_eq_true, decide_eq_true_eq] at this
    exact this.1
  · rcases Nat.eq_zero_or_pos x.2.2.length with h0 | h0
    · omega
    · have e1 := rowB_le (h5 x hx) (x.2.2.length - 1) (by omega)
      have e2 := (hent x hx (x.2.2.length - 1) (by omega)).2
      omega
  · obtain ⟨i, hi, rfl⟩ := List.mem_iff_getElem.1 hz
    have := hent x hx i hi
    simpa [hi] using this
theorem StrOk.nn {vs : Vs} {ms : List Int} (h : StrOk vs ms) : ∀ x ∈ vs, ∀ z ∈ x.2.2, 0 ≤ z := fun x hx z hz => (h.ent x hx z hz).1
/-- A run, right behind newSearch. -/
theorem srch_any {w : World} {vs : Vs} {ms : List Int} (hok : StrOk vs ms) (an : Option Addr) (cn : Nat) (am : Option Addr) (cm : Nat) (p : Fm) (hwf : wfF p) (hlk : looksN p ≤ 12) (starts : Nat) (hss : starts ≤ vs.length) (F G : Nat) (hF : F ≤ 8589934592) (hG : G ≤ 1048576) (r : Option (List Nat × List Nat))
    (hM : srchM F G (nxOf vs) ms p starts = some r) (xb : Nat) (la : Option Addr) (lc : Nat) (wa : Option Addr) (wc : Nat) (ta : Option Addr) (tc : Nat) (fa : Option Addr) (fcap : Nat) (w1 : World) (hst : Stc w1 an am vs ms)
    (hp : Hp w w1 (Sall xb (.slice an vs.length cn) (.slice am ms.length cm) starts la lc (findM p) (2 ^ looksN p) wa wc ta tc fa fcap (newM p (2 ^ looksN p) ms) [])) :
    Ret Tryd.prog 61 [ptr xb] w1 fun u w' => match r with
      | none => u = .tuple #[.slice none 0 0, .slice none 0 0, .bool false] ∧ Hp w1 w' []
      | some (stem, loop) => ∃ sa sc pa pc, u = .tuple #[.slice sa stem.length sc, .slice pa loop.length pc, .bool true] ∧ Hp w1 w' [Rna (.slice pa loop.length pc) loop.length loop, Rna (.slice sa stem.length sc) stem.length stem] := by
  unfold srchM at hM
  obtain ⟨r0, hr0, rfl⟩ := Option.map_eq_some_iff.1 hM
  have hpw : 2 ^ looksN p ≤ 4096 := Nat.pow_le_pow_right (n := 2) (by decide) hlk
  have hlen : (newM p (2 ^ looksN p) ms).length = vs.length * 2 ^ looksN p := by rw [newM_len, hok.ml]
  have hbd := newM_bd (pairs := 2 ^ looksN p) (ms := ms) (p := p) (by omega)
  have hfl := findM_len p hwf
  have hrl : (rsOf vs).length = vs.length := by simp [rsOf]
  have hx0 := hp.obj 0 rfl
  rw [hfl] at hx0
  have := run_any (starts := starts) xb an cn (rsOf vs) (.slice am ms.length cm) la (looksN p) lc (2 ^ looksN p) (newM p (2 ^ looksN p) ms).length wa wc ((newM p (2 ^ looksN p) ms).map (fun e : Bool × Gs => e.2.2.1)) ta tc ((newM p (2 ^ looksN p) ms).map (fun e : Bool × Gs => e.1)) fa fcap ((newM p (2 ^ looksN p) ms).map (fun e : Bool × Gs => e.2.2.2)) w1
    (by rw [hrl]; exact hx0) (stc_tbl hst hok.nn) (Sl.of_row (hp.at 2 rfl)) (Sl.of_row (hp.at 1 rfl)) (Sl.of_row (hp.at 3 rfl))
    (Nat.two_pow_pos _) (by simp) (by simp) (by simp) (by rw [hrl]; exact hlen) (fun x hx => by
      obtain ⟨y, hy, rfl⟩ := List.mem_map.1 hx
      show (y.2.2.map Int.toNat).length ≤ 16
      rw [List.length_map]; exact hok.len y hy) (by rw [hrl]; exact hok.hi) hpw rfl
    (fun x hx => by obtain ⟨e, he, rfl⟩ := List.mem_map.1 hx; exact (hbd e he).1) (fun x hx => by obtain ⟨e, he, rfl⟩ := List.mem_map.1 hx; exact (hbd e he).2) (by rw [hrl]; exact hss) F G hF hG r0 (by rw [rsN_of]; exact hr0)
  refine Ret.mono this ?_
  rintro u w' hu
  cases r0 with
  | none => exact hu
  | some q =>
    obtain ⟨stem, loop⟩ := q
    obtain ⟨sa, sc, pa, pc, rfl, hp2⟩ := hu
    exact ⟨sa, sc, pa, pc, by simp, by simpa using hp2⟩
/-- What a search's answer looks like as a result. -/
def ResR (r : Option (List Nat × List Nat)) (w : World) (u : Value) (w' : World) : Prop := match r with
  | none => u = .agg #[.bool true, .slice none 0 0, .slice none 0 0] ∧ Hp w w' []
  | some (stem, loop) => ∃ sa sc pa pc, u = .agg #[.bool false, .slice sa stem.length sc, .slice pa loop.length pc] ∧ Hp w w' [Rna (.slice pa loop.length pc) loop.length loop, Rna (.slice sa stem.length sc) stem.length stem]
theorem refute_any (an : Option Addr) (cn : Nat) (am : Option Addr) (cm : Nat) (vs : Vs) (ms : List Int) (hok : StrOk vs ms) (f : Fm) (hwf : wfF f) (hsz : sizeF f ≤ 12) (F G : Nat) (hF : F ≤ 8589934592) (hG : G ≤ 1048576) (r : Option (List Nat × List Nat))
    (hM : srchM F G (nxOf vs) ms (pushM f true) 1 = some r) (w : World) (hGl : Gl w) (hst : Stc w an am vs ms) :
    Ret Tryd.prog 57 [stV an cn am cm vs ms, fmV f] w fun u w' => ResR r w u w' := by
  have hml := hok.ml
  have hhi := hok.hi
  refine enter Tryd.func57 rfl rfl ⟨rfl, rfl⟩ rfl ?_
  repeat (first | refine WC.seq ?_ | refine WC.reg ?_ | refine WL.pure rfl rfl rfl ?_ | refine WL.nil ?_ | refine WC.skip ?_ | refine WC.block ?_ | refine WC.condT rfl ?_ | refine WC.condF rfl ?_ | refine WL.off rfl rfl rfl ?_ | refine WL.off0 rfl rfl ?_ | refine WC.exit ?_ | refine blk_hit ?_ | refine blk_miss rfl ?_ | refine WC.ret ?_)
  refine WL.box rfl rfl rfl (fun b w1 h1 => ?_)
  have hp1 : Hp w w1 [Sb b an cn am cm vs ms] := (Hp.start w).new h1
  refine WL.alloc rfl rfl rfl (fun b4 w2 h2 => ?_)
  have hp2 := hp1.new h2
  repeat (first | refine WC.seq ?_ | refine WC.reg ?_ | refine WL.pure rfl rfl rfl ?_ | refine WL.nil ?_ | refine WC.skip ?_ | refine WC.block ?_ | refine WC.condT rfl ?_ | refine WC.condF rfl ?_ | refine WL.off rfl rfl rfl ?_ | refine WL.off0 rfl rfl ?_ | refine WC.exit ?_ | refine blk_hit ?_ | refine blk_miss rfl ?_ | refine WC.ret ?_)
  refine WC.mid (Value × Value × Bool) (fun (s, l, o) => [(4, ptr b4), (5, s), (6, l), (7, .bool o)])
    (fun (s, l, o) w' => match r with
      | none => s = .slice none 0 0 ∧ l = .slice none 0 0 ∧ o = false ∧ Hp w w' [.blk b4 (.cells ti48.zero.cells 48 (0, 0))]
      | some (stem, loop) => ∃ sa sc pa pc, s = .slice sa stem.length sc ∧ l = .slice pa loop.length pc ∧ o = true ∧ Hp w w' [.blk b4 (.cells ti48.zero.cells 48 (0, 0)), Rna (.slice pa loop.length pc) loop.length loop, Rna (.slice sa stem.length sc) stem.length stem]) ?_ ?_
  · refine WC.regH (fun w' => Hp w w' [Sb b an cn am cm vs ms]) mixed (by kernel_rfl) (fun w3 hw3 hh3 => ?_)
    have hp3 := hp2.keep hw3
    have hS := hp3.pick [1] (by decide)
    refine WH.take 0 (by kernel_rfl) rfl (by kernel_rfl) rfl rfl (fun w' h => run_loadN (cs := [.slice an vs.length cn, .slice am ms.length cm]) rfl rfl rfl rfl (fun q v hq => by rw [Addr.add_lit]; exact cell_of_obj (h.obj 0 rfl) (by rw [Nat.zero_add]; simpa using hq))) hS ?_
    refine WH.pure 1 (by kernel_rfl) rfl (by kernel_rfl) rfl rfl rfl (hS) ?_
    refine WH.one 2 rfl (by kernel_rfl) ?_
    refine WL.call rfl rfl rfl rfl rfl ent53 (push_any f true w3 (hGl.hp hp3)) ?_
    rintro _ w4 ⟨rfl, hp4⟩
    have hp4 := hp3.comb hp4
    refine WL.nil ⟨hp4.pick [1] (by decide), ?_⟩
    refine WH.one 3 rfl (by kernel_rfl) ?_
    refine WL.call rfl rfl rfl rfl rfl ent60 (newSearch_any an cn am cm vs ms (by omega) hok.mkk (pushM f true) (pushM_wf f true hwf) (Nat.le_trans (pushM_looks f true) hsz) 1 w4 (hst.hp hp4).mks) ?_
    rintro _ w5 ⟨xb, la, lc, wa, wc, ta, tc, fa, fcap, rfl, hp5⟩
    have hp6 := hp4.call hp5.below
    refine WL.nil ⟨hp6.pick [1] (by decide), ?_⟩
    refine WH.one 4 rfl (by kernel_rfl) ?_
    refine WL.call rfl rfl rfl rfl rfl ent61 (srch_any hok an cn am cm (pushM f true) (pushM_wf f true hwf) (Nat.le_trans (pushM_looks f true) hsz) 1 hok.lo F G hF hG r hM xb la lc wa wc ta tc fa fcap w5 (hst.hp hp6) hp5) ?_
    rintro u w6 hu
    cases r with
    | none =>
      obtain ⟨rfl, hp7⟩ := hu
      have hp8 := hp6.call hp7.below
      have hS := hp8.pick [1] (by decide)
      refine WL.nil ⟨hS, ?_⟩
      refine WH.pure 5 (by kernel_rfl) rfl (by kernel_rfl) rfl rfl rfl (hS) ?_
      refine WH.pure 6 (by kernel_rfl) rfl (by kernel_rfl) rfl rfl rfl (hS) ?_
      refine WH.pure 7 (by kernel_rfl) rfl (by kernel_rfl) rfl rfl rfl (hS) ?_
      refine WH.pure 8 (by kernel_rfl) rfl (by kernel_rfl) rfl rfl rfl (hS) ?_
      refine WH.pure 9 (by kernel_rfl) rfl (by kernel_rfl) rfl rfl rfl (hS) ?_
      refine WH.pure 10 (by kernel_rfl) rfl (by kernel_rfl) rfl rfl rfl (hS) ?_
      refine WH.pure 11 (by kernel_rfl) rfl (by kernel_rfl) rfl rfl rfl (hS) ?_
      refine WH.done (by kernel_rfl) ?_
      exact ⟨(.slice none 0 0, .slice none 0 0, false), ⟨rfl, rfl, rfl, rfl, rfl⟩, rfl, rfl, rfl, hp8.pick [0] (by decide)⟩
    | some q =>
      obtain ⟨stem, loop⟩ := q
      obtain ⟨sa, sc, pa, pc, rfl, hp7⟩ := hu
      have hp8 := hp6.comb hp7
      have hS := hp8.pick [3] (by decide)
      refine WL.nil ⟨hS, ?_⟩
      refine WH.pure 5 (by kernel_rfl) rfl (by kernel_rfl) rfl rfl rfl (hS) ?_
      refine WH.pure 6 (by kernel_rfl) rfl (by kernel_rfl) rfl rfl rfl (hS) ?_
      refine WH.pure 7 (by kernel_rfl) rfl (by kernel_rfl) rfl rfl rfl (hS) ?_
      refine WH.pure 8 (by kernel_rfl) rfl (by kernel_rfl) rfl rfl rfl (hS) ?_
      refine WH.pure 9 (by kernel_rfl) rfl (by kernel_rfl) rfl rfl rfl (hS) ?_
      refine WH.pure 10 (by kernel_rfl) rfl (by kernel_rfl) rfl rfl rfl (hS) ?_
      refine WH.pure 11 (by kernel_rfl) rfl (by kernel_rfl) rfl rfl rfl (hS) ?_
      refine WH.done (by kernel_rfl) ?_
      exact ⟨(.slice sa stem.length sc, .slice pa loop.length pc, true), ⟨rfl, rfl, rfl, rfl, rfl⟩, sa, sc, pa, pc, rfl, rfl, rfl, hp8.pick [2, 0, 1] (by decide)⟩
  · rintro ⟨s, l, o⟩ e3 w3 hsub hq
    refine WC.sub hsub ?_
    cases r with
    | none =>
      obtain ⟨rfl, rfl, rfl, hp3⟩ := hq
      repeat (first | refine WC.seq ?_ | refine WC.reg ?_ | refine WL.pure rfl rfl rfl ?_ | refine WL.nil ?_ | refine WC.skip ?_ | refine WC.block ?_ | refine WC.condT rfl ?_ | refine WC.condF rfl ?_ | refine WL.off rfl rfl rfl ?_ | refine WL.off0 rfl rfl ?_ | refine WC.exit ?_ | refine blk_hit ?_ | refine blk_miss rfl ?_ | refine WC.ret ?_)
      refine WL.buildT (cs := [.bool true, .slice none 0 0, .slice none 0 0]) rfl rfl rfl rfl rfl rfl ?_
      refine WL.storeN rfl rfl rfl rfl rfl (by simp [Value.oneCell']) (hp3.obj 0 rfl) (Nat.le_refl _) rfl (fun w4 h4 => ?_)
      have hp4 := hp3.set 0 rfl rfl h4
      repeat (first | refine WC.seq ?_ | refine WC.reg ?_ | refine WL.pure rfl rfl rfl ?_ | refine WL.nil ?_ | refine WC.skip ?_ | refine WC.block ?_ | refine WC.condT rfl ?_ | refine WC.condF rfl ?_ | refine WL.off rfl rfl rfl ?_ | refine WL.off0 rfl rfl ?_ | refine WC.exit ?_ | refine blk_hit ?_ | refine blk_miss rfl ?_ | refine WC.ret ?_)
      exact Res.cell rfl rfl rfl rfl rfl rfl (hp4.obj 0 rfl) ⟨rfl, hp4.nil'⟩
    | some q =>
      obtain ⟨stem, loop⟩ := q
      obtain ⟨sa, sc, pa, pc, rfl, rfl, rfl, hp3⟩ := hq
      repeat (first | refine WC.seq ?_ | refine WC.reg ?_ | refine WL.pure rfl rfl rfl ?_ | refine WL.nil ?_ | refine WC.skip ?_ | refine WC.block ?_ | refine WC.condT rfl ?_ | refine WC.condF rfl ?_ | refine WL.off rfl rfl rfl ?_ | refine WL.off0 rfl rfl ?_ | refine WC.exit ?_ | refine blk_hit ?_ | refine blk_miss rfl ?_ | refine WC.ret ?_)
      refine WL.buildT (cs := [.bool false, .slice sa stem.length sc, .slice pa loop.length pc]) rfl rfl rfl rfl rfl rfl ?_
      refine WL.storeN rfl rfl rfl rfl rfl (by simp [Value.oneCell']) (hp3.obj 0 rfl) (Nat.le_refl _) rfl (fun w4 h4 => ?_)
      have hp4 := hp3.set 0 rfl rfl h4
      repeat (first | refine WC.seq ?_ | refine WC.reg ?_ | refine WL.pure rfl rfl rfl ?_ | refine WL.nil ?_ | refine WC.skip ?_ | refine WC.block ?_ | refine WC.condT rfl ?_ | refine WC.condF rfl ?_ | refine WL.off rfl rfl rfl ?_ | refine WL.off0 rfl rfl ?_ | refine WC.exit ?_ | refine blk_hit ?_ | refine blk_miss rfl ?_ | refine WC.ret ?_)
      exact Res.cell rfl rfl rfl rfl rfl rfl (hp4.obj 0 rfl) ⟨sa, sc, pa, pc, rfl, hp4.tail⟩
/-- What Holds answers. -/
def HoldsR (F G : Nat) (vs : Vs) (ms : List Int) (s : Str) (w : World) (v : Value) (w' : World) : Prop :=
  if strB vs ms then match parseM s with
    | none => v = .tuple #[.agg #[.bool false, .slice none 0 0, .slice none 0 0], .int .i64 4] ∧ Hp w w' []
    | some f => ∃ r u, srchM F G (nxOf vs) ms (pushM f true) 1 = some r ∧ v = .tuple #[u, .int .i64 0] ∧ ResR r w u w'
  else v = .tuple #[.agg #[.bool false, .slice none 0 0, .slice none 0 0], .int .i64 2] ∧ Hp w w' []
theorem Holds_any (an : Option Addr) (cn : Nat) (am : Option Addr) (cm : Nat) (vs : Vs) (ms : List Int) (hms : ms.length ≤ 1000000) (hvs : ∀ x ∈ vs, x.2.2.length ≤ 1000000) (s : Str) (hs : s.length ≤ 1000) (F G : Nat) (hF : F ≤ 8589934592) (hG : G ≤ 1048576)
    (hM : StrOk vs ms → ∀ f, parseM s = some f → (srchM F G (nxOf vs) ms (pushM f true) 1).isSome = true) (w : World) (hGl : Gl w) (hst : Stc w an am vs ms) :
    Ret Tryd.prog 26 [stV an cn am cm vs ms, st s] w fun v w' => HoldsR F G vs ms s w v w' := by
  refine enter Tryd.func26 rfl rfl ⟨rfl, rfl⟩ rfl ?_
  repeat (first | refine WC.seq ?_ | refine WC.reg ?_ | refine WL.pure rfl rfl rfl ?_ | refine WL.nil ?_ | refine WC.skip ?_ | refine WC.block ?_ | refine WC.condT rfl ?_ | refine WC.condF rfl ?_ | refine WL.off rfl rfl rfl ?_ | refine WL.off0 rfl rfl ?_ | refine WC.exit ?_ | refine blk_hit ?_ | refine blk_miss rfl ?_ | refine WC.ret ?_)
  refine WL.box rfl rfl rfl (fun b w1 h1 => ?_)
  have hp1 : Hp w w1 [Sb b an cn am cm vs ms] := (Hp.start w).new h1
  refine WL.alloc rfl rfl rfl (fun b4 w2 h2 => ?_)
  have hp2 := hp1.new h2
  repeat (first | refine WC.seq ?_ | refine WC.reg ?_ | refine WL.pure rfl rfl rfl ?_ | refine WL.nil ?_ | refine WC.skip ?_ | refine WC.block ?_ | refine WC.condT rfl ?_ | refine WC.condF rfl ?_ | refine WL.off rfl rfl rfl ?_ | refine WL.off0 rfl rfl ?_ | refine WC.exit ?_ | refine blk_hit ?_ | refine blk_miss rfl ?_ | refine WC.ret ?_)
  refine WL.loadN rfl rfl rfl rfl rfl (cs := [.slice an vs.length cn, .slice am ms.length cm]) rfl (fun q v hq => cell_of_obj (hp2.obj 1 rfl) (by rw [Nat.zero_add]; simpa using hq)) ?_
  refine WL.call rfl rfl rfl rfl rfl ent56 (isStructure_any an cn am cm vs ms hms hvs w2 (hst.hp hp2)) ?_
  rintro _ w3 ⟨rfl, hp3⟩
  have hp3 := hp2.comb hp3
  cases hsb : strB vs ms with
  | false =>
    repeat (first | refine WC.seq ?_ | refine WC.reg ?_ | refine WL.pure rfl rfl rfl ?_ | refine WL.nil ?_ | refine WC.skip ?_ | refine WC.block ?_ | refine WC.condT rfl ?_ | refine WC.condF rfl ?_ | refine WL.off rfl rfl rfl ?_ | refine WL.off0 rfl rfl ?_ | refine WC.exit ?_ | refine blk_hit ?_ | refine blk_miss rfl ?_ | refine WC.ret ?_)
    refine WL.buildT (cs := [.bool false, .slice none 0 0, .slice none 0 0]) rfl rfl rfl rfl rfl rfl ?_
    refine WL.storeN rfl rfl rfl rfl rfl (by simp [Value.oneCell']) (hp3.obj 0 rfl) (Nat.le_refl _) rfl (fun w4 h4 => ?_)
    have hp4 := hp3.set 0 rfl rfl h4
    repeat (first | refine WC.seq ?_ | refine WC.reg ?_ | refine WL.pure rfl rfl rfl ?_ | refine WL.nil ?_ | refine WC.skip ?_ | refine WC.block ?_ | refine WC.condT rfl ?_ | refine WC.condF rfl ?_ | refine WL.off rfl rfl rfl ?_ | refine WL.off0 rfl rfl ?_ | refine WC.exit ?_ | refine blk_hit ?_ | refine blk_miss rfl ?_ | refine WC.ret ?_)
    exact Res.cellT rfl rfl rfl rfl rfl rfl rfl (hp4.obj 0 rfl) (by unfold HoldsR; rw [hsb, if_neg (by decide)]; exact ⟨rfl, hp4.nil'⟩)
  | true =>
    have hok := strB_ok hsb
    repeat (first | refine WC.seq ?_ | refine WC.reg ?_ | refine WL.pure rfl rfl rfl ?_ | refine WL.nil ?_ | refine WC.skip ?_ | refine WC.block ?_ | refine WC.condT rfl ?_ | refine WC.condF rfl ?_ | refine WL.off rfl rfl rfl ?_ | refine WL.off0 rfl rfl ?_ | refine WC.exit ?_ | refine blk_hit ?_ | refine blk_miss rfl ?_ | refine WC.ret ?_)
    refine WL.call rfl rfl rfl rfl rfl ent48 (parse_any s hs w3 (hGl.hp hp3)) ?_
    rintro v w4 ⟨⟨f, hf, rfl⟩ | ⟨hf, x, rfl⟩, hp4⟩
    · have hp5 := hp3.comb hp4
      obtain ⟨r, hr⟩ := Option.isSome_iff_exists.1 (hM hok f hf)
      repeat (first | refine WC.seq ?_ | refine WC.reg ?_ | refine WL.pure rfl rfl rfl ?_ | refine WL.nil ?_ | refine WC.skip ?_ | refine WC.block ?_ | refine WC.condT rfl ?_ | refine WC.condF rfl ?_ | refine WL.off rfl rfl rfl ?_ | refine WL.off0 rfl rfl ?_ | refine WC.exit ?_ | refine blk_hit ?_ | refine blk_miss rfl ?_ | refine WC.ret ?_)
      refine WL.loadN rfl rfl rfl rfl rfl (cs := [.slice an vs.length cn, .slice am ms.length cm]) rfl (fun q v hq => cell_of_obj (hp5.obj 1 rfl) (by rw [Nat.zero_add]; simpa using hq)) ?_
      repeat (first | refine WC.seq ?_ | refine WC.reg ?_ | refine WL.pure rfl rfl rfl ?_ | refine WL.nil ?_ | refine WC.skip ?_ | refine WC.block ?_ | refine WC.condT rfl ?_ | refine WC.condF rfl ?_ | refine WL.off rfl rfl rfl ?_ | refine WL.off0 rfl rfl ?_ | refine WC.exit ?_ | refine blk_hit ?_ | refine blk_miss rfl ?_ | refine WC.ret ?_)
      refine WL.call rfl rfl rfl rfl rfl ent57 (refute_any an cn am cm vs ms hok f (parseM_wf hf) (parseM_sz hf).2 F G hF hG r hr w4 (hGl.hp hp5) (hst.hp hp5)) ?_
      rintro u w5 hu
      cases r with
      | none =>
        obtain ⟨rfl, hp6⟩ := hu
        have hp7 := hp5.comb hp6
        refine WL.storeN rfl rfl rfl rfl rfl (by simp [Value.oneCell']) (hp7.obj 0 rfl) (Nat.le_refl _) rfl (fun w6 h6 => ?_)
        have hp8 := hp7.set 0 rfl rfl h6
        repeat (first | refine WC.seq ?_ | refine WC.reg ?_ | refine WL.pure rfl rfl rfl ?_ | refine WL.nil ?_ | refine WC.skip ?_ | refine WC.block ?_ | refine WC.condT rfl ?_ | refine WC.condF rfl ?_ | refine WL.off rfl rfl rfl ?_ | refine WL.off0 rfl rfl ?_ | refine WC.exit ?_ | refine blk_hit ?_ | refine blk_miss rfl ?_ | refine WC.ret ?_)
        exact Res.cellT rfl rfl rfl rfl rfl rfl rfl (hp8.obj 0 rfl) (by unfold HoldsR; rw [hsb, if_pos rfl, hf]; exact ⟨none, _, hr, rfl, rfl, hp8.nil'⟩)
      | some q =>
        obtain ⟨stem, loop⟩ := q
        obtain ⟨sa, sc, pa, pc, rfl, hp6⟩ := hu
        have hp7 := hp5.comb hp6
        refine WL.storeN rfl rfl rfl rfl rfl (by simp [Value.oneCell']) (hp7.obj 2 rfl) (Nat.le_refl _) rfl (fun w6 h6 => ?_)
        have hp8 := hp7.set 2 rfl rfl h6
        repeat (first | refine WC.seq ?_ | refine WC.reg ?_ | refine WL.pure rfl rfl rfl ?_ | refine WL.nil ?_ | refine WC.skip ?_ | refine WC.block ?_ | refine WC.condT rfl ?_ | refine WC.condF rfl ?_ | refine WL.off rfl rfl rfl ?_ | refine WL.off0 rfl rfl ?_ | refine WC.exit ?_ | refine blk_hit ?_ | refine blk_miss rfl ?_ | refine WC.ret ?_)
        exact Res.cellT rfl rfl rfl rfl rfl rfl rfl (hp8.obj 2 rfl) (by unfold HoldsR; rw [hsb, if_pos rfl, hf]; exact ⟨some (stem, loop), _, hr, rfl, sa, sc, pa, pc, rfl, hp8.pick [0, 1] (by decide)⟩)
    · have hp5 := hp3.comb hp4
      repeat (first | refine WC.seq ?_ | refine WC.reg ?_ | refine WL.pure rfl rfl rfl ?_ | refine WL.nil ?_ | refine WC.skip ?_ | refine WC.block ?_ | refine WC.condT rfl ?_ | refine WC.condF rfl ?_ | refine WL.off rfl rfl rfl ?_ | refine WL.off0 rfl rfl ?_ | refine WC.exit ?_ | refine blk_hit ?_ | refine blk_miss rfl ?_ | refine WC.ret ?_)
      refine WL.buildT (cs := [.bool false, .slice none 0 0, .slice none 0 0]) rfl rfl rfl rfl rfl rfl ?_
      refine WL.pure rfl rfl rfl ?_
      refine WL.storeN rfl rfl rfl rfl rfl (by simp [Value.oneCell']) (hp5.obj 0 rfl) (Nat.le_refl _) rfl (fun w6 h6 => ?_)
      have hp6 := hp5.set 0 rfl rfl h6
      repeat (first | refine WC.seq ?_ | refine WC.reg ?_ | refine WL.pure rfl rfl rfl ?_ | refine WL.nil ?_ | refine WC.skip ?_ | refine WC.block ?_ | refine WC.condT rfl ?_ | refine WC.condF rfl ?_ | refine WL.off rfl rfl rfl ?_ | refine WL.off0 rfl rfl ?_ | refine WC.exit ?_ | refine blk_hit ?_ | refine blk_miss rfl ?_ | refine WC.ret ?_)
      exact Res.cellT rfl rfl rfl rfl rfl rfl rfl (hp6.obj 0 rfl) (by unfold HoldsR; rw [hsb, if_pos rfl, hf]; exact ⟨rfl, hp6.nil'⟩)
end Go.Proofs.YtpbbneclkhfgoaaDoor
