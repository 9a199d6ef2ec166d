/- Texts on the way to LtlOwn, one behind the other: U27 Zb U41 U28 U29 U30 U42 U44 U45 U46 U47. -/
import Derived.Test.YtpbbneclkhfgoaaDoorG6
section
/- ltl, twenty-seventh: refute, Holds. -/
namespace Go.W
open Go.RowKit
section
variable {P : Program} {fn : Func} {R : Value → World → Prop} {e : Env} {w : World}
/-- Results of which the first lies in a block. -/
theorem Res.cellT [T : TT P] {t t2 b : Nat} {ty ty2 : TypeId} {i : TI} {cs : Array Value} {fr : Nat × Nat} {v2 : Value} (hm : marks e = []) (hr : fn.results = #[.cell t ty, .tmp t2]) (ht : T.ti ty = some i) (h1 : isOne i.k = false) (hs : cs.size = i.size)
    (hv : look e t = some (.pointer (some ⟨b, 0, none⟩))) (hv2 : look e t2 = some v2) (hh : w.heap[b]? = some (.cells cs ty2 fr)) (h : R (.tuple #[.agg cs, v2]) w) : Res P fn R e w := by
  refine ⟨hm, _, fun tm htm => ?_, h⟩
  have hag : i.k.isAgg = true := by cases hk2 : i.k <;> rw [hk2] at h1 <;> first | rfl | (simp [isOne] at h1)
  have hagg := (T.ok ty i ht).isAgg w
  rw [hag] at hagg
  have hsz := (T.ok ty i ht).sizeOf w
  rw [← hs] at hsz
  have hc := run_loadCells_list (P := P) w ⟨b, 0, none⟩ cs.toList (fun j v hj => by rw [Addr.add_lit, Nat.zero_add]; exact cell_of_obj hh (by simpa using hj))
  simp only [Array.length_toList] at hc
  have k2 := htm t _ hv
  have k3 := htm t2 _ hv2
  rw [Array.getD_eq_getD_getElem?] at k2 k3
  simp [results, hr, k2, k3, asAddr, loadVar, hagg, hsz, hc]
end
end Go.W
namespace Go.Ltl
open Go.W
/-- A search, from the states and the formula to the lasso of states of the structure. -/
def srchM (F G : Nat) (nx : List (List Nat)) (ms : List Int) (p : Fm) (starts : Nat) : Option (Option (List Nat × List Nat)) :=
  (runM F G (graphM nx (2 ^ looksN p) ((newM p (2 ^ looksN p) ms).map (·.2.2.1))) (2 ^ looksN p) starts (looksN p) ((newM p (2 ^ looksN p) ms).map (·.1)) ((newM p (2 ^ looksN p) ms).map (·.2.2.2))).map
    (Option.map fun r => (r.1.map (· / 2 ^ looksN p), r.2.map (· / 2 ^ looksN p)))
theorem pushM_looks : ∀ (f : Fm) (c : Bool), looksN (pushM f c) ≤ sizeF f := by
  intro f
  induction f with
  | at_ w =>
    intro c
    unfold pushM
    split
    · exact Nat.zero_le _
    · split
      · show looksN (.on_ wNot (.at_ w)) ≤ _
        unfold looksN; rw [if_pos rfl]; exact Nat.zero_le _
      · exact Nat.zero_le _
  | on_ w f ih =>
    intro c
    unfold pushM
    split
    · have := ih (!c); unfold sizeF; omega
    · have := ih c
      unfold looksN sizeF
      split <;> omega
  | tw_ w f g ihf ihg =>
    intro c
    have h1 := ihf c
    have h2 := ihg c
    unfold pushM looksN sizeF
    split <;> omega
theorem dual_wf {w : Str} (h : w ∈ twosL) : nameM true w ∈ twosL := by
  have hs : w = wAnd ∨ w = wOr ∨ w = wUntil ∨ w = wRelease := by simpa [twosL] using h
  rcases hs with rfl | rfl | rfl | rfl <;> decide
theorem dual_wf1 {w : Str} (h : w ∈ onesL) (hn : w ≠ wNot) : nameM true w ∈ onesL := by
  have hs : w = wNot ∨ w = wNext ∨ w = wAlways ∨ w = wFinally := by simpa [onesL] using h
  rcases hs with rfl | rfl | rfl | rfl
  · exact absurd rfl hn
  all_goals decide
theorem dual_wf0 {w : Str} (h : w ∈ atomsL) (hs : (dualM w).isSome = true) : nameM true w ∈ atomsL := by
  have h2 : w = wTrue ∨ w = wFalse ∨ w = [112, 48] ∨ w = [112, 49] ∨ w = [112, 50] ∨ w = [112, 51] := by simpa [atomsL] using h
  rcases h2 with rfl | rfl | rfl | rfl | rfl | rfl
  · decide
  · decide
  all_goals (revert hs; decide)
theorem pushM_wf : ∀ (f : Fm) (c : Bool), wfF f → wfF (pushM f c) := by
  intro f
  induction f with
  | at_ w =>
    intro c h
    unfold pushM
    split
    · rename_i hs
      cases c with
      | true => exact dual_wf0 h hs
      | false => exact h
    · split
      · exact ⟨by decide, h⟩
      · exact h
  | on_ w f ih =>
    intro c h
    unfold pushM
    split
    · exact ih _ h.2
    · rename_i hn
      cases c with
      | true => exact ⟨dual_wf1 h.1 hn, ih _ h.2⟩
      | false => exact ⟨h.1, ih _ h.2⟩
  | tw_ w f g ihf ihg =>
    intro c h
    unfold pushM
    cases c with
    | true => exact ⟨dual_wf h.1, ihf _ h.2.1, ihg _ h.2.2⟩
    | false => exact ⟨h.1, ihf _ h.2.1, ihg _ h.2.2⟩
theorem newM_bd {p : Fm} {pairs : Nat} {ms : List Int} (h : looksN p ≤ 30) : ∀ e ∈ newM p pairs ms, e.2.2.1 < 2 ^ 40 ∧ e.2.2.2 < 2 ^ 40 := by
  intro e he
  unfold newM at he
  obtain ⟨m, _, h1⟩ := List.mem_flatMap.1 he
  obtain ⟨b, _, rfl⟩ := List.mem_map.1 h1
  have := (gval_ok m b p (0, 0, 0) (by show 0 + looksN p ≤ 30; omega) ⟨by decide, by decide⟩).2
  exact ⟨Nat.lt_trans this.1 (by decide), Nat.lt_trans this.2 (by decide)⟩
end Go.Ltl
namespace Go.Proofs.YtpbbneclkhfgoaaDoor
open Go.W Go.Ltl Go.RowKit
set_option maxRecDepth 100000
attribute [local irreducible] WC WL WQ WS WH

def rsOf (vs : Vs) : Nrs := vs.map fun x => (x.1, x.2.1, x.2.2.map Int.toNat)
def nxOf (vs : Vs) : List (List Nat) := vs.map fun x => x.2.2.map Int.toNat
theorem rsN_of (vs : Vs) : rsN (rsOf vs) = nxOf vs := by simp [rsN, rsOf, nxOf]
theorem zs_nat {l : List Int} (h : ∀ z ∈ l, 0 ≤ z) : zs l = natL (l.map Int.toNat) := by
  unfold zs natL
  rw [List.map_map]
  apply List.map_congr_left
  intro z hz
  have := h z hz
  show Value.int .i64 z = Value.int .i64 ((z.toNat : Nat) : Int)
  rw [Int.toNat_of_nonneg this]
theorem stc_tbl {w : World} {an am : Option Addr} {vs : Vs} {ms : List Int} (h : Stc w an am vs ms) (hnn : ∀ x ∈ vs, ∀ z ∈ x.2.2, 0 ≤ z) : Tbl w an (rsOf vs) := by
  refine ⟨?_, fun x hx => ?_⟩
  · have : rsV (rsOf vs) = catV vs := by
      unfold rsV rsOf catV
      rw [List.map_map]
      apply List.map_congr_left
      intro x _
      simp
    rw [this]; exact h.nx
  · obtain ⟨y, hy, rfl⟩ := List.mem_map.1 hx
    show Sl w y.1 (natL (y.2.2.map Int.toNat))
    rw [← zs_nat (hnn y hy)]
    exact h.rows y hy
/-- What a structure's test says. -/
structure StrOk (vs : Vs) (ms : List Int) : Prop where
  lo : 1 ≤ vs.length
  hi : vs.length ≤ 16
  ml : ms.length = vs.length
  mkk : ∀ m ∈ ms, 0 ≤ m ∧ m ≤ 15
  ne : ∀ x ∈ vs, x.2.2 ≠ []
  len : ∀ x ∈ vs, x.2.2.length ≤ 16
  ent : ∀ x ∈ vs, ∀ z ∈ x.2.2, 0 ≤ z ∧ z < (vs.length : Int)
theorem rowB_le {n : Nat} {l : List Int} (h : rowB n l = true) : ∀ i, i < l.length → (i : Int) ≤ l.getD i 0 := by
  simp only [rowB, Bool.and_eq_true, List.all_eq_true, List.mem_range, sucB, Bool.or_eq_true, decide_eq_true_eq] at h
  intro i
  induction i with
  | zero => intro hi; exact (h.2 0 hi).1.1
  | succ i ih =>
    intro hi
    have h1 := ih (by omega)
    rcases (h.2 (i + 1) hi).2 with h2 | h2
    · omega
    · simp only [Nat.add_sub_cancel] at h2
      omega
theorem strB_ok {vs : Vs} {ms : List Int} (h : strB vs ms = true) : StrOk vs ms := by
  simp only [strB, Bool.and_eq_true, decide_eq_true_eq, List.all_eq_true] at h
  obtain ⟨⟨⟨⟨h1, h2⟩, h3⟩, h4⟩, h5⟩ := h
  have hent : ∀ x ∈ vs, ∀ i, i < x.2.2.length → 0 ≤ x.2.2.getD i 0 ∧ x.2.2.getD i 0 < (vs.length : Int) := by
    intro x hx i hi
    have := h5 x hx
    simp only [rowB, Bool.and_eq_true, List.all_eq_true, List.mem_range, sucB, decide_eq_true_eq] at this
    exact (this.2 i hi).1
  refine ⟨h1, h2, h3, fun m hm => ?_, fun x hx => ?_, fun x hx => ?_, fun x hx z hz => ?_⟩
  · have := h4 m hm
    simp only [markB, Bool.and_eq_true, decide_eq_true_eq] at this
    exact this
  · have := h5 x hx
    simp only [rowB, Bool.and_eq_true, decide_eq_true_eq] at this
    exact this.1
  · rcases Nat.eq_zero_or_pos x.2.2.length with h0 | h0
    · omega
    · have e1 := rowB_le (h5 x hx) (x.2.2.length - 1) (by omega)
      have e2 := (hent x hx (x.2.2.length - 1) (by omega)).2
      omega
  · obtain ⟨i, hi, rfl⟩ := List.mem_iff_getElem.1 hz
    have := hent x hx i hi
    simpa [hi] using this
theorem StrOk.nn {vs : Vs} {ms : List Int} (h : StrOk vs ms) : ∀ x ∈ vs, ∀ z ∈ x.2.2, 0 ≤ z := fun x hx z hz => (h.ent x hx z hz).1
/-- A run, right behind newSearch. -/
theorem srch_any {w : World} {vs : Vs} {ms : List Int} (hok : StrOk vs ms) (an : Option Addr) (cn : Nat) (am : Option Addr) (cm : Nat) (p : Fm) (hwf : wfF p) (hlk : looksN p ≤ 12) (starts : Nat) (hss : starts ≤ vs.length) (F G : Nat) (hF : F ≤ 1099511627776) (hG : G ≤ 1048576) (r : Option (List Nat × List Nat))
    (hM : srchM F G (nxOf vs) ms p starts = some r) (xb : Nat) (la : Option Addr) (lc : Nat) (wa : Option Addr) (wc : Nat) (ta : Option Addr) (tc : Nat) (fa : Option Addr) (fcap : Nat) (w1 : World) (hst : Stc w1 an am vs ms)
    (hp : Hp w w1 (Sall xb (.slice an vs.length cn) (.slice am ms.length cm) starts la lc (findM p) (2 ^ looksN p) wa wc ta tc fa fcap (newM p (2 ^ looksN p) ms) [])) :
    Ret Tryd.prog 61 [ptr xb] w1 fun u w' => match r with
      | none => u = .tuple #[.slice none 0 0, .slice none 0 0, .bool false] ∧ Hp w1 w' []
      | some (stem, loop) => ∃ sa sc pa pc, u = .tuple #[.slice sa stem.length sc, .slice pa loop.length pc, .bool true] ∧ Hp w1 w' [Rna (.slice pa loop.length pc) loop.length loop, Rna (.slice sa stem.length sc) stem.length stem] := by
  unfold srchM at hM
  obtain ⟨r0, hr0, rfl⟩ := Option.map_eq_some_iff.1 hM
  have hpw : 2 ^ looksN p ≤ 4096 := Nat.pow_le_pow_right (n := 2) (by decide) hlk
  have hlen : (newM p (2 ^ looksN p) ms).length = vs.length * 2 ^ looksN p := by rw [newM_len, hok.ml]
  have hbd := newM_bd (pairs := 2 ^ looksN p) (ms := ms) (p := p) (by omega)
  have hfl := findM_len p hwf
  have hrl : (rsOf vs).length = vs.length := by simp [rsOf]
  have hx0 := hp.obj 0 rfl
  rw [hfl] at hx0
  have := run_any (starts := starts) xb an cn (rsOf vs) (.slice am ms.length cm) la (looksN p) lc (2 ^ looksN p) (newM p (2 ^ looksN p) ms).length wa wc ((newM p (2 ^ looksN p) ms).map (fun e : Bool × Gs => e.2.2.1)) ta tc ((newM p (2 ^ looksN p) ms).map (fun e : Bool × Gs => e.1)) fa fcap ((newM p (2 ^ looksN p) ms).map (fun e : Bool × Gs => e.2.2.2)) w1
    (by rw [hrl]; exact hx0) (stc_tbl hst hok.nn) (Sl.of_row (hp.at 2 rfl)) (Sl.of_row (hp.at 1 rfl)) (Sl.of_row (hp.at 3 rfl))
    (Nat.two_pow_pos _) (by simp) (by simp) (by simp) (by rw [hrl]; exact hlen) (fun x hx => by
      obtain ⟨y, hy, rfl⟩ := List.mem_map.1 hx
      show (y.2.2.map Int.toNat).length ≤ 16
      rw [List.length_map]; exact hok.len y hy) (by rw [hrl]; exact hok.hi) hpw rfl
    (fun x hx => by obtain ⟨e, he, rfl⟩ := List.mem_map.1 hx; exact (hbd e he).1) (fun x hx => by obtain ⟨e, he, rfl⟩ := List.mem_map.1 hx; exact (hbd e he).2) (by rw [hrl]; exact hss) F G hF hG r0 (by rw [rsN_of]; exact hr0)
  refine Ret.mono this ?_
  rintro u w' hu
  cases r0 with
  | none => exact hu
  | some q =>
    obtain ⟨stem, loop⟩ := q
    obtain ⟨sa, sc, pa, pc, rfl, hp2⟩ := hu
    exact ⟨sa, sc, pa, pc, by simp, by simpa using hp2⟩
/-- What a search's answer looks like as a result. -/
def ResR (r : Option (List Nat × List Nat)) (w : World) (u : Value) (w' : World) : Prop := match r with
  | none => u = .agg #[.bool true, .slice none 0 0, .slice none 0 0] ∧ Hp w w' []
  | some (stem, loop) => ∃ sa sc pa pc, u = .agg #[.bool false, .slice sa stem.length sc, .slice pa loop.length pc] ∧ Hp w w' [Rna (.slice pa loop.length pc) loop.length loop, Rna (.slice sa stem.length sc) stem.length stem]
theorem refute_any (an : Option Addr) (cn : Nat) (am : Option Addr) (cm : Nat) (vs : Vs) (ms : List Int) (hok : StrOk vs ms) (f : Fm) (hwf : wfF f) (hsz : sizeF f ≤ 12) (F G : Nat) (hF : F ≤ 1099511627776) (hG : G ≤ 1048576) (r : Option (List Nat × List Nat))
    (hM : srchM F G (nxOf vs) ms (pushM f true) 1 = some r) (w : World) (hGl : Gl w) (hst : Stc w an am vs ms) :
    Ret Tryd.prog 57 [stV an cn am cm vs ms, fmV f] w fun u w' => ResR r w u w' := by
  have hml := hok.ml
  have hhi := hok.hi
  refine enter Tryd.func57 rfl rfl ⟨rfl, rfl⟩ rfl ?_
  repeat (first | refine WC.seq ?_ | refine WC.reg ?_ | refine WL.pure rfl rfl rfl ?_ | refine WL.nil ?_ | refine WC.skip ?_ | refine WC.block ?_ | refine WC.condT rfl ?_ | refine WC.condF rfl ?_ | refine WL.off rfl rfl rfl ?_ | refine WL.off0 rfl rfl ?_ | refine WC.exit ?_ | refine blk_hit ?_ | refine blk_miss rfl ?_ | refine WC.ret ?_)
  refine WL.box rfl rfl rfl (fun b w1 h1 => ?_)
  have hp1 : Hp w w1 [Sb b an cn am cm vs ms] := (Hp.start w).new h1
  refine WL.alloc rfl rfl rfl (fun b4 w2 h2 => ?_)
  have hp2 := hp1.new h2
  repeat (first | refine WC.seq ?_ | refine WC.reg ?_ | refine WL.pure rfl rfl rfl ?_ | refine WL.nil ?_ | refine WC.skip ?_ | refine WC.block ?_ | refine WC.condT rfl ?_ | refine WC.condF rfl ?_ | refine WL.off rfl rfl rfl ?_ | refine WL.off0 rfl rfl ?_ | refine WC.exit ?_ | refine blk_hit ?_ | refine blk_miss rfl ?_ | refine WC.ret ?_)
  refine WC.mid (Value × Value × Bool) (fun (s, l, o) => [(4, ptr b4), (5, s), (6, l), (7, .bool o)])
    (fun (s, l, o) w' => match r with
      | none => s = .slice none 0 0 ∧ l = .slice none 0 0 ∧ o = false ∧ Hp w w' [.blk b4 (.cells ti48.zero.cells 48 (0, 0))]
      | some (stem, loop) => ∃ sa sc pa pc, s = .slice sa stem.length sc ∧ l = .slice pa loop.length pc ∧ o = true ∧ Hp w w' [.blk b4 (.cells ti48.zero.cells 48 (0, 0)), Rna (.slice pa loop.length pc) loop.length loop, Rna (.slice sa stem.length sc) stem.length stem]) ?_ ?_
  · refine WC.regH (fun w' => Hp w w' [Sb b an cn am cm vs ms]) mixed (by kernel_rfl) (fun w3 hw3 hh3 => ?_)
    have hp3 := hp2.keep hw3
    have hS := hp3.pick [1] (by decide)
    refine WH.take 0 (by kernel_rfl) rfl (by kernel_rfl) rfl rfl (fun w' h => run_loadN (cs := [.slice an vs.length cn, .slice am ms.length cm]) rfl rfl rfl rfl (fun q v hq => by rw [Addr.add_lit]; exact cell_of_obj (h.obj 0 rfl) (by rw [Nat.zero_add]; simpa using hq))) hS ?_
    refine WH.pure 1 (by kernel_rfl) rfl (by kernel_rfl) rfl rfl rfl (hS) ?_
    refine WH.one 2 rfl (by kernel_rfl) ?_
    refine WL.call rfl rfl rfl rfl rfl ent53 (push_any f true w3 (hGl.hp hp3)) ?_
    rintro _ w4 ⟨rfl, hp4⟩
    have hp4 := hp3.comb hp4
    refine WL.nil ⟨hp4.pick [1] (by decide), ?_⟩
    refine WH.one 3 rfl (by kernel_rfl) ?_
    refine WL.call rfl rfl rfl rfl rfl ent60 (newSearch_any an cn am cm vs ms (by omega) hok.mkk (pushM f true) (pushM_wf f true hwf) (Nat.le_trans (pushM_looks f true) hsz) 1 w4 (hst.hp hp4).mks) ?_
    rintro _ w5 ⟨xb, la, lc, wa, wc, ta, tc, fa, fcap, rfl, hp5⟩
    have hp6 := hp4.call hp5.below
    refine WL.nil ⟨hp6.pick [1] (by decide), ?_⟩
    refine WH.one 4 rfl (by kernel_rfl) ?_
    refine WL.call rfl rfl rfl rfl rfl ent61 (srch_any hok an cn am cm (pushM f true) (pushM_wf f true hwf) (Nat.le_trans (pushM_looks f true) hsz) 1 hok.lo F G hF hG r hM xb la lc wa wc ta tc fa fcap w5 (hst.hp hp6) hp5) ?_
    rintro u w6 hu
    cases r with
    | none =>
      obtain ⟨rfl, hp7⟩ := hu
      have hp8 := hp6.call hp7.below
      have hS := hp8.pick [1] (by decide)
      refine WL.nil ⟨hS, ?_⟩
      refine WH.pure 5 (by kernel_rfl) rfl (by kernel_rfl) rfl rfl rfl (hS) ?_
      refine WH.pure 6 (by kernel_rfl) rfl (by kernel_rfl) rfl rfl rfl (hS) ?_
      refine WH.pure 7 (by kernel_rfl) rfl (by kernel_rfl) rfl rfl rfl (hS) ?_
      refine WH.pure 8 (by kernel_rfl) rfl (by kernel_rfl) rfl rfl rfl (hS) ?_
      refine WH.pure 9 (by kernel_rfl) rfl (by kernel_rfl) rfl rfl rfl (hS) ?_
      refine WH.pure 10 (by kernel_rfl) rfl (by kernel_rfl) rfl rfl rfl (hS) ?_
      refine WH.pure 11 (by kernel_rfl) rfl (by kernel_rfl) rfl rfl rfl (hS) ?_
      refine WH.done (by kernel_rfl) ?_
      exact ⟨(.slice none 0 0, .slice none 0 0, false), ⟨rfl, rfl, rfl, rfl, rfl⟩, rfl, rfl, rfl, hp8.pick [0] (by decide)⟩
    | some q =>
      obtain ⟨stem, loop⟩ := q
      obtain ⟨sa, sc, pa, pc, rfl, hp7⟩ := hu
      have hp8 := hp6.comb hp7
      have hS := hp8.pick [3] (by decide)
      refine WL.nil ⟨hS, ?_⟩
      refine WH.pure 5 (by kernel_rfl) rfl (by kernel_rfl) rfl rfl rfl (hS) ?_
      refine WH.pure 6 (by kernel_rfl) rfl (by kernel_rfl) rfl rfl rfl (hS) ?_
      refine WH.pure 7 (by kernel_rfl) rfl (by kernel_rfl) rfl rfl rfl (hS) ?_
      refine WH.pure 8 (by kernel_rfl) rfl (by kernel_rfl) rfl rfl rfl (hS) ?_
      refine WH.pure 9 (by kernel_rfl) rfl (by kernel_rfl) rfl rfl rfl (hS) ?_
      refine WH.pure 10 (by kernel_rfl) rfl (by kernel_rfl) rfl rfl rfl (hS) ?_
      refine WH.pure 11 (by kernel_rfl) rfl (by kernel_rfl) rfl rfl rfl (hS) ?_
      refine WH.done (by kernel_rfl) ?_
      exact ⟨(.slice sa stem.length sc, .slice pa loop.length pc, true), ⟨rfl, rfl, rfl, rfl, rfl⟩, sa, sc, pa, pc, rfl, rfl, rfl, hp8.pick [2, 0, 1] (by decide)⟩
  · rintro ⟨s, l, o⟩ e3 w3 hsub hq
    refine WC.sub hsub ?_
    cases r with
    | none =>
      obtain ⟨rfl, rfl, rfl, hp3⟩ := hq
      repeat (first | refine WC.seq ?_ | refine WC.reg ?_ | refine WL.pure rfl rfl rfl ?_ | refine WL.nil ?_ | refine WC.skip ?_ | refine WC.block ?_ | refine WC.condT rfl ?_ | refine WC.condF rfl ?_ | refine WL.off rfl rfl rfl ?_ | refine WL.off0 rfl rfl ?_ | refine WC.exit ?_ | refine blk_hit ?_ | refine blk_miss rfl ?_ | refine WC.ret ?_)
      refine WL.buildT (cs := [.bool true, .slice none 0 0, .slice none 0 0]) rfl rfl rfl rfl rfl rfl ?_
      refine WL.storeN rfl rfl rfl rfl rfl (by simp [Value.oneCell']) (hp3.obj 0 rfl) (Nat.le_refl _) rfl (fun w4 h4 => ?_)
      have hp4 := hp3.set 0 rfl rfl h4
      repeat (first | refine WC.seq ?_ | refine WC.reg ?_ | refine WL.pure rfl rfl rfl ?_ | refine WL.nil ?_ | refine WC.skip ?_ | refine WC.block ?_ | refine WC.condT rfl ?_ | refine WC.condF rfl ?_ | refine WL.off rfl rfl rfl ?_ | refine WL.off0 rfl rfl ?_ | refine WC.exit ?_ | refine blk_hit ?_ | refine blk_miss rfl ?_ | refine WC.ret ?_)
      exact Res.cell rfl rfl rfl rfl rfl rfl (hp4.obj 0 rfl) ⟨rfl, hp4.nil'⟩
    | some q =>
      obtain ⟨stem, loop⟩ := q
      obtain ⟨sa, sc, pa, pc, rfl, rfl, rfl, hp3⟩ := hq
      repeat (first | refine WC.seq ?_ | refine WC.reg ?_ | refine WL.pure rfl rfl rfl ?_ | refine WL.nil ?_ | refine WC.skip ?_ | refine WC.block ?_ | refine WC.condT rfl ?_ | refine WC.condF rfl ?_ | refine WL.off rfl rfl rfl ?_ | refine WL.off0 rfl rfl ?_ | refine WC.exit ?_ | refine blk_hit ?_ | refine blk_miss rfl ?_ | refine WC.ret ?_)
      refine WL.buildT (cs := [.bool false, .slice sa stem.length sc, .slice pa loop.length pc]) rfl rfl rfl rfl rfl rfl ?_
      refine WL.storeN rfl rfl rfl rfl rfl (by simp [Value.oneCell']) (hp3.obj 0 rfl) (Nat.le_refl _) rfl (fun w4 h4 => ?_)
      have hp4 := hp3.set 0 rfl rfl h4
      repeat (first | refine WC.seq ?_ | refine WC.reg ?_ | refine WL.pure rfl rfl rfl ?_ | refine WL.nil ?_ | refine WC.skip ?_ | refine WC.block ?_ | refine WC.condT rfl ?_ | refine WC.condF rfl ?_ | refine WL.off rfl rfl rfl ?_ | refine WL.off0 rfl rfl ?_ | refine WC.exit ?_ | refine blk_hit ?_ | refine blk_miss rfl ?_ | refine WC.ret ?_)
      exact Res.cell rfl rfl rfl rfl rfl rfl (hp4.obj 0 rfl) ⟨sa, sc, pa, pc, rfl, hp4.tail⟩
/-- What Holds answers. -/
def HoldsR (F G : Nat) (vs : Vs) (ms : List Int) (s : Str) (w : World) (v : Value) (w' : World) : Prop :=
  if strB vs ms then match parseM s with
    | none => v = .tuple #[.agg #[.bool false, .slice none 0 0, .slice none 0 0], .int .i64 4] ∧ Hp w w' []
    | some f => ∃ r u, srchM F G (nxOf vs) ms (pushM f true) 1 = some r ∧ v = .tuple #[u, .int .i64 0] ∧ ResR r w u w'
  else v = .tuple #[.agg #[.bool false, .slice none 0 0, .slice none 0 0], .int .i64 2] ∧ Hp w w' []
theorem Holds_any (an : Option Addr) (cn : Nat) (am : Option Addr) (cm : Nat) (vs : Vs) (ms : List Int) (hms : ms.length ≤ 1000000) (hvs : ∀ x ∈ vs, x.2.2.length ≤ 1000000) (s : Str) (hs : s.length ≤ 1000) (F G : Nat) (hF : F ≤ 1099511627776) (hG : G ≤ 1048576)
    (hM : StrOk vs ms → ∀ f, parseM s = some f → (srchM F G (nxOf vs) ms (pushM f true) 1).isSome = true) (w : World) (hGl : Gl w) (hst : Stc w an am vs ms) :
    Ret Tryd.prog 26 [stV an cn am cm vs ms, st s] w fun v w' => HoldsR F G vs ms s w v w' := by
  refine enter Tryd.func26 rfl rfl ⟨rfl, rfl⟩ rfl ?_
  repeat (first | refine WC.seq ?_ | refine WC.reg ?_ | refine WL.pure rfl rfl rfl ?_ | refine WL.nil ?_ | refine WC.skip ?_ | refine WC.block ?_ | refine WC.condT rfl ?_ | refine WC.condF rfl ?_ | refine WL.off rfl rfl rfl ?_ | refine WL.off0 rfl rfl ?_ | refine WC.exit ?_ | refine blk_hit ?_ | refine blk_miss rfl ?_ | refine WC.ret ?_)
  refine WL.box rfl rfl rfl (fun b w1 h1 => ?_)
  have hp1 : Hp w w1 [Sb b an cn am cm vs ms] := (Hp.start w).new h1
  refine WL.alloc rfl rfl rfl (fun b4 w2 h2 => ?_)
  have hp2 := hp1.new h2
  repeat (first | refine WC.seq ?_ | refine WC.reg ?_ | refine WL.pure rfl rfl rfl ?_ | refine WL.nil ?_ | refine WC.skip ?_ | refine WC.block ?_ | refine WC.condT rfl ?_ | refine WC.condF rfl ?_ | refine WL.off rfl rfl rfl ?_ | refine WL.off0 rfl rfl ?_ | refine WC.exit ?_ | refine blk_hit ?_ | refine blk_miss rfl ?_ | refine WC.ret ?_)
  refine WL.loadN rfl rfl rfl rfl rfl (cs := [.slice an vs.length cn, .slice am ms.length cm]) rfl (fun q v hq => cell_of_obj (hp2.obj 1 rfl) (by rw [Nat.zero_add]; simpa using hq)) ?_
  refine WL.call rfl rfl rfl rfl rfl ent56 (isStructure_any an cn am cm vs ms hms hvs w2 (hst.hp hp2)) ?_
  rintro _ w3 ⟨rfl, hp3⟩
  have hp3 := hp2.comb hp3
  cases hsb : strB vs ms with
  | false =>
    repeat (first | refine WC.seq ?_ | refine WC.reg ?_ | refine WL.pure rfl rfl rfl ?_ | refine WL.nil ?_ | refine WC.skip ?_ | refine WC.block ?_ | refine WC.condT rfl ?_ | refine WC.condF rfl ?_ | refine WL.off rfl rfl rfl ?_ | refine WL.off0 rfl rfl ?_ | refine WC.exit ?_ | refine blk_hit ?_ | refine blk_miss rfl ?_ | refine WC.ret ?_)
    refine WL.buildT (cs := [.bool false, .slice none 0 0, .slice none 0 0]) rfl rfl rfl rfl rfl rfl ?_
    refine WL.storeN rfl rfl rfl rfl rfl (by simp [Value.oneCell']) (hp3.obj 0 rfl) (Nat.le_refl _) rfl (fun w4 h4 => ?_)
    have hp4 := hp3.set 0 rfl rfl h4
    repeat (first | refine WC.seq ?_ | refine WC.reg ?_ | refine WL.pure rfl rfl rfl ?_ | refine WL.nil ?_ | refine WC.skip ?_ | refine WC.block ?_ | refine WC.condT rfl ?_ | refine WC.condF rfl ?_ | refine WL.off rfl rfl rfl ?_ | refine WL.off0 rfl rfl ?_ | refine WC.exit ?_ | refine blk_hit ?_ | refine blk_miss rfl ?_ | refine WC.ret ?_)
    exact Res.cellT rfl rfl rfl rfl rfl rfl rfl (hp4.obj 0 rfl) (by unfold HoldsR; rw [hsb, if_neg (by decide)]; exact ⟨rfl, hp4.nil'⟩)
  | true =>
    have hok := strB_ok hsb
    repeat (first | refine WC.seq ?_ | refine WC.reg ?_ | refine WL.pure rfl rfl rfl ?_ | refine WL.nil ?_ | refine WC.skip ?_ | refine WC.block ?_ | refine WC.condT rfl ?_ | refine WC.condF rfl ?_ | refine WL.off rfl rfl rfl ?_ | refine WL.off0 rfl rfl ?_ | refine WC.exit ?_ | refine blk_hit ?_ | refine blk_miss rfl ?_ | refine WC.ret ?_)
    refine WL.call rfl rfl rfl rfl rfl ent48 (parse_any s hs w3 (hGl.hp hp3)) ?_
    rintro v w4 ⟨⟨f, hf, rfl⟩ | ⟨hf, x, rfl⟩, hp4⟩
    · have hp5 := hp3.comb hp4
      obtain ⟨r, hr⟩ := Option.isSome_iff_exists.1 (hM hok f hf)
      repeat (first | refine WC.seq ?_ | refine WC.reg ?_ | refine WL.pure rfl rfl rfl ?_ | refine WL.nil ?_ | refine WC.skip ?_ | refine WC.block ?_ | refine WC.condT rfl ?_ | refine WC.condF rfl ?_ | refine WL.off rfl rfl rfl ?_ | refine WL.off0 rfl rfl ?_ | refine WC.exit ?_ | refine blk_hit ?_ | refine blk_miss rfl ?_ | refine WC.ret ?_)
      refine WL.loadN rfl rfl rfl rfl rfl (cs := [.slice an vs.length cn, .slice am ms.length cm]) rfl (fun q v hq => cell_of_obj (hp5.obj 1 rfl) (by rw [Nat.zero_add]; simpa using hq)) ?_
      repeat (first | refine WC.seq ?_ | refine WC.reg ?_ | refine WL.pure rfl rfl rfl ?_ | refine WL.nil ?_ | refine WC.skip ?_ | refine WC.block ?_ | refine WC.condT rfl ?_ | refine WC.condF rfl ?_ | refine WL.off rfl rfl rfl ?_ | refine WL.off0 rfl rfl ?_ | refine WC.exit ?_ | refine blk_hit ?_ | refine blk_miss rfl ?_ | refine WC.ret ?_)
      refine WL.call rfl rfl rfl rfl rfl ent57 (refute_any an cn am cm vs ms hok f (parseM_wf hf) (parseM_sz hf).2 F G hF hG r hr w4 (hGl.hp hp5) (hst.hp hp5)) ?_
      rintro u w5 hu
      cases r with
      | none =>
        obtain ⟨rfl, hp6⟩ := hu
        have hp7 := hp5.comb hp6
        refine WL.storeN rfl rfl rfl rfl rfl (by simp [Value.oneCell']) (hp7.obj 0 rfl) (Nat.le_refl _) rfl (fun w6 h6 => ?_)
        have hp8 := hp7.set 0 rfl rfl h6
        repeat (first | refine WC.seq ?_ | refine WC.reg ?_ | refine WL.pure rfl rfl rfl ?_ | refine WL.nil ?_ | refine WC.skip ?_ | refine WC.block ?_ | refine WC.condT rfl ?_ | refine WC.condF rfl ?_ | refine WL.off rfl rfl rfl ?_ | refine WL.off0 rfl rfl ?_ | refine WC.exit ?_ | refine blk_hit ?_ | refine blk_miss rfl ?_ | refine WC.ret ?_)
        exact Res.cellT rfl rfl rfl rfl rfl rfl rfl (hp8.obj 0 rfl) (by unfold HoldsR; rw [hsb, if_pos rfl, hf]; exact ⟨none, _, hr, rfl, rfl, hp8.nil'⟩)
      | some q =>
        obtain ⟨stem, loop⟩ := q
        obtain ⟨sa, sc, pa, pc, rfl, hp6⟩ := hu
        have hp7 := hp5.comb hp6
        refine WL.storeN rfl rfl rfl rfl rfl (by simp [Value.oneCell']) (hp7.obj 2 rfl) (Nat.le_refl _) rfl (fun w6 h6 => ?_)
        have hp8 := hp7.set 2 rfl rfl h6
        repeat (first | refine WC.seq ?_ | refine WC.reg ?_ | refine WL.pure rfl rfl rfl ?_ | refine WL.nil ?_ | refine WC.skip ?_ | refine WC.block ?_ | refine WC.condT rfl ?_ | refine WC.condF rfl ?_ | refine WL.off rfl rfl rfl ?_ | refine WL.off0 rfl rfl ?_ | refine WC.exit ?_ | refine blk_hit ?_ | refine blk_miss rfl ?_ | refine WC.ret ?_)
        exact Res.cellT rfl rfl rfl rfl rfl rfl rfl (hp8.obj 2 rfl) (by unfold HoldsR; rw [hsb, if_pos rfl, hf]; exact ⟨some (stem, loop), _, hr, rfl, sa, sc, pa, pc, rfl, hp8.pick [0, 1] (by decide)⟩)
    · have hp5 := hp3.comb hp4
      repeat (first | refine WC.seq ?_ | refine WC.reg ?_ | refine WL.pure rfl rfl rfl ?_ | refine WL.nil ?_ | refine WC.skip ?_ | refine WC.block ?_ | refine WC.condT rfl ?_ | refine WC.condF rfl ?_ | refine WL.off rfl rfl rfl ?_ | refine WL.off0 rfl rfl ?_ | refine WC.exit ?_ | refine blk_hit ?_ | refine blk_miss rfl ?_ | refine WC.ret ?_)
      refine WL.buildT (cs := [.bool false, .slice none 0 0, .slice none 0 0]) rfl rfl rfl rfl rfl rfl ?_
      refine WL.pure rfl rfl rfl ?_
      refine WL.storeN rfl rfl rfl rfl rfl (by simp [Value.oneCell']) (hp5.obj 0 rfl) (Nat.le_refl _) rfl (fun w6 h6 => ?_)
      have hp6 := hp5.set 0 rfl rfl h6
      repeat (first | refine WC.seq ?_ | refine WC.reg ?_ | refine WL.pure rfl rfl rfl ?_ | refine WL.nil ?_ | refine WC.skip ?_ | refine WC.block ?_ | refine WC.condT rfl ?_ | refine WC.condF rfl ?_ | refine WL.off rfl rfl rfl ?_ | refine WL.off0 rfl rfl ?_ | refine WC.exit ?_ | refine blk_hit ?_ | refine blk_miss rfl ?_ | refine WC.ret ?_)
      exact Res.cellT rfl rfl rfl rfl rfl rfl rfl (hp6.obj 0 rfl) (by unfold HoldsR; rw [hsb, if_pos rfl, hf]; exact ⟨rfl, hp6.nil'⟩)
end Go.Proofs.YtpbbneclkhfgoaaDoor
end
section
/- The search is right: a lasso that satisfies the formula and is not too long, or no run satisfies it. -/
namespace Go.Ltl
open Go.W
theorem again {N : Nat} (τ : Nat → Nat) (h : ∀ i, τ i < N) : ∃ v, ∀ i, ∃ j, i ≤ j ∧ τ j = v := by
  refine Classical.byContradiction fun hn => ?_
  have h1 : ∀ v, ∃ i, ∀ j, i ≤ j → τ j ≠ v := fun v => Classical.byContradiction fun hv => hn ⟨v, fun i => Classical.byContradiction fun hi => hv ⟨i, fun j hj he => hi ⟨j, hj, he⟩⟩⟩
  have h2 : ∀ n, ∃ i, ∀ j, i ≤ j → n ≤ τ j := by
    intro n
    induction n with
    | zero => exact ⟨0, fun _ _ => Nat.zero_le _⟩
    | succ n ih =>
      obtain ⟨a, ha⟩ := ih
      obtain ⟨b, hb⟩ := h1 n
      refine ⟨a + b, fun j hj => ?_⟩
      have := ha j (by omega)
      have := hb j (by omega)
      omega
  obtain ⟨i, hi⟩ := h2 N
  have := hi i (Nat.le_refl _)
  have := h i
  omega
theorem seq_map {ms : List Int} {l : List Nat} {lp : Nat} (h : lp < l.length) (i : Nat) : seqL (l.map fun v => ms.getD v 0) lp i = ms.getD (l.getD (pos l.length lp i) 0) 0 := by
  unfold seqL
  rw [List.length_map, List.getD_eq_getElem?_getD (l := l.map _), List.getElem?_map, List.getD_eq_getElem?_getD (l := l), List.getElem?_eq_getElem (pos_lt h i)]
  rfl
structure SrOk (nx : List (List Nat)) (ms : List Int) (starts : Nat) : Prop where
  len : nx.length = ms.length
  hi : nx.length ≤ 16
  row : ∀ r ∈ nx, r.length ≤ 16 ∧ ∀ u ∈ r, u < nx.length
  st : starts ≤ nx.length
/-- An endless run. -/
def RunS (nx : List (List Nat)) (starts : Nat) (τ : Nat → Nat) : Prop := τ 0 < starts ∧ ∀ i, τ (i + 1) ∈ nx.getD (τ i) []
theorem getD_row {nx : List (List Nat)} {v u : Nat} (h : u ∈ nx.getD v []) : v < nx.length ∧ nx.getD v [] ∈ nx := by
  by_cases hv : v < nx.length
  · exact ⟨hv, by rw [List.getD_eq_getElem?_getD, List.getElem?_eq_getElem hv]; exact List.getElem_mem hv⟩
  · rw [List.getD_eq_getElem?_getD, List.getElem?_eq_none (by omega)] at h; cases h
theorem degS_le {nx : List (List Nat)} {m : Nat} (h : ∀ r ∈ nx, r.length ≤ m) : degS nx ≤ nx.length * m := by
  unfold degS
  induction nx with
  | nil => exact Nat.zero_le _
  | cons a l ih =>
    rw [List.map_cons, List.sum_cons, List.length_cons, Nat.succ_mul]
    have := ih (fun r hr => h r (List.mem_cons_of_mem _ hr))
    have := h a (by simp)
    omega
theorem cntF_range (q : Nat → Bool) : ∀ t, cntF (fun b => !q b) t = ((List.range t).filter q).length := by
  intro t
  induction t with
  | zero => rfl
  | succ t ih =>
    unfold cntF
    rw [ih, List.range_succ, List.filter_append, List.length_append, List.filter_cons, List.filter_nil]
    cases q t <;> rfl
theorem cntF_mono {A B : Nat → Bool} : ∀ t, (∀ b, b < t → B b = true → A b = true) → cntF A t ≤ cntF B t := by
  intro t
  induction t with
  | zero => intro _; exact Nat.le_refl _
  | succ t ih =>
    intro h
    have h1 := ih (fun b hb => h b (by omega))
    have h2 := h t (Nat.lt_succ_self t)
    unfold cntF
    cases hB : B t with
    | true => rw [h2 hB]; simp only [if_true]; omega
    | false => simp; split <;> omega
theorem mod_bit {v t b : Nat} (h : b < t) : (v % 2 ^ t).testBit b = v.testBit b := by
  rw [Nat.testBit_mod_two_pow, decide_eq_true h, Bool.true_and]
section
variable {nx : List (List Nat)} {ms : List Int} {p : Fm}
abbrev wantM (p : Fm) (ms : List Int) : List Nat := (newM p (2 ^ looksN p) ms).map (·.2.2.1)
abbrev fairM (p : Fm) (ms : List Int) : List Nat := (newM p (2 ^ looksN p) ms).map (·.2.2.2)
abbrev truthM (p : Fm) (ms : List Int) : List Bool := (newM p (2 ^ looksN p) ms).map (·.1)
abbrev grM (nx : List (List Nat)) (p : Fm) (ms : List Int) : List (List Nat) := graphM nx (2 ^ looksN p) (wantM p ms)
theorem wantM_len : (wantM p ms).length = ms.length * 2 ^ looksN p := by rw [List.length_map, newM_len]
theorem grM_len : (grM nx p ms).length = ms.length * 2 ^ looksN p := by rw [graph_len, wantM_len]
theorem grM_row : ∀ v, ∀ u ∈ (grM nx p ms).getD v [], u < (grM nx p ms).length := by
  intro v u hu
  have hv := (getD_row hu).1
  rw [grM_len, ← wantM_len] at hv
  rw [grM_len, ← wantM_len]
  exact ((graph_edge hv).1 hu).1
/-- An edge tells the guess. -/
theorem gr_edge {v u : Nat} (h : u ∈ (grM nx p ms).getD v []) (b : Nat) : lkF (ms.getD (u / 2 ^ looksN p) 0) (u % 2 ^ looksN p) p 0 b = (v % 2 ^ looksN p).testBit b := by
  have hv := (getD_row h).1
  rw [grM_len, ← wantM_len] at hv
  obtain ⟨h1, _, h3⟩ := (graph_edge hv).1 h
  rw [wantM_len] at h1
  rw [map_at (newM_num p ms (Nat.two_pow_pos _) h1)] at h3
  rw [← h3]
  exact ((gval_say _ _ p).2.1 b).symm
theorem rch_al (hwf : wfF p) {v x b : Nat} (hk : (kinds p)[b]? = some wAlways) (h : Rch (grM nx p ms) v x) (hv : v.testBit b = true) : x.testBit b = true := by
  have hb := kinds_lt hk
  induction h with
  | refl => exact hv
  | tail _ h2 ih =>
    have e := gr_edge h2 b
    rw [mod_bit hb, ih] at e
    have := (kinds_say _ _ p 0 b hwf).1 hk (by rw [Nat.zero_add]; exact e)
    rwa [Nat.zero_add, mod_bit hb] at this
theorem rch_fi (hwf : wfF p) {v x b : Nat} (hk : (kinds p)[b]? = some wFinally) (h : Rch (grM nx p ms) v x) (hv : x.testBit b = true) : v.testBit b = true := by
  have hb := kinds_lt hk
  induction h with
  | refl => exact hv
  | tail _ h2 ih =>
    rename_i y z _
    have e := gr_edge h2 b
    have := (kinds_say (ms.getD (z / 2 ^ looksN p) 0) (z % 2 ^ looksN p) p 0 b hwf).2.1 hk (by rw [Nat.zero_add, mod_bit hb]; exact hv)
    rw [Nat.zero_add, e, mod_bit hb] at this
    exact ih this
/-- A component is small. -/
theorem comp_len (hwf : wfF p) (hms : ms.length ≤ 16) (v0 : Nat) (l : List Nat) (hl : l.Nodup) (h : ∀ v ∈ l, v < (grM nx p ms).length ∧ Rch (grM nx p ms) v0 v ∧ Rch (grM nx p ms) v v0) : l.length ≤ 2 ^ (((kinds p).filter fun w => !isAF w).length + 4) := by
  have hA : ∀ b : Nat, ((kinds p)[b]?.map isAF).getD false = true → (kinds p)[b]? = some wAlways ∨ (kinds p)[b]? = some wFinally := by
    intro b hb
    cases hk : (kinds p)[b]? with
    | none => simp [hk] at hb
    | some w =>
      simp only [hk, Option.map_some, Option.getD_some, isAF, Bool.or_eq_true, decide_eq_true_eq] at hb
      rcases hb with rfl | rfl
      · exact .inl rfl
      · exact .inr rfl
  have h1 := agree_len (fun b : Nat => ((kinds p)[b]?.map isAF).getD false) (looksN p + 4) l hl (fun x hx => by
    have := (h x hx).1
    rw [grM_len] at this
    have h2 : ms.length * 2 ^ looksN p ≤ 16 * 2 ^ looksN p := Nat.mul_le_mul_right _ hms
    rw [Nat.pow_add, Nat.mul_comm]
    omega) (fun x hx y hy b _ hb => by
    obtain ⟨_, x1, x2⟩ := h x hx
    obtain ⟨_, y1, y2⟩ := h y hy
    have e : x.testBit b = true ↔ y.testBit b = true := by
      rcases hA b hb with hk | hk
      · exact ⟨rch_al hwf hk (x2.trans y1), rch_al hwf hk (y2.trans x1)⟩
      · exact ⟨rch_fi hwf hk (y2.trans x1), rch_fi hwf hk (x2.trans y1)⟩
    cases hx : x.testBit b <;> cases hy : y.testBit b <;> simp_all)
  have h2 := cntF_more (fun b : Nat => ((kinds p)[b]?.map isAF).getD false) (looksN p) 4
  have h3 := cntF_list (kinds p) isAF (looksN p) (by rw [kinds_len]; exact Nat.le_refl _)
  rw [← kinds_len, List.take_length] at h3
  rw [← kinds_len] at h1 h2
  exact Nat.le_trans h1 (Nat.pow_le_pow_right (by decide) (by rw [← h3]; exact h2))
theorem miss_le (hwf : wfF p) {v : Nat} (hv : v < (grM nx p ms).length) : missB (looksN p) ((fairM p ms).getD v 0) ≤ ((kinds p).filter fun w => decide (w ≠ wNext)).length := by
  rw [grM_len] at hv
  unfold missB fairM
  rw [map_at (newM_num p ms (Nat.two_pow_pos _) hv), ← cntF_range]
  have h3 := cntF_list (kinds p) (fun w => decide (w = wNext)) (looksN p) (by rw [kinds_len]; exact Nat.le_refl _)
  rw [← kinds_len, List.take_length] at h3
  have e : (fun w : Str => !decide (w = wNext)) = fun w => decide (w ≠ wNext) := by funext w; rw [decide_not]
  rw [e] at h3
  rw [← h3, kinds_len]
  refine cntF_mono _ fun b hb hB => ?_
  rw [Bool.not_not, (gval_say _ _ p).2.2.1]
  cases hk : (kinds p)[b]? with
  | none => simp [hk] at hB
  | some w =>
    simp only [hk, Option.map_some, Option.getD_some, decide_eq_true_eq] at hB
    subst hB
    have := (kinds_say (ms.getD (v / 2 ^ looksN p) 0) (v % 2 ^ looksN p) p 0 b hwf).2.2 hk
    rwa [Nat.zero_add] at this
end
/-- The search always answers, and rightly. -/
theorem srchM_ok {nx : List (List Nat)} {ms : List Int} {starts : Nat} {p : Fm} (h : SrOk nx ms starts) (hwf : wfF p) (hw : wgt (kinds p) ≤ 11) {F G : Nat} (hF : 1099511627776 ≤ F) (hG : 1048576 ≤ G) :
    (srchM F G nx ms p starts = some none ∧ ∀ τ, RunS nx starts τ → ¬ satS (fun i => ms.getD (τ i) 0) p 0) ∨
    ∃ stem loop, srchM F G nx ms p starts = some (some (stem, loop)) ∧ stem ≠ [] ∧ loop ≠ [] ∧ stem.length ≤ 32768 ∧ loop.length ≤ 32768 ∧
      RunS nx starts (fun i => (stem ++ loop).getD (pos (stem ++ loop).length stem.length i) 0) ∧ satS (seqL ((stem ++ loop).map fun v => ms.getD v 0) stem.length) p 0 := by
  have hlk : looksN p ≤ 11 := Nat.le_trans (looks_wgt p) hw
  have hpw : 2 ^ looksN p ≤ 2048 := Nat.pow_le_pow_right (n := 2) (by decide) hlk
  have hp0 : 0 < 2 ^ looksN p := Nat.two_pow_pos _
  have hml : ms.length ≤ 16 := by rw [← h.len]; exact h.hi
  have hN : (grM nx p ms).length = ms.length * 2 ^ looksN p := grM_len
  have hN2 : ms.length * 2 ^ looksN p ≤ 32768 := (Nat.mul_le_mul hml hpw : _ ≤ 16 * 2048)
  have hrow := grM_row (nx := nx) (p := p) (ms := ms)
  have hdeg : degS (grM nx p ms) ≤ (grM nx p ms).length * (16 * 32768) := degS_le fun r hr => by
    have := (graph_row (fun r hr => (h.row r hr).1) hr).2
    rw [wantM_len] at this
    omega
  have hdeg2 : (grM nx p ms).length * (16 * 32768) ≤ 32768 * (16 * 32768) := Nat.mul_le_mul_right _ (by rw [hN]; exact hN2)
  have hst : 2 ^ looksN p * starts ≤ ms.length * 2 ^ looksN p := by rw [Nat.mul_comm]; exact Nat.mul_le_mul_right _ (by rw [← h.len]; exact h.st)
  have hbegin : ∀ u ∈ beginM (2 ^ looksN p) starts (truthM p ms), u < (grM nx p ms).length := fun u hu => by
    have := List.mem_range.1 (List.mem_filter.1 hu).1
    rw [hN]; omega
  have hfair : ∀ x, x < (grM nx p ms).length → ∀ b, ((fairM p ms).getD x 0).testBit b = true → b < looksN p := fun x hx b hb => by
    rw [hN] at hx
    unfold fairM at hb
    rw [map_at (newM_num p ms hp0 hx)] at hb
    exact (gval_say _ _ p).2.2.2.2 b hb
  have hend : (((kinds p).filter fun w => decide (w ≠ wNext)).length + 1) * 2 ^ (((kinds p).filter fun w => !isAF w).length + 4) ≤ 32768 := by
    rw [wgt_split] at hw
    have h1 : ((kinds p).filter fun w => decide (w ≠ wNext)).length + 1 ≤ 2 ^ ((kinds p).filter fun w => decide (w ≠ wNext)).length := Nat.lt_two_pow_self
    refine Nat.le_trans (Nat.mul_le_mul_right _ h1) ?_
    rw [← Nat.pow_add]
    exact Nat.pow_le_pow_right (n := 2) (j := 15) (by decide) (by omega)
  unfold srchM
  rcases runM_ok (next := grM nx p ms) (F := F) (G := G) (pairs := 2 ^ looksN p) (starts := starts) (nl := looksN p) (truth := truthM p ms) (fair := fairM p ms) hrow (by omega) (by omega) (by omega) hbegin hfair
      (fun v0 l _ hl hv => comp_len hwf hml v0 l hl hv) (fun v hv => miss_le hwf hv) with ⟨h1, h2⟩ | ⟨stem, loop, h1, h2, h3, h4⟩
  · refine .inl ⟨by rw [h1]; rfl, fun τ hτ hs => ?_⟩
    have hτl : ∀ i, τ i < nx.length := fun i => (getD_row (hτ.2 i)).1
    have hβ : ∀ i, ∃ x : Nat, ∀ b, x.testBit b = true ↔ b < looksN p ∧ lkS (fun i => ms.getD (τ i) 0) p 0 b (i + 1) := fun i => numB _ _
    obtain ⟨β, hβ⟩ := Classical.axiomOfChoice hβ
    have hβl : ∀ i, β i < 2 ^ looksN p := fun i => Nat.lt_pow_two_of_testBit _ fun b hb => by
      cases hc : (β i).testBit b with
      | false => rfl
      | true => have := ((hβ i b).1 hc).1; omega
    have hS : SaysF (fun i => ms.getD (τ i) 0) β p 0 := fun i b _ h2 => by
      rw [hβ i b]
      exact ⟨fun h => h.2, fun h => ⟨by omega, h⟩⟩
    have hA := says_agree hS
    have hFr := says_fair p 0 hS
    obtain ⟨v, hv⟩ : ∃ v : Nat → Nat, ∀ i, v i = τ i * 2 ^ looksN p + β i := ⟨fun i => τ i * 2 ^ looksN p + β i, fun _ => rfl⟩
    have hvd : ∀ i, v i / 2 ^ looksN p = τ i := fun i => by
      rw [hv, Nat.mul_comm, Nat.mul_add_div hp0, Nat.div_eq_of_lt (hβl i), Nat.add_zero]
    have hvm : ∀ i, v i % 2 ^ looksN p = β i := fun i => by
      rw [hv, Nat.mul_comm, Nat.mul_add_mod, Nat.mod_eq_of_lt (hβl i)]
    have hvl : ∀ i, v i < ms.length * 2 ^ looksN p := fun i => (Nat.div_lt_iff_lt_mul hp0).1 (by rw [hvd, ← h.len]; exact hτl i)
    have hat := fun i => newM_num p ms hp0 (hvl i)
    simp only [hvd, hvm] at hat
    have hedge : ∀ i, v (i + 1) ∈ (grM nx p ms).getD (v i) [] := fun i => by
      refine (graph_edge (by rw [wantM_len]; exact hvl i)).2 ⟨by rw [wantM_len]; exact hvl (i + 1), by rw [hvd, hvd]; exact hτ.2 i, ?_⟩
      rw [hvm, map_at (hat (i + 1))]
      refine Nat.eq_of_testBit_eq fun b => ?_
      rw [(gval_say _ _ p).2.1]
      by_cases hb : b < looksN p
      · exact (hA i b (Nat.zero_le _) (by omega)).symm
      · rw [(lkF_out _ _ p 0 b (.inr (by omega))).1]
        exact (Nat.testBit_lt_two_pow (Nat.lt_of_lt_of_le (hβl i) (Nat.pow_le_pow_right (by decide) (by omega)))).symm
    have hb0 : v 0 ∈ beginM (2 ^ looksN p) starts (truthM p ms) := by
      refine List.mem_filter.2 ⟨List.mem_range.2 ?_, ?_⟩
      · rw [hv, Nat.mul_comm (2 ^ looksN p)]
        have h0 : (τ 0 + 1) * 2 ^ looksN p ≤ starts * 2 ^ looksN p := Nat.mul_le_mul_right _ hτ.1
        have := hβl 0
        rw [Nat.succ_mul] at h0
        omega
      · rw [List.getD_eq_getElem?_getD, List.getElem?_map, hat 0]
        show (gval _ _ p (0, 0, 0)).1 = true
        rw [(gval_say _ _ p).1]
        exact ((says_ok p 0 hS 0).1).2 hs
    have hreach : ∀ i, ReachW (grM nx p ms) (beginM (2 ^ looksN p) starts (truthM p ms)) (fun _ => true) (v i) := by
      intro i
      induction i with
      | zero => exact .start hb0 rfl
      | succ i ih => exact .step ih (hedge i) rfl
    have hrch : ∀ d i, Rch (grM nx p ms) (v i) (v (i + d)) := by
      intro d i
      induction d with
      | zero => exact .refl _
      | succ d ih => exact .tail ih (hedge (i + d))
    have hrch2 : ∀ {i j}, i ≤ j → Rch (grM nx p ms) (v i) (v j) := fun {i j} hij => by
      have := hrch (j - i) i
      rwa [show i + (j - i) = j by omega] at this
    obtain ⟨x, hx⟩ := again v hvl
    obtain ⟨i0, _, hi0⟩ := hx 0
    have back : ∀ j, Rch (grM nx p ms) (v j) (v i0) := fun j => by
      obtain ⟨j2, h3, h4⟩ := hx j
      rw [hi0, ← h4]
      exact hrch2 h3
    refine h2 (v i0) (hreach i0) ⟨v i0, v (i0 + 1), .refl _, hedge i0, back _⟩ fun b hb => ?_
    obtain ⟨j, h3, h4⟩ := hFr b (Nat.zero_le _) (by omega) i0
    refine ⟨v j, hrch2 h3, back j, ?_⟩
    unfold fairM
    rw [map_at (hat j), (gval_say _ _ p).2.2.1]
    exact h4
  · obtain ⟨h5, h6, h7, h8, h9⟩ := lasso_seq h2
    refine .inr ⟨stem.map (· / 2 ^ looksN p), loop.map (· / 2 ^ looksN p), by rw [h1]; rfl, by simpa using h5, by simpa using h6, ?_, ?_, ?_⟩
    · rw [List.length_map]; rw [hN] at h3; omega
    · rw [List.length_map]; omega
    · obtain ⟨τ, hτ⟩ : ∃ τ : Nat → Nat, ∀ i, τ i = (stem ++ loop).getD (pos (stem ++ loop).length stem.length i) 0 := ⟨fun i => (stem ++ loop).getD (pos (stem ++ loop).length stem.length i) 0, fun _ => rfl⟩
      simp only [← hτ] at h7 h8 h9
      have hlt : ∀ i, τ i < ms.length * 2 ^ looksN p := fun i => by
        have := (getD_row (h8 i)).1
        rwa [hN] at this
      obtain ⟨k1, k2⟩ := seq_truth (nx := nx) (f := p) (ms := ms) hlt h8 h9
      have hpl : ∀ i, pos (stem ++ loop).length stem.length i < (stem ++ loop).length := fun i => pos_lt (by
        have := List.length_pos_iff.2 h6
        rw [List.length_append]; omega) i
      have e : ∀ i, (stem.map (· / 2 ^ looksN p) ++ loop.map (· / 2 ^ looksN p)).getD (pos (stem.map (· / 2 ^ looksN p) ++ loop.map (· / 2 ^ looksN p)).length (stem.map (· / 2 ^ looksN p)).length i) 0 = τ i / 2 ^ looksN p := fun i => by
        rw [← List.map_append, List.length_map, List.length_map, hτ, List.getD_eq_getElem?_getD, List.getElem?_map, List.getD_eq_getElem?_getD, List.getElem?_eq_getElem (hpl i)]
        rfl
      refine ⟨⟨?_, fun i => ?_⟩, ?_⟩
      · show (stem.map (· / 2 ^ looksN p) ++ loop.map (· / 2 ^ looksN p)).getD (pos (stem.map (· / 2 ^ looksN p) ++ loop.map (· / 2 ^ looksN p)).length (stem.map (· / 2 ^ looksN p)).length 0) 0 < starts
        rw [e 0]
        have := List.mem_range.1 (List.mem_filter.1 h7).1
        exact (Nat.div_lt_iff_lt_mul hp0).2 (by rw [Nat.mul_comm]; exact this)
      · have := k1 i
        rw [← e i, ← e (i + 1)] at this
        exact this
      · have h10 := (List.mem_filter.1 h7).2
        have h11 := (k2 0).1 h10
        have := (satS_congr (σ := fun i => ms.getD (τ i / 2 ^ looksN p) 0) (τ := seqL ((stem.map (· / 2 ^ looksN p) ++ loop.map (· / 2 ^ looksN p)).map fun v => ms.getD v 0) (stem.map (· / 2 ^ looksN p)).length) (a := 0) (b := 0) (fun k => by
          rw [Nat.zero_add, seq_map (by rw [List.length_append, List.length_map, List.length_map]; have := List.length_pos_iff.2 h6; omega), e k]) p 0).1
        exact this h11
end Go.Ltl
end
section
/- ltl, forty-first: Holds always answers, and rightly. -/
namespace Go.Ltl
open Go.W
end Go.Ltl
namespace Go.Proofs.YtpbbneclkhfgoaaDoor
open Go.W Go.Ltl Go.RowKit
set_option maxRecDepth 100000
attribute [local irreducible] WC WL WQ WS WH

theorem natL_zs (l : List Nat) : natL l = zs (l.map fun n : Nat => (n : Int)) := by
  unfold natL zs; rw [List.map_map]; rfl
/-- A formula holds of all runs from the first state. -/
def HoldsA (vs : Vs) (ms : List Int) (f : Fm) : Prop := ∀ τ, RunS (nxOf vs) 1 τ → satS (fun i => ms.getD (τ i) 0) f 0
/-- A lasso of states that refutes a formula. -/
structure LassoA (vs : Vs) (ms : List Int) (f : Fm) (stem loop : List Nat) : Prop where
  ne1 : stem ≠ []
  ne2 : loop ≠ []
  l1 : stem.length ≤ 32768
  l2 : loop.length ≤ 32768
  run : RunS (nxOf vs) 1 (fun i => (stem ++ loop).getD (pos (stem ++ loop).length stem.length i) 0)
  no : ¬ satS (seqL ((stem ++ loop).map fun v => ms.getD v 0) stem.length) f 0
theorem LassoA.lt {vs : Vs} {ms : List Int} {f : Fm} {stem loop : List Nat} (h : LassoA vs ms f stem loop) : stem.length < (stem ++ loop).length := by
  have := List.length_pos_iff.2 h.ne2
  rw [List.length_append]; omega
theorem sat_map {ms : List Int} {l : List Nat} {lp : Nat} (h : lp < l.length) (f : Fm) : satS (seqL (l.map fun v => ms.getD v 0) lp) f 0 ↔ satS (fun i => ms.getD (l.getD (pos l.length lp i) 0) 0) f 0 :=
  satS_congr (a := 0) (b := 0) (fun k => by rw [Nat.zero_add]; exact seq_map h k) f 0
theorem LassoA.not {vs : Vs} {ms : List Int} {f : Fm} {stem loop : List Nat} (h : LassoA vs ms f stem loop) : ¬ HoldsA vs ms f := fun k =>
  h.no ((sat_map h.lt f).2 (k _ h.run))
/-- What Holds answers. -/
def HoldsW (vs : Vs) (ms : List Int) (s : Str) (w : World) (v : Value) (w' : World) : Prop :=
  if strB vs ms = true then match parseM s with
    | none => v = .tuple #[.agg #[.bool false, .slice none 0 0, .slice none 0 0], .int .i64 4] ∧ Hp w w' []
    | some f => (HoldsA vs ms f ∧ v = .tuple #[.agg #[.bool true, .slice none 0 0, .slice none 0 0], .int .i64 0] ∧ Hp w w' []) ∨
      ∃ stem loop sa sc pa pc, LassoA vs ms f stem loop ∧ v = .tuple #[.agg #[.bool false, .slice sa stem.length sc, .slice pa loop.length pc], .int .i64 0] ∧
        Hp w w' [Rna (.slice pa loop.length pc) loop.length loop, Rna (.slice sa stem.length sc) stem.length stem]
  else v = .tuple #[.agg #[.bool false, .slice none 0 0, .slice none 0 0], .int .i64 2] ∧ Hp w w' []
theorem nxOf_len (vs : Vs) : (nxOf vs).length = vs.length := by simp [nxOf]
theorem StrOk.sr {vs : Vs} {ms : List Int} (h : StrOk vs ms) : SrOk (nxOf vs) ms 1 := by
  refine ⟨by rw [nxOf_len, h.ml], by rw [nxOf_len]; exact h.hi, fun r hr => ?_, by rw [nxOf_len]; exact h.lo⟩
  obtain ⟨x, hx, rfl⟩ := List.mem_map.1 hr
  refine ⟨by rw [List.length_map]; exact h.len x hx, fun u hu => ?_⟩
  obtain ⟨z, hz, rfl⟩ := List.mem_map.1 hu
  have := h.ent x hx z hz
  rw [nxOf_len]; omega
/-- The search of a formula's contrary. -/
theorem refute_ok {vs : Vs} {ms : List Int} (h : StrOk vs ms) {f : Fm} (hwf : wfF f) (hsz : sizeF f ≤ 12) :
    (srchM 1099511627776 1048576 (nxOf vs) ms (pushM f true) 1 = some none ∧ HoldsA vs ms f) ∨ ∃ stem loop, srchM 1099511627776 1048576 (nxOf vs) ms (pushM f true) 1 = some (some (stem, loop)) ∧ LassoA vs ms f stem loop := by
  rcases srchM_ok (F := 1099511627776) (G := 1048576) h.sr (pushM_wf f true hwf) (by have := push_wgt f true hwf; omega) (Nat.le_refl _) (Nat.le_refl _) with ⟨h1, h2⟩ | ⟨stem, loop, h1, h2, h3, h4, h5, h6, h7⟩
  · refine .inl ⟨h1, fun τ hτ => ?_⟩
    have := h2 τ hτ
    rw [push_sat _ f true 0 hwf, if_pos rfl] at this
    exact Classical.not_not.1 this
  · refine .inr ⟨stem, loop, h1, h2, h3, h4, h5, h6, ?_⟩
    rwa [push_sat _ f true 0 hwf, if_pos rfl] at h7
theorem HoldsT_any (an : Option Addr) (cn : Nat) (am : Option Addr) (cm : Nat) (vs : Vs) (ms : List Int) (hms : ms.length ≤ 1000000) (hvs : ∀ x ∈ vs, x.2.2.length ≤ 1000000) (s : Str) (hs : s.length ≤ 1000) (w : World) (hGl : Gl w) (hst : Stc w an am vs ms) :
    Ret Tryd.prog 26 [stV an cn am cm vs ms, st s] w fun v w' => HoldsW vs ms s w v w' := by
  refine Ret.mono (Holds_any an cn am cm vs ms hms hvs s hs 1099511627776 1048576 (Nat.le_refl _) (Nat.le_refl _) (fun hok f hf => ?_) w hGl hst) ?_
  · rcases refute_ok hok (parseM_wf hf) (parseM_sz hf).2 with ⟨h1, _⟩ | ⟨stem, loop, h1, _⟩ <;> rw [h1] <;> rfl
  · intro v w' h
    unfold HoldsR at h
    unfold HoldsW
    cases hsb : strB vs ms with
    | false => rw [hsb, if_neg (by decide)] at h; rw [if_neg (by decide)]; exact h
    | true =>
      rw [hsb, if_pos rfl] at h
      rw [if_pos rfl]
      cases hf : parseM s with
      | none => rw [hf] at h; exact h
      | some f =>
        rw [hf] at h
        obtain ⟨r, u, h1, rfl, h2⟩ := h
        rcases refute_ok (strB_ok hsb) (parseM_wf hf) (parseM_sz hf).2 with ⟨h3, h4⟩ | ⟨stem, loop, h3, h4⟩
        · rw [h3] at h1
          simp only [Option.some.injEq] at h1
          subst h1
          obtain ⟨rfl, hp⟩ := h2
          exact .inl ⟨h4, rfl, hp⟩
        · rw [h3] at h1
          simp only [Option.some.injEq] at h1
          subst h1
          obtain ⟨sa, sc, pa, pc, rfl, hp⟩ := h2
          exact .inr ⟨stem, loop, sa, sc, pa, pc, h4, rfl, hp⟩
end Go.Proofs.YtpbbneclkhfgoaaDoor
end
section
/- ltl, twenty-eighth: awake. -/
namespace Go.Proofs.YtpbbneclkhfgoaaDoor
open Go.W Go.Ltl Go.RowKit
set_option maxRecDepth 100000
attribute [local irreducible] WC WL WQ WS WH

def awA : Str := [40, 97, 108, 119, 97, 121, 115, 32, 112, 48, 41]
def awB : Str := [40, 102, 105, 110, 97, 108, 108, 121, 32, 112, 49, 41]
def awC : Str := [40, 110, 111, 116, 32, 40, 117, 110, 116, 105, 108, 32, 112, 48, 32, 40, 110, 111, 116, 32, 112, 49, 41, 41, 41]
def awD : Str := [40, 110, 101, 120, 116, 32, 112, 48, 41]
def awE : Str := [40, 114, 101, 108, 101, 97, 115, 101, 32, 40, 110, 111, 116, 32, 112, 48, 41, 32, 112, 49, 41]
theorem awA_is : (parseM awA).map (fun f => srchM 100 100 [[0]] [1] (pushM f true) 1) = some (some none) := by decide +kernel
theorem awB_is : (parseM awB).map (fun f => (srchM 100 100 [[0]] [1] (pushM f true) 1).map fun r => r.map fun q => (q.1.length, q.2.length)) = some (some (some (1, 1))) := by decide +kernel
theorem awC_is : PushM awC = .tuple #[st awE, .int .i64 0] := by kernel_rfl
theorem awD_is : ValueM [0] [1] awD = (true, 0) := by decide +kernel
/-- The two questions that awake asks of Holds. -/
theorem awA_run (w : World) (an am ra : Option Addr) (v : Value) (w' : World) (h : HoldsR 100 100 [(ra, 1, [0])] [1] awA w v w') : v = .tuple #[.agg #[.bool true, .slice none 0 0, .slice none 0 0], .int .i64 0] ∧ Hp w w' [] := by
  have hs : strB [(ra, 1, [0])] [1] = true := rfl
  unfold HoldsR at h
  rw [hs, if_pos rfl] at h
  obtain ⟨f, hf, hr⟩ := Option.map_eq_some_iff.1 awA_is
  rw [hf] at h
  obtain ⟨r, u, h1, rfl, h2⟩ := h
  have h1' : srchM 100 100 [[0]] [1] (pushM f true) 1 = some r := h1
  rw [hr] at h1'
  simp only [Option.some.injEq] at h1'
  subst h1'
  obtain ⟨rfl, hp⟩ := h2
  exact ⟨rfl, hp⟩
theorem awB_run (w : World) (an am ra : Option Addr) (v : Value) (w' : World) (h : HoldsR 100 100 [(ra, 1, [0])] [1] awB w v w') : ∃ sa sc pa pc, v = .tuple #[.agg #[.bool false, .slice sa 1 sc, .slice pa 1 pc], .int .i64 0] ∧ Hp w w' [] := by
  have hs : strB [(ra, 1, [0])] [1] = true := rfl
  unfold HoldsR at h
  rw [hs, if_pos rfl] at h
  obtain ⟨f, hf, hr⟩ := Option.map_eq_some_iff.1 awB_is
  rw [hf] at h
  obtain ⟨r, u, h1, rfl, h2⟩ := h
  have h1' : srchM 100 100 [[0]] [1] (pushM f true) 1 = some r := h1
  rw [h1'] at hr
  simp only [Option.map_some, Option.some.injEq] at hr
  cases r with
  | none => cases hr
  | some q =>
    obtain ⟨stem, loop⟩ := q
    simp only [Option.map_some, Option.some.injEq, Prod.mk.injEq] at hr
    obtain ⟨sa, sc, pa, pc, rfl, hp⟩ := h2
    exact ⟨sa, sc, pa, pc, by rw [hr.1, hr.2], hp.nil'⟩
theorem awake_any (w : World) (hGl : Gl w) : Ret Tryd.prog 20 [] w fun v w' => v = .bool true ∧ Hp w w' [] := by
  refine enter Tryd.func20 rfl rfl ⟨rfl, rfl⟩ rfl ?_
  repeat (first | refine WC.seq ?_ | refine WC.reg ?_ | refine WL.pure rfl rfl rfl ?_ | refine WL.nil ?_ | refine WC.skip ?_ | refine WC.block ?_ | refine WC.condT rfl ?_ | refine WC.condF rfl ?_ | refine WL.off rfl rfl rfl ?_ | refine WL.off0 rfl rfl ?_ | refine WC.exit ?_ | refine blk_hit ?_ | refine blk_miss rfl ?_ | refine WC.ret ?_)
  refine WL.buildS (cs := [.int .i64 0]) rfl rfl rfl rfl rfl rfl rfl rfl rfl (fun b1 w1 h1 => ?_)
  have hp1 := (Hp.start w).new h1
  refine WL.buildS (cs := [.slice (some ⟨b1, 0, none⟩) 1 1]) rfl rfl rfl rfl rfl rfl rfl rfl rfl (fun b2 w2 h2 => ?_)
  have hp2 := hp1.new h2
  refine WL.buildS (cs := [.int .i64 1]) rfl rfl rfl rfl rfl rfl rfl rfl rfl (fun b3 w3 h3 => ?_)
  have hp3 := hp2.new h3
  refine WL.buildT (cs := [.slice (some ⟨b2, 0, none⟩) 1 1, .slice (some ⟨b3, 0, none⟩) 1 1]) rfl rfl rfl rfl rfl rfl ?_
  refine WL.alloc rfl rfl rfl (fun b4 w4 h4 => ?_)
  have hp4 := hp3.new h4
  refine WL.storeN rfl rfl rfl rfl rfl (by simp [Value.oneCell']) (hp4.obj 0 rfl) (Nat.le_refl _) rfl (fun w5 h5 => ?_)
  have hp5 : Hp w w5 [Sb b4 (some ⟨b2, 0, none⟩) 1 (some ⟨b3, 0, none⟩) 1 [(some ⟨b1, 0, none⟩, 1, [0])] [1], .blk b3 (.cells #[.int .i64 1] 3 (0, 0)), .blk b2 (.cells #[.slice (some ⟨b1, 0, none⟩) 1 1] 22 (0, 0)), .blk b1 (.cells #[.int .i64 0] 3 (0, 0))] := hp4.set 0 rfl rfl h5
  have hst : ∀ {w' : World} {L : List Ent}, Hp w w' (Sb b4 (some ⟨b2, 0, none⟩) 1 (some ⟨b3, 0, none⟩) 1 [(some ⟨b1, 0, none⟩, 1, [0])] [1] :: .blk b3 (.cells #[.int .i64 1] 3 (0, 0)) :: .blk b2 (.cells #[.slice (some ⟨b1, 0, none⟩) 1 1] 22 (0, 0)) :: .blk b1 (.cells #[.int .i64 0] 3 (0, 0)) :: L) → Stc w' (some ⟨b2, 0, none⟩) (some ⟨b3, 0, none⟩) [(some ⟨b1, 0, none⟩, 1, [0])] [1] := by
    intro w' L hp
    refine ⟨Sl.of_obj (hp.obj 2 rfl) (fun q u hq => by simpa [catV] using hq), fun x hx => ?_, Sl.of_obj (hp.obj 1 rfl) (fun q u hq => by simpa [zs] using hq)⟩
    rw [List.mem_singleton.1 hx]
    exact Sl.of_obj (hp.obj 3 rfl) (fun q u hq => by simpa [zs] using hq)
  have hoA : StrOk [(some ⟨b1, 0, none⟩, 1, [0])] [1] → ∀ f, parseM awA = some f → (srchM 100 100 (nxOf [(some ⟨b1, 0, none⟩, 1, [0])]) [1] (pushM f true) 1).isSome = true := fun _ f hf => by
    obtain ⟨f', hf', hr⟩ := Option.map_eq_some_iff.1 awA_is
    rw [hf] at hf'
    simp only [Option.some.injEq] at hf'
    subst hf'
    rw [show nxOf [(some ⟨b1, 0, none⟩, 1, [0])] = [[0]] from rfl, hr]; rfl
  have hoB : StrOk [(some ⟨b1, 0, none⟩, 1, [0])] [1] → ∀ f, parseM awB = some f → (srchM 100 100 (nxOf [(some ⟨b1, 0, none⟩, 1, [0])]) [1] (pushM f true) 1).isSome = true := fun _ f hf => by
    obtain ⟨f', hf', hr⟩ := Option.map_eq_some_iff.1 awB_is
    rw [hf] at hf'
    simp only [Option.some.injEq] at hf'
    subst hf'
    obtain ⟨q, hq, _⟩ := Option.map_eq_some_iff.1 hr
    rw [show nxOf [(some ⟨b1, 0, none⟩, 1, [0])] = [[0]] from rfl, hq]; rfl
  have hrows : ∀ x ∈ ([(some ⟨b1, 0, none⟩, 1, [0])] : Vs), x.2.2.length ≤ 1000000 := fun x hx => by rw [List.mem_singleton.1 hx]; show 1 ≤ 1000000; decide
  clear hp1 hp2 hp3 hp4
  repeat (first | refine WC.seq ?_ | refine WC.reg ?_ | refine WL.pure rfl rfl rfl ?_ | refine WL.nil ?_ | refine WC.skip ?_ | refine WC.block ?_ | refine WC.condT rfl ?_ | refine WC.condF rfl ?_ | refine WL.off rfl rfl rfl ?_ | refine WL.off0 rfl rfl ?_ | refine WC.exit ?_ | refine blk_hit ?_ | refine blk_miss rfl ?_ | refine WC.ret ?_)
  refine WL.loadN rfl rfl rfl rfl rfl (cs := [.slice (some ⟨b2, 0, none⟩) 1 1, .slice (some ⟨b3, 0, none⟩) 1 1]) rfl (fun q v hq => cell_of_obj (hp5.obj 0 rfl) (by rw [Nat.zero_add]; simpa using hq)) ?_
  refine WL.call rfl rfl rfl rfl rfl ent26 (Holds_any (some ⟨b2, 0, none⟩) 1 (some ⟨b3, 0, none⟩) 1 [(some ⟨b1, 0, none⟩, 1, [0])] [1] (by decide) hrows awA (by decide) 100 100 (by decide) (by decide) hoA w5 (hGl.hp hp5) (hst hp5)) ?_
  intro v w6 hv
  obtain ⟨rfl, hp6⟩ := awA_run w5 none none _ v w6 hv
  have hp6 := hp5.call hp6.below
  clear hp5
  repeat (first | refine WC.seq ?_ | refine WC.reg ?_ | refine WL.pure rfl rfl rfl ?_ | refine WL.nil ?_ | refine WC.skip ?_ | refine WC.block ?_ | refine WC.condT rfl ?_ | refine WC.condF rfl ?_ | refine WL.off rfl rfl rfl ?_ | refine WL.off0 rfl rfl ?_ | refine WC.exit ?_ | refine blk_hit ?_ | refine blk_miss rfl ?_ | refine WC.ret ?_)
  refine WL.alloc rfl rfl rfl (fun b7 w7 h7 => ?_)
  have hp7 := hp6.new h7
  refine WL.storeN rfl rfl rfl rfl rfl (by simp [Value.oneCell']) (hp7.obj 0 rfl) (Nat.le_refl _) rfl (fun w8 h8 => ?_)
  have hp8 := (hp7.set 0 rfl rfl h8).pick [1, 2, 3, 4, 0] (by decide)
  clear hp7 hp6
  repeat (first | refine WC.seq ?_ | refine WC.reg ?_ | refine WL.pure rfl rfl rfl ?_ | refine WL.nil ?_ | refine WC.skip ?_ | refine WC.block ?_ | refine WC.condT rfl ?_ | refine WC.condF rfl ?_ | refine WL.off rfl rfl rfl ?_ | refine WL.off0 rfl rfl ?_ | refine WC.exit ?_ | refine blk_hit ?_ | refine blk_miss rfl ?_ | refine WC.ret ?_)
  refine WL.loadN rfl rfl rfl rfl rfl (cs := [.slice (some ⟨b2, 0, none⟩) 1 1, .slice (some ⟨b3, 0, none⟩) 1 1]) rfl (fun q v hq => cell_of_obj (hp8.obj 0 rfl) (by rw [Nat.zero_add]; simpa using hq)) ?_
  refine WL.call rfl rfl rfl rfl rfl ent26 (Holds_any (some ⟨b2, 0, none⟩) 1 (some ⟨b3, 0, none⟩) 1 [(some ⟨b1, 0, none⟩, 1, [0])] [1] (by decide) hrows awB (by decide) 100 100 (by decide) (by decide) hoB w8 (hGl.hp hp8) (hst hp8)) ?_
  intro v w9 hv
  obtain ⟨sa, sc, pa, pc, rfl, hp9⟩ := awB_run w8 none none _ v w9 hv
  have hp9 := hp8.call hp9.below
  clear hp8
  repeat (first | refine WC.seq ?_ | refine WC.reg ?_ | refine WL.pure rfl rfl rfl ?_ | refine WL.nil ?_ | refine WC.skip ?_ | refine WC.block ?_ | refine WC.condT rfl ?_ | refine WC.condF rfl ?_ | refine WL.off rfl rfl rfl ?_ | refine WL.off0 rfl rfl ?_ | refine WC.exit ?_ | refine blk_hit ?_ | refine blk_miss rfl ?_ | refine WC.ret ?_)
  refine WL.alloc rfl rfl rfl (fun b10 w10 h10 => ?_)
  have hp10 := hp9.new h10
  refine WL.storeN rfl rfl rfl rfl rfl (by simp [Value.oneCell']) (hp10.obj 0 rfl) (Nat.le_refl _) rfl (fun w11 h11 => ?_)
  have hp11 := (hp10.set 0 rfl rfl h11).pick [0, 5] (by decide)
  clear hp10 hp9
  repeat (first | refine WC.seq ?_ | refine WC.reg ?_ | refine WL.pure rfl rfl rfl ?_ | refine WL.nil ?_ | refine WC.skip ?_ | refine WC.block ?_ | refine WC.condT rfl ?_ | refine WC.condF rfl ?_ | refine WL.off rfl rfl rfl ?_ | refine WL.off0 rfl rfl ?_ | refine WC.exit ?_ | refine blk_hit ?_ | refine blk_miss rfl ?_ | refine WC.ret ?_)
  refine WL.call rfl rfl rfl rfl rfl ent22 (Push_any awC (by decide) w11 (hGl.hp hp11)) ?_
  rintro _ w12 ⟨rfl, hp12⟩
  have hp12 := hp11.call hp12.below
  rw [awC_is]
  clear hp11
  repeat (first | refine WC.seq ?_ | refine WC.reg ?_ | refine WL.pure rfl rfl rfl ?_ | refine WL.nil ?_ | refine WC.skip ?_ | refine WC.block ?_ | refine WC.condT rfl ?_ | refine WC.condF rfl ?_ | refine WL.off rfl rfl rfl ?_ | refine WL.off0 rfl rfl ?_ | refine WC.exit ?_ | refine blk_hit ?_ | refine blk_miss rfl ?_ | refine WC.ret ?_)
  refine WL.buildS (cs := [.int .i64 0]) rfl rfl rfl rfl rfl rfl rfl rfl rfl (fun b13 w13 h13 => ?_)
  have hp13 := hp12.new h13
  refine WL.buildS (cs := [.int .i64 1]) rfl rfl rfl rfl rfl rfl rfl rfl rfl (fun b14 w14 h14 => ?_)
  have hp14 := hp13.new h14
  refine WL.call rfl rfl rfl rfl rfl ent17 (Value_any (some ⟨b13, 0, none⟩) (some ⟨b14, 0, none⟩) 1 1 [0] [1] awD (by decide) (by decide) w14 (hGl.hp hp14) (Sl.of_obj (hp14.obj 1 rfl) (fun q u hq => by simpa [zs] using hq)) (Sl.of_obj (hp14.obj 0 rfl) (fun q u hq => by simpa [zs] using hq))) ?_
  rintro _ w15 ⟨rfl, hp15⟩
  have hp15 := hp14.call hp15.below
  rw [awD_is]
  clear hp14 hp13 hp12
  repeat (first | refine WC.seq ?_ | refine WC.reg ?_ | refine WL.pure rfl rfl rfl ?_ | refine WL.nil ?_ | refine WC.skip ?_ | refine WC.block ?_ | refine WC.condT rfl ?_ | refine WC.condF rfl ?_ | refine WL.off rfl rfl rfl ?_ | refine WL.off0 rfl rfl ?_ | refine WC.exit ?_ | refine blk_hit ?_ | refine blk_miss rfl ?_ | refine WC.ret ?_)
  refine WL.loadB rfl rfl rfl rfl rfl (hp15.obj 3 rfl) (j := 0) rfl ?_
  repeat (first | refine WC.seq ?_ | refine WC.reg ?_ | refine WL.pure rfl rfl rfl ?_ | refine WL.nil ?_ | refine WC.skip ?_ | refine WC.block ?_ | refine WC.condT rfl ?_ | refine WC.condF rfl ?_ | refine WL.off rfl rfl rfl ?_ | refine WL.off0 rfl rfl ?_ | refine WC.exit ?_ | refine blk_hit ?_ | refine blk_miss rfl ?_ | refine WC.ret ?_)
  refine WL.loadB rfl rfl rfl rfl rfl (hp15.obj 2 rfl) (j := 0) rfl ?_
  repeat (first | refine WC.seq ?_ | refine WC.reg ?_ | refine WL.pure rfl rfl rfl ?_ | refine WL.nil ?_ | refine WC.skip ?_ | refine WC.block ?_ | refine WC.condT rfl ?_ | refine WC.condF rfl ?_ | refine WL.off rfl rfl rfl ?_ | refine WL.off0 rfl rfl ?_ | refine WC.exit ?_ | refine blk_hit ?_ | refine blk_miss rfl ?_ | refine WC.ret ?_)
  refine WL.loadB rfl rfl rfl rfl rfl (hp15.obj 2 rfl) (j := 2) rfl ?_
  repeat (first | refine WC.seq ?_ | refine WC.reg ?_ | refine WL.pure rfl rfl rfl ?_ | refine WL.nil ?_ | refine WC.skip ?_ | refine WC.block ?_ | refine WC.condT rfl ?_ | refine WC.condF rfl ?_ | refine WL.off rfl rfl rfl ?_ | refine WL.off0 rfl rfl ?_ | refine WC.exit ?_ | refine blk_hit ?_ | refine blk_miss rfl ?_ | refine WC.ret ?_)
  refine WL.sCmp (a := awE) (b := awE) (op := .neq) (r := false) rfl rfl rfl rfl (by simp [cmpS]) ?_
  repeat (first | refine WC.seq ?_ | refine WC.reg ?_ | refine WL.pure rfl rfl rfl ?_ | refine WL.nil ?_ | refine WC.skip ?_ | refine WC.block ?_ | refine WC.condT rfl ?_ | refine WC.condF rfl ?_ | refine WL.off rfl rfl rfl ?_ | refine WL.off0 rfl rfl ?_ | refine WC.exit ?_ | refine blk_hit ?_ | refine blk_miss rfl ?_ | refine WC.ret ?_)
  exact Res.one rfl rfl rfl ⟨rfl, hp15.nil'⟩
end Go.Proofs.YtpbbneclkhfgoaaDoor
end
section
/- ltl, twenty-ninth: the small functions of the laws. -/
namespace Go.W
open Go.RowKit
section
variable {P : Program} [T : TT P] {e : Env} {w : World} {ty : TypeId}
theorem ySlHi {t E : TypeId} {i : TI} {z : Value} {s0 b0 len cap h : Nat} {x y : Operand} {a : Option Addr} {k : IntKind} (ht : T.ti t = some ⟨.slice E, z, s0, b0⟩) (hi : T.ti E = some i)
    (hx : opv e x = some (.slice a len cap)) (hy : opv e y = some (.int k (h : Nat))) (hh : h ≤ cap) : Yv P e (.slice t x none (some y) none) ty w (.slice a h cap) w := by
  have hu : P.underlying t = some (.slice E) := (T.ok t _ ht).k
  have hel : P.elem t = E := by simp [Program.elem, hu]
  have hu' : P.underlying t = some (.slice (P.elem t)) := by rw [hel]; exact hu
  have hsz := (T.ok E i hi).sizeOf w
  have hr := run_slice_h (P := P) w t a len cap hu' k h (by omega) (by omega)
  rw [hel, hsz] at hr
  have hval : sliced a 0 (h : Int).toNat cap i.size = .slice a h cap := by
    simp only [sliced, Nat.zero_mul, Nat.sub_zero, Int.toNat_natCast]
    congr 1
    split
    · rfl
    · cases a with
      | none => rfl
      | some p => simp [Addr.add_zero']
  intro ρ hρ d' pos' aft' g'
  simp only [execOp, hρ _ _ hx, Option.map_none, Option.map_some, hρ _ _ hy, Sem.run_bind]
  rw [run_sliceAt_slice w t _ _ _ _ hu', hr, Result.andThen_ok, hval]
  rfl
end
theorem Hp.sl {w0 w : World} {L : List Ent} {E s n c : Nat} {a : Option Addr} {xs : List Value} (h : Hp w0 w L) (i : Nat) (hi : nth L i = some (.row E s (.slice a n c) n xs)) : Sl w a xs := Sl.of_row (h.at i hi)
end Go.W
namespace Go.Ltl
open Go.W
def modN (x : Int) (n : Nat) : Nat := (x % 18446744073709551616).toNat % n
theorem modN_lt {n : Nat} (h : 0 < n) (x : Int) : modN x n < n := Nat.mod_lt _ h
def shortM (s : Str) : Str := s.take 400
def mod16 (x : Int) : Int := (modN x 16 : Nat)
end Go.Ltl
namespace Go.Proofs.YtpbbneclkhfgoaaDoor
open Go.W Go.Ltl Go.RowKit
set_option maxRecDepth 100000
attribute [local irreducible] WC WL WQ WS WH

theorem mod_any (x : Int) (n : Nat) (h0 : 0 < n) (hn : n < 1000) (w : World) : Ret Tryd.prog 29 [.int .i64 x, .int .i64 n] w fun u w' => u = .int .i64 (modN x n) ∧ w' = w := by
  refine enter Tryd.func29 rfl rfl ⟨rfl, rfl⟩ rfl ?_
  have e1 : IntKind.u64.wrap x = (((x % 18446744073709551616).toNat : Nat) : Int) := by rw [IntKind.wrap_u64]; omega
  have e2 : IntKind.u64.wrap (n : Int) = ((n : Nat) : Int) := by rw [IntKind.wrap_u64]; omega
  repeat (first | refine WC.seq ?_ | refine WC.reg ?_ | refine WL.pure rfl rfl rfl ?_ | refine WL.nil ?_ | refine WC.skip ?_ | refine WC.block ?_ | refine WC.condT rfl ?_ | refine WC.condF rfl ?_ | refine WL.off rfl rfl rfl ?_ | refine WL.off0 rfl rfl ?_ | refine WC.exit ?_ | refine blk_hit ?_ | refine blk_miss rfl ?_ | refine WC.ret ?_)
  refine WL.known (d := 6) (congrArg (fun z => some (Value.int .u64 z)) e1) ?_
  refine WL.known (d := 8) (congrArg (fun z => some (Value.int .u64 z)) e2) ?_
  refine WL.rem rfl rfl rfl rfl (by omega) ?_
  repeat (first | refine WC.seq ?_ | refine WC.reg ?_ | refine WL.pure rfl rfl rfl ?_ | refine WL.nil ?_ | refine WC.skip ?_ | refine WC.block ?_ | refine WC.condT rfl ?_ | refine WC.condF rfl ?_ | refine WL.off rfl rfl rfl ?_ | refine WL.off0 rfl rfl ?_ | refine WC.exit ?_ | refine blk_hit ?_ | refine blk_miss rfl ?_ | refine WC.ret ?_)
  refine Res.one rfl rfl rfl ⟨?_, rfl⟩
  have h1 : (((x % 18446744073709551616).toNat : Nat) : Int).tmod (n : Int) = ((modN x n : Nat) : Int) := (Int.ofNat_tmod _ _).symm
  have h2 := modN_lt h0 x
  rw [h1, wrap_i64_in (by omega) (by omega)]
theorem short_any (s : Str) (hl : s.length ≤ 9223372036854775807) (w : World) : Ret Tryd.prog 16 [st s] w fun u w' => u = st (shortM s) ∧ w' = w := by
  refine enter Tryd.func16 rfl rfl ⟨rfl, rfl⟩ rfl ?_
  have e1 : min (((sb s).size : Nat) : Int) 400 = ((min s.length 400 : Nat) : Int) := by rw [sb_size]; omega
  repeat (first | refine WC.seq ?_ | refine WC.reg ?_ | refine WL.pure rfl rfl rfl ?_ | refine WL.nil ?_ | refine WC.skip ?_ | refine WC.block ?_ | refine WC.condT rfl ?_ | refine WC.condF rfl ?_ | refine WL.off rfl rfl rfl ?_ | refine WL.off0 rfl rfl ?_ | refine WC.exit ?_ | refine blk_hit ?_ | refine blk_miss rfl ?_ | refine WC.ret ?_)
  refine WL.known (d := 6) (congrArg (fun z => some (Value.int .i64 z)) e1) ?_
  refine WL.sSl (a := 0) (b := min s.length 400) rfl rfl rfl rfl rfl rfl (Nat.zero_le _) (Nat.min_le_left _ _) ?_
  rw [List.drop_zero, Nat.sub_zero, show s.take (min s.length 400) = shortM s by unfold shortM; rw [Nat.min_comm]; exact (List.take_eq_take_min (l := s) (i := 400)).symm]
  repeat (first | refine WC.seq ?_ | refine WC.reg ?_ | refine WL.pure rfl rfl rfl ?_ | refine WL.nil ?_ | refine WC.skip ?_ | refine WC.block ?_ | refine WC.condT rfl ?_ | refine WC.condF rfl ?_ | refine WL.off rfl rfl rfl ?_ | refine WL.off0 rfl rfl ?_ | refine WC.exit ?_ | refine blk_hit ?_ | refine blk_miss rfl ?_ | refine WC.ret ?_)
  exact Res.one rfl rfl rfl ⟨rfl, rfl⟩
theorem shortM_len (s : Str) : (shortM s).length ≤ 400 := by unfold shortM; rw [List.length_take]; omega
end Go.Proofs.YtpbbneclkhfgoaaDoor
end
section
/- ltl, thirtieth: what Value says, and LtlTurns in plain words. -/
namespace Go.Ltl
open Go.W
end Go.Ltl
namespace Go.Proofs.YtpbbneclkhfgoaaDoor
open Go.W Go.Ltl Go.RowKit
set_option maxRecDepth 100000
attribute [local irreducible] WC WL WQ WS WH

theorem mod16_ok (x : Int) : 0 ≤ mod16 x ∧ mod16 x ≤ 15 := by
  have := modN_lt (n := 16) (by decide) x
  unfold mod16
  omega
end Go.Proofs.YtpbbneclkhfgoaaDoor
end
section
/- ltl, forty-second: structures that a function makes itself. -/
namespace Go.Proofs.YtpbbneclkhfgoaaDoor
open Go.W Go.Ltl Go.RowKit
set_option maxRecDepth 100000
set_option linter.unusedSectionVars false
attribute [local irreducible] WC WL WQ WS WH

theorem permE {w0 w : World} {L L' : List Ent} (h : Hp w0 w L) (p : L.Perm L') : Hp w0 w L' :=
  ⟨h.below, fun x hx => h.sat x (p.mem_iff.2 hx), (p.pairwise_iff (fun {_a _b} h => Apart.symm h)).1 h.dist⟩
/-- Rows of bools in their own blocks. -/
theorem pick_mem {L : List Ent} {x : Ent} : ∀ {ps : List Nat}, x ∈ pick L ps → x ∈ L := by
  intro ps
  induction ps with
  | nil => intro h; cases h
  | cons p ps ih =>
    intro h
    unfold pick at h
    split at h
    · rename_i y hy
      rcases List.mem_cons.1 h with rfl | h
      · rw [nth_eq] at hy; exact List.mem_of_getElem? hy
      · exact ih h
    · exact ih h
/-- What is known of the front may be put in another order, or left out. -/
theorem Hp.pickT {w0 w : World} {T : List Ent} (L : List Ent) (ps : List Nat) (h : Hp w0 w (L ++ T)) (hn : (ps.Pairwise (· ≠ ·))) : Hp w0 w (pick L ps ++ T) := by
  have hd := List.pairwise_append.1 h.dist
  have h1 : Hp w0 w (pick L ps) := Hp.pick ⟨h.below, fun x hx => h.sat x (List.mem_append_left _ hx), hd.1⟩ ps hn
  refine ⟨h.below, fun x hx => ?_, List.pairwise_append.2 ⟨h1.dist, hd.2.1, fun x hx y hy => hd.2.2 x (pick_mem hx) y hy⟩⟩
  rcases List.mem_append.1 hx with hx | hx
  · exact h.sat x (List.mem_append_left _ (pick_mem hx))
  · exact h.sat x (List.mem_append_right _ hx)
theorem zs_getD {xs : List Int} {i : Nat} (h : i < xs.length) : (zs xs)[i]? = some (.int .i64 (xs.getD i 0)) := by simp [zs, h]
theorem Hp.frontT {w0 w : World} {T L : List Ent} (h : Hp w0 w (L ++ T)) : Hp w0 w L := ⟨h.below, fun x hx => h.sat x (List.mem_append_left _ hx), (List.pairwise_append.1 h.dist).1⟩
abbrev Stb (b : Nat) (na : Option Addr) (n nc : Nat) (ma : Option Addr) (m mc : Nat) : Ent := .blk b (.cells #[.slice na n nc, .slice ma m mc] 44 (0, 0))
/-- The rows of a structure. -/
def vsE (vs : Vs) : List Ent := vs.map fun x => Ri (.slice x.1 x.2.2.length x.2.1) x.2.2
abbrev Rvs (v : Value) (vs : Vs) : Ent := .row 22 1 v vs.length (catV vs)
theorem catV_snoc (vs : Vs) (x : Option Addr × Nat × List Int) : catV (vs ++ [x]) = catV vs ++ [.slice x.1 x.2.2.length x.2.1] := by unfold catV; rw [List.map_append]; rfl
theorem vsE_snoc (vs : Vs) (x : Option Addr × Nat × List Int) : vsE (vs ++ [x]) = vsE vs ++ [Ri (.slice x.1 x.2.2.length x.2.1) x.2.2] := by unfold vsE; rw [List.map_append]; rfl
/-- What is owned is read. -/
theorem Stc.own {w0 w : World} {L : List Ent} {na ma : Option Addr} {nc n m mc : Nat} {vs : Vs} {ms : List Int} (hp : Hp w0 w L) (h1 : .row 22 1 (.slice na n nc) n (catV vs) ∈ L) (h2 : .row 3 1 (.slice ma m mc) m (zs ms) ∈ L) (h3 : ∀ x ∈ vsE vs, x ∈ L) : Stc w na ma vs ms := by
  refine ⟨Sl.of_row (hp.sat _ h1), fun x hx => ?_, Sl.of_row (hp.sat _ h2)⟩
  have h4 := hp.sat _ (h3 _ (List.mem_map_of_mem (f := fun x : Option Addr × Nat × List Int => Ri (.slice x.1 x.2.2.length x.2.1) x.2.2) hx))
  exact Sl.of_row h4
/-- A new row is behind the older ones. -/
theorem Hp.rowIn {w0 w : World} {X : List Ent} {na : Option Addr} {nc : Nat} {vs : Vs} {x : Option Addr × Nat × List Int} (h : Hp w0 w (.row 22 1 (.slice na (vs.length + 1) nc) (vs.length + 1) (catV vs ++ [.slice x.1 x.2.2.length x.2.1]) :: Ri (.slice x.1 x.2.2.length x.2.1) x.2.2 :: (X ++ vsE vs))) :
    Hp w0 w (Rvs (.slice na (vs ++ [x]).length nc) (vs ++ [x]) :: (X ++ vsE (vs ++ [x]))) := by
  unfold Rvs
  rw [List.length_append, catV_snoc, vsE_snoc]
  refine permE h (List.Perm.cons _ ?_)
  rw [← List.append_assoc]
  exact List.perm_append_comm (l₁ := [_]) (l₂ := X ++ vsE vs)
end Go.Proofs.YtpbbneclkhfgoaaDoor
end
section
/- ltl, forty-fourth: machine, the reference's Structure. -/
namespace Go.Proofs.YtpbbneclkhfgoaaDoor
open Go.W Go.Ltl Go.RowKit
set_option maxRecDepth 100000
set_option linter.unusedSectionVars false
attribute [local irreducible] WC WL WQ WS WH

abbrev rowsOf (vs : Vs) : List (List Int) := vs.map fun x => x.2.2
def takeV (rows : List (List Int)) : List (List Int) := (rows.take 20).map (·.take 20)
theorem takeV_succ {rows : List (List Int)} {i : Nat} (h : i < rows.length) : (rows.take (i + 1)).map (·.take 20) = (rows.take i).map (·.take 20) ++ [(rows[i]).take 20] := by
  rw [List.take_succ_eq_append_getElem h, List.map_append]; rfl
/-- Structures that are read, with their bounds. -/
structure StcB (an : Option Addr) (cn : Nat) (am : Option Addr) (cm : Nat) (vs : Vs) (ms : List Int) : Prop where
  nl : vs.length ≤ 9223372036854775807
  rl : ∀ x ∈ vs, x.2.2.length ≤ 9223372036854775807
  rc : ∀ x ∈ vs, x.2.2.length ≤ x.2.1
  ml : ms.length ≤ 9223372036854775807
  mc : ms.length ≤ cm
theorem machine_any (an : Option Addr) (cn : Nat) (am : Option Addr) (cm : Nat) (vs : Vs) (ms : List Int) (hB : StcB an cn am cm vs ms) (w : World) (hst : Stc w an am vs ms) :
    Ret Tryd.prog 37 [stV an cn am cm vs ms] w fun u w' => ∃ na nc ma mc vs2, u = .agg #[.slice na vs2.length nc, .slice ma (ms.take 20).length mc] ∧ rowsOf vs2 = takeV (rowsOf vs) ∧
      Hp w w' (Rvs (.slice na vs2.length nc) vs2 :: Ri (.slice ma (ms.take 20).length mc) (ms.take 20) :: vsE vs2) := by
  have hnl := hB.nl
  have hml := hB.ml
  have hmc := hB.mc
  refine enter Tryd.func37 rfl rfl ⟨rfl, rfl⟩ rfl ?_
  repeat (first | refine WC.seq ?_ | refine WC.reg ?_ | refine WL.pure rfl rfl rfl ?_ | refine WL.nil ?_ | refine WC.skip ?_ | refine WC.block ?_ | refine WC.condT rfl ?_ | refine WC.condF rfl ?_ | refine WL.off rfl rfl rfl ?_ | refine WL.off0 rfl rfl ?_ | refine WC.exit ?_ | refine blk_hit ?_ | refine blk_miss rfl ?_ | refine WC.ret ?_)
  refine WL.box rfl rfl rfl (fun b1 w1 hb1 => ?_)
  have hp1 : Hp w w1 [Sb b1 an cn am cm vs ms] := (Hp.start w).new hb1
  refine WL.alloc rfl rfl rfl (fun b2 w2 hb2 => ?_)
  have hp2 : Hp w w2 [Stb b2 none 0 0 none 0 0, Sb b1 an cn am cm vs ms] := hp1.new hb2
  repeat (first | refine WC.seq ?_ | refine WC.reg ?_ | refine WL.pure rfl rfl rfl ?_ | refine WL.nil ?_ | refine WC.skip ?_ | refine WC.block ?_ | refine WC.condT rfl ?_ | refine WC.condF rfl ?_ | refine WL.off rfl rfl rfl ?_ | refine WL.off0 rfl rfl ?_ | refine WC.exit ?_ | refine blk_hit ?_ | refine blk_miss rfl ?_ | refine WC.ret ?_)
  refine WL.alloc rfl rfl rfl (fun b3 w3 hb3 => ?_)
  have hp3 : Hp w w3 [Stb b3 none 0 0 none 0 0, Stb b2 none 0 0 none 0 0, Sb b1 an cn am cm vs ms] := hp2.new hb3
  refine WL.nil ?_
  refine WC.seq ?_
  refine WC.mid (Option Addr × Nat × Vs) (fun (na, nc, vs2) => [(1, ptr b1), (2, ptr b2), (3, ptr b3)])
    (fun (na, nc, vs2) w' => rowsOf vs2 = takeV (rowsOf vs) ∧ Hp w w' (Stb b3 na vs2.length nc none 0 0 :: Rvs (.slice na vs2.length nc) vs2 :: Sb b1 an cn am cm vs ms :: Stb b2 none 0 0 none 0 0 :: vsE vs2)) ?_ ?_
  · repeat (first | refine WC.seq ?_ | refine WC.reg ?_ | refine WL.pure rfl rfl rfl ?_ | refine WL.nil ?_ | refine WC.skip ?_ | refine WC.block ?_ | refine WC.condT rfl ?_ | refine WC.condF rfl ?_ | refine WL.off rfl rfl rfl ?_ | refine WL.off0 rfl rfl ?_ | refine WC.exit ?_ | refine blk_hit ?_ | refine blk_miss rfl ?_ | refine WC.ret ?_)
    refine WC.loop (Nat × Option Addr × Nat × Vs) (fun (i, na, nc, vs2) => [(1, ptr b1), (2, ptr b2), (3, ptr b3), (4, .int .i64 (i : Nat))])
      (fun (i, na, nc, vs2) w' => i ≤ vs.length ∧ i ≤ 20 ∧ rowsOf vs2 = ((rowsOf vs).take i).map (·.take 20) ∧ Hp w w' (Stb b3 na vs2.length nc none 0 0 :: Rvs (.slice na vs2.length nc) vs2 :: Sb b1 an cn am cm vs ms :: Stb b2 none 0 0 none 0 0 :: vsE vs2)) (fun (i, _) => 20 - i) (0, none, 0, []) ⟨rfl, rfl, rfl, rfl, rfl⟩
      ⟨Nat.zero_le _, Nat.zero_le _, rfl, (hp3.nilrow 22 1).pick [1, 0, 3, 2] (by decide)⟩ ?_
    clear hp1 hp2 hp3 hb1 hb2 hb3
    rintro ⟨i, na, nc, vs2⟩ w4 ⟨hi, hi20, hvs, hp4⟩
    replace hi : i ≤ vs.length := hi
    replace hi20 : i ≤ 20 := hi20
    replace hvs : rowsOf vs2 = ((rowsOf vs).take i).map (·.take 20) := hvs
    replace hp4 : Hp w w4 (Stb b3 na vs2.length nc none 0 0 :: Rvs (.slice na vs2.length nc) vs2 :: Sb b1 an cn am cm vs ms :: Stb b2 none 0 0 none 0 0 :: vsE vs2) := hp4
    have hl2 : vs2.length = i := by
      have := congrArg List.length hvs
      rw [List.length_map, List.length_map, List.length_take, List.length_map] at this
      omega
    have fin : (¬ i < vs.length ∨ ¬ i < 20) → rowsOf vs2 = takeV (rowsOf vs) := by
      intro h
      rw [hvs]
      unfold takeV
      rcases h with h | h
      · rw [List.take_of_length_le (by rw [List.length_map]; omega), List.take_of_length_le (by rw [List.length_map]; omega)]
      · rw [show i = 20 by omega]
    repeat (first | refine WC.seq ?_ | refine WC.reg ?_ | refine WL.pure rfl rfl rfl ?_ | refine WL.nil ?_ | refine WC.skip ?_ | refine WC.block ?_ | refine WC.condT rfl ?_ | refine WC.condF rfl ?_ | refine WL.off rfl rfl rfl ?_ | refine WL.off0 rfl rfl ?_ | refine WC.exit ?_ | refine blk_hit ?_ | refine blk_miss rfl ?_ | refine WC.ret ?_)
    refine WL.loadB rfl rfl rfl rfl rfl (hp4.obj 2 rfl) (j := 0) rfl ?_
    repeat (first | refine WC.seq ?_ | refine WC.reg ?_ | refine WL.pure rfl rfl rfl ?_ | refine WL.nil ?_ | refine WC.skip ?_ | refine WC.block ?_ | refine WC.condT rfl ?_ | refine WC.condF rfl ?_ | refine WL.off rfl rfl rfl ?_ | refine WL.off0 rfl rfl ?_ | refine WC.exit ?_ | refine blk_hit ?_ | refine blk_miss rfl ?_ | refine WC.ret ?_)
    refine WL.split 11 rfl (fun c1 => ?_) (fun c1 => ?_)
    · have c1 : i < vs.length := by have := of_decide_eq_true c1; omega
      repeat (first | refine WC.seq ?_ | refine WC.reg ?_ | refine WL.pure rfl rfl rfl ?_ | refine WL.nil ?_ | refine WC.skip ?_ | refine WC.block ?_ | refine WC.condT rfl ?_ | refine WC.condF rfl ?_ | refine WL.off rfl rfl rfl ?_ | refine WL.off0 rfl rfl ?_ | refine WC.exit ?_ | refine blk_hit ?_ | refine blk_miss rfl ?_ | refine WC.ret ?_)
      refine WC.cond rfl (fun c2 => ?_) (fun c2 => ?_)
      · have c2 : i < 20 := by have h : ((i : Nat) : Int) < 20 := of_decide_eq_true c2; omega
        have step := wrap_succ (i := i) (n := i + 1) (by omega) (by omega)
        have hx := List.getElem_mem c1
        have hxr := hB.rl _ hx
        have hxc := hB.rc _ hx
        obtain ⟨ba, oa, hae, hac⟩ := hst.nx i _ (catV_at c1)
        subst hae
        obtain ⟨m, hm⟩ : ∃ m, m = min vs[i].2.2.length 20 := ⟨_, rfl⟩
        have hm2 : (vs[i].2.2.take 20).length = m := by rw [List.length_take, hm, Nat.min_comm]
        have e14 : min ((vs[i].2.2.length : Nat) : Int) 20 = ((m : Nat) : Int) := by rw [hm]; omega
        repeat (first | refine WC.seq ?_ | refine WC.reg ?_ | refine WL.pure rfl rfl rfl ?_ | refine WL.nil ?_ | refine WC.skip ?_ | refine WC.block ?_ | refine WC.condT rfl ?_ | refine WC.condF rfl ?_ | refine WL.off rfl rfl rfl ?_ | refine WL.off0 rfl rfl ?_ | refine WC.exit ?_ | refine blk_hit ?_ | refine blk_miss rfl ?_ | refine WC.ret ?_)
        refine WC.mid (Option Addr × Nat × Vs) (fun (_, _, _) => [(1, ptr b1), (2, ptr b2), (3, ptr b3), (4, .int .i64 (i : Nat))])
          (fun (pa, pc, vs3) w' => rowsOf vs3 = ((rowsOf vs).take (i + 1)).map (·.take 20) ∧ Hp w w' (Stb b3 pa vs3.length pc none 0 0 :: Rvs (.slice pa vs3.length pc) vs3 :: Sb b1 (some ⟨ba, oa, none⟩) cn am cm vs ms :: Stb b2 none 0 0 none 0 0 :: vsE vs3)) ?_ ?_
        · refine WC.regH (fun w' => Hp w w' [Sb b1 (some ⟨ba, oa, none⟩) cn am cm vs ms]) mixed (by kernel_rfl) (fun w5 hw5 hh5 => ?_)
          have hp5 := hp4.keep hw5
          have hS := hp5.pick [2] (by decide)
          refine WH.pure 0 (by kernel_rfl) rfl (by kernel_rfl) rfl rfl rfl (hS) ?_
          refine WH.pure 2 (by kernel_rfl) rfl (by kernel_rfl) rfl rfl rfl (hS) ?_
          refine WH.pure 3 (by kernel_rfl) rfl (by kernel_rfl) rfl rfl rfl (hS) ?_
          refine WH.load 4 (by kernel_rfl) rfl (by kernel_rfl) rfl rfl rfl rfl rfl (fun w' h => cell_of_obj (h.obj 0 rfl) (j := 0) rfl) hS ?_
          refine WH.pure 5 (by kernel_rfl) rfl (by kernel_rfl) rfl rfl rfl (hS) ?_
          refine WH.ix1 6 (by kernel_rfl) rfl (by kernel_rfl) rfl rfl rfl rfl rfl rfl rfl c1 hS ?_
          refine WH.load 7 (by kernel_rfl) rfl (by kernel_rfl) rfl rfl rfl rfl rfl (fun w' h => cell_below h.below hac) hS ?_
          refine WH.pure 8 (by kernel_rfl) rfl (by kernel_rfl) rfl rfl rfl (hS) ?_
          refine WH.load 9 (by kernel_rfl) rfl (by kernel_rfl) rfl rfl rfl rfl rfl (fun w' h => cell_of_obj (h.obj 0 rfl) (j := 0) rfl) hS ?_
          refine WH.pure 10 (by kernel_rfl) rfl (by kernel_rfl) rfl rfl rfl (hS) ?_
          refine WH.ix1 11 (by kernel_rfl) rfl (by kernel_rfl) rfl rfl rfl rfl rfl rfl rfl c1 hS ?_
          refine WH.load 12 (by kernel_rfl) rfl (by kernel_rfl) rfl rfl rfl rfl rfl (fun w' h => cell_below h.below hac) hS ?_
          refine WH.pure 13 (by kernel_rfl) rfl (by kernel_rfl) rfl rfl rfl (hS) ?_
          refine WH.pure 14 (by kernel_rfl) rfl (by kernel_rfl) rfl rfl rfl (hS) ?_
          refine WH.known (d := 31) (congrArg (fun z => some (Value.int .i64 z)) e14) ?_
          refine WH.take 15 (by kernel_rfl) rfl (by kernel_rfl) rfl rfl (fun w' h => ySlHi (h := m) rfl rfl rfl rfl (by omega)) hS ?_
          have hsl : ∀ {w' : World} {L : List Ent}, Hp w w' L → Sl w' vs[i].1 (zs (vs[i].2.2.take 20)) := fun {w' L} h => by
            have := ((hst.hp h).rows _ hx).take 20
            rwa [show (zs vs[i].2.2).take 20 = zs (vs[i].2.2.take 20) from by simp [zs, List.map_take]] at this
          have cl : ∀ {w9 : World} {pa2 pr : Option Addr} {pc2 pk : Nat}, Hp w w9 (.row 3 1 (.slice pr m pk) m ([] ++ zs (vs[i].2.2.take 20)) :: Stb b3 pa2 (vs2.length + 1) pc2 none 0 0 :: .row 22 1 (.slice pa2 (vs2.length + 1) pc2) (vs2.length + 1) (catV vs2 ++ [.slice pr m pk]) :: Sb b1 (some ⟨ba, oa, none⟩) cn am cm vs ms :: Stb b2 none 0 0 none 0 0 :: vsE vs2) →
              rowsOf (vs2 ++ [(pr, pk, vs[i].2.2.take 20)]) = ((rowsOf vs).take (i + 1)).map (·.take 20) ∧ Hp w w9 (Stb b3 pa2 (vs2 ++ [(pr, pk, vs[i].2.2.take 20)]).length pc2 none 0 0 :: Rvs (.slice pa2 (vs2 ++ [(pr, pk, vs[i].2.2.take 20)]).length pc2) (vs2 ++ [(pr, pk, vs[i].2.2.take 20)]) :: Sb b1 (some ⟨ba, oa, none⟩) cn am cm vs ms :: Stb b2 none 0 0 none 0 0 :: vsE (vs2 ++ [(pr, pk, vs[i].2.2.take 20)])) := by
            intro w9 pa2 pr pc2 pk h
            refine ⟨?_, ?_⟩
            · rw [takeV_succ (by rw [List.length_map]; exact c1), ← hvs]; simp [rowsOf]
            · rw [List.nil_append, ← hm2] at h
              have h2 := Hp.pickT (T := vsE vs2) [_, _, _, _, _] [2, 0, 1, 3, 4] h (by decide)
              have h3 := Hp.rowIn (X := [Stb b3 pa2 (vs2.length + 1) pc2 none 0 0, Sb b1 (some ⟨ba, oa, none⟩) cn am cm vs ms, Stb b2 none 0 0 none 0 0]) (x := (pr, pk, vs[i].2.2.take 20)) h2
              rw [show Stb b3 pa2 (vs2 ++ [(pr, pk, vs[i].2.2.take 20)]).length pc2 none 0 0 = Stb b3 pa2 (vs2.length + 1) pc2 none 0 0 by rw [List.length_append]; rfl]
              exact Hp.pickT (T := vsE (vs2 ++ [(pr, pk, vs[i].2.2.take 20)])) [_, _, _, _] [1, 0, 2, 3] h3 (by decide)
          refine WH.two 1 16 rfl rfl (by kernel_rfl) ?_ ?_
          · skip
            refine WL.loadB rfl rfl rfl rfl rfl (hp5.obj 0 rfl) (j := 0) rfl (WL.nil ⟨hp5.pick [2] (by decide), ?_⟩)
            refine WH.one 16 rfl (by kernel_rfl) ?_
            refine WL.append 0 (hp5.nilrow 3 1) rfl rfl rfl rfl rfl (by decide) rfl rfl rfl (news := zs (vs[i].2.2.take 20)) (hsl hp5) (by rw [zs_len, hm2]; exact (Nat.mul_one _).symm) (zs_cells _) (by unfold maxLen; omega) (by show (0 + m) * 8 ≤ _; omega) ?_
            intro pr pk wk0 hk0 _
            rw [Nat.zero_add] at hk0 ⊢
            refine WL.nil ⟨hk0.pick [3] (by decide), ?_⟩
            refine WH.one 17 rfl (by kernel_rfl) ?_
            refine WL.buildS (cs := [.slice pr m pk]) rfl rfl rfl rfl rfl rfl rfl rfl rfl (fun bq1 wq1 hq1 => ?_)
            have hz1 := hk0.new hq1
            refine WL.nil ⟨hz1.pick [4] (by decide), ?_⟩
            refine WH.one 18 rfl (by kernel_rfl) ?_
            refine WL.append 3 hz1 rfl rfl rfl rfl rfl (by decide) rfl rfl rfl (news := [.slice pr m pk]) (Sl.of_obj (hz1.obj 0 rfl) (fun q u hq => by simpa using hq)) rfl (Cells.cons rfl Cells.nil) (by unfold maxLen; omega) (by show (vs2.length + 1) * 24 ≤ _; omega) ?_
            intro paN pcN wN hN _
            have hSN := hN.pick [4] (by decide)
            refine WL.nil ⟨hSN, ?_⟩
            refine WH.pure 19 (by kernel_rfl) rfl (by kernel_rfl) rfl rfl rfl (hSN) ?_
            refine WH.one 20 rfl (by kernel_rfl) ?_
            refine WL.store rfl rfl rfl rfl rfl rfl (hN.obj 2 rfl) (of_decide_eq_true rfl) (fun wM hMs => ?_)
            have hM := (hN.set 2 rfl rfl hMs).tail
            refine WL.nil ⟨hM.pick [3] (by decide), WH.done (by kernel_rfl) ?_⟩
            exact ⟨(paN, pcN, vs2 ++ [(pr, pk, vs[i].2.2.take 20)]), ⟨rfl, rfl, rfl, rfl, rfl⟩, cl hM⟩
          · skip
            refine WL.append 0 (hp5.nilrow 3 1) rfl rfl rfl rfl rfl (by decide) rfl rfl rfl (news := zs (vs[i].2.2.take 20)) (hsl hp5) (by rw [zs_len, hm2]; exact (Nat.mul_one _).symm) (zs_cells _) (by unfold maxLen; omega) (by show (0 + m) * 8 ≤ _; omega) ?_
            intro pr pk wk0 hk0 _
            rw [Nat.zero_add] at hk0 ⊢
            refine WL.nil ⟨hk0.pick [3] (by decide), ?_⟩
            refine WH.two 1 17 rfl rfl (by kernel_rfl) ?_ ?_
            · skip
              refine WL.loadB rfl rfl rfl rfl rfl (hk0.obj 1 rfl) (j := 0) rfl (WL.nil ⟨hk0.pick [3] (by decide), ?_⟩)
              refine WH.one 17 rfl (by kernel_rfl) ?_
              refine WL.buildS (cs := [.slice pr m pk]) rfl rfl rfl rfl rfl rfl rfl rfl rfl (fun bq1 wq1 hq1 => ?_)
              have hz1 := hk0.new hq1
              refine WL.nil ⟨hz1.pick [4] (by decide), ?_⟩
              refine WH.one 18 rfl (by kernel_rfl) ?_
              refine WL.append 3 hz1 rfl rfl rfl rfl rfl (by decide) rfl rfl rfl (news := [.slice pr m pk]) (Sl.of_obj (hz1.obj 0 rfl) (fun q u hq => by simpa using hq)) rfl (Cells.cons rfl Cells.nil) (by unfold maxLen; omega) (by show (vs2.length + 1) * 24 ≤ _; omega) ?_
              intro paN pcN wN hN _
              have hSN := hN.pick [4] (by decide)
              refine WL.nil ⟨hSN, ?_⟩
              refine WH.pure 19 (by kernel_rfl) rfl (by kernel_rfl) rfl rfl rfl (hSN) ?_
              refine WH.one 20 rfl (by kernel_rfl) ?_
              refine WL.store rfl rfl rfl rfl rfl rfl (hN.obj 2 rfl) (of_decide_eq_true rfl) (fun wM hMs => ?_)
              have hM := (hN.set 2 rfl rfl hMs).tail
              refine WL.nil ⟨hM.pick [3] (by decide), WH.done (by kernel_rfl) ?_⟩
              exact ⟨(paN, pcN, vs2 ++ [(pr, pk, vs[i].2.2.take 20)]), ⟨rfl, rfl, rfl, rfl, rfl⟩, cl hM⟩
            · skip
              refine WL.buildS (cs := [.slice pr m pk]) rfl rfl rfl rfl rfl rfl rfl rfl rfl (fun bq1 wq1 hq1 => ?_)
              have hz1 := hk0.new hq1
              refine WL.nil ⟨hz1.pick [4] (by decide), ?_⟩
              refine WH.one 1 rfl (by kernel_rfl) ?_
              refine WL.loadB rfl rfl rfl rfl rfl (hz1.obj 2 rfl) (j := 0) rfl (WL.nil ⟨hz1.pick [4] (by decide), ?_⟩)
              refine WH.one 18 rfl (by kernel_rfl) ?_
              refine WL.append 3 hz1 rfl rfl rfl rfl rfl (by decide) rfl rfl rfl (news := [.slice pr m pk]) (Sl.of_obj (hz1.obj 0 rfl) (fun q u hq => by simpa using hq)) rfl (Cells.cons rfl Cells.nil) (by unfold maxLen; omega) (by show (vs2.length + 1) * 24 ≤ _; omega) ?_
              intro paN pcN wN hN _
              have hSN := hN.pick [4] (by decide)
              refine WL.nil ⟨hSN, ?_⟩
              refine WH.pure 19 (by kernel_rfl) rfl (by kernel_rfl) rfl rfl rfl (hSN) ?_
              refine WH.one 20 rfl (by kernel_rfl) ?_
              refine WL.store rfl rfl rfl rfl rfl rfl (hN.obj 2 rfl) (of_decide_eq_true rfl) (fun wM hMs => ?_)
              have hM := (hN.set 2 rfl rfl hMs).tail
              refine WL.nil ⟨hM.pick [3] (by decide), WH.done (by kernel_rfl) ?_⟩
              exact ⟨(paN, pcN, vs2 ++ [(pr, pk, vs[i].2.2.take 20)]), ⟨rfl, rfl, rfl, rfl, rfl⟩, cl hM⟩
        · rintro ⟨pa, pc, vs3⟩ e5 w5 hsub ⟨hvs3, hp5⟩
          refine WC.sub hsub ?_
          repeat (first | refine WC.seq ?_ | refine WC.reg ?_ | refine WL.pure rfl rfl rfl ?_ | refine WL.nil ?_ | refine WC.skip ?_ | refine WC.block ?_ | refine WC.condT rfl ?_ | refine WC.condF rfl ?_ | refine WL.off rfl rfl rfl ?_ | refine WL.off0 rfl rfl ?_ | refine WC.exit ?_ | refine blk_hit ?_ | refine blk_miss rfl ?_ | refine WC.ret ?_)
          exact ⟨(i + 1, pa, pc, vs3), (by show 20 - (i + 1) < 20 - i; omega), ⟨rfl, rfl, rfl, congrArg (fun z => some (Value.int .i64 z)) step, rfl⟩, c1, c2, hvs3, hp5⟩
      · have c2 : ¬ i < 20 := by have h : ¬ ((i : Nat) : Int) < 20 := of_decide_eq_false c2; omega
        repeat (first | refine WC.seq ?_ | refine WC.reg ?_ | refine WL.pure rfl rfl rfl ?_ | refine WL.nil ?_ | refine WC.skip ?_ | refine WC.block ?_ | refine WC.condT rfl ?_ | refine WC.condF rfl ?_ | refine WL.off rfl rfl rfl ?_ | refine WL.off0 rfl rfl ?_ | refine WC.exit ?_ | refine blk_hit ?_ | refine blk_miss rfl ?_ | refine WC.ret ?_)
        exact ⟨(na, nc, vs2), ⟨rfl, rfl, rfl, rfl⟩, fin (.inr c2), hp4⟩
    · have c1 : ¬ i < vs.length := by have h : ¬ ((i : Nat) : Int) < ((vs.length : Nat) : Int) := of_decide_eq_false c1; omega
      repeat (first | refine WC.seq ?_ | refine WC.reg ?_ | refine WL.pure rfl rfl rfl ?_ | refine WL.nil ?_ | refine WC.skip ?_ | refine WC.block ?_ | refine WC.condT rfl ?_ | refine WC.condF rfl ?_ | refine WL.off rfl rfl rfl ?_ | refine WL.off0 rfl rfl ?_ | refine WC.exit ?_ | refine blk_hit ?_ | refine blk_miss rfl ?_ | refine WC.ret ?_)
      exact ⟨(na, nc, vs2), ⟨rfl, rfl, rfl, rfl⟩, fin (.inl c1), hp4⟩
  rintro ⟨na, nc, vs2⟩ e4 w4 hsub ⟨hvs, hp4⟩
  refine WC.sub hsub ?_
  clear hsub e4 hp3 hp2 hp1
  replace hp4 : Hp w w4 (Stb b3 na vs2.length nc none 0 0 :: Rvs (.slice na vs2.length nc) vs2 :: Sb b1 an cn am cm vs ms :: Stb b2 none 0 0 none 0 0 :: vsE vs2) := hp4
  obtain ⟨m, hm⟩ : ∃ m, m = min ms.length 20 := ⟨_, rfl⟩
  have hm2 : (ms.take 20).length = m := by rw [List.length_take, hm, Nat.min_comm]
  have e7 : min ((ms.length : Nat) : Int) 20 = ((m : Nat) : Int) := by rw [hm]; omega
  refine WC.seq ?_
  refine WC.mid (Option Addr × Nat) (fun _ => [(2, ptr b2), (3, ptr b3)])
    (fun (ma, mc) w' => Hp w w' (Stb b3 na vs2.length nc ma m mc :: Rvs (.slice na vs2.length nc) vs2 :: .row 3 1 (.slice ma m mc) m (zs (ms.take 20)) :: Stb b2 none 0 0 none 0 0 :: vsE vs2)) ?_ ?_
  · refine WC.regH (fun w' => Hp w w' [Sb b1 an cn am cm vs ms]) mixed (by kernel_rfl) (fun w5 hw5 hh5 => ?_)
    have hp5 := hp4.keep hw5
    have hS := hp5.pick [2] (by decide)
    refine WH.pure 0 (by kernel_rfl) rfl (by kernel_rfl) rfl rfl rfl (hS) ?_
    refine WH.pure 2 (by kernel_rfl) rfl (by kernel_rfl) rfl rfl rfl (hS) ?_
    refine WH.load 3 (by kernel_rfl) rfl (by kernel_rfl) rfl rfl rfl rfl rfl (fun w' h => cell_of_obj (h.obj 0 rfl) (j := 1) rfl) hS ?_
    refine WH.pure 4 (by kernel_rfl) rfl (by kernel_rfl) rfl rfl rfl (hS) ?_
    refine WH.load 5 (by kernel_rfl) rfl (by kernel_rfl) rfl rfl rfl rfl rfl (fun w' h => cell_of_obj (h.obj 0 rfl) (j := 1) rfl) hS ?_
    refine WH.pure 6 (by kernel_rfl) rfl (by kernel_rfl) rfl rfl rfl (hS) ?_
    refine WH.pure 7 (by kernel_rfl) rfl (by kernel_rfl) rfl rfl rfl (hS) ?_
    refine WH.known (d := 44) (congrArg (fun z => some (Value.int .i64 z)) e7) ?_
    refine WH.take 8 (by kernel_rfl) rfl (by kernel_rfl) rfl rfl (fun w' h => ySlHi (h := m) rfl rfl rfl rfl (by omega)) hS ?_
    refine WH.one 1 rfl (by kernel_rfl) ?_
    refine WL.loadB rfl rfl rfl rfl rfl (hp5.obj 0 rfl) (j := 1) rfl (WL.nil ⟨hS, ?_⟩)
    refine WH.one 9 rfl (by kernel_rfl) ?_
    refine WL.append 0 (hp5.nilrow 3 1) rfl rfl rfl rfl rfl (by decide) rfl rfl rfl (news := zs (ms.take 20)) (by
      have := ((hst.hp hp5).mks).take 20
      rwa [show (zs ms).take 20 = zs (ms.take 20) from by simp [zs, List.map_take]] at this) (by rw [zs_len, hm2]; exact (Nat.mul_one _).symm) (zs_cells _) (by unfold maxLen; omega) (by show (0 + m) * 8 ≤ _; omega) ?_
    intro ma mc w6 hp6 _
    rw [Nat.zero_add] at hp6 ⊢
    replace hp6 : Hp w w6 (.row 3 1 (.slice ma m mc) m (zs (ms.take 20)) :: Stb b3 na vs2.length nc none 0 0 :: Rvs (.slice na vs2.length nc) vs2 :: Sb b1 an cn am cm vs ms :: Stb b2 none 0 0 none 0 0 :: vsE vs2) := hp6
    have hS := hp6.pick [3] (by decide)
    refine WL.nil ⟨hS, ?_⟩
    refine WH.pure 10 (by kernel_rfl) rfl (by kernel_rfl) rfl rfl rfl (hS) ?_
    refine WH.one 11 rfl (by kernel_rfl) ?_
    refine WL.store rfl rfl rfl rfl rfl rfl (hp6.obj 1 rfl) (Nat.lt_succ_self 1) (fun w7 h7 => ?_)
    have hp7 := hp6.set 1 rfl rfl h7
    refine WL.nil ⟨hp7.pick [3] (by decide), WH.done (by kernel_rfl) ?_⟩
    exact ⟨(ma, mc), ⟨rfl, rfl, rfl⟩, Hp.pickT (T := vsE vs2) [_, _, _, _, _] [1, 2, 0, 4] hp7 (by decide)⟩
  rintro ⟨ma, mc⟩ e5 w5 hsub hp5
  refine WC.sub hsub ?_
  clear hsub e5 hp4
  replace hp5 : Hp w w5 (Stb b3 na vs2.length nc ma m mc :: Rvs (.slice na vs2.length nc) vs2 :: .row 3 1 (.slice ma m mc) m (zs (ms.take 20)) :: Stb b2 none 0 0 none 0 0 :: vsE vs2) := hp5
  repeat (first | refine WC.seq ?_ | refine WC.reg ?_ | refine WL.pure rfl rfl rfl ?_ | refine WL.nil ?_ | refine WC.skip ?_ | refine WC.block ?_ | refine WC.condT rfl ?_ | refine WC.condF rfl ?_ | refine WL.off rfl rfl rfl ?_ | refine WL.off0 rfl rfl ?_ | refine WC.exit ?_ | refine blk_hit ?_ | refine blk_miss rfl ?_ | refine WC.ret ?_)
  refine WL.loadN rfl rfl rfl rfl rfl (cs := [.slice na vs2.length nc, .slice ma m mc]) rfl (fun q v hq => cell_of_obj (hp5.obj 0 rfl) (by rw [Nat.zero_add]; simpa using hq)) ?_
  refine WL.storeN rfl rfl rfl rfl rfl (by simp [Value.oneCell']) (hp5.obj 3 rfl) (Nat.le_refl _) rfl (fun w6 h6 => ?_)
  have hp6 := hp5.set 3 rfl rfl h6
  repeat (first | refine WC.seq ?_ | refine WC.reg ?_ | refine WL.pure rfl rfl rfl ?_ | refine WL.nil ?_ | refine WC.skip ?_ | refine WC.block ?_ | refine WC.condT rfl ?_ | refine WC.condF rfl ?_ | refine WL.off rfl rfl rfl ?_ | refine WL.off0 rfl rfl ?_ | refine WC.exit ?_ | refine blk_hit ?_ | refine blk_miss rfl ?_ | refine WC.ret ?_)
  rw [hm2]
  refine Res.cell rfl rfl rfl rfl rfl rfl (hp6.obj 3 rfl) ⟨na, nc, ma, mc, vs2, rfl, hvs, ?_⟩
  have := Hp.pickT (T := vsE vs2) [_, _, _, _] [1, 2] hp6 (by decide)
  unfold Ri
  rw [hm2]
  exact this
end Go.Proofs.YtpbbneclkhfgoaaDoor
end
section
/- ltl, forty-fifth: the reference's Structure. -/
namespace Go.Proofs.YtpbbneclkhfgoaaDoor
open Go.W Go.Ltl Go.RowKit
set_option maxRecDepth 100000
set_option linter.unusedSectionVars false
attribute [local irreducible] WC WL WQ WS WH

def rowsOf2 (vs : Vs) (k : Nat) : List Int := (vs.map fun x => x.2.2).getD k []
theorem rStructure_any (an : Option Addr) (cn : Nat) (am : Option Addr) (cm : Nat) (vs : Vs) (ms : List Int) (hvl : vs.length ≤ 1000000) (hms : ms.length ≤ 1000000) (hvs : ∀ x ∈ vs, x.2.2.length ≤ 1000000) (w : World) (hst : Stc w an am vs ms) :
    Ret Tryd.prog 39 [stV an cn am cm vs ms] w fun v w' => v = .bool (strB vs ms) ∧ Hp w w' [] := by
  refine enter Tryd.func39 rfl rfl ⟨rfl, rfl⟩ rfl ?_
  repeat (first | refine WC.seq ?_ | refine WC.reg ?_ | refine WL.pure rfl rfl rfl ?_ | refine WL.nil ?_ | refine WC.skip ?_ | refine WC.block ?_ | refine WC.condT rfl ?_ | refine WC.condF rfl ?_ | refine WL.off rfl rfl rfl ?_ | refine WL.off0 rfl rfl ?_ | refine WC.exit ?_ | refine blk_hit ?_ | refine blk_miss rfl ?_ | refine WC.ret ?_)
  refine WL.box rfl rfl rfl (fun b w1 h1 => ?_)
  have hp1 : Hp w w1 [Sb b an cn am cm vs ms] := (Hp.start w).new h1
  repeat (first | refine WC.seq ?_ | refine WC.reg ?_ | refine WL.pure rfl rfl rfl ?_ | refine WL.nil ?_ | refine WC.skip ?_ | refine WC.block ?_ | refine WC.condT rfl ?_ | refine WC.condF rfl ?_ | refine WL.off rfl rfl rfl ?_ | refine WL.off0 rfl rfl ?_ | refine WC.exit ?_ | refine blk_hit ?_ | refine blk_miss rfl ?_ | refine WC.ret ?_)
  refine WL.loadB rfl rfl rfl rfl rfl (hp1.obj 0 rfl) (j := 0) rfl ?_
  repeat (first | refine WC.seq ?_ | refine WC.reg ?_ | refine WL.pure rfl rfl rfl ?_ | refine WL.nil ?_ | refine WC.skip ?_ | refine WC.block ?_ | refine WC.condT rfl ?_ | refine WC.condF rfl ?_ | refine WL.off rfl rfl rfl ?_ | refine WL.off0 rfl rfl ?_ | refine WC.exit ?_ | refine blk_hit ?_ | refine blk_miss rfl ?_ | refine WC.ret ?_)
  refine WL.split 11 rfl (fun c1 => ?_) (fun c1 => ?_)
  · have c1 : ¬ 1 ≤ vs.length := by have := of_decide_eq_true c1; omega
    have e1 : strB vs ms = false := by unfold strB; rw [decide_eq_false c1]; rfl
    rw [e1]
    repeat (first | refine WC.seq ?_ | refine WC.reg ?_ | refine WL.pure rfl rfl rfl ?_ | refine WL.nil ?_ | refine WC.skip ?_ | refine WC.block ?_ | refine WC.condT rfl ?_ | refine WC.condF rfl ?_ | refine WL.off rfl rfl rfl ?_ | refine WL.off0 rfl rfl ?_ | refine WC.exit ?_ | refine blk_hit ?_ | refine blk_miss rfl ?_ | refine WC.ret ?_)
    exact Res.one rfl rfl rfl ⟨rfl, hp1.nil'⟩
  have c1 : 1 ≤ vs.length := by have := of_decide_eq_false c1; omega
  repeat (first | refine WC.seq ?_ | refine WC.reg ?_ | refine WL.pure rfl rfl rfl ?_ | refine WL.nil ?_ | refine WC.skip ?_ | refine WC.block ?_ | refine WC.condT rfl ?_ | refine WC.condF rfl ?_ | refine WL.off rfl rfl rfl ?_ | refine WL.off0 rfl rfl ?_ | refine WC.exit ?_ | refine blk_hit ?_ | refine blk_miss rfl ?_ | refine WC.ret ?_)
  refine WL.split 15 rfl (fun c2 => ?_) (fun c2 => ?_)
  · have c2 : ¬ vs.length ≤ 16 := by have := of_decide_eq_true c2; omega
    have e1 : strB vs ms = false := by unfold strB; rw [decide_eq_false c2, Bool.and_false]; rfl
    rw [e1]
    repeat (first | refine WC.seq ?_ | refine WC.reg ?_ | refine WL.pure rfl rfl rfl ?_ | refine WL.nil ?_ | refine WC.skip ?_ | refine WC.block ?_ | refine WC.condT rfl ?_ | refine WC.condF rfl ?_ | refine WL.off rfl rfl rfl ?_ | refine WL.off0 rfl rfl ?_ | refine WC.exit ?_ | refine blk_hit ?_ | refine blk_miss rfl ?_ | refine WC.ret ?_)
    exact Res.one rfl rfl rfl ⟨rfl, hp1.nil'⟩
  have c2 : vs.length ≤ 16 := by have := of_decide_eq_false c2; omega
  repeat (first | refine WC.seq ?_ | refine WC.reg ?_ | refine WL.pure rfl rfl rfl ?_ | refine WL.nil ?_ | refine WC.skip ?_ | refine WC.block ?_ | refine WC.condT rfl ?_ | refine WC.condF rfl ?_ | refine WL.off rfl rfl rfl ?_ | refine WL.off0 rfl rfl ?_ | refine WC.exit ?_ | refine blk_hit ?_ | refine blk_miss rfl ?_ | refine WC.ret ?_)
  refine WL.loadB rfl rfl rfl rfl rfl (hp1.obj 0 rfl) (j := 1) rfl ?_
  repeat (first | refine WC.seq ?_ | refine WC.reg ?_ | refine WL.pure rfl rfl rfl ?_ | refine WL.nil ?_ | refine WC.skip ?_ | refine WC.block ?_ | refine WC.condT rfl ?_ | refine WC.condF rfl ?_ | refine WL.off rfl rfl rfl ?_ | refine WL.off0 rfl rfl ?_ | refine WC.exit ?_ | refine blk_hit ?_ | refine blk_miss rfl ?_ | refine WC.ret ?_)
  cases c3 : decide (ms.length = vs.length) with
  | false =>
    have hne : ms.length ≠ vs.length := of_decide_eq_false c3
    have e1 : strB vs ms = false := by unfold strB; rw [c3, Bool.and_false]; rfl
    refine WC.cond rfl (fun _ => ?_) (fun c => ?_)
    · rw [e1]
      repeat (first | refine WC.seq ?_ | refine WC.reg ?_ | refine WL.pure rfl rfl rfl ?_ | refine WL.nil ?_ | refine WC.skip ?_ | refine WC.block ?_ | refine WC.condT rfl ?_ | refine WC.condF rfl ?_ | refine WL.off rfl rfl rfl ?_ | refine WL.off0 rfl rfl ?_ | refine WC.exit ?_ | refine blk_hit ?_ | refine blk_miss rfl ?_ | refine WC.ret ?_)
      exact Res.one rfl rfl rfl ⟨rfl, hp1.nil'⟩
    · have c : (!(((ms.length : Nat) : Int) == ((vs.length : Nat) : Int))) = false := c
      simp only [Bool.not_eq_false', beq_iff_eq] at c
      omega
  | true =>
    have heq : ms.length = vs.length := of_decide_eq_true c3
    refine WC.cond rfl (fun c => ?_) (fun _ => ?_)
    · have c : (!(((ms.length : Nat) : Int) == ((vs.length : Nat) : Int))) = true := c
      rw [heq] at c
      simp at c
    have hstr : strB vs ms = (ms.all markB && vs.all fun x => rowB vs.length x.2.2) := by
      unfold strB; rw [decide_eq_true c1, decide_eq_true c2, decide_eq_true heq]; rfl
    repeat (first | refine WC.seq ?_ | refine WC.reg ?_ | refine WL.pure rfl rfl rfl ?_ | refine WL.nil ?_ | refine WC.skip ?_ | refine WC.block ?_ | refine WC.condT rfl ?_ | refine WC.condF rfl ?_ | refine WL.off rfl rfl rfl ?_ | refine WL.off0 rfl rfl ?_ | refine WC.exit ?_ | refine blk_hit ?_ | refine blk_miss rfl ?_ | refine WC.ret ?_)
    refine WC.loop Nat (fun i => [(1, ptr b), (3, .int .i64 (vs.length : Nat)), (4, .int .i64 (i : Nat))])
      (fun i w' => i ≤ vs.length ∧ (∀ k, k < i → markB (ms.getD k 0) = true ∧ rowB vs.length (rowsOf2 vs k) = true) ∧ Hp w w' [Sb b an cn am cm vs ms]) (fun i => vs.length - i) 0 ⟨rfl, rfl, rfl, rfl⟩ ⟨Nat.zero_le _, fun k hk => by omega, hp1⟩ ?_
    clear hp1 h1
    rintro i w2 ⟨hi, hall, hp1⟩
    replace hp1 : Hp w w2 [Sb b an cn am cm vs ms] := hp1
    replace hi : i ≤ vs.length := hi
    repeat (first | refine WC.seq ?_ | refine WC.reg ?_ | refine WL.pure rfl rfl rfl ?_ | refine WL.nil ?_ | refine WC.skip ?_ | refine WC.block ?_ | refine WC.condT rfl ?_ | refine WC.condF rfl ?_ | refine WL.off rfl rfl rfl ?_ | refine WL.off0 rfl rfl ?_ | refine WC.exit ?_ | refine blk_hit ?_ | refine blk_miss rfl ?_ | refine WC.ret ?_)
    refine WC.cond rfl (fun h2 => ?_) (fun h2 => ?_)
    · have hi : i < vs.length := by have := of_decide_eq_true h2; omega
      have him : i < ms.length := by omega
      have step := wrap_succ (i := i) (n := i + 1) (by omega) (by omega)
      have hsl := (hst.hp hp1).rows _ (List.getElem_mem hi)
      have hlen := hvs _ (List.getElem_mem hi)
      have hxm := List.getElem_mem hi
      have hrow : rowsOf2 vs i = vs[i].2.2 := by unfold rowsOf2; rw [List.getD_eq_getElem?_getD, List.getElem?_map, List.getElem?_eq_getElem hi]; rfl
      have hmk : ms.getD i 0 = ms[i] := by simp [him]
      have hbad : (markB ms[i] = false ∨ rowB vs.length vs[i].2.2 = false) → strB vs ms = false := by
        rw [hstr]
        rintro (h | h)
        · rw [List.all_eq_false.2 ⟨_, List.getElem_mem him, by rw [h]; simp⟩]; rfl
        · rw [List.all_eq_false.2 ⟨_, List.getElem_mem hi, by rw [h]; simp⟩, Bool.and_false]
      have hstep : markB ms[i] = true → rowB vs.length vs[i].2.2 = true → ∀ k, k < i + 1 → markB (ms.getD k 0) = true ∧ rowB vs.length (rowsOf2 vs k) = true := by
        intro h1 h2 k hk
        rcases Nat.lt_or_ge k i with h | h
        · exact hall k h
        · rw [show k = i by omega, hmk, hrow]; exact ⟨h1, h2⟩
      obtain ⟨x, hx⟩ : ∃ x, x = vs[i] := ⟨_, rfl⟩
      have hcat := catV_at hi
      rw [← hx] at hsl hlen hbad hstep hcat hxm
      clear hrow hx
      obtain ⟨ra, rc, l⟩ := x
      replace hsl : Sl w2 ra (zs l) := hsl
      replace hlen : l.length ≤ 1000000 := hlen
      replace hbad : (markB ms[i] = false ∨ rowB vs.length l = false) → strB vs ms = false := hbad
      replace hstep : markB ms[i] = true → rowB vs.length l = true → ∀ k, k < i + 1 → markB (ms.getD k 0) = true ∧ rowB vs.length (rowsOf2 vs k) = true := hstep
      replace hcat : (catV vs)[i]? = some (.slice ra l.length rc) := hcat
      repeat (first | refine WC.seq ?_ | refine WC.reg ?_ | refine WL.pure rfl rfl rfl ?_ | refine WL.nil ?_ | refine WC.skip ?_ | refine WC.block ?_ | refine WC.condT rfl ?_ | refine WC.condF rfl ?_ | refine WL.off rfl rfl rfl ?_ | refine WL.off0 rfl rfl ?_ | refine WC.exit ?_ | refine blk_hit ?_ | refine blk_miss rfl ?_ | refine WC.ret ?_)
      refine WL.loadB rfl rfl rfl rfl rfl (hp1.obj 0 rfl) (j := 1) rfl ?_
      refine WL.pure rfl rfl rfl ?_
      refine WL.ixload rfl (fun _ => rfl) rfl rfl rfl rfl rfl rfl rfl him rfl rfl (hst.hp hp1).mks (zs_at him) ?_
      intro q0
      repeat (first | refine WC.seq ?_ | refine WC.reg ?_ | refine WL.pure rfl rfl rfl ?_ | refine WL.nil ?_ | refine WC.skip ?_ | refine WC.block ?_ | refine WC.condT rfl ?_ | refine WC.condF rfl ?_ | refine WL.off rfl rfl rfl ?_ | refine WL.off0 rfl rfl ?_ | refine WC.exit ?_ | refine blk_hit ?_ | refine blk_miss rfl ?_ | refine WC.ret ?_)
      refine WL.split 33 rfl (fun c4 => ?_) (fun c4 => ?_)
      · have c4 : ms[i] < 0 := of_decide_eq_true c4
        rw [hbad (.inl (by unfold markB; rw [decide_eq_false (show ¬ 0 ≤ ms[i] by omega)]; rfl))]
        repeat (first | refine WC.seq ?_ | refine WC.reg ?_ | refine WL.pure rfl rfl rfl ?_ | refine WL.nil ?_ | refine WC.skip ?_ | refine WC.block ?_ | refine WC.condT rfl ?_ | refine WC.condF rfl ?_ | refine WL.off rfl rfl rfl ?_ | refine WL.off0 rfl rfl ?_ | refine WC.exit ?_ | refine blk_hit ?_ | refine blk_miss rfl ?_ | refine WC.ret ?_)
        exact Res.one rfl rfl rfl ⟨rfl, hp1.nil'⟩
      have c4 : 0 ≤ ms[i] := by have := of_decide_eq_false c4; omega
      repeat (first | refine WC.seq ?_ | refine WC.reg ?_ | refine WL.pure rfl rfl rfl ?_ | refine WL.nil ?_ | refine WC.skip ?_ | refine WC.block ?_ | refine WC.condT rfl ?_ | refine WC.condF rfl ?_ | refine WL.off rfl rfl rfl ?_ | refine WL.off0 rfl rfl ?_ | refine WC.exit ?_ | refine blk_hit ?_ | refine blk_miss rfl ?_ | refine WC.ret ?_)
      refine WL.loadB rfl rfl rfl rfl rfl (hp1.obj 0 rfl) (j := 1) rfl ?_
      refine WL.pure rfl rfl rfl ?_
      refine WL.ixload rfl (fun _ => rfl) rfl rfl rfl rfl rfl rfl rfl him rfl rfl (hst.hp hp1).mks (zs_at him) ?_
      intro q1
      repeat (first | refine WC.seq ?_ | refine WC.reg ?_ | refine WL.pure rfl rfl rfl ?_ | refine WL.nil ?_ | refine WC.skip ?_ | refine WC.block ?_ | refine WC.condT rfl ?_ | refine WC.condF rfl ?_ | refine WL.off rfl rfl rfl ?_ | refine WL.off0 rfl rfl ?_ | refine WC.exit ?_ | refine blk_hit ?_ | refine blk_miss rfl ?_ | refine WC.ret ?_)
      refine WL.split 41 rfl (fun c5 => ?_) (fun c5 => ?_)
      · have c5 : 15 < ms[i] := of_decide_eq_true c5
        rw [hbad (.inl (by unfold markB; rw [decide_eq_false (show ¬ ms[i] ≤ 15 by omega), Bool.and_false]))]
        repeat (first | refine WC.seq ?_ | refine WC.reg ?_ | refine WL.pure rfl rfl rfl ?_ | refine WL.nil ?_ | refine WC.skip ?_ | refine WC.block ?_ | refine WC.condT rfl ?_ | refine WC.condF rfl ?_ | refine WL.off rfl rfl rfl ?_ | refine WL.off0 rfl rfl ?_ | refine WC.exit ?_ | refine blk_hit ?_ | refine blk_miss rfl ?_ | refine WC.ret ?_)
        exact Res.one rfl rfl rfl ⟨rfl, hp1.nil'⟩
      have c5 : ms[i] ≤ 15 := by have h : ¬ 15 < ms[i] := of_decide_eq_false c5; omega
      have hmb : markB ms[i] = true := by unfold markB; rw [decide_eq_true c4, decide_eq_true c5]; rfl
      repeat (first | refine WC.seq ?_ | refine WC.reg ?_ | refine WL.pure rfl rfl rfl ?_ | refine WL.nil ?_ | refine WC.skip ?_ | refine WC.block ?_ | refine WC.condT rfl ?_ | refine WC.condF rfl ?_ | refine WL.off rfl rfl rfl ?_ | refine WL.off0 rfl rfl ?_ | refine WC.exit ?_ | refine blk_hit ?_ | refine blk_miss rfl ?_ | refine WC.ret ?_)
      refine WL.loadB rfl rfl rfl rfl rfl (hp1.obj 0 rfl) (j := 0) rfl ?_
      refine WL.pure rfl rfl rfl ?_
      refine WL.ixload rfl (fun _ => rfl) rfl rfl rfl rfl rfl rfl rfl hi rfl rfl (hst.hp hp1).nx hcat ?_
      intro q2
      repeat (first | refine WC.seq ?_ | refine WC.reg ?_ | refine WL.pure rfl rfl rfl ?_ | refine WL.nil ?_ | refine WC.skip ?_ | refine WC.block ?_ | refine WC.condT rfl ?_ | refine WC.condF rfl ?_ | refine WL.off rfl rfl rfl ?_ | refine WL.off0 rfl rfl ?_ | refine WC.exit ?_ | refine blk_hit ?_ | refine blk_miss rfl ?_ | refine WC.ret ?_)
      refine WC.cond rfl (fun h3 => ?_) (fun h3 => ?_)
      · have h3 : l = [] := List.eq_nil_of_length_eq_zero (by have h5 : (((l.length : Nat) : Int) == 0) = true := h3; rw [beq_iff_eq] at h5; omega)
        rw [hbad (.inr (by unfold rowB; rw [h3]; rfl))]
        repeat (first | refine WC.seq ?_ | refine WC.reg ?_ | refine WL.pure rfl rfl rfl ?_ | refine WL.nil ?_ | refine WC.skip ?_ | refine WC.block ?_ | refine WC.condT rfl ?_ | refine WC.condF rfl ?_ | refine WL.off rfl rfl rfl ?_ | refine WL.off0 rfl rfl ?_ | refine WC.exit ?_ | refine blk_hit ?_ | refine blk_miss rfl ?_ | refine WC.ret ?_)
        exact Res.one rfl rfl rfl ⟨rfl, hp1.nil'⟩
      have h3 : l ≠ [] := fun h => by rw [h] at h3; cases h3
      repeat (first | refine WC.seq ?_ | refine WC.reg ?_ | refine WL.pure rfl rfl rfl ?_ | refine WL.nil ?_ | refine WC.skip ?_ | refine WC.block ?_ | refine WC.condT rfl ?_ | refine WC.condF rfl ?_ | refine WL.off rfl rfl rfl ?_ | refine WL.off0 rfl rfl ?_ | refine WC.exit ?_ | refine blk_hit ?_ | refine blk_miss rfl ?_ | refine WC.ret ?_)
      obtain ⟨ba, oa, hae, hac⟩ := hst.nx i _ hcat
      have hslw : Sl w ra (zs l) := hst.rows _ hxm
      obtain ⟨br, orr, hre, hrc⟩ := hslw 0 (.int .i64 (l.getD 0 0)) (zs_getD (List.length_pos_iff.2 h3))
      subst hae
      subst hre
      refine WC.loop Nat (fun j => [(1, ptr b), (3, .int .i64 (vs.length : Nat)), (4, .int .i64 (i : Nat)), (5, .int .i64 (j : Nat))])
        (fun j w' => j ≤ l.length ∧ (List.range j).all (sucB vs.length l) = true ∧ Hp w w' [Sb b (some ⟨ba, oa, none⟩) cn am cm vs ms]) (fun j => l.length - j) 0 ⟨rfl, rfl, rfl, rfl, rfl⟩ ⟨Nat.zero_le _, by simp, hp1⟩ ?_
      clear hp1 hsl
      rintro j w4 ⟨hj, hsu, hp1⟩
      replace hp1 : Hp w w4 [Sb b (some ⟨ba, oa, none⟩) cn am cm vs ms] := hp1
      replace hsu : (List.range j).all (sucB vs.length l) = true := hsu
      repeat (first | refine WC.seq ?_ | refine WC.reg ?_ | refine WL.pure rfl rfl rfl ?_ | refine WL.nil ?_ | refine WC.skip ?_ | refine WC.block ?_ | refine WC.condT rfl ?_ | refine WC.condF rfl ?_ | refine WL.off rfl rfl rfl ?_ | refine WL.off0 rfl rfl ?_ | refine WC.exit ?_ | refine blk_hit ?_ | refine blk_miss rfl ?_ | refine WC.ret ?_)
      refine WL.loadB rfl rfl rfl rfl rfl (hp1.obj 0 rfl) (j := 0) rfl ?_
      refine WL.pure rfl rfl rfl ?_
      refine WL.ixload rfl (fun _ => rfl) rfl rfl rfl rfl rfl rfl rfl hi rfl rfl (hst.hp hp1).nx hcat ?_
      intro q3
      repeat (first | refine WC.seq ?_ | refine WC.reg ?_ | refine WL.pure rfl rfl rfl ?_ | refine WL.nil ?_ | refine WC.skip ?_ | refine WC.block ?_ | refine WC.condT rfl ?_ | refine WC.condF rfl ?_ | refine WL.off rfl rfl rfl ?_ | refine WL.off0 rfl rfl ?_ | refine WC.exit ?_ | refine blk_hit ?_ | refine blk_miss rfl ?_ | refine WC.ret ?_)
      refine WC.cond rfl (fun h4 => ?_) (fun h4 => ?_)
      · have hj : j < l.length := by have := of_decide_eq_true h4; omega
        have stepj := wrap_succ (i := j) (n := j + 1) (by omega) (by omega)
        have hgj : l.getD j 0 = l[j] := by simp [hj]
        have hno : sucB vs.length l j = false → rowB vs.length l = false := by
          intro h
          unfold rowB
          rw [List.all_eq_false.2 ⟨j, List.mem_range.2 hj, by rw [h]; simp⟩, Bool.and_false]
        have hyes : sucB vs.length l j = true → (List.range (j + 1)).all (sucB vs.length l) = true := by
          intro h
          rw [List.range_succ, List.all_append, hsu, List.all_cons, h]; rfl
        have hcj := Sl.cell hslw (zs_at hj)
        repeat (first | refine WC.seq ?_ | refine WC.reg ?_ | refine WL.pure rfl rfl rfl ?_ | refine WL.nil ?_ | refine WC.skip ?_ | refine WC.block ?_ | refine WC.condT rfl ?_ | refine WC.condF rfl ?_ | refine WL.off rfl rfl rfl ?_ | refine WL.off0 rfl rfl ?_ | refine WC.exit ?_ | refine blk_hit ?_ | refine blk_miss rfl ?_ | refine WC.ret ?_)
        refine WC.mid Bool (fun r => [(1, ptr b), (3, .int .i64 (vs.length : Nat)), (4, .int .i64 (i : Nat)), (5, .int .i64 (j : Nat)), (104, .bool r)])
          (fun r w' => r = !sucB vs.length l j ∧ Hp w w' [Sb b (some ⟨ba, oa, none⟩) cn am cm vs ms]) ?_ ?_
        · refine WC.regQ (fun w' => Hp w w' [Sb b (some ⟨ba, oa, none⟩) cn am cm vs ms]) mixed (by kernel_rfl) (fun w' hw' => hp1.keep hw') ?_
          repeat (first | refine WQ.pure rfl rfl rfl ?_ | refine WQ.off rfl rfl rfl ?_ | refine WQ.nil ?_)
          refine WQ.load rfl rfl rfl rfl rfl (fun w' h => cell_of_obj (h.obj 0 rfl) (j := 0) rfl) ?_
          repeat (first | refine WQ.pure rfl rfl rfl ?_ | refine WQ.off rfl rfl rfl ?_ | refine WQ.nil ?_)
          refine WQ.ixload rfl (fun _ => rfl) rfl rfl rfl rfl rfl rfl rfl hi rfl rfl (fun w' h => cell_below h.below hac) ?_
          repeat (first | refine WQ.pure rfl rfl rfl ?_ | refine WQ.off rfl rfl rfl ?_ | refine WQ.nil ?_)
          refine WQ.ixload rfl (fun _ => rfl) rfl rfl rfl rfl rfl rfl rfl hj rfl rfl (fun w' h => cell_below h.below hcj) ?_
          repeat (first | refine WQ.pure rfl rfl rfl ?_ | refine WQ.off rfl rfl rfl ?_ | refine WQ.nil ?_)
          refine WQ.split 69 rfl (fun c5 => ?_) (fun c5 => ?_)
          · have c5 : l[j] < 0 := of_decide_eq_true c5
            repeat (first | refine WQ.pure rfl rfl rfl ?_ | refine WQ.off rfl rfl rfl ?_ | refine WQ.nil ?_)
            intro w' h
            exact ⟨_, ⟨rfl, rfl, rfl, rfl, rfl, rfl⟩, by unfold sucB; rw [hgj, decide_eq_false (show ¬ 0 ≤ l[j] by omega)]; rfl, h⟩
          have c5 : 0 ≤ l[j] := by have := of_decide_eq_false c5; omega
          repeat (first | refine WQ.pure rfl rfl rfl ?_ | refine WQ.off rfl rfl rfl ?_ | refine WQ.nil ?_)
          refine WQ.load rfl rfl rfl rfl rfl (fun w' h => cell_of_obj (h.obj 0 rfl) (j := 0) rfl) ?_
          repeat (first | refine WQ.pure rfl rfl rfl ?_ | refine WQ.off rfl rfl rfl ?_ | refine WQ.nil ?_)
          refine WQ.ixload rfl (fun _ => rfl) rfl rfl rfl rfl rfl rfl rfl hi rfl rfl (fun w' h => cell_below h.below hac) ?_
          repeat (first | refine WQ.pure rfl rfl rfl ?_ | refine WQ.off rfl rfl rfl ?_ | refine WQ.nil ?_)
          refine WQ.ixload rfl (fun _ => rfl) rfl rfl rfl rfl rfl rfl rfl hj rfl rfl (fun w' h => cell_below h.below hcj) ?_
          repeat (first | refine WQ.pure rfl rfl rfl ?_ | refine WQ.off rfl rfl rfl ?_ | refine WQ.nil ?_)
          refine WQ.split 81 rfl (fun c6 => ?_) (fun c6 => ?_)
          · have c6 : ¬ l[j] < (vs.length : Int) := by have := of_decide_eq_true c6; omega
            repeat (first | refine WQ.pure rfl rfl rfl ?_ | refine WQ.off rfl rfl rfl ?_ | refine WQ.nil ?_)
            intro w' h
            exact ⟨_, ⟨rfl, rfl, rfl, rfl, rfl, rfl⟩, by unfold sucB; rw [hgj, decide_eq_false c6, Bool.and_false]; rfl, h⟩
          have c6 : l[j] < (vs.length : Int) := by have := of_decide_eq_false c6; omega
          repeat (first | refine WQ.pure rfl rfl rfl ?_ | refine WQ.off rfl rfl rfl ?_ | refine WQ.nil ?_)
          refine WQ.split 84 rfl (fun c7 => ?_) (fun c7 => ?_)
          · have c7 : 0 < j := by have := of_decide_eq_true c7; omega
            have e3 : IntKind.i64.wrap (((j : Nat) : Int) - 1) = ((j - 1 : Nat) : Int) := by rw [wrap_mid (by omega) (by omega)]; omega
            have hj2 : j - 1 < l.length := by omega
            have hg2 : l.getD (j - 1) 0 = l[j - 1] := by simp [hj2]
            have hcj2 := Sl.cell hslw (zs_at hj2)
            repeat (first | refine WQ.pure rfl rfl rfl ?_ | refine WQ.off rfl rfl rfl ?_ | refine WQ.nil ?_)
            refine WQ.load rfl rfl rfl rfl rfl (fun w' h => cell_of_obj (h.obj 0 rfl) (j := 0) rfl) ?_
            repeat (first | refine WQ.pure rfl rfl rfl ?_ | refine WQ.off rfl rfl rfl ?_ | refine WQ.nil ?_)
            refine WQ.ixload rfl (fun _ => rfl) rfl rfl rfl rfl rfl rfl rfl hi rfl rfl (fun w' h => cell_below h.below hac) ?_
            repeat (first | refine WQ.pure rfl rfl rfl ?_ | refine WQ.off rfl rfl rfl ?_ | refine WQ.nil ?_)
            refine WQ.known (d := 91) (congrArg (fun z => some (Value.int .i64 z)) e3) ?_
            refine WQ.ixload (j := j - 1) rfl (fun _ => rfl) rfl rfl rfl rfl rfl rfl rfl hj2 rfl rfl (fun w' h => cell_below h.below hcj2) ?_
            repeat (first | refine WQ.pure rfl rfl rfl ?_ | refine WQ.off rfl rfl rfl ?_ | refine WQ.nil ?_)
            refine WQ.load rfl rfl rfl rfl rfl (fun w' h => cell_of_obj (h.obj 0 rfl) (j := 0) rfl) ?_
            repeat (first | refine WQ.pure rfl rfl rfl ?_ | refine WQ.off rfl rfl rfl ?_ | refine WQ.nil ?_)
            refine WQ.ixload rfl (fun _ => rfl) rfl rfl rfl rfl rfl rfl rfl hi rfl rfl (fun w' h => cell_below h.below hac) ?_
            repeat (first | refine WQ.pure rfl rfl rfl ?_ | refine WQ.off rfl rfl rfl ?_ | refine WQ.nil ?_)
            refine WQ.ixload rfl (fun _ => rfl) rfl rfl rfl rfl rfl rfl rfl hj rfl rfl (fun w' h => cell_below h.below hcj) ?_
            repeat (first | refine WQ.pure rfl rfl rfl ?_ | refine WQ.off rfl rfl rfl ?_ | refine WQ.nil ?_)
            intro w' h
            refine ⟨_, ⟨rfl, rfl, rfl, rfl, rfl, rfl⟩, ?_, h⟩
            unfold sucB
            rw [hgj, hg2, decide_eq_true c5, decide_eq_true c6, decide_eq_false (show ¬ j = 0 by omega)]
            rw [Bool.true_and, Bool.true_and, Bool.false_or]
            by_cases c8 : l[j - 1] < l[j]
            · rw [decide_eq_true c8, decide_eq_false (by omega)]; rfl
            · rw [decide_eq_false c8, decide_eq_true (by omega)]; rfl
          · have c7 : j = 0 := by have := of_decide_eq_false c7; omega
            repeat (first | refine WQ.pure rfl rfl rfl ?_ | refine WQ.off rfl rfl rfl ?_ | refine WQ.nil ?_)
            intro w' h
            exact ⟨_, ⟨rfl, rfl, rfl, rfl, rfl, rfl⟩, by unfold sucB; rw [hgj, decide_eq_true c5, decide_eq_true c6, decide_eq_true c7]; rfl, h⟩
        · rintro r e5 w5 hsub ⟨hr, hp5⟩
          refine WC.sub hsub ?_
          clear hsub e5
          replace hp5 : Hp w w5 [Sb b (some ⟨ba, oa, none⟩) cn am cm vs ms] := hp5
          have hr : r = !sucB vs.length l j := hr
          subst hr
          cases hs : sucB vs.length l j with
          | false =>
            rw [hbad (.inr (hno hs))]
            repeat (first | refine WC.seq ?_ | refine WC.reg ?_ | refine WL.pure rfl rfl rfl ?_ | refine WL.nil ?_ | refine WC.skip ?_ | refine WC.block ?_ | refine WC.condT rfl ?_ | refine WC.condF rfl ?_ | refine WL.off rfl rfl rfl ?_ | refine WL.off0 rfl rfl ?_ | refine WC.exit ?_ | refine blk_hit ?_ | refine blk_miss rfl ?_ | refine WC.ret ?_)
            exact Res.one rfl rfl rfl ⟨rfl, hp5.nil'⟩
          | true =>
            repeat (first | refine WC.seq ?_ | refine WC.reg ?_ | refine WL.pure rfl rfl rfl ?_ | refine WL.nil ?_ | refine WC.skip ?_ | refine WC.block ?_ | refine WC.condT rfl ?_ | refine WC.condF rfl ?_ | refine WL.off rfl rfl rfl ?_ | refine WL.off0 rfl rfl ?_ | refine WC.exit ?_ | refine blk_hit ?_ | refine blk_miss rfl ?_ | refine WC.ret ?_)
            exact ⟨j + 1, (by omega), ⟨rfl, rfl, rfl, congrArg (fun z => some (Value.int .i64 z)) stepj, rfl⟩, hj, hyes hs, hp5⟩
      · have hj : j = l.length := by have := of_decide_eq_false h4; omega
        have hrow : rowB vs.length l = true := by unfold rowB; rw [decide_eq_true h3, ← hj, hsu]; rfl
        repeat (first | refine WC.seq ?_ | refine WC.reg ?_ | refine WL.pure rfl rfl rfl ?_ | refine WL.nil ?_ | refine WC.skip ?_ | refine WC.block ?_ | refine WC.condT rfl ?_ | refine WC.condF rfl ?_ | refine WL.off rfl rfl rfl ?_ | refine WL.off0 rfl rfl ?_ | refine WC.exit ?_ | refine blk_hit ?_ | refine blk_miss rfl ?_ | refine WC.ret ?_)
        exact ⟨i + 1, (by omega), ⟨rfl, rfl, congrArg (fun z => some (Value.int .i64 z)) step, rfl⟩, hi, hstep hmb hrow, hp1⟩
    · have hi : i = vs.length := by have := of_decide_eq_false h2; omega
      have hok : strB vs ms = true := by
        rw [hstr, Bool.and_eq_true, List.all_eq_true, List.all_eq_true]
        constructor
        · intro m hm
          obtain ⟨k, hk, rfl⟩ := List.getElem_of_mem hm
          have := (hall k (by omega)).1
          rwa [show ms.getD k 0 = ms[k] by simp [hk]] at this
        · intro x hx
          obtain ⟨k, hk, rfl⟩ := List.getElem_of_mem hx
          have := (hall k (by omega)).2
          unfold rowsOf2 at this
          rw [List.getD_eq_getElem?_getD, List.getElem?_map, List.getElem?_eq_getElem hk] at this
          exact this
      rw [hok]
      repeat (first | refine WC.seq ?_ | refine WC.reg ?_ | refine WL.pure rfl rfl rfl ?_ | refine WL.nil ?_ | refine WC.skip ?_ | refine WC.block ?_ | refine WC.condT rfl ?_ | refine WC.condF rfl ?_ | refine WL.off rfl rfl rfl ?_ | refine WL.off0 rfl rfl ?_ | refine WC.exit ?_ | refine blk_hit ?_ | refine blk_miss rfl ?_ | refine WC.ret ?_)
      exact Res.one rfl rfl rfl ⟨rfl, hp1.nil'⟩
end Go.Proofs.YtpbbneclkhfgoaaDoor
end
section
/- ltl, forty-sixth: tame. -/
namespace Go.Proofs.YtpbbneclkhfgoaaDoor
open Go.W Go.Ltl Go.RowKit
set_option maxRecDepth 100000
set_option linter.unusedSectionVars false
attribute [local irreducible] WC WL WQ WS WH

/-- What a structure's test says, of its rows. -/
def strR (R : List (List Int)) (M : List Int) : Bool := decide (1 ≤ R.length) && decide (R.length ≤ 16) && decide (M.length = R.length) && M.all markB && R.all (rowB R.length)
theorem strB_R (vs : Vs) (ms : List Int) : strB vs ms = strR (rowsOf vs) ms := by
  unfold strB strR rowsOf
  rw [List.length_map, List.all_map]
  rfl
def tmN (L most : Nat) : Nat := if 0 < L then 1 + (L - 1) % most else 1
def isJ0 (R : List (List Int)) (n i j : Nat) : Bool := decide (j = (i + 1) % n) && decide (R.getD i [] = [])
def isJ (R : List (List Int)) (n i j : Nat) : Bool := isJ0 R n i j || (R.getD i []).any fun z => decide (modN z n = j)
def tmAcc (R : List (List Int)) (n i j : Nat) : List Int := ((List.range j).filter (isJ R n i)).map fun k : Nat => (k : Int)
def tmRow (R : List (List Int)) (n i : Nat) : List Int := tmAcc R n i n
def tmMark (M : List Int) (i : Nat) : Int := if i < M.length then mod16 (M.getD i 0) else ((i % 16 : Nat) : Int)
def tmMs (M : List Int) (n : Nat) : List Int := (List.range n).map (tmMark M)
def tameC (R : List (List Int)) (M : List Int) (most : Nat) : List (List Int) × List Int :=
  if (strR R M && decide (R.length ≤ most)) = true then (R, M) else ((List.range (tmN R.length most)).map (tmRow R (tmN R.length most)), tmMs M (tmN R.length most))
theorem tmN_ok {L most : Nat} (h : 0 < most) : 1 ≤ tmN L most ∧ tmN L most ≤ most ∧ (0 < L → tmN L most ≤ L) := by
  unfold tmN
  have h1 := Nat.mod_lt (L - 1) h
  have h2 := Nat.mod_le (L - 1) most
  split <;> omega
theorem tmAcc_succ (R : List (List Int)) (n i j : Nat) : tmAcc R n i (j + 1) = tmAcc R n i j ++ if isJ R n i j then [((j : Nat) : Int)] else [] := by
  unfold tmAcc
  rw [List.range_succ, List.filter_append, List.map_append, List.filter_cons, List.filter_nil]
  split <;> rfl
theorem tmMs_succ (M : List Int) (n : Nat) : tmMs M (n + 1) = tmMs M n ++ [tmMark M n] := by
  unfold tmMs; rw [List.range_succ, List.map_append]; rfl
theorem tmMs_len (M : List Int) (n : Nat) : (tmMs M n).length = n := by simp [tmMs]
theorem tmMark_ok (M : List Int) (i : Nat) : 0 ≤ tmMark M i ∧ tmMark M i ≤ 15 := by
  unfold tmMark
  split
  · exact mod16_ok _
  · omega
theorem acc_ok (R : List (List Int)) (n i : Nat) : ∀ j, j ≤ n → (∀ q, q < (tmAcc R n i j).length → 0 ≤ (tmAcc R n i j).getD q 0 ∧ (tmAcc R n i j).getD q 0 < (j : Int) ∧ (q = 0 ∨ (tmAcc R n i j).getD (q - 1) 0 < (tmAcc R n i j).getD q 0)) := by
  intro j
  induction j with
  | zero => intro _ q hq; simp [tmAcc] at hq
  | succ j ih =>
    intro hj q hq
    have ih := ih (by omega)
    rw [tmAcc_succ] at hq ⊢
    by_cases hJ : isJ R n i j = true
    · rw [if_pos hJ] at hq ⊢
      rw [List.length_append] at hq
      simp only [List.length_cons, List.length_nil] at hq
      by_cases hq2 : q < (tmAcc R n i j).length
      · have h1 := ih q hq2
        have e1 : (tmAcc R n i j ++ [((j : Nat) : Int)]).getD q 0 = (tmAcc R n i j).getD q 0 := by simp [List.getElem?_append_left hq2]
        have e2 : (tmAcc R n i j ++ [((j : Nat) : Int)]).getD (q - 1) 0 = (tmAcc R n i j).getD (q - 1) 0 := by
          have : q - 1 < (tmAcc R n i j).length := by omega
          simp [List.getElem?_append_left this]
        rw [e1, e2]
        exact ⟨h1.1, by omega, h1.2.2⟩
      · obtain rfl : q = (tmAcc R n i j).length := by omega
        have e1 : (tmAcc R n i j ++ [((j : Nat) : Int)]).getD (tmAcc R n i j).length 0 = (j : Int) := by simp
        rw [e1]
        refine ⟨by omega, by omega, ?_⟩
        by_cases h0 : (tmAcc R n i j).length = 0
        · exact .inl h0
        · refine .inr ?_
          have hlt : (tmAcc R n i j).length - 1 < (tmAcc R n i j).length := by omega
          have e2 : (tmAcc R n i j ++ [((j : Nat) : Int)]).getD ((tmAcc R n i j).length - 1) 0 = (tmAcc R n i j).getD ((tmAcc R n i j).length - 1) 0 := by simp [List.getElem?_append_left hlt]
          rw [e2]
          exact (ih _ hlt).2.1
    · rw [if_neg hJ, List.append_nil] at hq ⊢
      have h1 := ih q hq
      exact ⟨h1.1, by omega, h1.2.2⟩
theorem tmRow_ok (R : List (List Int)) {n i : Nat} (hn : 0 < n) : rowB n (tmRow R n i) = true := by
  have hne : tmRow R n i ≠ [] := by
    have key : ∀ j, j < n → isJ R n i j = true → tmRow R n i ≠ [] := by
      intro j hj h he
      have h2 : ((j : Nat) : Int) ∈ tmRow R n i := List.mem_map_of_mem (f := fun k : Nat => (k : Int)) (List.mem_filter.2 ⟨List.mem_range.2 hj, h⟩)
      rw [he] at h2
      cases h2
    cases hr : R.getD i [] with
    | nil => exact key ((i + 1) % n) (Nat.mod_lt _ hn) (by unfold isJ isJ0; rw [hr]; simp)
    | cons z r => exact key (modN z n) (modN_lt hn z) (by unfold isJ; rw [hr]; simp)
  have h := acc_ok R n i n (Nat.le_refl _)
  unfold rowB
  rw [decide_eq_true hne, Bool.true_and, List.all_eq_true]
  intro q hq
  rw [List.mem_range] at hq
  obtain ⟨h1, h2, h3⟩ := h q hq
  unfold sucB
  unfold tmRow
  rw [decide_eq_true h1, decide_eq_true h2]
  rcases h3 with h3 | h3
  · rw [decide_eq_true h3]; rfl
  · rw [decide_eq_true h3, Bool.or_true]; rfl
theorem tameC_ok (R : List (List Int)) (M : List Int) {most : Nat} (h0 : 0 < most) (h16 : most ≤ 16) : strR (tameC R M most).1 (tameC R M most).2 = true ∧ (tameC R M most).1.length ≤ most ∧ (tameC R M most).2.length = (tameC R M most).1.length := by
  unfold tameC
  split
  · rename_i h
    rw [Bool.and_eq_true, decide_eq_true_eq] at h
    refine ⟨h.1, h.2, ?_⟩
    have := h.1
    simp only [strR, Bool.and_eq_true, decide_eq_true_eq] at this
    exact this.1.1.2
  · obtain ⟨h1, h2, _⟩ := tmN_ok (L := R.length) h0
    generalize tmN R.length most = n at *
    refine ⟨?_, by rw [List.length_map, List.length_range]; exact h2, by rw [tmMs_len, List.length_map, List.length_range]⟩
    simp only [strR, Bool.and_eq_true, decide_eq_true_eq, List.length_map, List.length_range, tmMs_len, List.all_eq_true]
    refine ⟨⟨⟨⟨h1, by omega⟩, trivial⟩, fun m hm => ?_⟩, fun r hr => ?_⟩
    · obtain ⟨i, _, rfl⟩ := List.mem_map.1 hm
      have := tmMark_ok M i
      simp only [markB, Bool.and_eq_true, decide_eq_true_eq]
      exact this
    · obtain ⟨i, _, rfl⟩ := List.mem_map.1 hr
      exact tmRow_ok R (by omega)
end Go.Proofs.YtpbbneclkhfgoaaDoor
end
section
/- ltl, forty-seventh: the walk of tame. -/
namespace Go.Proofs.YtpbbneclkhfgoaaDoor
open Go.W Go.Ltl Go.RowKit
set_option maxRecDepth 100000
set_option linter.unusedSectionVars false
attribute [local irreducible] WC WL WQ WS WH

theorem Hp.rowInY {w0 w : World} {X Y : List Ent} {na : Option Addr} {nc : Nat} {vs : Vs} {x : Option Addr × Nat × List Int} (h : Hp w0 w (.row 22 1 (.slice na (vs.length + 1) nc) (vs.length + 1) (catV vs ++ [.slice x.1 x.2.2.length x.2.1]) :: Ri (.slice x.1 x.2.2.length x.2.1) x.2.2 :: (X ++ (vsE vs ++ Y)))) :
    Hp w0 w (Rvs (.slice na (vs ++ [x]).length nc) (vs ++ [x]) :: (X ++ (vsE (vs ++ [x]) ++ Y))) := by
  unfold Rvs
  rw [List.length_append, catV_snoc, vsE_snoc]
  refine permE h (List.Perm.cons _ ?_)
  have := (List.perm_middle (a := Ri (.slice x.1 x.2.2.length x.2.1) x.2.2) (l₁ := X ++ vsE vs) (l₂ := Y)).symm
  simpa [List.append_assoc] using this
/-- The rows of a structure of one's own, and its marks. -/
abbrev OwnS (na : Option Addr) (nc : Nat) (ma : Option Addr) (mc : Nat) (vs : Vs) (ms : List Int) : List Ent := Rvs (.slice na vs.length nc) vs :: Ri (.slice ma ms.length mc) ms :: vsE vs
theorem Stc.inA {w0 w : World} {A : List Ent} {na ma : Option Addr} {nc mc : Nat} {vs : Vs} {ms : List Int} (h : Hp w0 w (A ++ OwnS na nc ma mc vs ms)) : Stc w na ma vs ms :=
  Stc.own (n := vs.length) (nc := nc) (m := ms.length) (mc := mc) h (by simp) (by simp) (fun x hx => by simp [hx])
theorem Stc.inB {w0 w : World} {A B : List Ent} {na ma : Option Addr} {nc mc : Nat} {vs : Vs} {ms : List Int} (h : Hp w0 w (A ++ (B ++ OwnS na nc ma mc vs ms))) : Stc w na ma vs ms :=
  Stc.own (n := vs.length) (nc := nc) (m := ms.length) (mc := mc) h (by simp) (by simp) (fun x hx => by simp [hx])
theorem rows_get {vs : Vs} {i : Nat} (h : i < vs.length) : (rowsOf vs).getD i [] = vs[i].2.2 := by
  rw [List.getD_eq_getElem?_getD, List.getElem?_map, List.getElem?_eq_getElem h]; rfl
theorem tame_any (an : Option Addr) (cn : Nat) (am : Option Addr) (cm : Nat) (vs : Vs) (ms : List Int) (hB : StcB an cn am cm vs ms) (most : Nat) (h0 : 0 < most) (h16 : most ≤ 16) (w : World) (hst : Stc w an am vs ms) :
    Ret Tryd.prog 24 [stV an cn am cm vs ms, .int .i64 (most : Nat)] w fun u w' => ∃ na nc ma mc vs2, u = .agg #[.slice na vs2.length nc, .slice ma (tameC (takeV (rowsOf vs)) (ms.take 20) most).2.length mc] ∧ rowsOf vs2 = (tameC (takeV (rowsOf vs)) (ms.take 20) most).1 ∧
      Hp w w' (OwnS na nc ma mc vs2 (tameC (takeV (rowsOf vs)) (ms.take 20) most).2) := by
  refine enter Tryd.func24 rfl rfl ⟨rfl, rfl⟩ rfl ?_
  repeat (first | refine WC.seq ?_ | refine WC.reg ?_ | refine WL.pure rfl rfl rfl ?_ | refine WL.nil ?_ | refine WC.skip ?_ | refine WC.block ?_ | refine WC.condT rfl ?_ | refine WC.condF rfl ?_ | refine WL.off rfl rfl rfl ?_ | refine WL.off0 rfl rfl ?_ | refine WC.exit ?_ | refine blk_hit ?_ | refine blk_miss rfl ?_ | refine WC.ret ?_)
  refine WL.box rfl rfl rfl (fun b2 w1 hb2 => ?_)
  have hp1 : Hp w w1 [Sb b2 an cn am cm vs ms] := (Hp.start w).new hb2
  refine WL.alloc rfl rfl rfl (fun b4 w2 hb4 => ?_)
  have hp2 : Hp w w2 [Stb b4 none 0 0 none 0 0, Sb b2 an cn am cm vs ms] := hp1.new hb4
  repeat (first | refine WC.seq ?_ | refine WC.reg ?_ | refine WL.pure rfl rfl rfl ?_ | refine WL.nil ?_ | refine WC.skip ?_ | refine WC.block ?_ | refine WC.condT rfl ?_ | refine WC.condF rfl ?_ | refine WL.off rfl rfl rfl ?_ | refine WL.off0 rfl rfl ?_ | refine WC.exit ?_ | refine blk_hit ?_ | refine blk_miss rfl ?_ | refine WC.ret ?_)
  refine WL.loadN rfl rfl rfl rfl rfl (cs := [.slice an vs.length cn, .slice am ms.length cm]) rfl (fun q v hq => cell_of_obj (hp2.obj 1 rfl) (by rw [Nat.zero_add]; simpa using hq)) ?_
  refine WL.call rfl rfl rfl rfl rfl ent37 (machine_any an cn am cm vs ms hB w2 (hst.hp hp2)) ?_
  rintro _ w3 ⟨na0, nc0, ma0, mc0, vs0, rfl, hvs0, hp3⟩
  have hp3 := Hp.pickT (T := OwnS na0 nc0 ma0 mc0 vs0 (ms.take 20)) [_, _] [0] (permE (hp2.comb hp3) List.perm_append_comm) (by decide)
  have hm20 : (ms.take 20).length ≤ 20 := by rw [List.length_take]; omega
  have hl20 : vs0.length ≤ 20 := by
    have := congrArg List.length hvs0
    unfold takeV at this
    rw [List.length_map, List.length_map, List.length_take] at this
    omega
  have hr20 : ∀ x ∈ vs0, x.2.2.length ≤ 20 := by
    intro x hx
    have h1 : x.2.2 ∈ takeV (rowsOf vs) := by rw [← hvs0]; exact List.mem_map_of_mem (f := fun x : Option Addr × Nat × List Int => x.2.2) hx
    unfold takeV at h1
    obtain ⟨r, _, hr⟩ := List.mem_map.1 h1
    rw [← hr, List.length_take]; omega
  rw [← hvs0]
  generalize ms.take 20 = M0 at *
  obtain ⟨Y, hY⟩ : ∃ Y, Y = OwnS na0 nc0 ma0 mc0 vs0 M0 := ⟨_, rfl⟩
  rw [← hY] at hp3
  refine WL.alloc rfl rfl rfl (fun b5 w4 hb5 => ?_)
  have hp4 := hp3.new hb5
  refine WL.storeN rfl rfl rfl rfl rfl (by simp [Value.oneCell']) (hp4.obj 0 rfl) (Nat.le_refl _) rfl (fun w5 h5 => ?_)
  have hp5 : Hp w w5 ([Stb b5 na0 vs0.length nc0 ma0 M0.length mc0, Stb b4 none 0 0 none 0 0] ++ Y) := hp4.set 0 rfl rfl h5
  clear hp1 hp2 hp3 hp4 hb2 hb4 hb5 h5
  have hstY : ∀ {w' : World} {A : List Ent}, Hp w w' (A ++ Y) → Stc w' na0 ma0 vs0 M0 := fun {w' A} h => by subst hY; exact Stc.inA h
  refine WL.nil ?_
  repeat (first | refine WC.seq ?_ | refine WC.skip ?_ | refine WC.block ?_)
  refine WC.mid Bool (fun r => [(1, .int .i64 (most : Nat)), (4, ptr b4), (5, ptr b5), (24, .bool r)])
    (fun r w' => r = (strR (rowsOf vs0) M0 && decide (vs0.length ≤ most)) ∧ Hp w w' ([Stb b5 na0 vs0.length nc0 ma0 M0.length mc0, Stb b4 none 0 0 none 0 0] ++ Y)) ?_ ?_
  · repeat (first | refine WC.seq ?_ | refine WC.reg ?_ | refine WL.pure rfl rfl rfl ?_ | refine WL.nil ?_ | refine WC.skip ?_ | refine WC.block ?_ | refine WC.condT rfl ?_ | refine WC.condF rfl ?_ | refine WL.off rfl rfl rfl ?_ | refine WL.off0 rfl rfl ?_ | refine WC.exit ?_ | refine blk_hit ?_ | refine blk_miss rfl ?_ | refine WC.ret ?_)
    refine WL.loadN rfl rfl rfl rfl rfl (cs := [.slice na0 vs0.length nc0, .slice ma0 M0.length mc0]) rfl (fun q v hq => cell_of_obj (hp5.obj 0 rfl) (by rw [Nat.zero_add]; simpa using hq)) ?_
    refine WL.call rfl rfl rfl rfl rfl ent39 (rStructure_any na0 nc0 ma0 mc0 vs0 M0 (by omega) (by omega) (fun x hx => by have := hr20 x hx; omega) w5 (hstY hp5)) ?_
    rintro _ w6 ⟨rfl, hp6⟩
    have hp6 := hp5.call hp6.below
    rw [strB_R]
    cases hs : strR (rowsOf vs0) M0 with
    | false =>
      repeat (first | refine WC.seq ?_ | refine WC.reg ?_ | refine WL.pure rfl rfl rfl ?_ | refine WL.nil ?_ | refine WC.skip ?_ | refine WC.block ?_ | refine WC.condT rfl ?_ | refine WC.condF rfl ?_ | refine WL.off rfl rfl rfl ?_ | refine WL.off0 rfl rfl ?_ | refine WC.exit ?_ | refine blk_hit ?_ | refine blk_miss rfl ?_ | refine WC.ret ?_)
      exact ⟨_, ⟨rfl, rfl, rfl, rfl, rfl⟩, rfl, hp6⟩
    | true =>
      repeat (first | refine WC.seq ?_ | refine WC.reg ?_ | refine WL.pure rfl rfl rfl ?_ | refine WL.nil ?_ | refine WC.skip ?_ | refine WC.block ?_ | refine WC.condT rfl ?_ | refine WC.condF rfl ?_ | refine WL.off rfl rfl rfl ?_ | refine WL.off0 rfl rfl ?_ | refine WC.exit ?_ | refine blk_hit ?_ | refine blk_miss rfl ?_ | refine WC.ret ?_)
      refine WL.loadB rfl rfl rfl rfl rfl (hp6.obj 0 rfl) (j := 0) rfl ?_
      repeat (first | refine WC.seq ?_ | refine WC.reg ?_ | refine WL.pure rfl rfl rfl ?_ | refine WL.nil ?_ | refine WC.skip ?_ | refine WC.block ?_ | refine WC.condT rfl ?_ | refine WC.condF rfl ?_ | refine WL.off rfl rfl rfl ?_ | refine WL.off0 rfl rfl ?_ | refine WC.exit ?_ | refine blk_hit ?_ | refine blk_miss rfl ?_ | refine WC.ret ?_)
      refine ⟨_, ⟨rfl, rfl, rfl, rfl, rfl⟩, ?_, hp6⟩
      rw [Bool.true_and]
      exact decide_eq_decide.2 (by omega)
  rintro r e6 w6 hsub ⟨hr, hp6⟩
  refine WC.sub hsub ?_
  clear hsub e6 hp5
  replace hp6 : Hp w w6 ([Stb b5 na0 vs0.length nc0 ma0 M0.length mc0, Stb b4 none 0 0 none 0 0] ++ Y) := hp6
  have hr : r = (strR (rowsOf vs0) M0 && decide (vs0.length ≤ most)) := hr
  have hll : (rowsOf vs0).length = vs0.length := List.length_map _
  cases r with
  | true =>
    have hC : tameC (rowsOf vs0) M0 most = (rowsOf vs0, M0) := by unfold tameC; rw [hll, ← hr, if_pos rfl]
    rw [hC]
    repeat (first | refine WC.seq ?_ | refine WC.reg ?_ | refine WL.pure rfl rfl rfl ?_ | refine WL.nil ?_ | refine WC.skip ?_ | refine WC.block ?_ | refine WC.condT rfl ?_ | refine WC.condF rfl ?_ | refine WL.off rfl rfl rfl ?_ | refine WL.off0 rfl rfl ?_ | refine WC.exit ?_ | refine blk_hit ?_ | refine blk_miss rfl ?_ | refine WC.ret ?_)
    refine WL.loadN rfl rfl rfl rfl rfl (cs := [.slice na0 vs0.length nc0, .slice ma0 M0.length mc0]) rfl (fun q v hq => cell_of_obj (hp6.obj 0 rfl) (by rw [Nat.zero_add]; simpa using hq)) ?_
    refine WL.storeN rfl rfl rfl rfl rfl (by simp [Value.oneCell']) (hp6.obj 1 rfl) (Nat.le_refl _) rfl (fun w7 h7 => ?_)
    have hp7 := hp6.set 1 rfl rfl h7
    repeat (first | refine WC.seq ?_ | refine WC.reg ?_ | refine WL.pure rfl rfl rfl ?_ | refine WL.nil ?_ | refine WC.skip ?_ | refine WC.block ?_ | refine WC.condT rfl ?_ | refine WC.condF rfl ?_ | refine WL.off rfl rfl rfl ?_ | refine WL.off0 rfl rfl ?_ | refine WC.exit ?_ | refine blk_hit ?_ | refine blk_miss rfl ?_ | refine WC.ret ?_)
    refine Res.cell rfl rfl rfl rfl rfl rfl (hp7.obj 1 rfl) ⟨na0, nc0, ma0, mc0, vs0, rfl, rfl, ?_⟩
    have := Hp.pickT (T := Y) [_, _] [] hp7 (by decide)
    rw [hY] at this
    exact this
  | false =>
    obtain ⟨n, hn⟩ : ∃ n, n = tmN vs0.length most := ⟨_, rfl⟩
    obtain ⟨hn1, hnm, hnL⟩ := tmN_ok (L := vs0.length) h0
    rw [← hn] at hn1 hnm hnL
    have hC : tameC (rowsOf vs0) M0 most = ((List.range n).map (tmRow (rowsOf vs0) n), tmMs M0 n) := by unfold tameC; rw [hll, ← hr, if_neg (by decide), ← hn]
    rw [hC]
    clear hC hr
    refine WC.condF rfl ?_
    refine WC.skip ?_
    refine WC.seq ?_
    refine WC.reg ?_
    refine WL.pure rfl rfl rfl ?_
    refine WL.nil ?_
    refine WC.seq ?_
    refine WC.mid Unit (fun _ => [(4, ptr b4), (5, ptr b5), (6, .int .i64 (n : Nat))])
      (fun _ w' => Hp w w' ([Stb b5 na0 vs0.length nc0 ma0 M0.length mc0, Stb b4 none 0 0 none 0 0] ++ Y)) ?_ ?_
    · repeat (first | refine WC.seq ?_ | refine WC.reg ?_ | refine WL.pure rfl rfl rfl ?_ | refine WL.nil ?_ | refine WC.skip ?_ | refine WC.block ?_ | refine WC.condT rfl ?_ | refine WC.condF rfl ?_ | refine WL.off rfl rfl rfl ?_ | refine WL.off0 rfl rfl ?_ | refine WC.exit ?_ | refine blk_hit ?_ | refine blk_miss rfl ?_ | refine WC.ret ?_)
      refine WL.loadB rfl rfl rfl rfl rfl (hp6.obj 0 rfl) (j := 0) rfl ?_
      repeat (first | refine WC.seq ?_ | refine WC.reg ?_ | refine WL.pure rfl rfl rfl ?_ | refine WL.nil ?_ | refine WC.skip ?_ | refine WC.block ?_ | refine WC.condT rfl ?_ | refine WC.condF rfl ?_ | refine WL.off rfl rfl rfl ?_ | refine WL.off0 rfl rfl ?_ | refine WC.exit ?_ | refine blk_hit ?_ | refine blk_miss rfl ?_ | refine WC.ret ?_)
      refine WC.cond rfl (fun c => ?_) (fun c => ?_)
      · have c : 0 < vs0.length := by have := of_decide_eq_true c; omega
        repeat (first | refine WC.seq ?_ | refine WC.reg ?_ | refine WL.pure rfl rfl rfl ?_ | refine WL.nil ?_ | refine WC.skip ?_ | refine WC.block ?_ | refine WC.condT rfl ?_ | refine WC.condF rfl ?_ | refine WL.off rfl rfl rfl ?_ | refine WL.off0 rfl rfl ?_ | refine WC.exit ?_ | refine blk_hit ?_ | refine blk_miss rfl ?_ | refine WC.ret ?_)
        refine WL.loadB rfl rfl rfl rfl rfl (hp6.obj 0 rfl) (j := 0) rfl ?_
        refine WL.pure rfl rfl rfl ?_
        refine WL.pure rfl rfl rfl ?_
        refine WL.known (d := 33) (congrArg (fun z => some (Value.int .i64 z)) (show IntKind.i64.wrap (((vs0.length : Nat) : Int) - 1) = ((vs0.length - 1 : Nat) : Int) by rw [wrap_mid (by omega) (by omega)]; omega)) ?_
        refine WL.pure rfl rfl rfl ?_
        refine WL.rem rfl rfl rfl rfl (by omega) ?_
        refine WL.known (d := 35) (congrArg (fun z => some (Value.int .i64 z)) (show Int.tmod ((vs0.length - 1 : Nat) : Int) (most : Int) = (((vs0.length - 1) % most : Nat) : Int) from rfl)) ?_
        have hlt := Nat.mod_lt (vs0.length - 1) h0
        repeat (first | refine WC.seq ?_ | refine WC.reg ?_ | refine WL.pure rfl rfl rfl ?_ | refine WL.nil ?_ | refine WC.skip ?_ | refine WC.block ?_ | refine WC.condT rfl ?_ | refine WC.condF rfl ?_ | refine WL.off rfl rfl rfl ?_ | refine WL.off0 rfl rfl ?_ | refine WC.exit ?_ | refine blk_hit ?_ | refine blk_miss rfl ?_ | refine WC.ret ?_)
        exact ⟨(), ⟨rfl, rfl, congrArg (fun z => some (Value.int .i64 z)) (show IntKind.i64.wrap (1 + (((vs0.length - 1) % most : Nat) : Int)) = ((n : Nat) : Int) by rw [hn, tmN, if_pos c, wrap_mid (by omega) (by omega)]; omega), rfl⟩, hp6⟩
      · have c : ¬ 0 < vs0.length := by have := of_decide_eq_false c; omega
        repeat (first | refine WC.seq ?_ | refine WC.reg ?_ | refine WL.pure rfl rfl rfl ?_ | refine WL.nil ?_ | refine WC.skip ?_ | refine WC.block ?_ | refine WC.condT rfl ?_ | refine WC.condF rfl ?_ | refine WL.off rfl rfl rfl ?_ | refine WL.off0 rfl rfl ?_ | refine WC.exit ?_ | refine blk_hit ?_ | refine blk_miss rfl ?_ | refine WC.ret ?_)
        exact ⟨(), ⟨rfl, rfl, congrArg (fun z => some (Value.int .i64 z)) (show (1 : Int) = ((n : Nat) : Int) by rw [hn, tmN, if_neg c]; rfl), rfl⟩, hp6⟩
    rintro _ e7 w7 hsub hp7
    refine WC.sub hsub ?_
    clear hsub e7 hp6 hn
    replace hp7 : Hp w w7 ([Stb b5 na0 vs0.length nc0 ma0 M0.length mc0, Stb b4 none 0 0 none 0 0] ++ Y) := hp7
    repeat (first | refine WC.seq ?_ | refine WC.reg ?_ | refine WL.pure rfl rfl rfl ?_ | refine WL.nil ?_ | refine WC.skip ?_ | refine WC.block ?_ | refine WC.condT rfl ?_ | refine WC.condF rfl ?_ | refine WL.off rfl rfl rfl ?_ | refine WL.off0 rfl rfl ?_ | refine WC.exit ?_ | refine blk_hit ?_ | refine blk_miss rfl ?_ | refine WC.ret ?_)
    refine WL.alloc rfl rfl rfl (fun b7 w8 h8 => ?_)
    have hp8 := Hp.pickT (T := Y) [_, _, _, _, _] [2, 0, 1, 3, 4] (((hp7.new h8).nilrow 3 1).nilrow 22 1) (by decide)
    clear hp7 h8
    repeat (first | refine WC.seq ?_ | refine WC.reg ?_ | refine WL.pure rfl rfl rfl ?_ | refine WL.nil ?_ | refine WC.skip ?_ | refine WC.block ?_ | refine WC.condT rfl ?_ | refine WC.condF rfl ?_ | refine WL.off rfl rfl rfl ?_ | refine WL.off0 rfl rfl ?_ | refine WC.exit ?_ | refine blk_hit ?_ | refine blk_miss rfl ?_ | refine WC.ret ?_)
    refine WC.loop (Nat × Option Addr × Nat × Option Addr × Nat × Vs) (fun (i, na, nc, ma, mc, vs3) => [(4, ptr b4), (5, ptr b5), (6, .int .i64 (n : Nat)), (7, ptr b7), (8, .int .i64 (i : Nat))])
      (fun (i, na, nc, ma, mc, vs3) w' => i ≤ n ∧ rowsOf vs3 = (List.range i).map (tmRow (rowsOf vs0) n) ∧ Hp w w' ([Stb b7 na i nc ma i mc, .row 22 1 (.slice na i nc) i (catV vs3), .row 3 1 (.slice ma i mc) i (zs (tmMs M0 i)), Stb b5 na0 vs0.length nc0 ma0 M0.length mc0, Stb b4 none 0 0 none 0 0] ++ (vsE vs3 ++ Y))) (fun (i, _) => n - i) (0, none, 0, none, 0, []) ⟨rfl, rfl, rfl, rfl, rfl, rfl⟩
      ⟨Nat.zero_le _, rfl, hp8⟩ ?_
    clear hp8
    rintro ⟨i, na, nc, ma, mc, vs3⟩ w8 ⟨hi, hvs3, hp8⟩
    replace hi : i ≤ n := hi
    replace hvs3 : rowsOf vs3 = (List.range i).map (tmRow (rowsOf vs0) n) := hvs3
    replace hp8 : Hp w w8 ([Stb b7 na i nc ma i mc, .row 22 1 (.slice na i nc) i (catV vs3), .row 3 1 (.slice ma i mc) i (zs (tmMs M0 i)), Stb b5 na0 vs0.length nc0 ma0 M0.length mc0, Stb b4 none 0 0 none 0 0] ++ (vsE vs3 ++ Y)) := hp8
    have hvl : vs3.length = i := by have := congrArg List.length hvs3; simpa using this
    have hstZ : ∀ {w' : World} {A : List Ent}, Hp w w' (A ++ (vsE vs3 ++ Y)) → Stc w' na0 ma0 vs0 M0 := fun {w' A} h => by subst hY; exact Stc.inB h
    repeat (first | refine WC.seq ?_ | refine WC.reg ?_ | refine WL.pure rfl rfl rfl ?_ | refine WL.nil ?_ | refine WC.skip ?_ | refine WC.block ?_ | refine WC.condT rfl ?_ | refine WC.condF rfl ?_ | refine WL.off rfl rfl rfl ?_ | refine WL.off0 rfl rfl ?_ | refine WC.exit ?_ | refine blk_hit ?_ | refine blk_miss rfl ?_ | refine WC.ret ?_)
    refine WC.cond rfl (fun g1 => ?_) (fun g1 => ?_)
    · have hin : i < n := by have := of_decide_eq_true g1; omega
      have step := wrap_succ (i := i) (n := i + 1) (by omega) (by omega)
      obtain ⟨R, hR⟩ : ∃ R, R = rowsOf vs0 := ⟨_, rfl⟩
      have hrow : ∀ hL : i < vs0.length, R.getD i [] = vs0[i].2.2 := fun hL => by rw [hR]; exact rows_get hL
      have hrow0 : ¬ i < vs0.length → R.getD i [] = [] := fun hL => by rw [hR, List.getD_eq_getElem?_getD, List.getElem?_eq_none (by rw [hll]; omega)]; rfl
      rw [← hR] at hvs3 ⊢
      repeat (first | refine WC.seq ?_ | refine WC.reg ?_ | refine WL.pure rfl rfl rfl ?_ | refine WL.nil ?_ | refine WC.skip ?_ | refine WC.block ?_ | refine WC.condT rfl ?_ | refine WC.condF rfl ?_ | refine WL.off rfl rfl rfl ?_ | refine WL.off0 rfl rfl ?_ | refine WC.exit ?_ | refine blk_hit ?_ | refine blk_miss rfl ?_ | refine WC.ret ?_)
      refine WC.loop (Nat × Option Addr × Nat) (fun (j, ra, rc) => [(4, ptr b4), (5, ptr b5), (6, .int .i64 (n : Nat)), (7, ptr b7), (8, .int .i64 (i : Nat)), (9, .slice ra (tmAcc R n i j).length rc), (10, .int .i64 (j : Nat))])
        (fun (j, ra, rc) w' => j ≤ n ∧ Hp w w' ([.row 3 1 (.slice ra (tmAcc R n i j).length rc) (tmAcc R n i j).length (zs (tmAcc R n i j)), Stb b7 na i nc ma i mc, .row 22 1 (.slice na i nc) i (catV vs3), .row 3 1 (.slice ma i mc) i (zs (tmMs M0 i)), Stb b5 na0 vs0.length nc0 ma0 M0.length mc0, Stb b4 none 0 0 none 0 0] ++ (vsE vs3 ++ Y))) (fun (j, _) => n - j) (0, none, 0) ⟨rfl, rfl, rfl, rfl, rfl, rfl, rfl, rfl⟩
        ⟨Nat.zero_le _, hp8.nilrow 3 1⟩ ?_
      clear hp8
      rintro ⟨j, ra, rc⟩ w9 ⟨hj, hp9⟩
      replace hj : j ≤ n := hj
      obtain ⟨ac, hac⟩ : ∃ ac, ac = tmAcc R n i j := ⟨_, rfl⟩
      replace hp9 : Hp w w9 ([.row 3 1 (.slice ra (tmAcc R n i j).length rc) (tmAcc R n i j).length (zs (tmAcc R n i j)), Stb b7 na i nc ma i mc, .row 22 1 (.slice na i nc) i (catV vs3), .row 3 1 (.slice ma i mc) i (zs (tmMs M0 i)), Stb b5 na0 vs0.length nc0 ma0 M0.length mc0, Stb b4 none 0 0 none 0 0] ++ (vsE vs3 ++ Y)) := hp9
      simp only [← hac] at hp9 ⊢
      have hacl : ac.length ≤ j := by rw [hac, tmAcc, List.length_map]; exact Nat.le_trans (List.length_filter_le _ _) (by rw [List.length_range]; exact Nat.le_refl _)
      repeat (first | refine WC.seq ?_ | refine WC.reg ?_ | refine WL.pure rfl rfl rfl ?_ | refine WL.nil ?_ | refine WC.skip ?_ | refine WC.block ?_ | refine WC.condT rfl ?_ | refine WC.condF rfl ?_ | refine WL.off rfl rfl rfl ?_ | refine WL.off0 rfl rfl ?_ | refine WC.exit ?_ | refine blk_hit ?_ | refine blk_miss rfl ?_ | refine WC.ret ?_)
      refine WC.cond rfl (fun g2 => ?_) (fun g2 => ?_)
      · have hjn : j < n := by have := of_decide_eq_true g2; omega
        have stepj := wrap_succ (i := j) (n := j + 1) (by omega) (by omega)
        repeat (first | refine WC.seq ?_ | refine WC.skip ?_ | refine WC.block ?_)
        refine WC.mid Unit (fun _ => [(4, ptr b4), (5, ptr b5), (6, .int .i64 (n : Nat)), (7, ptr b7), (8, .int .i64 (i : Nat)), (9, .slice ra ac.length rc), (10, .int .i64 (j : Nat)), (11, .bool (isJ0 R n i j))]) (fun _ w' => w' = w9) ?_ ?_
        · repeat (first | refine WC.seq ?_ | refine WC.reg ?_ | refine WL.pure rfl rfl rfl ?_ | refine WL.nil ?_ | refine WC.skip ?_ | refine WC.block ?_ | refine WC.condT rfl ?_ | refine WC.condF rfl ?_ | refine WL.off rfl rfl rfl ?_ | refine WL.off0 rfl rfl ?_ | refine WC.exit ?_ | refine blk_hit ?_ | refine blk_miss rfl ?_ | refine WC.ret ?_)
          refine WL.rem rfl rfl rfl rfl (by omega) ?_
          refine WL.known (d := 51) (congrArg (fun z => some (Value.int .i64 z)) (show Int.tmod (IntKind.i64.wrap ((i : Int) + 1)) (n : Int) = (((i + 1) % n : Nat) : Int) by rw [step]; rfl)) ?_
          repeat (first | refine WC.seq ?_ | refine WC.reg ?_ | refine WL.pure rfl rfl rfl ?_ | refine WL.nil ?_ | refine WC.skip ?_ | refine WC.block ?_ | refine WC.condT rfl ?_ | refine WC.condF rfl ?_ | refine WL.off rfl rfl rfl ?_ | refine WL.off0 rfl rfl ?_ | refine WC.exit ?_ | refine blk_hit ?_ | refine blk_miss rfl ?_ | refine WC.ret ?_)
          refine WL.split 53 rfl (fun c1 => ?_) (fun c1 => ?_)
          · have c1 : j = (i + 1) % n := by
              have c1 : (((j : Nat) : Int) == (((i + 1) % n : Nat) : Int)) = true := c1
              rw [beq_iff_eq] at c1; omega
            repeat (first | refine WC.seq ?_ | refine WC.reg ?_ | refine WL.pure rfl rfl rfl ?_ | refine WL.nil ?_ | refine WC.skip ?_ | refine WC.block ?_ | refine WC.condT rfl ?_ | refine WC.condF rfl ?_ | refine WL.off rfl rfl rfl ?_ | refine WL.off0 rfl rfl ?_ | refine WC.exit ?_ | refine blk_hit ?_ | refine blk_miss rfl ?_ | refine WC.ret ?_)
            refine WL.loadB rfl rfl rfl rfl rfl (hp9.obj 4 rfl) (j := 0) rfl ?_
            repeat (first | refine WC.seq ?_ | refine WC.reg ?_ | refine WL.pure rfl rfl rfl ?_ | refine WL.nil ?_ | refine WC.skip ?_ | refine WC.block ?_ | refine WC.condT rfl ?_ | refine WC.condF rfl ?_ | refine WL.off rfl rfl rfl ?_ | refine WL.off0 rfl rfl ?_ | refine WC.exit ?_ | refine blk_hit ?_ | refine blk_miss rfl ?_ | refine WC.ret ?_)
            refine WL.split 59 rfl (fun c2 => ?_) (fun c2 => ?_)
            · have c2 : ¬ i < vs0.length := by have := of_decide_eq_true c2; omega
              repeat (first | refine WC.seq ?_ | refine WC.reg ?_ | refine WL.pure rfl rfl rfl ?_ | refine WL.nil ?_ | refine WC.skip ?_ | refine WC.block ?_ | refine WC.condT rfl ?_ | refine WC.condF rfl ?_ | refine WL.off rfl rfl rfl ?_ | refine WL.off0 rfl rfl ?_ | refine WC.exit ?_ | refine blk_hit ?_ | refine blk_miss rfl ?_ | refine WC.ret ?_)
              exact ⟨(), ⟨rfl, rfl, rfl, rfl, rfl, rfl, rfl, congrArg (fun z => some (Value.bool z)) (show true = isJ0 R n i j by unfold isJ0; rw [hrow0 c2, decide_eq_true c1]; rfl), rfl⟩, rfl⟩
            · have c2 : i < vs0.length := by have := of_decide_eq_false c2; omega
              repeat (first | refine WC.seq ?_ | refine WC.reg ?_ | refine WL.pure rfl rfl rfl ?_ | refine WL.nil ?_ | refine WC.skip ?_ | refine WC.block ?_ | refine WC.condT rfl ?_ | refine WC.condF rfl ?_ | refine WL.off rfl rfl rfl ?_ | refine WL.off0 rfl rfl ?_ | refine WC.exit ?_ | refine blk_hit ?_ | refine blk_miss rfl ?_ | refine WC.ret ?_)
              refine WL.loadB rfl rfl rfl rfl rfl (hp9.obj 4 rfl) (j := 0) rfl ?_
              refine WL.pure rfl rfl rfl ?_
              refine WL.ixload rfl (fun _ => rfl) rfl rfl rfl rfl rfl rfl rfl c2 rfl rfl (hstZ hp9).nx (catV_at c2) ?_
              intro q0
              repeat (first | refine WC.seq ?_ | refine WC.reg ?_ | refine WL.pure rfl rfl rfl ?_ | refine WL.nil ?_ | refine WC.skip ?_ | refine WC.block ?_ | refine WC.condT rfl ?_ | refine WC.condF rfl ?_ | refine WL.off rfl rfl rfl ?_ | refine WL.off0 rfl rfl ?_ | refine WC.exit ?_ | refine blk_hit ?_ | refine blk_miss rfl ?_ | refine WC.ret ?_)
              refine ⟨(), ⟨rfl, rfl, rfl, rfl, rfl, rfl, rfl, congrArg (fun z => some (Value.bool z)) (show (((vs0[i].2.2.length : Nat) : Int) == 0) = isJ0 R n i j by
                unfold isJ0
                rw [hrow c2, decide_eq_true c1, Bool.true_and]
                cases vs0[i].2.2 with
                | nil => rfl
                | cons z r =>
                  rw [decide_eq_false (by simp)]
                  exact beq_eq_false_iff_ne.2 (by rw [List.length_cons]; omega)), rfl⟩, rfl⟩
          · have c1 : ¬ j = (i + 1) % n := by
              have c1 : (((j : Nat) : Int) == (((i + 1) % n : Nat) : Int)) = false := c1
              rw [beq_eq_false_iff_ne] at c1; omega
            repeat (first | refine WC.seq ?_ | refine WC.reg ?_ | refine WL.pure rfl rfl rfl ?_ | refine WL.nil ?_ | refine WC.skip ?_ | refine WC.block ?_ | refine WC.condT rfl ?_ | refine WC.condF rfl ?_ | refine WL.off rfl rfl rfl ?_ | refine WL.off0 rfl rfl ?_ | refine WC.exit ?_ | refine blk_hit ?_ | refine blk_miss rfl ?_ | refine WC.ret ?_)
            exact ⟨(), ⟨rfl, rfl, rfl, rfl, rfl, rfl, rfl, congrArg (fun z => some (Value.bool z)) (show false = isJ0 R n i j by unfold isJ0; rw [decide_eq_false c1]; rfl), rfl⟩, rfl⟩
        rintro _ e10 w10 hsub hw10
        obtain rfl := hw10.symm
        refine WC.sub hsub ?_
        clear hsub e10
        refine WC.seq ?_
        refine WC.mid Unit (fun _ => [(4, ptr b4), (5, ptr b5), (6, .int .i64 (n : Nat)), (7, ptr b7), (8, .int .i64 (i : Nat)), (9, .slice ra ac.length rc), (10, .int .i64 (j : Nat)), (11, .bool (isJ R n i j))]) (fun _ w' => w' = w9) ?_ ?_
        · repeat (first | refine WC.seq ?_ | refine WC.reg ?_ | refine WL.pure rfl rfl rfl ?_ | refine WL.nil ?_ | refine WC.skip ?_ | refine WC.block ?_ | refine WC.condT rfl ?_ | refine WC.condF rfl ?_ | refine WL.off rfl rfl rfl ?_ | refine WL.off0 rfl rfl ?_ | refine WC.exit ?_ | refine blk_hit ?_ | refine blk_miss rfl ?_ | refine WC.ret ?_)
          refine WC.loop Nat (fun k => [(4, ptr b4), (5, ptr b5), (6, .int .i64 (n : Nat)), (7, ptr b7), (8, .int .i64 (i : Nat)), (9, .slice ra ac.length rc), (10, .int .i64 (j : Nat)), (11, .bool (isJ0 R n i j || ((R.getD i []).take k).any fun z => decide (modN z n = j))), (12, .int .i64 (k : Nat))])
            (fun k w' => k ≤ (R.getD i []).length ∧ w' = w9) (fun k => (R.getD i []).length - k) 0 ⟨rfl, rfl, rfl, rfl, rfl, rfl, rfl, congrArg (fun z => some (Value.bool z)) (Bool.or_false _).symm, rfl, rfl⟩ ⟨Nat.zero_le _, rfl⟩ ?_
          rintro k w10 ⟨hk, hw10⟩
          obtain rfl := hw10.symm
          replace hk : k ≤ (R.getD i []).length := hk
          have fin : k = (R.getD i []).length → (isJ0 R n i j || ((R.getD i []).take k).any fun z => decide (modN z n = j)) = isJ R n i j := fun h => by rw [h, List.take_length]; rfl
          repeat (first | refine WC.seq ?_ | refine WC.reg ?_ | refine WL.pure rfl rfl rfl ?_ | refine WL.nil ?_ | refine WC.skip ?_ | refine WC.block ?_ | refine WC.condT rfl ?_ | refine WC.condF rfl ?_ | refine WL.off rfl rfl rfl ?_ | refine WL.off0 rfl rfl ?_ | refine WC.exit ?_ | refine blk_hit ?_ | refine blk_miss rfl ?_ | refine WC.ret ?_)
          refine WL.loadB rfl rfl rfl rfl rfl (hp9.obj 4 rfl) (j := 0) rfl ?_
          repeat (first | refine WC.seq ?_ | refine WC.reg ?_ | refine WL.pure rfl rfl rfl ?_ | refine WL.nil ?_ | refine WC.skip ?_ | refine WC.block ?_ | refine WC.condT rfl ?_ | refine WC.condF rfl ?_ | refine WL.off rfl rfl rfl ?_ | refine WL.off0 rfl rfl ?_ | refine WC.exit ?_ | refine blk_hit ?_ | refine blk_miss rfl ?_ | refine WC.ret ?_)
          refine WL.split 74 rfl (fun c1 => ?_) (fun c1 => ?_)
          · have c1 : i < vs0.length := by have := of_decide_eq_true c1; omega
            have hrl := hr20 _ (List.getElem_mem c1)
            have hrw := hrow c1
            rw [hrw] at hk fin ⊢
            repeat (first | refine WC.seq ?_ | refine WC.reg ?_ | refine WL.pure rfl rfl rfl ?_ | refine WL.nil ?_ | refine WC.skip ?_ | refine WC.block ?_ | refine WC.condT rfl ?_ | refine WC.condF rfl ?_ | refine WL.off rfl rfl rfl ?_ | refine WL.off0 rfl rfl ?_ | refine WC.exit ?_ | refine blk_hit ?_ | refine blk_miss rfl ?_ | refine WC.ret ?_)
            refine WL.loadB rfl rfl rfl rfl rfl (hp9.obj 4 rfl) (j := 0) rfl ?_
            refine WL.pure rfl rfl rfl ?_
            refine WL.ixload rfl (fun _ => rfl) rfl rfl rfl rfl rfl rfl rfl c1 rfl rfl (hstZ hp9).nx (catV_at c1) ?_
            intro q1
            repeat (first | refine WC.seq ?_ | refine WC.reg ?_ | refine WL.pure rfl rfl rfl ?_ | refine WL.nil ?_ | refine WC.skip ?_ | refine WC.block ?_ | refine WC.condT rfl ?_ | refine WC.condF rfl ?_ | refine WL.off rfl rfl rfl ?_ | refine WL.off0 rfl rfl ?_ | refine WC.exit ?_ | refine blk_hit ?_ | refine blk_miss rfl ?_ | refine WC.ret ?_)
            refine WC.cond rfl (fun c2 => ?_) (fun c2 => ?_)
            · have c2 : k < vs0[i].2.2.length := by have := of_decide_eq_true c2; omega
              have stepk := wrap_succ (i := k) (n := k + 1) (by omega) (by omega)
              have htk : (vs0[i].2.2.take (k + 1)).any (fun z => decide (modN z n = j)) = ((vs0[i].2.2.take k).any (fun z => decide (modN z n = j)) || decide (modN (vs0[i].2.2.getD k 0) n = j)) := by
                rw [List.take_succ_eq_append_getElem c2, List.any_append]
                simp [c2]
              repeat (first | refine WC.seq ?_ | refine WC.reg ?_ | refine WL.pure rfl rfl rfl ?_ | refine WL.nil ?_ | refine WC.skip ?_ | refine WC.block ?_ | refine WC.condT rfl ?_ | refine WC.condF rfl ?_ | refine WL.off rfl rfl rfl ?_ | refine WL.off0 rfl rfl ?_ | refine WC.exit ?_ | refine blk_hit ?_ | refine blk_miss rfl ?_ | refine WC.ret ?_)
              refine WL.split 87 rfl (fun c3 => ?_) (fun c3 => ?_)
              · repeat (first | refine WC.seq ?_ | refine WC.reg ?_ | refine WL.pure rfl rfl rfl ?_ | refine WL.nil ?_ | refine WC.skip ?_ | refine WC.block ?_ | refine WC.condT rfl ?_ | refine WC.condF rfl ?_ | refine WL.off rfl rfl rfl ?_ | refine WL.off0 rfl rfl ?_ | refine WC.exit ?_ | refine blk_hit ?_ | refine blk_miss rfl ?_ | refine WC.ret ?_)
                exact ⟨k + 1, (by omega), ⟨rfl, rfl, rfl, rfl, rfl, rfl, rfl, congrArg (fun z => some (Value.bool z)) (show true = (isJ0 R n i j || (vs0[i].2.2.take (k + 1)).any fun z => decide (modN z n = j)) by rw [htk, ← Bool.or_assoc]; have c3 : (isJ0 R n i j || (vs0[i].2.2.take k).any fun z => decide (modN z n = j)) = true := c3; rw [c3]; rfl), congrArg (fun z => some (Value.int .i64 z)) stepk, rfl⟩, c2, rfl⟩
              · repeat (first | refine WC.seq ?_ | refine WC.reg ?_ | refine WL.pure rfl rfl rfl ?_ | refine WL.nil ?_ | refine WC.skip ?_ | refine WC.block ?_ | refine WC.condT rfl ?_ | refine WC.condF rfl ?_ | refine WL.off rfl rfl rfl ?_ | refine WL.off0 rfl rfl ?_ | refine WC.exit ?_ | refine blk_hit ?_ | refine blk_miss rfl ?_ | refine WC.ret ?_)
                refine WL.loadB rfl rfl rfl rfl rfl (hp9.obj 4 rfl) (j := 0) rfl ?_
                refine WL.pure rfl rfl rfl ?_
                refine WL.ixload rfl (fun _ => rfl) rfl rfl rfl rfl rfl rfl rfl c1 rfl rfl (hstZ hp9).nx (catV_at c1) ?_
                intro q2
                refine WL.pure rfl rfl rfl ?_
                refine WL.ixload rfl (fun _ => rfl) rfl rfl rfl rfl rfl rfl rfl c2 rfl rfl ((hstZ hp9).rows _ (List.getElem_mem c1)) (zs_getD c2) ?_
                intro q3
                refine WL.pure rfl rfl rfl ?_
                refine WL.call rfl rfl rfl rfl rfl ent29 (mod_any (vs0[i].2.2.getD k 0) n (by omega) (by omega) w9) ?_
                rintro _ w11 ⟨rfl, hw11⟩
                obtain rfl := hw11.symm
                repeat (first | refine WC.seq ?_ | refine WC.reg ?_ | refine WL.pure rfl rfl rfl ?_ | refine WL.nil ?_ | refine WC.skip ?_ | refine WC.block ?_ | refine WC.condT rfl ?_ | refine WC.condF rfl ?_ | refine WL.off rfl rfl rfl ?_ | refine WL.off0 rfl rfl ?_ | refine WC.exit ?_ | refine blk_hit ?_ | refine blk_miss rfl ?_ | refine WC.ret ?_)
                exact ⟨k + 1, (by omega), ⟨rfl, rfl, rfl, rfl, rfl, rfl, rfl, congrArg (fun z => some (Value.bool z)) (show ((((modN (vs0[i].2.2.getD k 0) n : Nat) : Int) == ((j : Nat) : Int))) = (isJ0 R n i j || (vs0[i].2.2.take (k + 1)).any fun z => decide (modN z n = j)) by
                  rw [htk, ← Bool.or_assoc]
                  have c3 : (isJ0 R n i j || (vs0[i].2.2.take k).any fun z => decide (modN z n = j)) = false := c3
                  rw [c3, Bool.false_or]
                  by_cases hm : modN (vs0[i].2.2.getD k 0) n = j
                  · rw [hm, decide_eq_true rfl]; simp
                  · rw [decide_eq_false hm]; exact beq_eq_false_iff_ne.2 (by omega)), congrArg (fun z => some (Value.int .i64 z)) stepk, rfl⟩, c2, rfl⟩
            · have c2 : k = vs0[i].2.2.length := by have := of_decide_eq_false c2; omega
              repeat (first | refine WC.seq ?_ | refine WC.reg ?_ | refine WL.pure rfl rfl rfl ?_ | refine WL.nil ?_ | refine WC.skip ?_ | refine WC.block ?_ | refine WC.condT rfl ?_ | refine WC.condF rfl ?_ | refine WL.off rfl rfl rfl ?_ | refine WL.off0 rfl rfl ?_ | refine WC.exit ?_ | refine blk_hit ?_ | refine blk_miss rfl ?_ | refine WC.ret ?_)
              exact ⟨(), ⟨rfl, rfl, rfl, rfl, rfl, rfl, rfl, congrArg (fun z => some (Value.bool z)) (fin c2), rfl⟩, rfl⟩
          · have c1 : ¬ i < vs0.length := by have := of_decide_eq_false c1; omega
            have hk0 : k = (R.getD i []).length := by rw [hrow0 c1] at hk ⊢; simp only [List.length_nil] at hk ⊢; omega
            repeat (first | refine WC.seq ?_ | refine WC.reg ?_ | refine WL.pure rfl rfl rfl ?_ | refine WL.nil ?_ | refine WC.skip ?_ | refine WC.block ?_ | refine WC.condT rfl ?_ | refine WC.condF rfl ?_ | refine WL.off rfl rfl rfl ?_ | refine WL.off0 rfl rfl ?_ | refine WC.exit ?_ | refine blk_hit ?_ | refine blk_miss rfl ?_ | refine WC.ret ?_)
            exact ⟨(), ⟨rfl, rfl, rfl, rfl, rfl, rfl, rfl, congrArg (fun z => some (Value.bool z)) (fin hk0), rfl⟩, rfl⟩
        rintro _ e10 w10 hsub hw10
        obtain rfl := hw10.symm
        refine WC.sub hsub ?_
        clear hsub e10
        have hnext := tmAcc_succ R n i j
        rw [← hac] at hnext
        repeat (first | refine WC.seq ?_ | refine WC.reg ?_ | refine WL.pure rfl rfl rfl ?_ | refine WL.nil ?_ | refine WC.skip ?_ | refine WC.block ?_ | refine WC.condT rfl ?_ | refine WC.condF rfl ?_ | refine WL.off rfl rfl rfl ?_ | refine WL.off0 rfl rfl ?_ | refine WC.exit ?_ | refine blk_hit ?_ | refine blk_miss rfl ?_ | refine WC.ret ?_)
        refine WC.cond rfl (fun c => ?_) (fun c => ?_)
        · rw [if_pos c] at hnext
          repeat (first | refine WC.seq ?_ | refine WC.reg ?_ | refine WL.pure rfl rfl rfl ?_ | refine WL.nil ?_ | refine WC.skip ?_ | refine WC.block ?_ | refine WC.condT rfl ?_ | refine WC.condF rfl ?_ | refine WL.off rfl rfl rfl ?_ | refine WL.off0 rfl rfl ?_ | refine WC.exit ?_ | refine blk_hit ?_ | refine blk_miss rfl ?_ | refine WC.ret ?_)
          refine WL.buildS (cs := [.int .i64 (j : Nat)]) rfl rfl rfl rfl rfl rfl rfl rfl rfl (fun b10 w10 h10 => ?_)
          have hp10 := hp9.new h10
          refine WL.append 1 hp10 rfl rfl rfl rfl rfl (by decide) rfl rfl rfl (news := [.int .i64 (j : Nat)]) (Sl.of_obj (hp10.obj 0 rfl) (fun q u hq => by simpa using hq)) rfl (zs_cells [((j : Nat) : Int)]) (by unfold maxLen; omega) (by show (ac.length + 1) * 8 ≤ _; omega) ?_
          intro pa pc w11 hp11 _
          have hp11 := hp11.tail
          have hlen : (tmAcc R n i (j + 1)).length = ac.length + 1 := by rw [hnext, List.length_append]; rfl
          have hzs : zs (tmAcc R n i (j + 1)) = zs ac ++ [.int .i64 (j : Nat)] := by rw [hnext, zs_app]; rfl
          repeat (first | refine WC.seq ?_ | refine WC.reg ?_ | refine WL.pure rfl rfl rfl ?_ | refine WL.nil ?_ | refine WC.skip ?_ | refine WC.block ?_ | refine WC.condT rfl ?_ | refine WC.condF rfl ?_ | refine WL.off rfl rfl rfl ?_ | refine WL.off0 rfl rfl ?_ | refine WC.exit ?_ | refine blk_hit ?_ | refine blk_miss rfl ?_ | refine WC.ret ?_)
          refine ⟨(j + 1, pa, pc), (by show n - (j + 1) < n - j; omega), ⟨rfl, rfl, rfl, rfl, rfl, by rw [hlen]; rfl, congrArg (fun z => some (Value.int .i64 z)) stepj, rfl⟩, hjn, ?_⟩
          show Hp w w11 ([.row 3 1 (.slice pa (tmAcc R n i (j + 1)).length pc) (tmAcc R n i (j + 1)).length (zs (tmAcc R n i (j + 1))), _, _, _, _, _] ++ _)
          rw [hlen, hzs]
          exact hp11
        · rw [if_neg (by rw [c]; decide), List.append_nil] at hnext
          repeat (first | refine WC.seq ?_ | refine WC.reg ?_ | refine WL.pure rfl rfl rfl ?_ | refine WL.nil ?_ | refine WC.skip ?_ | refine WC.block ?_ | refine WC.condT rfl ?_ | refine WC.condF rfl ?_ | refine WL.off rfl rfl rfl ?_ | refine WL.off0 rfl rfl ?_ | refine WC.exit ?_ | refine blk_hit ?_ | refine blk_miss rfl ?_ | refine WC.ret ?_)
          refine ⟨(j + 1, ra, rc), (by show n - (j + 1) < n - j; omega), ⟨rfl, rfl, rfl, rfl, rfl, by rw [hnext]; rfl, congrArg (fun z => some (Value.int .i64 z)) stepj, rfl⟩, hjn, ?_⟩
          show Hp w w9 ([.row 3 1 (.slice ra (tmAcc R n i (j + 1)).length rc) (tmAcc R n i (j + 1)).length (zs (tmAcc R n i (j + 1))), _, _, _, _, _] ++ _)
          rw [hnext]
          exact hp9
      · have hjn : j = n := by have := of_decide_eq_false g2; omega
        have hacr : ac = tmRow R n i := by rw [hac, hjn]; rfl
        refine WC.exit ?_
        refine blk_hit ?_
        refine WC.seq ?_
        refine WC.reg ?_
        refine WL.pure rfl rfl rfl ?_
        refine WL.pure rfl rfl rfl ?_
        refine WL.known (d := 107) (congrArg (fun z => some (Value.int .i64 z)) (show Int.tmod ((i : Nat) : Int) 16 = ((i % 16 : Nat) : Int) from rfl)) ?_
        refine WL.pure rfl rfl rfl ?_
        refine WL.nil ?_
        refine WC.seq ?_
        refine WC.mid Unit (fun _ => [(4, ptr b4), (5, ptr b5), (6, .int .i64 (n : Nat)), (7, ptr b7), (8, .int .i64 (i : Nat)), (9, .slice ra ac.length rc), (13, .int .i64 (tmMark M0 i))]) (fun _ w' => w' = w9) ?_ ?_
        · repeat (first | refine WC.seq ?_ | refine WC.reg ?_ | refine WL.pure rfl rfl rfl ?_ | refine WL.nil ?_ | refine WC.skip ?_ | refine WC.block ?_ | refine WC.condT rfl ?_ | refine WC.condF rfl ?_ | refine WL.off rfl rfl rfl ?_ | refine WL.off0 rfl rfl ?_ | refine WC.exit ?_ | refine blk_hit ?_ | refine blk_miss rfl ?_ | refine WC.ret ?_)
          refine WL.loadB rfl rfl rfl rfl rfl (hp9.obj 4 rfl) (j := 1) rfl ?_
          repeat (first | refine WC.seq ?_ | refine WC.reg ?_ | refine WL.pure rfl rfl rfl ?_ | refine WL.nil ?_ | refine WC.skip ?_ | refine WC.block ?_ | refine WC.condT rfl ?_ | refine WC.condF rfl ?_ | refine WL.off rfl rfl rfl ?_ | refine WL.off0 rfl rfl ?_ | refine WC.exit ?_ | refine blk_hit ?_ | refine blk_miss rfl ?_ | refine WC.ret ?_)
          refine WC.cond rfl (fun c => ?_) (fun c => ?_)
          · have c : i < M0.length := by have := of_decide_eq_true c; omega
            repeat (first | refine WC.seq ?_ | refine WC.reg ?_ | refine WL.pure rfl rfl rfl ?_ | refine WL.nil ?_ | refine WC.skip ?_ | refine WC.block ?_ | refine WC.condT rfl ?_ | refine WC.condF rfl ?_ | refine WL.off rfl rfl rfl ?_ | refine WL.off0 rfl rfl ?_ | refine WC.exit ?_ | refine blk_hit ?_ | refine blk_miss rfl ?_ | refine WC.ret ?_)
            refine WL.loadB rfl rfl rfl rfl rfl (hp9.obj 4 rfl) (j := 1) rfl ?_
            refine WL.pure rfl rfl rfl ?_
            refine WL.ixload rfl (fun _ => rfl) rfl rfl rfl rfl rfl rfl rfl c rfl rfl (hstZ hp9).mks (zs_getD c) ?_
            intro q0
            refine WL.call rfl rfl rfl rfl rfl ent29 (mod_any (M0.getD i 0) 16 (by decide) (by decide) w9) ?_
            rintro _ w11 ⟨rfl, hw11⟩
            obtain rfl := hw11.symm
            repeat (first | refine WC.seq ?_ | refine WC.reg ?_ | refine WL.pure rfl rfl rfl ?_ | refine WL.nil ?_ | refine WC.skip ?_ | refine WC.block ?_ | refine WC.condT rfl ?_ | refine WC.condF rfl ?_ | refine WL.off rfl rfl rfl ?_ | refine WL.off0 rfl rfl ?_ | refine WC.exit ?_ | refine blk_hit ?_ | refine blk_miss rfl ?_ | refine WC.ret ?_)
            exact ⟨(), ⟨rfl, rfl, rfl, rfl, rfl, rfl, congrArg (fun z => some (Value.int .i64 z)) (show ((modN (M0.getD i 0) 16 : Nat) : Int) = tmMark M0 i by unfold tmMark; rw [if_pos c]; rfl), rfl⟩, rfl⟩
          · have c : ¬ i < M0.length := by have := of_decide_eq_false c; omega
            repeat (first | refine WC.seq ?_ | refine WC.reg ?_ | refine WL.pure rfl rfl rfl ?_ | refine WL.nil ?_ | refine WC.skip ?_ | refine WC.block ?_ | refine WC.condT rfl ?_ | refine WC.condF rfl ?_ | refine WL.off rfl rfl rfl ?_ | refine WL.off0 rfl rfl ?_ | refine WC.exit ?_ | refine blk_hit ?_ | refine blk_miss rfl ?_ | refine WC.ret ?_)
            exact ⟨(), ⟨rfl, rfl, rfl, rfl, rfl, rfl, congrArg (fun z => some (Value.int .i64 z)) (show ((i % 16 : Nat) : Int) = tmMark M0 i by unfold tmMark; rw [if_neg c]), rfl⟩, rfl⟩
        rintro _ e10 w10 hsub hw10
        obtain rfl := hw10.symm
        refine WC.sub hsub ?_
        clear hsub e10
        have hal : ac.length ≤ 16 := by omega
        subst hvl
        repeat (first | refine WC.seq ?_ | refine WC.reg ?_ | refine WL.pure rfl rfl rfl ?_ | refine WL.nil ?_ | refine WC.skip ?_ | refine WC.block ?_ | refine WC.condT rfl ?_ | refine WC.condF rfl ?_ | refine WL.off rfl rfl rfl ?_ | refine WL.off0 rfl rfl ?_ | refine WC.exit ?_ | refine blk_hit ?_ | refine blk_miss rfl ?_ | refine WC.ret ?_)
        refine WL.loadB rfl rfl rfl rfl rfl (hp9.obj 1 rfl) (j := 0) rfl ?_
        repeat (first | refine WC.seq ?_ | refine WC.reg ?_ | refine WL.pure rfl rfl rfl ?_ | refine WL.nil ?_ | refine WC.skip ?_ | refine WC.block ?_ | refine WC.condT rfl ?_ | refine WC.condF rfl ?_ | refine WL.off rfl rfl rfl ?_ | refine WL.off0 rfl rfl ?_ | refine WC.exit ?_ | refine blk_hit ?_ | refine blk_miss rfl ?_ | refine WC.ret ?_)
        refine WL.buildS (cs := [.slice ra ac.length rc]) rfl rfl rfl rfl rfl rfl rfl rfl rfl (fun b10 w10 h10 => ?_)
        have hp10 := hp9.new h10
        refine WL.append 3 hp10 rfl rfl rfl rfl rfl (by decide) rfl rfl rfl (news := [.slice ra ac.length rc]) (Sl.of_obj (hp10.obj 0 rfl) (fun q u hq => by simpa using hq)) rfl (Cells.cons rfl Cells.nil) (by unfold maxLen; omega) (by show (vs3.length + 1) * 24 ≤ _; omega) ?_
        intro pb pd w11 hp11 _
        replace hp11 : Hp w w11 ([_, Ri (.slice ra ac.length rc) ac, Stb b7 na vs3.length nc ma vs3.length mc, .row 22 1 (.slice pb (vs3.length + 1) pd) (vs3.length + 1) (catV vs3 ++ [.slice ra ac.length rc]), .row 3 1 (.slice ma vs3.length mc) vs3.length (zs (tmMs M0 vs3.length)), Stb b5 na0 vs0.length nc0 ma0 M0.length mc0, Stb b4 none 0 0 none 0 0] ++ (vsE vs3 ++ Y)) := hp11
        repeat (first | refine WC.seq ?_ | refine WC.reg ?_ | refine WL.pure rfl rfl rfl ?_ | refine WL.nil ?_ | refine WC.skip ?_ | refine WC.block ?_ | refine WC.condT rfl ?_ | refine WC.condF rfl ?_ | refine WL.off rfl rfl rfl ?_ | refine WL.off0 rfl rfl ?_ | refine WC.exit ?_ | refine blk_hit ?_ | refine blk_miss rfl ?_ | refine WC.ret ?_)
        refine WL.store rfl rfl rfl rfl rfl rfl (hp11.obj 2 rfl) (Nat.succ_pos 1) (fun w12 h12 => ?_)
        have hp12 := Hp.pickT (T := vsE vs3 ++ Y) [_, _, _, _, _, _, _] [3, 1, 2, 4, 5, 6] (hp11.set 2 rfl rfl h12) (by decide)
        have hp13 := Hp.pickT (T := vsE (vs3 ++ [(ra, rc, ac)]) ++ Y) [_, _, _, _, _] [1, 0, 2, 3, 4] (Hp.rowInY (X := [Stb b7 pb (vs3.length + 1) pd ma vs3.length mc, .row 3 1 (.slice ma vs3.length mc) vs3.length (zs (tmMs M0 vs3.length)), Stb b5 na0 vs0.length nc0 ma0 M0.length mc0, Stb b4 none 0 0 none 0 0]) (x := (ra, rc, ac)) hp12) (by decide)
        clear hp9 hp10 hp11 hp12
        repeat (first | refine WC.seq ?_ | refine WC.reg ?_ | refine WL.pure rfl rfl rfl ?_ | refine WL.nil ?_ | refine WC.skip ?_ | refine WC.block ?_ | refine WC.condT rfl ?_ | refine WC.condF rfl ?_ | refine WL.off rfl rfl rfl ?_ | refine WL.off0 rfl rfl ?_ | refine WC.exit ?_ | refine blk_hit ?_ | refine blk_miss rfl ?_ | refine WC.ret ?_)
        refine WL.loadB rfl rfl rfl rfl rfl (hp13.obj 0 rfl) (j := 1) rfl ?_
        repeat (first | refine WC.seq ?_ | refine WC.reg ?_ | refine WL.pure rfl rfl rfl ?_ | refine WL.nil ?_ | refine WC.skip ?_ | refine WC.block ?_ | refine WC.condT rfl ?_ | refine WC.condF rfl ?_ | refine WL.off rfl rfl rfl ?_ | refine WL.off0 rfl rfl ?_ | refine WC.exit ?_ | refine blk_hit ?_ | refine blk_miss rfl ?_ | refine WC.ret ?_)
        refine WL.buildS (cs := [.int .i64 (tmMark M0 vs3.length)]) rfl rfl rfl rfl rfl rfl rfl rfl rfl (fun b14 w14 h14 => ?_)
        have hp14 := hp13.new h14
        refine WL.append 3 hp14 rfl rfl rfl rfl rfl (by decide) rfl rfl rfl (news := [.int .i64 (tmMark M0 vs3.length)]) (Sl.of_obj (hp14.obj 0 rfl) (fun q u hq => by simpa using hq)) rfl (zs_cells [_]) (by unfold maxLen; omega) (by show (vs3.length + 1) * 8 ≤ _; omega) ?_
        intro pe pf w15 hp15 _
        replace hp15 : Hp w w15 ([_, Stb b7 pb (vs3.length + 1) pd ma vs3.length mc, Rvs (.slice pb (vs3 ++ [(ra, rc, ac)]).length pd) (vs3 ++ [(ra, rc, ac)]), .row 3 1 (.slice pe (vs3.length + 1) pf) (vs3.length + 1) (zs (tmMs M0 vs3.length) ++ [.int .i64 (tmMark M0 vs3.length)]), Stb b5 na0 vs0.length nc0 ma0 M0.length mc0, Stb b4 none 0 0 none 0 0] ++ (vsE (vs3 ++ [(ra, rc, ac)]) ++ Y)) := hp15
        repeat (first | refine WC.seq ?_ | refine WC.reg ?_ | refine WL.pure rfl rfl rfl ?_ | refine WL.nil ?_ | refine WC.skip ?_ | refine WC.block ?_ | refine WC.condT rfl ?_ | refine WC.condF rfl ?_ | refine WL.off rfl rfl rfl ?_ | refine WL.off0 rfl rfl ?_ | refine WC.exit ?_ | refine blk_hit ?_ | refine blk_miss rfl ?_ | refine WC.ret ?_)
        refine WL.store rfl rfl rfl rfl rfl rfl (hp15.obj 1 rfl) (Nat.lt_succ_self 1) (fun w16 h16 => ?_)
        have hp16 := Hp.pickT (T := vsE (vs3 ++ [(ra, rc, ac)]) ++ Y) [_, _, _, _, _, _] [1, 2, 3, 4, 5] (hp15.set 1 rfl rfl h16) (by decide)
        have hms : zs (tmMs M0 vs3.length) ++ [.int .i64 (tmMark M0 vs3.length)] = zs (tmMs M0 (vs3.length + 1)) := by rw [tmMs_succ, zs_app]; rfl
        have hvs4 : rowsOf (vs3 ++ [(ra, rc, ac)]) = (List.range (vs3.length + 1)).map (tmRow R n) := by
          rw [List.range_succ, List.map_append, ← hvs3, hacr]; simp [rowsOf]
        rw [hms] at hp16
        unfold Rvs at hp16
        rw [show (vs3 ++ [(ra, rc, ac)]).length = vs3.length + 1 from by rw [List.length_append]; rfl] at hp16
        repeat (first | refine WC.seq ?_ | refine WC.reg ?_ | refine WL.pure rfl rfl rfl ?_ | refine WL.nil ?_ | refine WC.skip ?_ | refine WC.block ?_ | refine WC.condT rfl ?_ | refine WC.condF rfl ?_ | refine WL.off rfl rfl rfl ?_ | refine WL.off0 rfl rfl ?_ | refine WC.exit ?_ | refine blk_hit ?_ | refine blk_miss rfl ?_ | refine WC.ret ?_)
        exact ⟨(vs3.length + 1, pb, pd, pe, pf, vs3 ++ [(ra, rc, ac)]), (by show n - (vs3.length + 1) < n - vs3.length; omega), ⟨rfl, rfl, rfl, rfl, congrArg (fun z => some (Value.int .i64 z)) step, rfl⟩, hin, hvs4, hp16⟩
    · have hin : i = n := by have := of_decide_eq_false g1; omega
      subst hin
      repeat (first | refine WC.seq ?_ | refine WC.reg ?_ | refine WL.pure rfl rfl rfl ?_ | refine WL.nil ?_ | refine WC.skip ?_ | refine WC.block ?_ | refine WC.condT rfl ?_ | refine WC.condF rfl ?_ | refine WL.off rfl rfl rfl ?_ | refine WL.off0 rfl rfl ?_ | refine WC.exit ?_ | refine blk_hit ?_ | refine blk_miss rfl ?_ | refine WC.ret ?_)
      refine WL.loadN rfl rfl rfl rfl rfl (cs := [.slice na i nc, .slice ma i mc]) rfl (fun q v hq => cell_of_obj (hp8.obj 0 rfl) (by rw [Nat.zero_add]; simpa using hq)) ?_
      refine WL.storeN rfl rfl rfl rfl rfl (by simp [Value.oneCell']) (hp8.obj 4 rfl) (Nat.le_refl _) rfl (fun w9 h9 => ?_)
      have hp9 := hp8.set 4 rfl rfl h9
      repeat (first | refine WC.seq ?_ | refine WC.reg ?_ | refine WL.pure rfl rfl rfl ?_ | refine WL.nil ?_ | refine WC.skip ?_ | refine WC.block ?_ | refine WC.condT rfl ?_ | refine WC.condF rfl ?_ | refine WL.off rfl rfl rfl ?_ | refine WL.off0 rfl rfl ?_ | refine WC.exit ?_ | refine blk_hit ?_ | refine blk_miss rfl ?_ | refine WC.ret ?_)
      refine Res.cell rfl rfl rfl rfl rfl rfl (hp9.obj 4 rfl) ⟨na, nc, ma, mc, vs3, by simp only [tmMs_len, hvl]; rfl, hvs3, ?_⟩
      have h10 := Hp.frontT (T := Y) (L := [_, _] ++ vsE vs3) (Hp.pickT (T := vsE vs3 ++ Y) [_, _, _, _, _] [1, 2] hp9 (by decide))
      show Hp w w9 (.row 22 1 (.slice na vs3.length nc) vs3.length (catV vs3) :: .row 3 1 (.slice ma (tmMs M0 i).length mc) (tmMs M0 i).length (zs (tmMs M0 i)) :: vsE vs3)
      rw [tmMs_len, hvl]
      exact h10
end Go.Proofs.YtpbbneclkhfgoaaDoor
end
