/- Scopes, comparisons of slices with nil, copies into the front of a block; the walk of a clone; matrices in memory. -/
import Derived.Test.YtagfpnnplgkkoaaR22
import Derived.Scope
import Derived.WalkSpells
namespace Go.W
open Go.RowKit
section
variable {P : Program} {ro : Option Nat} {n : Nat} {N R : Nor} {X : Ext} {Z : Pan} {e : Env} {w : World}
theorem WC.scope {c : Code} (h : WC P none n c N R X Z e w) : WC P none n (.scope c) N R X Z e w := by
  intro a ha
  refine wpIn_wide.2 (wp_scope_straight (wpIn_wide.1 (wpIn_mono (h a ha) ?_)))
  intro ex a' w' hq
  cases ex with
  | goto l => exact hq
  | _ => exact hq
theorem WC.label {l : Nat} (h : N e w) : WC P ro n (.label l) N R X Z e w := fun a ha => wpIn_label ⟨e, ha, h⟩
end
section
variable {P : Program} [T : TT P] {ro : Option Nat} {n : Nat} {l0 rest : List Oper} {N : Nor} {Z : Pan} {e : Env} {w : World} {ty : TypeId} {pos : String} {aft : Array Edge} {g : Option (Nat × Bool)}
theorem WL.eqNil {d : Nat} {t t2 E : TypeId} {z : Value} {s0 b0 k c : Nat} {x : Operand} {a : Option Addr} (hg : grd l0 e g = some true) (hd : Nat.blt d n = true) (ht : T.ti t = some ⟨.slice E, z, s0, b0⟩) (hx : opv e x = some (.slice a k c))
    (h : WL P ro n l0 N Z rest ((d, .bool a.isNone) :: e) w) : WL P ro n l0 N Z (⟨some d, .binOp .eql t x (.const (.slice none 0 0)) t2, ty, pos, aft, g⟩ :: rest) e w := by
  have hu : P.underlying t = some (.slice E) := (T.ok t _ ht).k
  refine WL.val hg rfl hd ?_ h
  intro ρ hρ d' pos' aft' g'
  have h2 : ρ (.const (.slice none 0 0)) = .slice none 0 0 := hρ _ _ rfl
  simp [execOp, hρ _ _ hx, h2, eqGuard_at_slice, Lib.run_eql_slice_nil w t E a k c 0 0 hu]
/-- An empty slice literal. -/
theorem WL.buildE {d : Nat} {t E : TypeId} {i : TI} {z : Value} {s0 b0 : Nat} (hg : grd l0 e g = some true) (hd : Nat.blt d n = true) (ht : T.ti t = some ⟨.slice E, z, s0, b0⟩) (hi : T.ti E = some i)
    (h : ∀ b w', NewB w b (.cells #[] E) w' → WL P ro n l0 N Z rest ((d, .slice (some ⟨b, 0, none⟩) 0 0) :: e) w') :
    WL P ro n l0 N Z (⟨some d, .buildSlice t 0 #[], ty, pos, aft, g⟩ :: rest) e w := by
  have hu : P.underlying t = some (.slice E) := (T.ok t _ ht).k
  have hs := (T.ok E i hi).sizeOf w
  refine WL.val hg rfl hd ?_ (h _ _ (newB w _))
  intro ρ hρ d' pos' aft' g'
  simp [execOp, Instr.buildSlice, Sem.run_bind, run_underlying hu, Result.andThen_ok, hs, newRow, Instr.fill]
  congr 2
  rw [← Array.toList_inj]; simp
/-- A copy into the front of a block. -/
theorem WL.copyF {d : Nat} {t E tt : TypeId} {i : TI} {z : Value} {s0 b0 : Nat} {x y : Operand} {b m k c1 c2 : Nat} {a : Option Addr} {arr : Array Value} {cs : List Value} (hg : grd l0 e g = some true) (hd : Nat.blt d n = true) (ht : T.ti t = some ⟨.slice E, z, s0, b0⟩) (hi : T.ti E = some i) (hsz : i.size = 1)
    (hx : opv e x = some (.slice (some ⟨b, 0, none⟩) m c1)) (hy : opv e y = some (.slice a k c2)) (hn : a = none → k = 0 ∧ c2 = 0) (hkm : k ≤ m) (hh : w.heap[b]? = some (.cells arr tt (0, 0))) (hs : Sl w a cs) (hl : cs.length = k) (ha : arr.size = m) (h1 : Cells cs)
    (h : ∀ w', SetB w b (.cells (cs ++ arr.toList.drop k).toArray tt (0, 0)) w' → WL P ro n l0 N Z rest ((d, .int .i64 (k : Nat)) :: e) w') :
    WL P ro n l0 N Z (⟨some d, .call ⟨.builtin .copy, #[x, y], #[t, t]⟩, ty, pos, aft, g⟩ :: rest) e w := by
  have hu : P.underlying t = some (.slice E) := (T.ok t _ ht).k
  cases a with
  | some a =>
    have hinf : (P.info? E).map (·.size) = some 1 := by
      obtain ⟨j, hj, hjj⟩ := Option.map_eq_some_iff.1 (T.ok E i hi).info
      simp only [Prod.mk.injEq] at hjj
      rw [hj]; simp [hjj.2.1, hsz]
    have hsrc : ∀ j v, cs[j]? = some v → w.cell? (a.add j) = some v := by
      intro j v hj
      obtain ⟨b', o', ha', hc⟩ := hs j v hj
      simp only [Option.some.injEq] at ha'
      rw [ha', Addr.add_lit]; exact hc
    have hr := run_copy_row P w t t ty E b 0 m c1 a k c2 arr tt cs hu hinf hh (by rw [hl]; exact (Nat.min_eq_left hkm).symm) hsrc (by omega) h1
    rw [List.take_zero, List.nil_append, Nat.zero_add, hl] at hr
    refine WL.val (w' := w.setRow b (cs ++ arr.toList.drop k).toArray) hg rfl hd ?_ (h _ (setB_row hh _))
    intro ρ hρ d' pos' aft' g'
    simp [execOp, resolve, invoke, builtin, hρ _ _ hx, hρ _ _ hy, hr, goInt]
  | none =>
    obtain ⟨rfl, rfl⟩ := hn rfl
    have hinf : ((P.info? E).map (·.size)).isSome = true := by
      obtain ⟨j, hj, hjj⟩ := Option.map_eq_some_iff.1 (T.ok E i hi).info
      rw [hj]; rfl
    have hr := run_copy_nil P w t t ty E ⟨b, 0, none⟩ m c1 hu hinf
    have e1 : cs = [] := List.length_eq_zero_iff.1 hl
    subst e1
    have hw := setB_row hh arr
    rw [setRow_self w b arr tt (0, 0) hh] at hw
    refine WL.val (w' := w) hg rfl hd ?_ (h _ (by simpa using hw))
    intro ρ hρ d' pos' aft' g'
    simp [execOp, resolve, invoke, builtin, hρ _ _ hx, hρ _ _ hy, hr, goInt]
end
section
variable {P : Program} [T : TT P] {n : Nat} {l0 : List Oper} {S : World → Prop} {N : Nor} {Z : Pan} {e : Env} {w : World} {fuel : Nat} {listed : Array Bool}
theorem WH.ix1 {d : Nat} {t ty E : TypeId} {pos : String} {aft : Array Edge} {g : Option (Nat × Bool)} {ti : TI} {x ix : Operand} {b o len cap j : Nat} {k : IntKind} {z : Value} {s b2 : Nat} (i : Nat) (hs : Region.noSelect l0.toArray = true) (hi : nth l0 i = some ⟨some d, .indexAddr t x ix, ty, pos, aft, g⟩)
    (hB : takeB l0.toArray listed i = true) (hg : grd l0 e g = some true) (hd : Nat.blt d n = true) (ht : T.ti t = some ⟨.slice E, z, s, b2⟩) (hE : T.ti E = some ti) (h1 : ti.size = 1)
    (hx : opv e x = some (.slice (some ⟨b, o, none⟩) len cap)) (hix : opv e ix = some (.int k (j : Nat))) (hj : j < len) (hS : S w)
    (h : WH P n l0 S N Z fuel (listed.setIfInBounds i true) ((d, .pointer (some ⟨b, o + j, none⟩)) :: e) w) : WH P n l0 S N Z (fuel + 1) listed e w := by
  refine WH.take i hs hi hB hg hd (fun w _ => ?_) hS h
  have hu : P.underlying t = some (.slice E) := (T.ok t _ ht).k
  intro ρ hρ d' pos' aft' g'
  have hsz := (T.ok E ti hE).sizeOf w
  have c1 : (0 : Int) ≤ (j : Int) ∧ (j : Int) < (len : Int) := ⟨by omega, by omega⟩
  simp only [execOp, hρ _ _ hx, hρ _ _ hix, Instr.indexAt, asIntOf, Sem.run_bind, Sem.run_pure, Result.andThen_ok, run_underlying hu]
  rw [if_pos c1]
  simp [hsz, h1, Addr.add_lit]
end
end Go.W
namespace Go.Proofs.Ytagfpnnplgkkoaa
open Go.W Go.Poly Go.Tree Go.RowKit
set_option maxRecDepth 100000
attribute [local irreducible] WC WL WQ WS WH

theorem clone_any (a : Option Addr) (c : Nat) (f : List Nat) (hl : f.length ≤ 1000000) (hn : a = none → f = []) (w : World) (sf : Sl w a (ints f)) :
    Ret Try.prog 107 [.slice a f.length c] w fun u w' => Hp w w' [Rw u f] := by
  refine enter Try.func107 rfl rfl ⟨rfl, rfl⟩ rfl ?_
  repeat (first | refine WC.seq ?_ | refine WC.reg ?_ | refine WL.pure rfl rfl rfl ?_ | refine WL.nil ?_ | refine WC.skip ?_ | refine WC.block ?_ | refine WC.condT rfl ?_ | refine WC.condF rfl ?_ | refine WL.off rfl rfl rfl ?_ | refine WL.off0 rfl rfl ?_ | refine WC.exit ?_ | refine blk_hit ?_ | refine blk_miss rfl ?_ | refine WC.ret ?_)
  refine WL.eqNil rfl rfl rfl rfl ?_
  cases a with
  | none =>
    obtain rfl := hn rfl
    repeat (first | refine WC.seq ?_ | refine WC.reg ?_ | refine WL.pure rfl rfl rfl ?_ | refine WL.nil ?_ | refine WC.skip ?_ | refine WC.block ?_ | refine WC.condT rfl ?_ | refine WC.condF rfl ?_ | refine WL.off rfl rfl rfl ?_ | refine WL.off0 rfl rfl ?_ | refine WC.exit ?_ | refine blk_hit ?_ | refine blk_miss rfl ?_ | refine WC.ret ?_)
    exact Res.one rfl rfl rfl (Hp.start w).nilRw
  | some a =>
    repeat (first | refine WC.seq ?_ | refine WC.reg ?_ | refine WL.pure rfl rfl rfl ?_ | refine WL.nil ?_ | refine WC.skip ?_ | refine WC.block ?_ | refine WC.condT rfl ?_ | refine WC.condF rfl ?_ | refine WL.off rfl rfl rfl ?_ | refine WL.off0 rfl rfl ?_ | refine WC.exit ?_ | refine blk_hit ?_ | refine blk_miss rfl ?_ | refine WC.ret ?_)
    refine WL.buildE rfl rfl rfl rfl ?_
    intro b w1 hb
    have hp1 := (Hp.start w).new hb
    have hr1 : Hp w w1 [.row 3 1 (.slice (some ⟨b, 0, none⟩) 0 0) 0 []] := hp1.toRow (m := 0) (s := 1) rfl (by decide)
    repeat (first | refine WC.seq ?_ | refine WC.reg ?_ | refine WL.pure rfl rfl rfl ?_ | refine WL.nil ?_ | refine WC.skip ?_ | refine WC.block ?_ | refine WC.condT rfl ?_ | refine WC.condF rfl ?_ | refine WL.off rfl rfl rfl ?_ | refine WL.off0 rfl rfl ?_ | refine WC.exit ?_ | refine blk_hit ?_ | refine blk_miss rfl ?_ | refine WC.ret ?_)
    refine WL.append 0 hr1 rfl rfl rfl rfl rfl Nat.zero_lt_one rfl rfl rfl (news := ints f) (sf.hp hp1) (by rw [ints_len]; exact (Nat.mul_one _).symm) (ints_cells _) (by unfold maxLen; omega) (by show (0 + f.length) * 8 ≤ _; omega) ?_
    intro ra rc w2 hp2 hg2
    rw [Nat.zero_add] at hp2 ⊢
    rw [List.nil_append] at hp2
    repeat (first | refine WC.seq ?_ | refine WC.reg ?_ | refine WL.pure rfl rfl rfl ?_ | refine WL.nil ?_ | refine WC.skip ?_ | refine WC.block ?_ | refine WC.condT rfl ?_ | refine WC.condF rfl ?_ | refine WL.off rfl rfl rfl ?_ | refine WL.off0 rfl rfl ?_ | refine WC.exit ?_ | refine blk_hit ?_ | refine blk_miss rfl ?_ | refine WC.ret ?_)
    exact Res.one rfl rfl rfl hp2

/-- The rows of a matrix in memory, and the slices that lead to them. -/
def Ro (id : Nat → Nat) (M : Mat) (n m : Nat) : List Ent := (List.range m).map fun i => .blk (id i) (.cells (ints (fl (2 * n) (M i))).toArray 3 (0, 0))
def rv (id : Nat → Nat) (n i : Nat) : Value := .slice (some ⟨id i, 0, none⟩) (2 * n) (2 * n)
def rvs (id : Nat → Nat) (n i : Nat) : List Value := (List.range n).map fun j => if j < i then rv id n j else .slice none 0 0
theorem Ro_len (id : Nat → Nat) (M : Mat) (n m : Nat) : (Ro id M n m).length = m := by simp [Ro]
theorem Ro_at (id : Nat → Nat) (M : Mat) (n : Nat) {m i : Nat} (h : i < m) : (Ro id M n m)[i]? = some (.blk (id i) (.cells (ints (fl (2 * n) (M i))).toArray 3 (0, 0))) := by simp [Ro, h]
theorem rvs_len (id : Nat → Nat) (n i : Nat) : (rvs id n i).length = n := by simp [rvs]
theorem rvs_at (id : Nat → Nat) {n i j : Nat} (h : j < n) (hi : j < i) : (rvs id n i)[j]? = some (rv id n j) := by simp [rvs, h, hi]
theorem rvs_cells (id : Nat → Nat) (n i : Nat) : Cells (rvs id n i) := by
  intro v hv
  obtain ⟨j, _, rfl⟩ := List.mem_map.1 hv
  split <;> rfl
theorem Ro_set (id : Nat → Nat) (M : Mat) (n : Nat) {m i : Nat} (h : i < m) (r : Nat → Nat) :
    (Ro id M n m).set i (.blk (id i) (.cells (ints (fl (2 * n) r)).toArray 3 (0, 0))) = Ro id (fun k => if k = i then r else M k) n m := by
  apply List.ext_getElem?
  intro j
  by_cases h1 : j = i
  · subst h1
    rw [List.getElem?_set_self (by rw [Ro_len]; exact h), Ro_at _ _ _ h, if_pos rfl]
  · rw [List.getElem?_set_ne (Ne.symm h1)]
    by_cases h2 : j < m
    · rw [Ro_at _ _ _ h2, Ro_at _ _ _ h2, if_neg h1]
    · rw [List.getElem?_eq_none (by rw [Ro_len]; omega), List.getElem?_eq_none (by rw [Ro_len]; omega)]
theorem Ro_congr {id id' : Nat → Nat} {M M' : Mat} {n m : Nat} (h1 : ∀ i, i < m → id i = id' i) (h2 : ∀ i j, i < m → j < 2 * n → M i j = M' i j) : Ro id M n m = Ro id' M' n m := by
  apply List.ext_getElem?
  intro j
  by_cases h : j < m
  · rw [Ro_at _ _ _ h, Ro_at _ _ _ h, h1 j h, fl_congr fun k hk => h2 j k h hk]
  · rw [List.getElem?_eq_none (by rw [Ro_len]; omega), List.getElem?_eq_none (by rw [Ro_len]; omega)]
theorem rvs_congr {id id' : Nat → Nat} {n i : Nat} (h : ∀ j, j < i → id j = id' j) : rvs id n i = rvs id' n i := by
  unfold rvs
  refine List.map_congr_left fun j _ => ?_
  split
  · rename_i hj; unfold rv; rw [h j hj]
  · rfl
theorem Ro_succ (id : Nat → Nat) (M : Mat) (n m : Nat) : Ro id M n (m + 1) = Ro id M n m ++ [.blk (id m) (.cells (ints (fl (2 * n) (M m))).toArray 3 (0, 0))] := by simp [Ro, List.range_succ]
/-- Two rows change places. -/
def swapI (id : Nat → Nat) (a b : Nat) : Nat → Nat := fun i => if i = a then id b else if i = b then id a else id i
theorem Ro_swap (id : Nat → Nat) (M : Mat) (n : Nat) {m a b : Nat} (ha : a < m) (hb : b < m) : (Ro (swapI id a b) (swapM M a b) n m).Perm (Ro id M n m) := by
  have e : Ro (swapI id a b) (swapM M a b) n m = ((Ro id M n m).set a ((Ro id M n m)[b]'(by rw [Ro_len]; exact hb))).set b ((Ro id M n m)[a]'(by rw [Ro_len]; exact ha)) := by
    apply List.ext_getElem?
    intro j
    have gb : (Ro id M n m)[b]'(by rw [Ro_len]; exact hb) = .blk (id b) (.cells (ints (fl (2 * n) (M b))).toArray 3 (0, 0)) := by
      have := Ro_at id M n hb
      rwa [List.getElem?_eq_getElem (by rw [Ro_len]; exact hb), Option.some.injEq] at this
    have ga : (Ro id M n m)[a]'(by rw [Ro_len]; exact ha) = .blk (id a) (.cells (ints (fl (2 * n) (M a))).toArray 3 (0, 0)) := by
      have := Ro_at id M n ha
      rwa [List.getElem?_eq_getElem (by rw [Ro_len]; exact ha), Option.some.injEq] at this
    rw [ga, gb]
    by_cases h : j < m
    · rw [Ro_at _ _ _ h]
      by_cases h1 : j = b
      · subst h1
        rw [List.getElem?_set_self (by rw [List.length_set, Ro_len]; exact h)]
        by_cases h2 : j = a
        · subst h2; simp [swapI, swapM]
        · simp [swapI, swapM, h2]
      · rw [List.getElem?_set_ne (Ne.symm h1)]
        by_cases h2 : j = a
        · subst h2
          rw [List.getElem?_set_self (by rw [Ro_len]; exact h)]
          simp [swapI, swapM]
        · rw [List.getElem?_set_ne (Ne.symm h2), Ro_at _ _ _ h]
          simp [swapI, swapM, h1, h2]
    · rw [List.getElem?_eq_none (by rw [Ro_len]; omega), List.getElem?_eq_none (by rw [List.length_set, List.length_set, Ro_len]; omega)]
  rw [e]
  exact List.set_set_perm (by rw [Ro_len]; exact ha) (by rw [Ro_len]; exact hb)
theorem rvs_swap (id : Nat → Nat) {n a b : Nat} (ha : a < n) (hb : b < n) : ((rvs id n n).set a (rv id n b)).set b (rv id n a) = rvs (swapI id a b) n n := by
  apply List.ext_getElem?
  intro j
  by_cases h : j < n
  · rw [rvs_at _ h h]
    by_cases h1 : j = b
    · subst h1
      rw [List.getElem?_set_self (by rw [List.length_set, rvs_len]; exact h)]
      by_cases h2 : j = a
      · subst h2; simp [swapI, rv]
      · simp [swapI, rv, h2]
    · rw [List.getElem?_set_ne (Ne.symm h1)]
      by_cases h2 : j = a
      · subst h2
        rw [List.getElem?_set_self (by rw [rvs_len]; exact h)]
        simp [swapI, rv]
      · rw [List.getElem?_set_ne (Ne.symm h2), rvs_at _ h h]
        simp [swapI, rv, h1, h2]
  · rw [List.getElem?_eq_none (by rw [List.length_set, List.length_set, rvs_len]; omega), List.getElem?_eq_none (by rw [rvs_len]; omega)]
theorem rvs_set (id : Nat → Nat) {n i b : Nat} (h : i < n) : (rvs id n i).set i (.slice (some ⟨b, 0, none⟩) (2 * n) (2 * n)) = rvs (fun j => if j = i then b else id j) n (i + 1) := by
  apply List.ext_getElem?
  intro j
  by_cases h1 : j = i
  · subst h1
    rw [List.getElem?_set_self (by rw [rvs_len]; exact h), rvs_at _ h (Nat.lt_succ_self _)]
    simp [rv]
  · rw [List.getElem?_set_ne (Ne.symm h1)]
    by_cases h2 : j < n
    · by_cases h3 : j < i
      · rw [rvs_at _ h2 h3, rvs_at _ h2 (by omega)]
        simp [rv, h1]
      · simp [rvs, h2, h3, show ¬ j < i + 1 by omega]
    · rw [List.getElem?_eq_none (by rw [rvs_len]; omega), List.getElem?_eq_none (by rw [rvs_len]; omega)]
end Go.Proofs.Ytagfpnnplgkkoaa
