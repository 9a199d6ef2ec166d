/- The walk of the search for a rule that is not normal by the others. -/
import Derived.Test.YtoghnhbjdnjghaaGreatV11
import Derived.Lib.IndexMore
namespace Go.Words
open Go.W
/-- A rule that occurs nowhere in a string. -/
def mis (y : Rl) (s : Str) : Prop := ∀ i, i < s.length → ¬ y.1 <+: s.drop i
theorem hit_none {l : List Rl} {s : Str} : hit l s = none ↔ ∀ y ∈ l, ¬ y.1 <+: s := by
  unfold hit
  rw [List.find?_eq_none]
  constructor
  · intro h y hy hp
    exact h y hy (List.isPrefixOf_iff_prefix.2 hp)
  · intro h y hy hp
    exact h y hy (List.isPrefixOf_iff_prefix.1 hp)
theorem firstM_none {l : List Rl} : ∀ {s : Str}, firstM l s = none ↔ ∀ y ∈ l, mis y s := by
  intro s
  induction s with
  | nil => exact ⟨fun _ y _ i hi => absurd hi (Nat.not_lt_zero i), fun _ => rfl⟩
  | cons c s ih =>
    rw [firstM]
    constructor
    · intro h y hy i hi
      split at h
      · cases h
      · rename_i hh
        cases i with
        | zero => exact hit_none.1 hh y hy
        | succ i =>
          have h2 : firstM l s = none := by
            cases hf : firstM l s with
            | none => rfl
            | some p => rw [hf] at h; cases h
          exact ih.1 h2 y hy i (by simpa using hi)
    · intro h
      have h1 : hit l (c :: s) = none := hit_none.2 fun y hy => h y hy 0 (by simp)
      have h2 : firstM l s = none := ih.2 fun y hy i hi => h y hy (i + 1) (by simpa using hi)
      rw [h1, h2]
      rfl
/-- What is known of a rule: no other rule of the list occurs in its sides. -/
def Qs (l : List Rl) (x : Rl) : Prop := ∀ y ∈ l, y ≠ x → mis y x.1 ∧ mis y x.2
def nrmB (l : List Rl) (i : Nat) : Bool := (firstM (l.eraseIdx i) (l.getD i ([], [])).1).isNone && (firstM (l.eraseIdx i) (l.getD i ([], [])).2).isNone
theorem erase_ne {l : List Rl} (hn : l.Nodup) {i : Nat} (hi : i < l.length) {y : Rl} (hy : y ∈ l.eraseIdx i) : y ≠ l[i] := by
  obtain ⟨j, hj, hjy⟩ := List.mem_eraseIdx_iff_getElem?.1 hy
  obtain ⟨hjl, hjy⟩ := List.getElem?_eq_some_iff.1 hjy
  intro h
  rw [← hjy] at h
  have hp := List.pairwise_iff_getElem.1 (List.nodup_iff_pairwise_ne.1 hn)
  rcases Nat.lt_or_gt_of_ne hj with h1 | h1
  · exact hp j i hjl hi h1 h
  · exact hp i j hi hjl h1 h.symm
theorem mem_erase {l : List Rl} {i : Nat} (hi : i < l.length) {y : Rl} (hy : y ∈ l) (hne : y ≠ l[i]) : y ∈ l.eraseIdx i := by
  obtain ⟨j, hj⟩ := List.mem_iff_getElem?.1 hy
  refine List.mem_eraseIdx_iff_getElem?.2 ⟨j, ?_, hj⟩
  rintro rfl
  obtain ⟨hjl, hjy⟩ := List.getElem?_eq_some_iff.1 hj
  exact hne hjy.symm
theorem nrmB_eq {l : List Rl} {i : Nat} (hi : i < l.length) : nrmB l i = ((firstM (l.eraseIdx i) l[i].1).isNone && (firstM (l.eraseIdx i) l[i].2).isNone) := by
  unfold nrmB
  rw [getD_get hi]
theorem Qs.nrm {l : List Rl} (hn : l.Nodup) {i : Nat} (hi : i < l.length) (h : Qs l l[i]) : nrmB l i = true := by
  rw [nrmB_eq hi, Bool.and_eq_true, Option.isNone_iff_eq_none, Option.isNone_iff_eq_none, firstM_none, firstM_none]
  exact ⟨fun y hy => (h y (List.mem_of_mem_eraseIdx hy) (erase_ne hn hi hy)).1, fun y hy => (h y (List.mem_of_mem_eraseIdx hy) (erase_ne hn hi hy)).2⟩
theorem nrm_Qs {l : List Rl} {i : Nat} (hi : i < l.length) (h : nrmB l i = true) : Qs l l[i] := by
  rw [nrmB_eq hi, Bool.and_eq_true, Option.isNone_iff_eq_none, Option.isNone_iff_eq_none, firstM_none, firstM_none] at h
  exact fun y hy hne => ⟨h.1 y (mem_erase hi hy hne), h.2 y (mem_erase hi hy hne)⟩
theorem Qs.erase {l : List Rl} {x : Rl} (h : Qs l x) (i : Nat) : Qs (l.eraseIdx i) x := fun y hy hne => h y (List.mem_of_mem_eraseIdx hy) hne
theorem mis_of {s : Str} {y : Rl} (h : Lib.contains s y.1 = false) : mis y s := by
  intro i hi hp
  unfold Lib.contains at h
  rcases Lib.index_spec s y.1 with ⟨h1, h2⟩ | ⟨j, h1, _⟩
  · have := h2 i (by omega)
    unfold Lib.occAt at this
    rw [List.isPrefixOf_iff_prefix.2 hp] at this
    cases this
  · rw [h1] at h
    have := of_decide_eq_false h
    omega
/-- The first rule that is not normal by the others. -/
def nextI (l : List Rl) : Option Nat := (List.range l.length).find? fun i => !nrmB l i
def nextV (l : List Rl) : Int := match nextI l with
  | some i => (i : Int)
  | none => -1
theorem find_range {n i : Nat} {p : Nat → Bool} (hi : i < n) (h : ∀ j, j < i → p j = false) (hp : p i = true) : (List.range n).find? p = some i := by
  rw [List.find?_range_eq_some]
  exact ⟨hp, by simpa using hi, fun j hj => by simpa using h j hj⟩
end Go.Words
namespace Go.Proofs.YtoghnhbjdnjghaaGreat
open Go.W Go.Words Go.RowKit Go.ChangeMaps
set_option maxRecDepth 100000
attribute [local irreducible] WC WL WQ WS WH

/-- What the map knows. -/
def Qk (l : List Rl) (x : Rl) : Prop := (x.1.length ≤ 1000000000 ∧ x.2.length ≤ 1000000000) ∧ Qs l x
theorem next_any (tb mb : Nat) (v : Value) (l : List Rl) (es : Array MapEntry) (c : Nat) (hl : l.length ≤ 1000000) (hn : l.Nodup) (hsm : Sm 1000000000 l) (hK : KM (Qk l) es c) (w0 w : World)
    (hp : Hp w0 w [Td tb v (.map (some mb)), Rt v l, Mp mb es c]) :
    Ret Tryz.prog 76 [.pointer (some ⟨tb, 0, none⟩)] w fun u w' => u = .int .i64 (nextV l) ∧ ∃ es' c', Hp w0 w' [Td tb v (.map (some mb)), Rt v l, Mp mb es' c'] ∧ KM (Qk l) es' c' := by
  obtain ⟨pa, pc, rfl⟩ := owns_shape (hp.at 1 rfl)
  have hcap : l.length ≤ pc := by
    obtain ⟨_, ⟨hv, h0⟩ | ⟨b, cap, cur, hv, _, _, hnc, _⟩⟩ := hp.at 1 rfl
    · simp only [Value.slice.injEq] at hv; omega
    · simp only [Value.slice.injEq] at hv; omega
  refine enter Tryz.func76 rfl rfl ⟨rfl, rfl⟩ rfl ?_
  repeat (first | refine WC.seq ?_ | refine WC.reg ?_ | refine WL.pure rfl rfl rfl ?_ | refine WL.nil ?_ | refine WC.skip ?_ | refine WC.block ?_ | refine WC.condT rfl ?_ | refine WC.condF rfl ?_ | refine WL.off rfl rfl rfl ?_ | refine WL.off0 rfl rfl ?_ | refine WC.exit ?_ | refine blk_hit ?_ | refine blk_miss rfl ?_ | refine WC.ret ?_)
  refine WL.nilC rfl rfl rfl ?_
  repeat (first | refine WC.seq ?_ | refine WC.reg ?_ | refine WL.pure rfl rfl rfl ?_ | refine WL.nil ?_ | refine WC.skip ?_ | refine WC.block ?_ | refine WC.condT rfl ?_ | refine WC.condF rfl ?_ | refine WL.off rfl rfl rfl ?_ | refine WL.off0 rfl rfl ?_ | refine WC.exit ?_ | refine blk_hit ?_ | refine blk_miss rfl ?_ | refine WC.ret ?_)
  refine WL.loadB rfl rfl rfl rfl rfl (hp.obj 0 rfl) (j := 0) rfl ?_
  repeat (first | refine WC.seq ?_ | refine WC.reg ?_ | refine WL.pure rfl rfl rfl ?_ | refine WL.nil ?_ | refine WC.skip ?_ | refine WC.block ?_ | refine WC.condT rfl ?_ | refine WC.condF rfl ?_ | refine WL.off rfl rfl rfl ?_ | refine WL.off0 rfl rfl ?_ | refine WC.exit ?_ | refine blk_hit ?_ | refine blk_miss rfl ?_ | refine WC.ret ?_)
  refine WC.loop (Nat × Array MapEntry × Nat) (fun (i, _) => [(0, .pointer (some ⟨tb, 0, none⟩)), (15, .slice pa l.length pc), (16, .int .i64 (l.length : Nat)), (17, .int .i64 (i : Nat))])
    (fun (i, es, c) w' => i ≤ l.length ∧ (∀ j, j < i → nrmB l j = true) ∧ KM (Qk l) es c ∧ Hp w0 w' [Td tb (.slice pa l.length pc) (.map (some mb)), Rt (.slice pa l.length pc) l, Mp mb es c]) (fun (i, _) => l.length - i) (0, es, c) ⟨rfl, rfl, rfl, rfl, rfl⟩ ⟨Nat.zero_le _, fun j hj => absurd hj (Nat.not_lt_zero j), hK, hp⟩ ?_
  clear hp hK w
  rintro ⟨i, es, c⟩ w ⟨hi, hnj, hK, hp⟩
  repeat (first | refine WC.seq ?_ | refine WC.reg ?_ | refine WL.pure rfl rfl rfl ?_ | refine WL.nil ?_ | refine WC.skip ?_ | refine WC.block ?_ | refine WC.condT rfl ?_ | refine WC.condF rfl ?_ | refine WL.off rfl rfl rfl ?_ | refine WL.off0 rfl rfl ?_ | refine WC.exit ?_ | refine blk_hit ?_ | refine blk_miss rfl ?_ | refine WC.ret ?_)
  refine WC.cond rfl (fun hc => ?_) (fun hc => ?_)
  · have hi : i < l.length := by have := of_decide_eq_true hc; omega
    have step := wrap_succ hi (by omega)
    have hsz := hsm.at_ hi
    have hsnil : ∀ j, j < i → (fun q => !nrmB l q) j = false := fun j hj => by simp [hnj j hj]
    have hgo : ∀ es' c' w', nrmB l i = true → KM (Qk l) es' c' → Hp w0 w' [Td tb (.slice pa l.length pc) (.map (some mb)), Rt (.slice pa l.length pc) l, Mp mb es' c'] →
        (l.length - (i + 1) < l.length - i) ∧ (i + 1 ≤ l.length ∧ (∀ j, j < i + 1 → nrmB l j = true) ∧ KM (Qk l) es' c' ∧ Hp w0 w' [Td tb (.slice pa l.length pc) (.map (some mb)), Rt (.slice pa l.length pc) l, Mp mb es' c']) := fun es' c' w' h1 h2 h3 =>
      ⟨by omega, hi, fun j hj => (by
        rcases Nat.lt_or_ge j i with h | h
        · exact hnj j h
        · rw [show j = i by omega]; exact h1), h2, h3⟩
    repeat (first | refine WC.seq ?_ | refine WC.reg ?_ | refine WL.pure rfl rfl rfl ?_ | refine WL.nil ?_ | refine WC.skip ?_ | refine WC.block ?_ | refine WC.condT rfl ?_ | refine WC.condF rfl ?_ | refine WL.off rfl rfl rfl ?_ | refine WL.off0 rfl rfl ?_ | refine WC.exit ?_ | refine blk_hit ?_ | refine blk_miss rfl ?_ | refine WC.ret ?_)
    refine WL.ixload2 rfl (fun _ => rfl) rfl rfl rfl rfl rfl rfl rfl hi rfl rfl (Sl.of_row (hp.at 1 rfl)) hi ?_
    intro pp
    refine WL.alloc rfl rfl rfl ?_
    intro b4 w1 hb4
    have hp1 := hp.new hb4
    repeat (first | refine WC.seq ?_ | refine WC.reg ?_ | refine WL.pure rfl rfl rfl ?_ | refine WL.nil ?_ | refine WC.skip ?_ | refine WC.block ?_ | refine WC.condT rfl ?_ | refine WC.condF rfl ?_ | refine WL.off rfl rfl rfl ?_ | refine WL.off0 rfl rfl ?_ | refine WC.exit ?_ | refine blk_hit ?_ | refine blk_miss rfl ?_ | refine WC.ret ?_)
    refine WL.storeN (vs := (rc l[i]).toArray) (arr2 := (rc l[i]).toArray) rfl rfl rfl rfl rfl (rc_one _) (hp1.obj 0 rfl) (Nat.le_refl 2) rfl (fun w2 hw2 => ?_)
    have hp2 : Hp w0 w2 [Bx b4 l[i], Td tb (.slice pa l.length pc) (.map (some mb)), Rt (.slice pa l.length pc) l, Mp mb es c] := hp1.set 0 rfl rfl hw2
    clear hp1 hb4 hw2 hp w1 w
    repeat (first | refine WC.seq ?_ | refine WC.reg ?_ | refine WL.pure rfl rfl rfl ?_ | refine WL.nil ?_ | refine WC.skip ?_ | refine WC.block ?_ | refine WC.condT rfl ?_ | refine WC.condF rfl ?_ | refine WL.off rfl rfl rfl ?_ | refine WL.off0 rfl rfl ?_ | refine WC.exit ?_ | refine blk_hit ?_ | refine blk_miss rfl ?_ | refine WC.ret ?_)
    obtain ⟨q, hq1, hq2⟩ := yLook (P := Tryz.prog) (t := 101) (b := mb) l[i] rty rfl rfl rfl hK
    refine WC.mid Unit (fun _ => [(0, .pointer (some ⟨tb, 0, none⟩)), (3, .int .i64 (i : Nat)), (4, .pointer (some ⟨b4, 0, none⟩)), (15, .slice pa l.length pc), (16, .int .i64 (l.length : Nat)), (17, .int .i64 (i : Nat)), (27, .bool q)])
      (fun _ w' => Hp w0 w' [Bx b4 l[i], Td tb (.slice pa l.length pc) (.map (some mb)), Rt (.slice pa l.length pc) l, Mp mb es c]) ?_ ?_
    · refine WC.regQ (fun w' => Hp w0 w' [Bx b4 l[i], Td tb (.slice pa l.length pc) (.map (some mb)), Rt (.slice pa l.length pc) l, Mp mb es c]) mixed (by kernel_rfl) (fun w' hw' => hp2.keep hw') ?_
      repeat (first | refine WQ.pure rfl rfl rfl ?_ | refine WQ.off rfl rfl rfl ?_ | refine WQ.nil ?_)
      refine WQ.nilC rfl rfl rfl ?_
      repeat (first | refine WQ.pure rfl rfl rfl ?_ | refine WQ.off rfl rfl rfl ?_ | refine WQ.nil ?_)
      refine WQ.load rfl rfl rfl rfl rfl (fun w' hw' => cell_of_obj (j := 1) (hw'.obj 1 rfl) rfl) ?_
      refine WQ.loadN (cs := rc l[i]) rfl rfl rfl rfl rfl rfl (fun _ hw => box_cell hw) ?_
      refine WQ.val rfl rfl (v := .bool q) (fun w' hw' => hq2 _ _ _ _ w' rfl rfl (hw'.obj 3 rfl)) ?_
      repeat (first | refine WQ.pure rfl rfl rfl ?_ | refine WQ.off rfl rfl rfl ?_ | refine WQ.nil ?_)
      intro w' hp'
      exact ⟨(), ⟨rfl, rfl, rfl, rfl, rfl, rfl, rfl, rfl⟩, hp'⟩
    · rintro _ e2 w3 hsub hp3
      refine WC.sub hsub ?_
      clear hp2
      refine WC.cond rfl (fun hc2 => ?_) (fun hc2 => ?_)
      · have hnr : nrmB l i = true := (hq1 hc2).2.nrm hn hi
        obtain ⟨g1, g2⟩ := hgo es c w3 hnr hK hp3.tail
        repeat (first | refine WC.seq ?_ | refine WC.reg ?_ | refine WL.pure rfl rfl rfl ?_ | refine WL.nil ?_ | refine WC.skip ?_ | refine WC.block ?_ | refine WC.condT rfl ?_ | refine WC.condF rfl ?_ | refine WL.off rfl rfl rfl ?_ | refine WL.off0 rfl rfl ?_ | refine WC.exit ?_ | refine blk_hit ?_ | refine blk_miss rfl ?_ | refine WC.ret ?_)
        exact ⟨(i + 1, es, c), g1, ⟨rfl, rfl, rfl, congrArg (fun z => some (Value.int .i64 z)) step, rfl⟩, g2⟩
      · repeat (first | refine WC.seq ?_ | refine WC.reg ?_ | refine WL.pure rfl rfl rfl ?_ | refine WL.nil ?_ | refine WC.skip ?_ | refine WC.block ?_ | refine WC.condT rfl ?_ | refine WC.condF rfl ?_ | refine WL.off rfl rfl rfl ?_ | refine WL.off0 rfl rfl ?_ | refine WC.exit ?_ | refine blk_hit ?_ | refine blk_miss rfl ?_ | refine WC.ret ?_)
        refine WL.call rfl rfl rfl rfl rfl ent77 (without_any tb pa pc l (.map (some mb)) i hi hl hcap w3 (hp3.obj 1 rfl) (Sl.of_row (hp3.at 2 rfl))) ?_
        rintro _ w4 ⟨oa, oc, rfl, hp4⟩
        have hp4 := hp3.comb hp4
        have hel : (l.eraseIdx i).length ≤ 1000000 := Nat.le_trans (List.length_eraseIdx_le ..) hl
        repeat (first | refine WC.seq ?_ | refine WC.reg ?_ | refine WL.pure rfl rfl rfl ?_ | refine WL.nil ?_ | refine WC.skip ?_ | refine WC.block ?_ | refine WC.condT rfl ?_ | refine WC.condF rfl ?_ | refine WL.off rfl rfl rfl ?_ | refine WL.off0 rfl rfl ?_ | refine WC.exit ?_ | refine blk_hit ?_ | refine blk_miss rfl ?_ | refine WC.ret ?_)
        refine WL.loadB rfl rfl rfl rfl rfl (hp4.obj 1 rfl) (j := 0) rfl ?_
        refine WL.call rfl rfl rfl rfl rfl ent64 (first_any oa oc (l.eraseIdx i) l[i].1 hel (by omega) w4 (Sl.of_row (hp4.at 0 rfl))) ?_
        rintro _ w5 ⟨rfl, hp5⟩
        have hp5 := hp4.comb hp5
        obtain ⟨z1, r1, hz1⟩ : ∃ z1 r1, fstV (firstM (l.eraseIdx i) l[i].1) = .tuple #[.int .i64 z1, .agg (rc r1).toArray, .bool (!(firstM (l.eraseIdx i) l[i].1).isNone)] := by
          cases firstM (l.eraseIdx i) l[i].1 with
          | none => exact ⟨(0 : Nat), ([], []), rfl⟩
          | some p => exact ⟨(p.1 : Nat), p.2, rfl⟩
        rw [hz1]
        repeat (first | refine WC.seq ?_ | refine WC.reg ?_ | refine WL.pure rfl rfl rfl ?_ | refine WL.nil ?_ | refine WC.skip ?_ | refine WC.block ?_ | refine WC.condT rfl ?_ | refine WC.condF rfl ?_ | refine WL.off rfl rfl rfl ?_ | refine WL.off0 rfl rfl ?_ | refine WC.exit ?_ | refine blk_hit ?_ | refine blk_miss rfl ?_ | refine WC.ret ?_)
        refine WL.alloc rfl rfl rfl ?_
        intro b7 w6 hb7
        have hp6 := hp5.new hb7
        repeat (first | refine WC.seq ?_ | refine WC.reg ?_ | refine WL.pure rfl rfl rfl ?_ | refine WL.nil ?_ | refine WC.skip ?_ | refine WC.block ?_ | refine WC.condT rfl ?_ | refine WC.condF rfl ?_ | refine WL.off rfl rfl rfl ?_ | refine WL.off0 rfl rfl ?_ | refine WC.exit ?_ | refine blk_hit ?_ | refine blk_miss rfl ?_ | refine WC.ret ?_)
        refine WL.storeN (vs := (rc r1).toArray) (arr2 := (rc r1).toArray) rfl rfl rfl rfl rfl (rc_one _) (hp6.obj 0 rfl) (Nat.le_refl 2) rfl (fun w7 hw7 => ?_)
        have hp7 : Hp w0 w7 [Rt (.slice oa (l.eraseIdx i).length oc) (l.eraseIdx i), Bx b4 l[i], Td tb (.slice pa l.length pc) (.map (some mb)), Rt (.slice pa l.length pc) l, Mp mb es c] := (hp6.set 0 rfl rfl hw7).tail
        clear hp6 hp5 hp4 hp3 hb7 hw7
        repeat (first | refine WC.seq ?_ | refine WC.reg ?_ | refine WL.pure rfl rfl rfl ?_ | refine WL.nil ?_ | refine WC.skip ?_ | refine WC.block ?_ | refine WC.condT rfl ?_ | refine WC.condF rfl ?_ | refine WL.off rfl rfl rfl ?_ | refine WL.off0 rfl rfl ?_ | refine WC.exit ?_ | refine blk_hit ?_ | refine blk_miss rfl ?_ | refine WC.ret ?_)
        refine WL.loadB rfl rfl rfl rfl rfl (hp7.obj 1 rfl) (j := 1) rfl ?_
        refine WL.call rfl rfl rfl rfl rfl ent64 (first_any oa oc (l.eraseIdx i) l[i].2 hel (by omega) w7 (Sl.of_row (hp7.at 0 rfl))) ?_
        rintro _ w8 ⟨rfl, hp8⟩
        have hp8 := hp7.comb hp8
        obtain ⟨z2, r2, hz2⟩ : ∃ z2 r2, fstV (firstM (l.eraseIdx i) l[i].2) = .tuple #[.int .i64 z2, .agg (rc r2).toArray, .bool (!(firstM (l.eraseIdx i) l[i].2).isNone)] := by
          cases firstM (l.eraseIdx i) l[i].2 with
          | none => exact ⟨(0 : Nat), ([], []), rfl⟩
          | some p => exact ⟨(p.1 : Nat), p.2, rfl⟩
        rw [hz2]
        repeat (first | refine WC.seq ?_ | refine WC.reg ?_ | refine WL.pure rfl rfl rfl ?_ | refine WL.nil ?_ | refine WC.skip ?_ | refine WC.block ?_ | refine WC.condT rfl ?_ | refine WC.condF rfl ?_ | refine WL.off rfl rfl rfl ?_ | refine WL.off0 rfl rfl ?_ | refine WC.exit ?_ | refine blk_hit ?_ | refine blk_miss rfl ?_ | refine WC.ret ?_)
        refine WL.alloc rfl rfl rfl ?_
        intro b9 w9 hb9
        have hp9 := hp8.new hb9
        repeat (first | refine WC.seq ?_ | refine WC.reg ?_ | refine WL.pure rfl rfl rfl ?_ | refine WL.nil ?_ | refine WC.skip ?_ | refine WC.block ?_ | refine WC.condT rfl ?_ | refine WC.condF rfl ?_ | refine WL.off rfl rfl rfl ?_ | refine WL.off0 rfl rfl ?_ | refine WC.exit ?_ | refine blk_hit ?_ | refine blk_miss rfl ?_ | refine WC.ret ?_)
        refine WL.storeN (vs := (rc r2).toArray) (arr2 := (rc r2).toArray) rfl rfl rfl rfl rfl (rc_one _) (hp9.obj 0 rfl) (Nat.le_refl 2) rfl (fun w10 hw10 => ?_)
        have hp10 : Hp w0 w10 [Bx b4 l[i], Td tb (.slice pa l.length pc) (.map (some mb)), Rt (.slice pa l.length pc) l, Mp mb es c] := ((hp9.set 0 rfl rfl hw10).tail).tail
        clear hp9 hp8 hp7 hb9 hw10
        have hnb := nrmB_eq hi
        have hbad : nrmB l i = false → nextV l = ((i : Nat) : Int) := fun h => by
          unfold nextV nextI
          rw [find_range hi hsnil (by simp [h])]
        repeat (first | refine WC.seq ?_ | refine WC.reg ?_ | refine WL.pure rfl rfl rfl ?_ | refine WL.nil ?_ | refine WC.skip ?_ | refine WC.block ?_ | refine WC.condT rfl ?_ | refine WC.condF rfl ?_ | refine WL.off rfl rfl rfl ?_ | refine WL.off0 rfl rfl ?_ | refine WC.exit ?_ | refine blk_hit ?_ | refine blk_miss rfl ?_ | refine WC.ret ?_)
        refine WL.split 48 rfl (fun h1 => ?_) (fun h1 => ?_)
        · have hb : nrmB l i = false := by
            have hA : (firstM (l.eraseIdx i) l[i].1).isNone = false := by simpa using h1
            rw [hnb, hA]
            rfl
          repeat (first | refine WC.seq ?_ | refine WC.reg ?_ | refine WL.pure rfl rfl rfl ?_ | refine WL.nil ?_ | refine WC.skip ?_ | refine WC.block ?_ | refine WC.condT rfl ?_ | refine WC.condF rfl ?_ | refine WL.off rfl rfl rfl ?_ | refine WL.off0 rfl rfl ?_ | refine WC.exit ?_ | refine blk_hit ?_ | refine blk_miss rfl ?_ | refine WC.ret ?_)
          refine Res.one rfl rfl rfl ⟨by rw [hbad hb], es, c, hp10.tail, hK⟩
        · repeat (first | refine WC.seq ?_ | refine WC.reg ?_ | refine WL.pure rfl rfl rfl ?_ | refine WL.nil ?_ | refine WC.skip ?_ | refine WC.block ?_ | refine WC.condT rfl ?_ | refine WC.condF rfl ?_ | refine WL.off rfl rfl rfl ?_ | refine WL.off0 rfl rfl ?_ | refine WC.exit ?_ | refine blk_hit ?_ | refine blk_miss rfl ?_ | refine WC.ret ?_)
          refine WC.cond rfl (fun h2 => ?_) (fun h2 => ?_)
          · have hb : nrmB l i = false := by
              have hA : (firstM (l.eraseIdx i) l[i].2).isNone = false := by simpa using h2
              rw [hnb, hA, Bool.and_false]
            repeat (first | refine WC.seq ?_ | refine WC.reg ?_ | refine WL.pure rfl rfl rfl ?_ | refine WL.nil ?_ | refine WC.skip ?_ | refine WC.block ?_ | refine WC.condT rfl ?_ | refine WC.condF rfl ?_ | refine WL.off rfl rfl rfl ?_ | refine WL.off0 rfl rfl ?_ | refine WC.exit ?_ | refine blk_hit ?_ | refine blk_miss rfl ?_ | refine WC.ret ?_)
            refine Res.one rfl rfl rfl ⟨by rw [hbad hb], es, c, hp10.tail, hK⟩
          · have hb : nrmB l i = true := by
              have hA : (firstM (l.eraseIdx i) l[i].1).isNone = true := by simpa using h1
              have hB : (firstM (l.eraseIdx i) l[i].2).isNone = true := by simpa using h2
              rw [hnb, hA, hB]
              rfl
            repeat (first | refine WC.seq ?_ | refine WC.skip ?_ | refine WC.block ?_)
            refine WC.mid (Array MapEntry × Nat) (fun _ => [(0, .pointer (some ⟨tb, 0, none⟩)), (15, .slice pa l.length pc), (16, .int .i64 (l.length : Nat)), (17, .int .i64 (i : Nat))])
              (fun (es', c') w' => KM (Qk l) es' c' ∧ Hp w0 w' [Td tb (.slice pa l.length pc) (.map (some mb)), Rt (.slice pa l.length pc) l, Mp mb es' c']) ?_ ?_
            · refine WC.regS 5 mixed (by kernel_rfl) rfl rfl (fun w11 hw11 hh11 => ?_)
              have hp11 := hp10.keep hw11
              repeat (first | refine WS.pure rfl rfl rfl ?_ | refine WS.off rfl rfl rfl ?_ | refine WS.nil ?_)
              refine WS.val rfl rfl (yNil rfl) ?_
              repeat (first | refine WS.pure rfl rfl rfl ?_ | refine WS.off rfl rfl rfl ?_ | refine WS.nil ?_)
              refine WS.loadB rfl rfl rfl rfl rfl (hp11.obj 1 rfl) (j := 1) rfl ?_
              refine WS.val rfl rfl (run_loadN (cs := rc l[i]) rfl rfl rfl rfl (fun j v hj => by rw [Addr.add_lit]; exact box_cell hp11 j v hj)) ?_
              repeat (first | refine WS.pure rfl rfl rfl ?_ | refine WS.off rfl rfl rfl ?_ | refine WS.nil ?_)
              refine WL.mapUpM l[i] rfl rty rfl rfl rfl rfl (hp11.obj 3 rfl) hK ⟨hsz, nrm_Qs hi hb⟩ (fun es' c' w12 k1 hw12 => ?_)
              have hp12 := (hp11.set 3 rfl rfl hw12).tail
              repeat (first | refine WC.seq ?_ | refine WC.reg ?_ | refine WL.pure rfl rfl rfl ?_ | refine WL.nil ?_ | refine WC.skip ?_ | refine WC.block ?_ | refine WC.condT rfl ?_ | refine WC.condF rfl ?_ | refine WL.off rfl rfl rfl ?_ | refine WL.off0 rfl rfl ?_ | refine WC.exit ?_ | refine blk_hit ?_ | refine blk_miss rfl ?_ | refine WC.ret ?_)
              exact ⟨(es', c'), ⟨rfl, rfl, rfl, rfl, rfl⟩, k1, hp12⟩
            · rintro ⟨es', c'⟩ e3 w13 hsub3 ⟨k1, hp13⟩
              refine WC.sub hsub3 ?_
              obtain ⟨g1, g2⟩ := hgo es' c' w13 hb k1 hp13
              repeat (first | refine WC.seq ?_ | refine WC.reg ?_ | refine WL.pure rfl rfl rfl ?_ | refine WL.nil ?_ | refine WC.skip ?_ | refine WC.block ?_ | refine WC.condT rfl ?_ | refine WC.condF rfl ?_ | refine WL.off rfl rfl rfl ?_ | refine WL.off0 rfl rfl ?_ | refine WC.exit ?_ | refine blk_hit ?_ | refine blk_miss rfl ?_ | refine WC.ret ?_)
              exact ⟨(i + 1, es', c'), g1, ⟨rfl, rfl, rfl, congrArg (fun z => some (Value.int .i64 z)) step, rfl⟩, g2⟩
  · have hi2 : i = l.length := by have := of_decide_eq_false hc; omega
    have hnone : nextV l = -1 := by
      have h0 : nextI l = none := by
        unfold nextI
        rw [List.find?_eq_none]
        intro j hj
        have := hnj j (by rw [hi2]; exact List.mem_range.1 hj)
        simp [this]
      unfold nextV
      rw [h0]
    repeat (first | refine WC.seq ?_ | refine WC.reg ?_ | refine WL.pure rfl rfl rfl ?_ | refine WL.nil ?_ | refine WC.skip ?_ | refine WC.block ?_ | refine WC.condT rfl ?_ | refine WC.condF rfl ?_ | refine WL.off rfl rfl rfl ?_ | refine WL.off0 rfl rfl ?_ | refine WC.exit ?_ | refine blk_hit ?_ | refine blk_miss rfl ?_ | refine WC.ret ?_)
    exact Res.one rfl rfl rfl ⟨by rw [hnone], es, c, hp, hK⟩
end Go.Proofs.YtoghnhbjdnjghaaGreat
