/- For every structure and every two formulas LtlSymmetric returns true, and the arguments read as before, where the package's variables lie as its text lays them. -/
import Derived.Test.YtpbbneclkhfgoaaDoorG7
namespace Go.Proofs.YtpbbneclkhfgoaaDoor.ltlSymmetric
open Go.W Go.Ltl Go.RowKit Go.ChangeShapes Go.WideShapes Go.Deep Go.ChangeAt
set_option maxRecDepth 100000

/-- What the walk gives, for every argument. -/
theorem contract (H : Type) (enc : TypeId × Value → H) (W : World) (base : Nat) (args : Array Value) (ds gs : List (DataW H)) (before : List MemPlace)
    (hval : ∀ (j : Nat) t v, Tryd.f11.params[j]? = some t → args[j]? = some v → Value.okWide Tryd.prog W .any base t v)
    (hW : DataW.Whole enc Tryd.prog Tryd.f11.params.toList Rows.ltlSymmetricSpec.vars false W args.toList ds gs before) (hL : laidMetH Tryd.prog Rows.ltlSymmetricRow.laid W) :
    Calls Tryd.prog 11 args W fun e W' => ∃ v, e = .returned v ∧ Rows.ltlSymmetricSpec.post enc Tryd.prog Tryd.f11 false true false false W args v W' := by
  have hGl : Gl W := gl_of hL
  have hW' := hW
  obtain ⟨p, q, hA0, hV, rfl, hfz, hnd⟩ := hW
  have hA : DataW.TrodAll enc Tryd.prog W 0 (fun _ => true) true Tryd.f11.params.toList args.toList ds p := hA0
  rw [Tryd.params11] at hA hval
  obtain ⟨v0, vs0, d0, ds0, p0, q0, hargs, rfl, rfl, h0, r0⟩ := trodAll_cons hA
  obtain ⟨v1, vs1, d1, ds1, p1, q1, rfl, rfl, rfl, h1, r1⟩ := trodAll_cons r0
  obtain ⟨rfl, rfl, rfl⟩ := trodAll_nil r1
  obtain rfl : args = #[v0, v1] := by cases args; simp_all
  obtain ⟨rfl, rfl⟩ := trodVars_none hV
  have hlt : ∀ x ∈ p0 ++ (p1 ++ []) ++ [], x.block < W.heap.size := fun x hx => hW'.lt x hx
  obtain ⟨cc0, hv0, hs0, _⟩ := (show ∃ cs, v0 = .agg cs ∧ cs.size = _ ∧ _ from by
    have := hval 0 44 v0 rfl rfl
    unfold Value.okWide at this
    rw [Tryd.underlying44] at this
    exact this)
  subst hv0
  obtain ⟨cc1, hv1, hs1, _⟩ := (show ∃ cs, v1 = .agg cs ∧ cs.size = _ ∧ _ from by
    have := hval 1 67 v1 rfl rfl
    unfold Value.okWide at this
    rw [Tryd.underlying67] at this
    exact this)
  subst hv1
  have h0k := h0
  have h1k := h1
  obtain ⟨f0, h0⟩ := h0
  obtain ⟨f1, h1⟩ := h1
  obtain ⟨an0, cn0, am0, cm0, ro0, ms0, hc0, hst0, hcl0⟩ := open_structure h0
  have ha0 : cc0 = #[.slice an0 ro0.length cn0, .slice am0 ms0.length cm0] := by rw [← Array.toList_inj]; exact hc0
  subst ha0
  obtain ⟨s1, t1, hc1, ls1, lt1⟩ := open_two h1
  have ha1 : cc1 = #[st s1, st t1] := by rw [← Array.toList_inj]; exact hc1
  subst ha1
  refine Calls.mono (LtlSymmetric_any an0 cn0 am0 cm0 ro0 ms0 hcl0 s1 t1 ls1 lt1 W hGl hst0) ?_
  rintro e W' ⟨v, rfl, rfl, hp⟩
  have hb := hp.below
  refine ⟨_, rfl, [d0, d1], [], _, [], p0 ++ (p1 ++ []), [], hW', ?_, ?_, rfl, hb.frame _, fun h => by cases h⟩
  · exact trodAll_cons_mk (shut_bool Tryd.underlying4 _) trodAll_mk0
  · rw [Tryd.params11]
    exact trodAll_cons_mk (Below.trod laidOut (by kernel_rfl) (of_decide_eq_true (by kernel_rfl)) h0k hb (fun x hx => hlt x (by simp [hx]))) (trodAll_cons_mk (Below.trod laidOut (by kernel_rfl) (of_decide_eq_true (by kernel_rfl)) h1k hb (fun x hx => hlt x (by simp [hx]))) trodAll_mk0)

def wit : Array Value := #[.agg #[.slice none 0 0, .slice none 0 0], .agg #[.string ⟨#[]⟩, .string ⟨#[]⟩]]
theorem laid_met (os : Os) : laidMet Tryd.prog Rows.ltlSymmetricRow.laid ((laidWorld os).forCall (fun _ _ => 0) ⟨#[], wit, []⟩).memory := laid_met0 os wit
theorem reads (os : Os) {H : Type} (enc : TypeId × Value → H) : ∃ places, DataW.whole enc Tryd.prog ((laidWorld os).forCall (fun _ _ => 0) ⟨#[], wit, []⟩).memory Tryd.f11.params.toList Rows.ltlSymmetricSpec.vars false wit.toList 8 = some ([.agg [.nil, .nil], .agg [.lit (.string []), .lit (.string [])]], [], places) :=
  ⟨[], by kernel_rfl⟩

theorem lifted (os : Os) (started : os.Started) (H : Type) (enc : TypeId × Value → H) (F : Stop.Interp) :
    ReturnsInHanded {} Tryd.checked os 11 .any ((OpenSpec.ofChange Rows.ltlSymmetricSpec).preRow enc Tryd.prog Tryd.f11 Rows.ltlSymmetricRow.domain false Rows.ltlSymmetricRow.laid) (((OpenSpec.ofChange Rows.ltlSymmetricSpec).at F).post enc Tryd.prog Tryd.f11 false true false false) := by
  obtain ⟨places, hx⟩ := reads os enc
  refine returnsInHanded_of_row (C := Tryd.checked) (s := OpenSpec.ofChange Rows.ltlSymmetricSpec) own started (by kernel_rfl) Tryd.func11
    (witness_row_atRef (enc := enc) (C := Tryd.checked) false (laidWorld os) wit rfl (by kernel_rfl) (by kernel_rfl) (by kernel_rfl)
      (OpenSpec.preRow_of_cond 8 hx (by kernel_rfl) (fun k hk => by cases hk) (by kernel_rfl) (laid_met os))) ?_
  intro W base args ds gs before hval hW _ _ _ hL _ _
  exact contract H enc W base args ds gs before hval hW hL

theorem said : Rows.LtlSymmetricSaid :=
  OpenClaim.holds_of_cond 11 Tryd.f11 rfl rfl rfl rfl rfl rfl rfl ⟨rfl, rfl, rfl, rfl, rfl⟩ rfl rfl rfl rfl rfl (by kernel_rfl) Tryd.func11 (by kernel_rfl)
    (of_decide_eq_true (by kernel_rfl)) (by unfold Func.isWrapper; first | (rw [if_pos (by decide +kernel)]; kernel_rfl) | (rw [if_neg (by decide +kernel)]; exact ⟨rfl, rfl⟩))
    (fun os started H enc _ F => by rw [OpenClaim.pre_eq_preRow]; exact lifted os started H enc F)

theorem plain (f : FuncId) (fn : Func) (hf : Tryd.pinned.checked.prog.funcNamed "olivette/olivettelaw06.LtlSymmetric" = some f) (hfn : Tryd.pinned.checked.prog.funcs[f]? = some fn) :
    true = Tryd.pinned.checked.prog.looks [] ∧ ∀ (j : Nat) t, fn.params[j]? = some t → Tryd.pinned.checked.prog.wantsStandIn t = false := by
  obtain rfl : f = 11 := Option.some.inj ((show Tryd.prog.funcNamed "olivette/olivettelaw06.LtlSymmetric" = some 11 by kernel_rfl).symm.trans hf) |>.symm
  obtain rfl : fn = Tryd.f11 := (Option.some.inj (Tryd.func11.symm.trans hfn)).symm
  refine ⟨by kernel_rfl, fun j t ht => ?_⟩
  · rw [Tryd.params11] at ht
    have hm : t = 44 ∨ t = 67 := by simpa using Array.mem_of_getElem? ht
    rcases hm with rfl | rfl
    · exact (show Tryd.prog.wantsStandIn 44 = false by kernel_rfl)
    · exact (show Tryd.prog.wantsStandIn 67 = false by kernel_rfl)

/-- The card. -/
theorem card : Rows.LtlSymmetricCardSaid :=
  Claim7.holds_tied_plain_at .later [] _ _ _ _ said (fun _ h => by cases h) (by kernel_rfl) (fun _ h => by cases h) ltlSymmetric_row_tie rfl ⟨rfl, rfl⟩ (by kernel_rfl) rfl plain (by kernel_rfl)
end Go.Proofs.YtpbbneclkhfgoaaDoor.ltlSymmetric
