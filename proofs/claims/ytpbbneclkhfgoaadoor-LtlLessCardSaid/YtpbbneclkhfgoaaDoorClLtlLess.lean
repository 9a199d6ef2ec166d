/- For every structure, every formula and every two numbers LtlLess returns true, and the arguments read as before, where the package's variables lie as its text lays them. -/
import Derived.Test.YtpbbneclkhfgoaaDoorG8
namespace Go.Proofs.YtpbbneclkhfgoaaDoor.ltlLess
open Go.W Go.Ltl Go.RowKit Go.ChangeShapes Go.WideShapes Go.Deep Go.ChangeAt
set_option maxRecDepth 100000

/-- What the walk gives, for every argument. -/
theorem contract (H : Type) (enc : TypeId × Value → H) (W : World) (base : Nat) (args : Array Value) (ds gs : List (DataW H)) (before : List MemPlace)
    (hval : ∀ (j : Nat) t v, Tryd.f14.params[j]? = some t → args[j]? = some v → Value.okWide Tryd.prog W .any base t v)
    (hW : DataW.Whole enc Tryd.prog Tryd.f14.params.toList Rows.ltlLessSpec.vars false W args.toList ds gs before) (hL : laidMetH Tryd.prog Rows.ltlLessRow.laid W) :
    Calls Tryd.prog 14 args W fun e W' => ∃ v, e = .returned v ∧ Rows.ltlLessSpec.post enc Tryd.prog Tryd.f14 false true false false W args v W' := by
  have hGl : Gl W := gl_of hL
  have hW' := hW
  obtain ⟨p, q, hA0, hV, rfl, hfz, hnd⟩ := hW
  have hA : DataW.TrodAll enc Tryd.prog W 0 (fun _ => true) true Tryd.f14.params.toList args.toList ds p := hA0
  rw [Tryd.params14] at hA hval
  obtain ⟨v0, vs0, d0, ds0, p0, q0, hargs, rfl, rfl, h0, r0⟩ := trodAll_cons hA
  obtain ⟨v1, vs1, d1, ds1, p1, q1, rfl, rfl, rfl, h1, r1⟩ := trodAll_cons r0
  obtain ⟨v2, vs2, d2, ds2, p2, q2, rfl, rfl, rfl, h2, r2⟩ := trodAll_cons r1
  obtain ⟨rfl, rfl, rfl⟩ := trodAll_nil r2
  obtain rfl : args = #[v0, v1, v2] := by cases args; simp_all
  obtain ⟨rfl, rfl⟩ := trodVars_none hV
  have hlt : ∀ x ∈ p0 ++ (p1 ++ (p2 ++ [])) ++ [], x.block < W.heap.size := fun x hx => hW'.lt x hx
  obtain ⟨cc0, hv0, hs0, _⟩ := (show ∃ cs, v0 = .agg cs ∧ cs.size = _ ∧ _ from by
    have := hval 0 44 v0 rfl rfl
    unfold Value.okWide at this
    rw [Tryd.underlying44] at this
    exact this)
  subst hv0
  obtain ⟨cc2, hv2, hs2, _⟩ := (show ∃ cs, v2 = .agg cs ∧ cs.size = _ ∧ _ from by
    have := hval 2 79 v2 rfl rfl
    unfold Value.okWide at this
    rw [Tryd.underlying79] at this
    exact this)
  subst hv2
  have h0k := h0
  have h1k := h1
  have h2k := h2
  obtain ⟨f0, h0⟩ := h0
  obtain ⟨f1, h1⟩ := h1
  obtain ⟨f2, h2⟩ := h2
  obtain ⟨an0, cn0, am0, cm0, ro0, ms0, hc0, hst0, hcl0⟩ := open_structure h0
  have ha0 : cc0 = #[.slice an0 ro0.length cn0, .slice am0 ms0.length cm0] := by rw [← Array.toList_inj]; exact hc0
  subst ha0
  obtain ⟨s1, hc1, ls1⟩ := open_str (show DataW.trod enc Tryd.prog W 0 (fun _ => true) true f1 9 v1.cells.toList = some (d1, p1) from h1)
  have ha1 : v1 = st s1 := by
    obtain ⟨s', hv1⟩ := okWide_string Tryd.underlying9 (hval 1 9 v1 rfl rfl)
    rw [hv1] at hc1 ⊢
    simpa [Value.cells] using hc1
  subst ha1
  obtain ⟨x2, y2, hc2⟩ := open_pairA (show cc2.toList.length = 2 by rw [Array.length_toList, hs2]; kernel_rfl) h2
  have ha2 : cc2 = #[.int .i64 x2, .int .i64 y2] := by rw [← Array.toList_inj]; exact hc2
  subst ha2
  refine Calls.mono (LtlLess_any an0 cn0 am0 cm0 ro0 ms0 hcl0 s1 ls1 x2 y2 W hGl hst0) ?_
  rintro e W' ⟨v, rfl, rfl, hp⟩
  have hb := hp.below
  refine ⟨_, rfl, [d0, d1, d2], [], _, [], p0 ++ (p1 ++ (p2 ++ [])), [], hW', ?_, ?_, rfl, hb.frame _, fun h => by cases h⟩
  · exact trodAll_cons_mk (shut_bool Tryd.underlying4 _) trodAll_mk0
  · rw [Tryd.params14]
    exact trodAll_cons_mk (Below.trod laidOut (by kernel_rfl) (of_decide_eq_true (by kernel_rfl)) h0k hb (fun x hx => hlt x (by simp [hx]))) (trodAll_cons_mk (Below.trod laidOut (by kernel_rfl) (of_decide_eq_true (by kernel_rfl)) h1k hb (fun x hx => hlt x (by simp [hx]))) (trodAll_cons_mk (Below.trod laidOut (by kernel_rfl) (of_decide_eq_true (by kernel_rfl)) h2k hb (fun x hx => hlt x (by simp [hx]))) trodAll_mk0))

def wit : Array Value := #[.agg #[.slice none 0 0, .slice none 0 0], .string ⟨#[]⟩, .agg #[.int .i64 0, .int .i64 0]]
theorem laid_met (os : Os) : laidMet Tryd.prog Rows.ltlLessRow.laid ((laidWorld os).forCall (fun _ _ => 0) ⟨#[], wit, []⟩).memory := laid_met0 os wit
theorem reads (os : Os) {H : Type} (enc : TypeId × Value → H) : ∃ places, DataW.whole enc Tryd.prog ((laidWorld os).forCall (fun _ _ => 0) ⟨#[], wit, []⟩).memory Tryd.f14.params.toList Rows.ltlLessSpec.vars false wit.toList 8 = some ([.agg [.nil, .nil], .lit (.string []), .agg [.lit (.int .i64 0), .lit (.int .i64 0)]], [], places) :=
  ⟨[], by kernel_rfl⟩

theorem lifted (os : Os) (started : os.Started) (H : Type) (enc : TypeId × Value → H) (F : Stop.Interp) :
    ReturnsInHanded {} Tryd.checked os 14 .any ((OpenSpec.ofChange Rows.ltlLessSpec).preRow enc Tryd.prog Tryd.f14 Rows.ltlLessRow.domain false Rows.ltlLessRow.laid) (((OpenSpec.ofChange Rows.ltlLessSpec).at F).post enc Tryd.prog Tryd.f14 false true false false) := by
  obtain ⟨places, hx⟩ := reads os enc
  refine returnsInHanded_of_row (C := Tryd.checked) (s := OpenSpec.ofChange Rows.ltlLessSpec) own started (by kernel_rfl) Tryd.func14
    (witness_row_atRef (enc := enc) (C := Tryd.checked) false (laidWorld os) wit rfl (by kernel_rfl) (by kernel_rfl) (by kernel_rfl)
      (OpenSpec.preRow_of_cond 8 hx (by kernel_rfl) (fun k hk => by cases hk) (by kernel_rfl) (laid_met os))) ?_
  intro W base args ds gs before hval hW _ _ _ hL _ _
  exact contract H enc W base args ds gs before hval hW hL

theorem said : Rows.LtlLessSaid :=
  OpenClaim.holds_of_cond 14 Tryd.f14 rfl rfl rfl rfl rfl rfl rfl ⟨rfl, rfl, rfl, rfl, rfl⟩ rfl rfl rfl rfl rfl (by kernel_rfl) Tryd.func14 (by kernel_rfl)
    (of_decide_eq_true (by kernel_rfl)) (by unfold Func.isWrapper; first | (rw [if_pos (by decide +kernel)]; kernel_rfl) | (rw [if_neg (by decide +kernel)]; exact ⟨rfl, rfl⟩))
    (fun os started H enc _ F => by rw [OpenClaim.pre_eq_preRow]; exact lifted os started H enc F)

theorem plain (f : FuncId) (fn : Func) (hf : Tryd.pinned.checked.prog.funcNamed "olivette/olivettelaw06.LtlLess" = some f) (hfn : Tryd.pinned.checked.prog.funcs[f]? = some fn) :
    true = Tryd.pinned.checked.prog.looks [] ∧ ∀ (j : Nat) t, fn.params[j]? = some t → Tryd.pinned.checked.prog.wantsStandIn t = false := by
  obtain rfl : f = 14 := Option.some.inj ((show Tryd.prog.funcNamed "olivette/olivettelaw06.LtlLess" = some 14 by kernel_rfl).symm.trans hf) |>.symm
  obtain rfl : fn = Tryd.f14 := (Option.some.inj (Tryd.func14.symm.trans hfn)).symm
  refine ⟨by kernel_rfl, fun j t ht => ?_⟩
  · rw [Tryd.params14] at ht
    have hm : t = 44 ∨ t = 9 ∨ t = 79 := by simpa using Array.mem_of_getElem? ht
    rcases hm with rfl | rfl | rfl
    · exact (show Tryd.prog.wantsStandIn 44 = false by kernel_rfl)
    · exact (show Tryd.prog.wantsStandIn 9 = false by kernel_rfl)
    · exact (show Tryd.prog.wantsStandIn 79 = false by kernel_rfl)

/-- The card. -/
theorem card : Rows.LtlLessCardSaid :=
  Claim7.holds_tied_plain_at .later [] _ _ _ _ said (fun _ h => by cases h) (by kernel_rfl) (fun _ h => by cases h) ltlLess_row_tie rfl ⟨rfl, rfl⟩ (by kernel_rfl) rfl plain (by kernel_rfl)
end Go.Proofs.YtpbbneclkhfgoaaDoor.ltlLess
