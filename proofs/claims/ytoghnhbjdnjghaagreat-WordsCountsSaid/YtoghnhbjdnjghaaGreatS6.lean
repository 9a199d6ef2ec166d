/- The walks of a sort: broken patterns, the whole. -/
import Derived.Test.YtoghnhbjdnjghaaGreatS5
namespace Go.Proofs.YtoghnhbjdnjghaaGreat
open Go.W Go.Words Go.RowKit Go.Sort
set_option maxRecDepth 100000
attribute [local irreducible] WC WL WQ WS WH

section
variable (b n cap : Nat) (t : List Value) (G : FuncId) (ca : Array Value) (cf : Rp → Rp → Int) (hE : Ents Tryz.prog G) (SS : Rp → Prop) (w0 : World) (L : List Ent) (hG : CmpOk b t G ca cf SS w0 L) (hn : n ≤ 500)
include hn

set_option maxHeartbeats 1000000 in
theorem breakPatterns_any (d : Array Rp) (hd : Okd n SS d) (a e : Nat) (hae : a + 8 ≤ e) (hen : e ≤ n) (w : World) (hp : Hp w0 w (BD b t d :: L)) :
    Ret Tryz.prog 106 [.slice (some ⟨b, 0, none⟩) n cap, .int .i64 (a : Nat), .int .i64 (e : Nat), .func (.func G) #[] ca] w fun _ w' => ∃ d', Okd n SS d' ∧ PermIn a e d d' ∧ Hp w0 w' (BD b t d' :: L) := by
  have el := w_sub (x := e) (y := a) (by omega) (by omega)
  obtain ⟨l, hl⟩ : ∃ l, e - a = l := ⟨_, rfl⟩
  rw [hl] at el
  have eu : IntKind.u64.wrap ((l : Nat) : Int) = ((l : Nat) : Int) := by rw [IntKind.wrap_u64]; omega
  have eq4 : IntKind.i64.wrap ((l : Int).tdiv 4) = ((l / 4 : Nat) : Int) := by
    rw [show ((l : Nat) : Int).tdiv 4 = ((l / 4 : Nat) : Int) from (Int.ofNat_tdiv l 4).symm, wrap_i64_in (by omega) (by omega)]
  have em : IntKind.i64.wrap ((a : Int) + IntKind.i64.wrap (IntKind.i64.wrap ((l : Int).tdiv 4) * 2)) = ((a + l / 4 * 2 : Nat) : Int) := by
    rw [eq4, show ((l / 4 : Nat) : Int) * 2 = ((l / 4 * 2 : Nat) : Int) by omega, wrap_i64_in (n := ((l / 4 * 2 : Nat) : Int)) (by omega) (by omega), w_add (by omega)]
  have em1 : IntKind.i64.wrap (((a + l / 4 * 2 : Nat) : Int) - 1) = ((a + l / 4 * 2 - 1 : Nat) : Int) := by rw [wrap_mid (by omega) (by omega)]; omega
  have em2 := wrap_succ (i := a + l / 4 * 2) (n := 100000) (by omega) (by omega)
  refine enter Tryz.func106 rfl rfl ⟨rfl, rfl⟩ rfl ?_
  repeat (first | refine WC.seq ?_ | refine WC.reg ?_ | refine WL.pure rfl rfl rfl ?_ | refine WL.nil ?_ | refine WC.skip ?_ | refine WC.block ?_ | refine WC.condT rfl ?_ | refine WC.condF rfl ?_ | refine WL.off rfl rfl rfl ?_ | refine WL.off0 rfl rfl ?_ | refine WC.exit ?_ | refine blk_hit ?_ | refine blk_miss rfl ?_ | refine WC.ret ?_)
  refine WC.cond rfl (fun hc => ?_) (fun hc => absurd (of_decide_eq_false hc) (by rw [el]; omega))
  refine WC.known (d := 8) (congrArg (fun z => some (Value.int .i64 z)) el) ?_
  repeat (first | refine WC.seq ?_ | refine WC.reg ?_ | refine WL.pure rfl rfl rfl ?_ | refine WL.nil ?_ | refine WC.skip ?_ | refine WC.block ?_ | refine WC.condT rfl ?_ | refine WC.condF rfl ?_ | refine WL.off rfl rfl rfl ?_ | refine WL.off0 rfl rfl ?_ | refine WC.exit ?_ | refine blk_hit ?_ | refine blk_miss rfl ?_ | refine WC.ret ?_)
  refine WL.known (d := 19) (congrArg (fun z => some (Value.int .u64 z)) eu) ?_
  refine WL.alloc rfl rfl rfl ?_
  intro br w1 hbr
  have hp1 := hp.new hbr
  refine WL.store rfl rfl rfl rfl rfl rfl (hp1.obj 0 rfl) (Nat.lt_succ_self 0) (fun w2 hw2 => ?_)
  have hp2 : Hp w0 w2 (BD b t d :: Xb br l :: L) := (hp1.set 0 rfl rfl hw2).swap
  clear hp1 hp hbr hw2 w1
  repeat (first | refine WC.seq ?_ | refine WC.reg ?_ | refine WL.pure rfl rfl rfl ?_ | refine WL.nil ?_ | refine WC.skip ?_ | refine WC.block ?_ | refine WC.condT rfl ?_ | refine WC.condF rfl ?_ | refine WL.off rfl rfl rfl ?_ | refine WL.off0 rfl rfl ?_ | refine WC.exit ?_ | refine blk_hit ?_ | refine blk_miss rfl ?_ | refine WC.ret ?_)
  refine WL.call rfl rfl rfl rfl rfl ent120 (nextPow_any l (by omega) (by omega) w2) ?_
  rintro _ w1 ⟨⟨M, rfl, hM0, hM⟩, rfl⟩
  have eM : IntKind.u64.wrap (((M : Nat) : Int) - 1) = ((M - 1 : Nat) : Int) := by rw [IntKind.wrap_u64]; omega
  have ei : IntKind.i64.wrap (IntKind.i64.wrap ((a : Int) + IntKind.i64.wrap (IntKind.i64.wrap ((l : Int).tdiv 4) * 2)) - 1) = ((a + l / 4 * 2 - 1 : Nat) : Int) := by rw [em, em1]
  have ej : IntKind.i64.wrap (IntKind.i64.wrap ((a : Int) + IntKind.i64.wrap (IntKind.i64.wrap ((l : Int).tdiv 4) * 2)) + 1) = ((a + l / 4 * 2 + 1 : Nat) : Int) := by rw [em, em2]
  repeat (first | refine WC.seq ?_ | refine WC.reg ?_ | refine WL.pure rfl rfl rfl ?_ | refine WL.nil ?_ | refine WC.skip ?_ | refine WC.block ?_ | refine WC.condT rfl ?_ | refine WC.condF rfl ?_ | refine WL.off rfl rfl rfl ?_ | refine WL.off0 rfl rfl ?_ | refine WC.exit ?_ | refine blk_hit ?_ | refine blk_miss rfl ?_ | refine WC.ret ?_)
  refine WC.loop (Nat × Nat × Array Rp) (fun (i, _, _) => [(0, .slice (some ⟨b, 0, none⟩) n cap), (1, .int .i64 (a : Nat)), (8, .int .i64 (l : Nat)), (9, .pointer (some ⟨br, 0, none⟩)), (10, .int .u64 (M : Nat)), (11, .int .i64 (i : Nat))])
    (fun (i, X, d1) w' => a ≤ i ∧ i ≤ a + l / 4 * 2 + 2 ∧ X < 18446744073709551616 ∧ Okd n SS d1 ∧ PermIn a e d d1 ∧ Hp w0 w' (BD b t d1 :: Xb br X :: L)) (fun (i, _, _) => a + l / 4 * 2 + 2 - i) (a + l / 4 * 2 - 1, l, d) ⟨rfl, rfl, rfl, rfl, rfl, congrArg (fun z => some (Value.int .i64 z)) ei, rfl⟩ ⟨by omega, by omega, by omega, hd, permIn_refl _ _ _, hp2⟩ ?_
  clear hp2
  rintro ⟨i, X, d1⟩ w ⟨hi1, hi2, hX, hOK, hP, hp⟩
  have hsz := hOK.sz
  repeat (first | refine WC.seq ?_ | refine WC.reg ?_ | refine WL.pure rfl rfl rfl ?_ | refine WL.nil ?_ | refine WC.skip ?_ | refine WC.block ?_ | refine WC.condT rfl ?_ | refine WC.condF rfl ?_ | refine WL.off rfl rfl rfl ?_ | refine WL.off0 rfl rfl ?_ | refine WC.exit ?_ | refine blk_hit ?_ | refine blk_miss rfl ?_ | refine WC.ret ?_)
  refine WC.cond rfl (fun hc => ?_) (fun hc => ?_)
  · have hi : i ≤ a + l / 4 * 2 + 1 := by
      have h1 := of_decide_eq_true hc
      have h2 : ((i : Nat) : Int) ≤ ((a + l / 4 * 2 + 1 : Nat) : Int) := by rw [← ej]; exact h1
      omega
    have step := wrap_succ (i := i) (n := 100000) (by omega) (by omega)
    repeat (first | refine WC.seq ?_ | refine WC.reg ?_ | refine WL.pure rfl rfl rfl ?_ | refine WL.nil ?_ | refine WC.skip ?_ | refine WC.block ?_ | refine WC.condT rfl ?_ | refine WC.condF rfl ?_ | refine WL.off rfl rfl rfl ?_ | refine WL.off0 rfl rfl ?_ | refine WC.exit ?_ | refine blk_hit ?_ | refine blk_miss rfl ?_ | refine WC.ret ?_)
    refine WL.call rfl rfl rfl rfl rfl ent121 (Next_any br X hX w0 (BD b t d1 :: L) w hp.swap) ?_
    rintro _ w3 ⟨Y, rfl, hY, hp3⟩
    have hp3 := hp3.swap
    have ea : bits .and .u64 ((Y : Nat) : Int) (IntKind.u64.wrap (((M : Nat) : Int) - 1)) = ((Y &&& (M - 1) : Nat) : Int) := by rw [eM, bits_and_u64_nat _ _ hY (by omega)]
    have hal : Y &&& (M - 1) ≤ M - 1 := Nat.and_le_right
    generalize Y &&& (M - 1) = o at *
    have eo : IntKind.i64.wrap (bits .and .u64 ((Y : Nat) : Int) (IntKind.u64.wrap (((M : Nat) : Int) - 1))) = ((o : Nat) : Int) := by rw [ea, wrap_i64_in (by omega) (by omega)]
    refine WL.pure rfl rfl rfl ?_
    refine WL.pure rfl rfl rfl ?_
    refine WL.pure rfl rfl rfl ?_
    refine WL.pure rfl rfl rfl ?_
    refine WL.known (d := 42) (congrArg (fun z => some (Value.int .i64 z)) eo) ?_
    refine WL.pure rfl rfl rfl ?_
    refine WL.nil ?_
    refine WC.seq ?_
    refine WC.mid Nat (fun q => [(0, .slice (some ⟨b, 0, none⟩) n cap), (1, .int .i64 (a : Nat)), (8, .int .i64 (l : Nat)), (9, .pointer (some ⟨br, 0, none⟩)), (10, .int .u64 (M : Nat)), (11, .int .i64 (i : Nat)), (12, .int .i64 (q : Nat))])
      (fun q w' => q < l ∧ w' = w3) ?_ ?_
    · refine WC.seq ?_
      repeat (first | refine WC.seq ?_ | refine WC.reg ?_ | refine WL.pure rfl rfl rfl ?_ | refine WL.nil ?_ | refine WC.skip ?_ | refine WC.block ?_ | refine WC.condT rfl ?_ | refine WC.condF rfl ?_ | refine WL.off rfl rfl rfl ?_ | refine WL.off0 rfl rfl ?_ | refine WC.exit ?_ | refine blk_hit ?_ | refine blk_miss rfl ?_ | refine WC.ret ?_)
      refine WC.cond rfl (fun h2 => ?_) (fun h2 => ?_)
      · have h2 : l ≤ o := by have := of_decide_eq_true h2; omega
        have e5 := w_sub (x := o) (y := l) (by omega) (by omega)
        repeat (first | refine WC.seq ?_ | refine WC.reg ?_ | refine WL.pure rfl rfl rfl ?_ | refine WL.nil ?_ | refine WC.skip ?_ | refine WC.block ?_ | refine WC.condT rfl ?_ | refine WC.condF rfl ?_ | refine WL.off rfl rfl rfl ?_ | refine WL.off0 rfl rfl ?_ | refine WC.exit ?_ | refine blk_hit ?_ | refine blk_miss rfl ?_ | refine WC.ret ?_)
        exact ⟨o - l, ⟨rfl, rfl, rfl, rfl, rfl, rfl, congrArg (fun z => some (Value.int .i64 z)) e5, rfl⟩, by omega, rfl⟩
      · have h2 : ¬ l ≤ o := by have := of_decide_eq_false h2; omega
        repeat (first | refine WC.seq ?_ | refine WC.reg ?_ | refine WL.pure rfl rfl rfl ?_ | refine WL.nil ?_ | refine WC.skip ?_ | refine WC.block ?_ | refine WC.condT rfl ?_ | refine WC.condF rfl ?_ | refine WL.off rfl rfl rfl ?_ | refine WL.off0 rfl rfl ?_ | refine WC.exit ?_ | refine blk_hit ?_ | refine blk_miss rfl ?_ | refine WC.ret ?_)
        exact ⟨o, ⟨rfl, rfl, rfl, rfl, rfl, rfl, rfl, rfl⟩, by omega, rfl⟩
    rintro q e7 _ hsub ⟨hq, rfl⟩
    refine WC.sub hsub ?_
    clear hsub e7
    have eaq := w_add (x := a) (y := q) (by omega)
    refine WC.mid Unit (fun _ => [(0, .slice (some ⟨b, 0, none⟩) n cap), (1, .int .i64 (a : Nat)), (8, .int .i64 (l : Nat)), (9, .pointer (some ⟨br, 0, none⟩)), (10, .int .u64 (M : Nat)), (11, .int .i64 (i : Nat))]) (fun _ w' => Hp w0 w' (BD b t (Go.Sort.swp (d1) (i) (a + q)) :: Xb br Y :: L)) ?_ ?_
    · refine WC.regH (fun _ => True) mixed (by kernel_rfl) (fun w6 hw6 hh6 => ?_)
      have kh6 := (hp3).keep hw6
      refine WH.pure 0 (by kernel_rfl) rfl (by kernel_rfl) rfl rfl rfl trivial ?_
      refine WH.pure 1 (by kernel_rfl) rfl (by kernel_rfl) rfl rfl rfl trivial ?_
      refine WH.pure 2 (by kernel_rfl) rfl (by kernel_rfl) rfl rfl rfl trivial ?_
      refine WH.pure 3 (by kernel_rfl) rfl (by kernel_rfl) rfl rfl rfl trivial ?_
      refine WH.pure 4 (by kernel_rfl) rfl (by kernel_rfl) rfl rfl rfl trivial ?_
      refine WH.pure 5 (by kernel_rfl) rfl (by kernel_rfl) rfl rfl rfl trivial ?_
      refine WH.known (d := 54) (congrArg (fun z => some (Value.int .i64 z)) eaq) ?_
      refine WH.pure 6 (by kernel_rfl) rfl (by kernel_rfl) rfl rfl rfl trivial ?_
      refine WH.pure 7 (by kernel_rfl) rfl (by kernel_rfl) rfl rfl rfl trivial ?_
      refine WH.pure 8 (by kernel_rfl) rfl (by kernel_rfl) rfl rfl rfl trivial ?_
      refine WH.pure 9 (by kernel_rfl) rfl (by kernel_rfl) rfl rfl rfl trivial ?_
      refine WH.known (d := 58) (congrArg (fun z => some (Value.int .i64 z)) eaq) ?_
      refine WH.ixS 10 (by kernel_rfl) rfl (by kernel_rfl) rfl rfl rfl rfl rfl rfl (by omega) trivial ?_
      refine WH.pure 12 (by kernel_rfl) rfl (by kernel_rfl) rfl rfl rfl trivial ?_
      refine WH.pure 13 (by kernel_rfl) rfl (by kernel_rfl) rfl rfl rfl trivial ?_
      refine WH.ixS 14 (by kernel_rfl) rfl (by kernel_rfl) rfl rfl rfl rfl rfl rfl (by omega) trivial ?_
      refine WH.two 11 15 rfl rfl (by kernel_rfl) ?_ ?_
      · refine WL.loadN rfl rfl rfl rfl rfl rfl (cl_load kh6 (j := a + q) (by omega)) (WL.nil ⟨trivial, ?_⟩)
        refine WH.one 15 rfl (by kernel_rfl) ?_
        refine WL.loadN rfl rfl rfl rfl rfl rfl (cl_load kh6 (j := i) (by omega)) (WL.nil ⟨trivial, ?_⟩)
        refine WH.ixS 16 (by kernel_rfl) rfl (by kernel_rfl) rfl rfl rfl rfl rfl rfl (by omega) trivial ?_
        refine WH.one 17 rfl (by kernel_rfl) ?_
        refine WL.storeN rfl rfl rfl rfl rfl (rc_one (d1)[a + q]!) (kh6.obj 0 rfl) (cl_room (by omega)) (cl_store (j := i) (by omega)) (fun w7 hw7 => WL.nil ⟨trivial, ?_⟩)
        have hp7 := kh6.set 0 rfl rfl hw7
        refine WH.ixS 18 (by kernel_rfl) rfl (by kernel_rfl) rfl rfl rfl rfl rfl rfl (by omega) trivial ?_
        refine WH.one 19 rfl (by kernel_rfl) ?_
        refine WL.storeN rfl rfl rfl rfl rfl (rc_one (d1)[i]!) (hp7.obj 0 rfl) (cl_room (by rw [Array.size_setIfInBounds]; omega)) (cl_store (j := a + q) (by rw [Array.size_setIfInBounds]; omega)) (fun w8 hw8 => WL.nil ⟨trivial, ?_⟩)
        have hp8 := hp7.set 0 rfl rfl hw8
        refine WH.done (by kernel_rfl) ?_
        exact ⟨(), ⟨rfl, rfl, rfl, rfl, rfl, rfl, rfl⟩, hp8⟩
      · refine WL.loadN rfl rfl rfl rfl rfl rfl (cl_load kh6 (j := i) (by omega)) (WL.nil ⟨trivial, ?_⟩)
        refine WH.one 11 rfl (by kernel_rfl) ?_
        refine WL.loadN rfl rfl rfl rfl rfl rfl (cl_load kh6 (j := a + q) (by omega)) (WL.nil ⟨trivial, ?_⟩)
        refine WH.ixS 16 (by kernel_rfl) rfl (by kernel_rfl) rfl rfl rfl rfl rfl rfl (by omega) trivial ?_
        refine WH.one 17 rfl (by kernel_rfl) ?_
        refine WL.storeN rfl rfl rfl rfl rfl (rc_one (d1)[a + q]!) (kh6.obj 0 rfl) (cl_room (by omega)) (cl_store (j := i) (by omega)) (fun w7 hw7 => WL.nil ⟨trivial, ?_⟩)
        have hp7 := kh6.set 0 rfl rfl hw7
        refine WH.ixS 18 (by kernel_rfl) rfl (by kernel_rfl) rfl rfl rfl rfl rfl rfl (by omega) trivial ?_
        refine WH.one 19 rfl (by kernel_rfl) ?_
        refine WL.storeN rfl rfl rfl rfl rfl (rc_one (d1)[i]!) (hp7.obj 0 rfl) (cl_room (by rw [Array.size_setIfInBounds]; omega)) (cl_store (j := a + q) (by rw [Array.size_setIfInBounds]; omega)) (fun w8 hw8 => WL.nil ⟨trivial, ?_⟩)
        have hp8 := hp7.set 0 rfl rfl hw8
        refine WH.done (by kernel_rfl) ?_
        exact ⟨(), ⟨rfl, rfl, rfl, rfl, rfl, rfl, rfl⟩, hp8⟩
    rintro ⟨⟩ e6 w6 hsub hp6
    refine WC.sub hsub ?_
    clear hsub e6
    repeat (first | refine WC.seq ?_ | refine WC.reg ?_ | refine WL.pure rfl rfl rfl ?_ | refine WL.nil ?_ | refine WC.skip ?_ | refine WC.block ?_ | refine WC.condT rfl ?_ | refine WC.condF rfl ?_ | refine WL.off rfl rfl rfl ?_ | refine WL.off0 rfl rfl ?_ | refine WC.exit ?_ | refine blk_hit ?_ | refine blk_miss rfl ?_ | refine WC.ret ?_)
    exact ⟨(i + 1, Y, swp d1 i (a + q)), by show a + l / 4 * 2 + 2 - (i + 1) < a + l / 4 * 2 + 2 - i; omega, ⟨rfl, rfl, rfl, rfl, rfl, congrArg (fun z => some (Value.int .i64 z)) step, rfl⟩, by omega, by omega, hY, hOK.swp (by omega) (by omega), permIn_trans _ _ _ _ _ hP (swp_permIn _ _ _ _ _ (by omega) (by omega) (by omega) (by omega) (by omega)), hp6⟩
  · repeat (first | refine WC.seq ?_ | refine WC.reg ?_ | refine WL.pure rfl rfl rfl ?_ | refine WL.nil ?_ | refine WC.skip ?_ | refine WC.block ?_ | refine WC.condT rfl ?_ | refine WC.condF rfl ?_ | refine WL.off rfl rfl rfl ?_ | refine WL.off0 rfl rfl ?_ | refine WC.exit ?_ | refine blk_hit ?_ | refine blk_miss rfl ?_ | refine WC.ret ?_)
    exact Res.zero rfl rfl ⟨d1, hOK, hP, hp.drop1⟩
include hE hG
set_option maxHeartbeats 4000000 in
theorem pdq_any (hS : SWO (ltO cf)) : ∀ (k : Nat) (d : Array Rp) (a e : Nat) (lim : Int) (w : World), e - a ≤ k → Okd n SS d → a ≤ e → e ≤ n → Below (ltO cf) a e d → Hp w0 w (BD b t d :: L) →
    Ret Tryz.prog 92 [.slice (some ⟨b, 0, none⟩) n cap, .int .i64 (a : Nat), .int .i64 (e : Nat), .int .i64 lim, .func (.func G) #[] ca] w fun _ w' => ∃ d', Okd n SS d' ∧ PermIn a e d d' ∧ SortedIn (ltO cf) a e d' ∧ Hp w0 w' (BD b t d' :: L) := by
  intro k
  induction k with
  | zero =>
    intro d a e lim w hk hd hae hen hB hp
    have el := w_sub (x := e) (y := a) (by omega) (by omega)
    refine enter Tryz.func92 rfl rfl ⟨rfl, rfl⟩ rfl ?_
    repeat (first | refine WC.seq ?_ | refine WC.reg ?_ | refine WL.pure rfl rfl rfl ?_ | refine WL.nil ?_ | refine WC.skip ?_ | refine WC.block ?_ | refine WC.condT rfl ?_ | refine WC.condF rfl ?_ | refine WL.off rfl rfl rfl ?_ | refine WL.off0 rfl rfl ?_ | refine WC.exit ?_ | refine blk_hit ?_ | refine blk_miss rfl ?_ | refine WC.ret ?_)
    refine WC.loop Unit (fun _ => [(0, .slice (some ⟨b, 0, none⟩) n cap), (1, .int .i64 (a : Nat)), (2, .int .i64 (e : Nat)), (4, .func (.func G) #[] ca)]) (fun _ w' => w' = w) (fun _ => 0) () ⟨rfl, rfl, rfl, rfl, rfl⟩ rfl ?_
    rintro ⟨⟩ w1 rfl
    repeat (first | refine WC.seq ?_ | refine WC.reg ?_ | refine WL.pure rfl rfl rfl ?_ | refine WL.nil ?_ | refine WC.skip ?_ | refine WC.block ?_ | refine WC.condT rfl ?_ | refine WC.condF rfl ?_ | refine WL.off rfl rfl rfl ?_ | refine WL.off0 rfl rfl ?_ | refine WC.exit ?_ | refine blk_hit ?_ | refine blk_miss rfl ?_ | refine WC.ret ?_)
    refine WC.cond rfl (fun hc => ?_) (fun hc => absurd (of_decide_eq_false hc) (by rw [el]; omega))
    repeat (first | refine WC.seq ?_ | refine WC.reg ?_ | refine WL.pure rfl rfl rfl ?_ | refine WL.nil ?_ | refine WC.skip ?_ | refine WC.block ?_ | refine WC.condT rfl ?_ | refine WC.condF rfl ?_ | refine WL.off rfl rfl rfl ?_ | refine WL.off0 rfl rfl ?_ | refine WC.exit ?_ | refine blk_hit ?_ | refine blk_miss rfl ?_ | refine WC.ret ?_)
    refine WL.call rfl rfl rfl rfl rfl ent104 (insertion_any b n cap t G ca cf hE SS w0 L hG (by omega) d hd a e hae hen w1 hp) ?_
    rintro _ w2 ⟨hd2, hp2⟩
    have hI := insertionSort_holds (lt := ltO cf) hS d a e hae (by rw [hd.sz]; exact hen)
    repeat (first | refine WC.seq ?_ | refine WC.reg ?_ | refine WL.pure rfl rfl rfl ?_ | refine WL.nil ?_ | refine WC.skip ?_ | refine WC.block ?_ | refine WC.condT rfl ?_ | refine WC.condF rfl ?_ | refine WL.off rfl rfl rfl ?_ | refine WL.off0 rfl rfl ?_ | refine WC.exit ?_ | refine blk_hit ?_ | refine blk_miss rfl ?_ | refine WC.ret ?_)
    exact Res.zero rfl rfl ⟨_, hd2, hI.1, hI.2, hp2⟩
  | succ k ih =>
    intro d a e lim w hk hd hae hen hB hp
    refine enter Tryz.func92 rfl rfl ⟨rfl, rfl⟩ rfl ?_
    repeat (first | refine WC.seq ?_ | refine WC.reg ?_ | refine WL.pure rfl rfl rfl ?_ | refine WL.nil ?_ | refine WC.skip ?_ | refine WC.block ?_ | refine WC.condT rfl ?_ | refine WC.condF rfl ?_ | refine WL.off rfl rfl rfl ?_ | refine WL.off0 rfl rfl ?_ | refine WC.exit ?_ | refine blk_hit ?_ | refine blk_miss rfl ?_ | refine WC.ret ?_)
    refine WC.loop (Nat × Nat × Int × Bool × Bool × Array Rp) (fun (a1, e1, l1, wb, wp, _) => [(0, .slice (some ⟨b, 0, none⟩) n cap), (1, .int .i64 (a1 : Nat)), (2, .int .i64 (e1 : Nat)), (3, .int .i64 l1), (4, .func (.func G) #[] ca), (10, .bool wb), (11, .bool wp)])
      (fun (a1, e1, _, _, _, d1) w' => a ≤ a1 ∧ a1 ≤ e1 ∧ e1 ≤ e ∧ Okd n SS d1 ∧ Below (ltO cf) a1 e1 d1 ∧ (∀ R, PermIn a1 e1 d1 R → SortedIn (ltO cf) a1 e1 R → PermIn a e d R ∧ SortedIn (ltO cf) a e R) ∧ Hp w0 w' (BD b t d1 :: L)) (fun (a1, e1, _) => e1 - a1) (a, e, lim, true, true, d) ⟨rfl, rfl, rfl, rfl, rfl, rfl, rfl, rfl⟩ ⟨Nat.le_refl _, hae, Nat.le_refl _, hd, hB, fun R h1 h2 => ⟨h1, h2⟩, hp⟩ ?_
    clear hp hB hd
    rintro ⟨a1, e1, l1, wb, wp, d1⟩ w ⟨ha1, hae1, he1, hd, hB, hK, hp⟩
    have hsz := hd.sz
    have el := w_sub (x := e1) (y := a1) (by omega) (by omega)
    repeat (first | refine WC.seq ?_ | refine WC.reg ?_ | refine WL.pure rfl rfl rfl ?_ | refine WL.nil ?_ | refine WC.skip ?_ | refine WC.block ?_ | refine WC.condT rfl ?_ | refine WC.condF rfl ?_ | refine WL.off rfl rfl rfl ?_ | refine WL.off0 rfl rfl ?_ | refine WC.exit ?_ | refine blk_hit ?_ | refine blk_miss rfl ?_ | refine WC.ret ?_)
    refine WC.cond rfl (fun hc => ?_) (fun hc => ?_)
    · repeat (first | refine WC.seq ?_ | refine WC.reg ?_ | refine WL.pure rfl rfl rfl ?_ | refine WL.nil ?_ | refine WC.skip ?_ | refine WC.block ?_ | refine WC.condT rfl ?_ | refine WC.condF rfl ?_ | refine WL.off rfl rfl rfl ?_ | refine WL.off0 rfl rfl ?_ | refine WC.exit ?_ | refine blk_hit ?_ | refine blk_miss rfl ?_ | refine WC.ret ?_)
      refine WL.call rfl rfl rfl rfl rfl ent104 (insertion_any b n cap t G ca cf hE SS w0 L hG (by omega) d1 hd a1 e1 hae1 (by omega) w hp) ?_
      rintro _ w2 ⟨hd2, hp2⟩
      have hI := insertionSort_holds (lt := ltO cf) hS d1 a1 e1 hae1 (by omega)
      have hI := hK _ hI.1 hI.2
      repeat (first | refine WC.seq ?_ | refine WC.reg ?_ | refine WL.pure rfl rfl rfl ?_ | refine WL.nil ?_ | refine WC.skip ?_ | refine WC.block ?_ | refine WC.condT rfl ?_ | refine WC.condF rfl ?_ | refine WL.off rfl rfl rfl ?_ | refine WL.off0 rfl rfl ?_ | refine WC.exit ?_ | refine blk_hit ?_ | refine blk_miss rfl ?_ | refine WC.ret ?_)
      exact Res.zero rfl rfl ⟨_, hd2, hI.1, hI.2, hp2⟩
    have h12 : a1 + 13 ≤ e1 := by have := of_decide_eq_false hc; rw [el] at this; omega
    clear hc
    refine WC.known (d := 12) (congrArg (fun z => some (Value.int .i64 z)) el) ?_
    repeat (first | refine WC.seq ?_ | refine WC.reg ?_ | refine WL.pure rfl rfl rfl ?_ | refine WL.nil ?_ | refine WC.skip ?_ | refine WC.block ?_ | refine WC.condT rfl ?_ | refine WC.condF rfl ?_ | refine WL.off rfl rfl rfl ?_ | refine WL.off0 rfl rfl ?_ | refine WC.exit ?_ | refine blk_hit ?_ | refine blk_miss rfl ?_ | refine WC.ret ?_)
    refine WC.cond rfl (fun hc => ?_) (fun hc => ?_)
    · repeat (first | refine WC.seq ?_ | refine WC.reg ?_ | refine WL.pure rfl rfl rfl ?_ | refine WL.nil ?_ | refine WC.skip ?_ | refine WC.block ?_ | refine WC.condT rfl ?_ | refine WC.condF rfl ?_ | refine WL.off rfl rfl rfl ?_ | refine WL.off0 rfl rfl ?_ | refine WC.exit ?_ | refine blk_hit ?_ | refine blk_miss rfl ?_ | refine WC.ret ?_)
      refine WL.call rfl rfl rfl rfl rfl ent105 (heapSort_any b n cap t G ca cf hE SS w0 L hG (by omega) d1 hd a1 e1 (by omega) (by omega) w hp) ?_
      rintro _ w2 ⟨hd2, hp2⟩
      have hI := heapSort_holds (lt := ltO cf) hS d1 a1 e1 hae1 (by omega)
      have hI := hK _ hI.1 hI.2
      repeat (first | refine WC.seq ?_ | refine WC.reg ?_ | refine WL.pure rfl rfl rfl ?_ | refine WL.nil ?_ | refine WC.skip ?_ | refine WC.block ?_ | refine WC.condT rfl ?_ | refine WC.condF rfl ?_ | refine WL.off rfl rfl rfl ?_ | refine WL.off0 rfl rfl ?_ | refine WC.exit ?_ | refine blk_hit ?_ | refine blk_miss rfl ?_ | refine WC.ret ?_)
      exact Res.zero rfl rfl ⟨_, hd2, hI.1, hI.2, hp2⟩
    clear hc
    refine WC.skip ?_
    refine WC.seq ?_
    refine WC.mid (Int × Array Rp) (fun (l2, _) => [(0, .slice (some ⟨b, 0, none⟩) n cap), (1, .int .i64 (a1 : Nat)), (2, .int .i64 (e1 : Nat)), (3, .int .i64 l2), (4, .func (.func G) #[] ca), (10, .bool wb), (11, .bool wp), (12, .int .i64 (e1 - a1 : Nat))])
      (fun (_, d2) w' => Okd n SS d2 ∧ PermIn a1 e1 d1 d2 ∧ Hp w0 w' (BD b t d2 :: L)) ?_ ?_
    · refine WC.seq ?_
      repeat (first | refine WC.seq ?_ | refine WC.reg ?_ | refine WL.pure rfl rfl rfl ?_ | refine WL.nil ?_ | refine WC.skip ?_ | refine WC.block ?_ | refine WC.condT rfl ?_ | refine WC.condF rfl ?_ | refine WL.off rfl rfl rfl ?_ | refine WL.off0 rfl rfl ?_ | refine WC.exit ?_ | refine blk_hit ?_ | refine blk_miss rfl ?_ | refine WC.ret ?_)
      refine WC.cond rfl (fun hc => ?_) (fun hc => ?_)
      · repeat (first | refine WC.seq ?_ | refine WC.reg ?_ | refine WL.pure rfl rfl rfl ?_ | refine WL.nil ?_ | refine WC.skip ?_ | refine WC.block ?_ | refine WC.condT rfl ?_ | refine WC.condF rfl ?_ | refine WL.off rfl rfl rfl ?_ | refine WL.off0 rfl rfl ?_ | refine WC.exit ?_ | refine blk_hit ?_ | refine blk_miss rfl ?_ | refine WC.ret ?_)
        refine WL.call rfl rfl rfl rfl rfl ent106 (breakPatterns_any b n cap t G ca SS w0 L hn d1 hd a1 e1 (by omega) (by omega) w hp) ?_
        rintro _ w2 ⟨d2, hd2, hP2, hp2⟩
        repeat (first | refine WC.seq ?_ | refine WC.reg ?_ | refine WL.pure rfl rfl rfl ?_ | refine WL.nil ?_ | refine WC.skip ?_ | refine WC.block ?_ | refine WC.condT rfl ?_ | refine WC.condF rfl ?_ | refine WL.off rfl rfl rfl ?_ | refine WL.off0 rfl rfl ?_ | refine WC.exit ?_ | refine blk_hit ?_ | refine blk_miss rfl ?_ | refine WC.ret ?_)
        exact ⟨(_, d2), ⟨rfl, rfl, rfl, rfl, rfl, rfl, rfl, rfl, rfl⟩, hd2, hP2, hp2⟩
      · repeat (first | refine WC.seq ?_ | refine WC.reg ?_ | refine WL.pure rfl rfl rfl ?_ | refine WL.nil ?_ | refine WC.skip ?_ | refine WC.block ?_ | refine WC.condT rfl ?_ | refine WC.condF rfl ?_ | refine WL.off rfl rfl rfl ?_ | refine WL.off0 rfl rfl ?_ | refine WC.exit ?_ | refine blk_hit ?_ | refine blk_miss rfl ?_ | refine WC.ret ?_)
        exact ⟨(_, d1), ⟨rfl, rfl, rfl, rfl, rfl, rfl, rfl, rfl, rfl⟩, hd, permIn_refl _ _ _, hp⟩
    clear hp
    rintro ⟨l2, d2⟩ e7 w hsub ⟨hd2, hP2, hp⟩
    refine WC.sub hsub ?_
    clear hsub e7
    repeat (first | refine WC.seq ?_ | refine WC.reg ?_ | refine WL.pure rfl rfl rfl ?_ | refine WL.nil ?_ | refine WC.skip ?_ | refine WC.block ?_ | refine WC.condT rfl ?_ | refine WC.condF rfl ?_ | refine WL.off rfl rfl rfl ?_ | refine WL.off0 rfl rfl ?_ | refine WC.exit ?_ | refine blk_hit ?_ | refine blk_miss rfl ?_ | refine WC.ret ?_)
    refine WL.call rfl rfl rfl rfl rfl ent107 (choosePivot_any b n cap t G ca cf hE SS w0 L hG (by omega) d2 hd2 a1 e1 (by omega) (by omega) w hp) ?_
    rintro _ w2 ⟨p, h, rfl, hp1, hp2, hpp⟩
    clear hp
    repeat (first | refine WL.pure rfl rfl rfl ?_ | refine WL.nil ?_)
    refine WC.seq ?_
    refine WC.mid (Nat × Int × Array Rp) (fun (p, h, _) => [(0, .slice (some ⟨b, 0, none⟩) n cap), (1, .int .i64 (a1 : Nat)), (2, .int .i64 (e1 : Nat)), (3, .int .i64 l2), (4, .func (.func G) #[] ca), (10, .bool wb), (11, .bool wp), (12, .int .i64 (e1 - a1 : Nat)), (13, .int .i64 (p : Nat)), (14, .int .i64 h)])
      (fun (p, _, d3) w' => a1 ≤ p ∧ p < e1 ∧ Okd n SS d3 ∧ PermIn a1 e1 d1 d3 ∧ Hp w0 w' (BD b t d3 :: L)) ?_ ?_
    · refine WC.seq ?_
      repeat (first | refine WC.seq ?_ | refine WC.reg ?_ | refine WL.pure rfl rfl rfl ?_ | refine WL.nil ?_ | refine WC.skip ?_ | refine WC.block ?_ | refine WC.condT rfl ?_ | refine WC.condF rfl ?_ | refine WL.off rfl rfl rfl ?_ | refine WL.off0 rfl rfl ?_ | refine WC.exit ?_ | refine blk_hit ?_ | refine blk_miss rfl ?_ | refine WC.ret ?_)
      refine WC.cond rfl (fun hc => ?_) (fun hc => ?_)
      · have e5 : IntKind.i64.wrap (IntKind.i64.wrap (((e1 : Nat) : Int) - 1) - IntKind.i64.wrap (((p : Nat) : Int) - ((a1 : Nat) : Int))) = ((e1 - 1 - (p - a1) : Nat) : Int) := by
          rw [w_sub (x := p) (y := a1) (by omega) (by omega), wrap_mid (z := ((e1 : Nat) : Int) - 1) (by omega) (by omega), wrap_mid (by omega) (by omega)]; omega
        repeat (first | refine WC.seq ?_ | refine WC.reg ?_ | refine WL.pure rfl rfl rfl ?_ | refine WL.nil ?_ | refine WC.skip ?_ | refine WC.block ?_ | refine WC.condT rfl ?_ | refine WC.condF rfl ?_ | refine WL.off rfl rfl rfl ?_ | refine WL.off0 rfl rfl ?_ | refine WC.exit ?_ | refine blk_hit ?_ | refine blk_miss rfl ?_ | refine WC.ret ?_)
        refine WL.call rfl rfl rfl rfl rfl ent108 (reverseRange_any b n cap t G ca SS w0 L (by omega) d2 hd2 a1 e1 (by omega) (by omega) w2 hpp) ?_
        rintro _ w3 ⟨hd3, hp3⟩
        repeat (first | refine WC.seq ?_ | refine WC.reg ?_ | refine WL.pure rfl rfl rfl ?_ | refine WL.nil ?_ | refine WC.skip ?_ | refine WC.block ?_ | refine WC.condT rfl ?_ | refine WC.condF rfl ?_ | refine WL.off rfl rfl rfl ?_ | refine WL.off0 rfl rfl ?_ | refine WC.exit ?_ | refine blk_hit ?_ | refine blk_miss rfl ?_ | refine WC.ret ?_)
        exact ⟨(e1 - 1 - (p - a1), 1, _), ⟨rfl, rfl, rfl, rfl, rfl, rfl, rfl, rfl, congrArg (fun z => some (Value.int .i64 z)) e5, rfl, rfl⟩, by omega, by omega, hd3, permIn_trans _ _ _ _ _ hP2 (reverseRange_holds d2 a1 e1 hae1 (by rw [hd2.sz]; omega)), hp3⟩
      · repeat (first | refine WC.seq ?_ | refine WC.reg ?_ | refine WL.pure rfl rfl rfl ?_ | refine WL.nil ?_ | refine WC.skip ?_ | refine WC.block ?_ | refine WC.condT rfl ?_ | refine WC.condF rfl ?_ | refine WL.off rfl rfl rfl ?_ | refine WL.off0 rfl rfl ?_ | refine WC.exit ?_ | refine blk_hit ?_ | refine blk_miss rfl ?_ | refine WC.ret ?_)
        exact ⟨(p, h, d2), ⟨rfl, rfl, rfl, rfl, rfl, rfl, rfl, rfl, rfl, rfl, rfl⟩, hp1, hp2, hd2, hP2, hpp⟩
    clear hpp hP2 hd2 hp1 hp2
    rintro ⟨p, h, d3⟩ e7 w3 hsub ⟨hp1, hp2, hd3, hP3, hp⟩
    refine WC.sub hsub ?_
    clear hsub e7
    have hB3 := hB.perm (by omega) hP3
    refine WC.seq ?_
    refine WC.mid (Array Rp) (fun _ => [(0, .slice (some ⟨b, 0, none⟩) n cap), (1, .int .i64 (a1 : Nat)), (2, .int .i64 (e1 : Nat)), (3, .int .i64 l2), (4, .func (.func G) #[] ca), (10, .bool wb), (11, .bool wp), (12, .int .i64 (e1 - a1 : Nat)), (13, .int .i64 (p : Nat))])
      (fun d4 w' => Okd n SS d4 ∧ PermIn a1 e1 d1 d4 ∧ Hp w0 w' (BD b t d4 :: L)) ?_ ?_
    · refine WC.seq ?_
      repeat (first | refine WC.seq ?_ | refine WC.reg ?_ | refine WL.pure rfl rfl rfl ?_ | refine WL.nil ?_ | refine WC.skip ?_ | refine WC.block ?_ | refine WC.condT rfl ?_ | refine WC.condF rfl ?_ | refine WL.off rfl rfl rfl ?_ | refine WL.off0 rfl rfl ?_ | refine WC.exit ?_ | refine blk_hit ?_ | refine blk_miss rfl ?_ | refine WC.ret ?_)
      refine WL.split 69 rfl (fun hc => ?_) (fun hc => ?_)
      · repeat (first | refine WC.seq ?_ | refine WC.reg ?_ | refine WL.pure rfl rfl rfl ?_ | refine WL.nil ?_ | refine WC.skip ?_ | refine WC.block ?_ | refine WC.condT rfl ?_ | refine WC.condF rfl ?_ | refine WL.off rfl rfl rfl ?_ | refine WL.off0 rfl rfl ?_ | refine WC.exit ?_ | refine blk_hit ?_ | refine blk_miss rfl ?_ | refine WC.ret ?_)
        refine WL.split 72 rfl (fun hc2 => ?_) (fun hc2 => ?_)
        · repeat (first | refine WC.seq ?_ | refine WC.reg ?_ | refine WL.pure rfl rfl rfl ?_ | refine WL.nil ?_ | refine WC.skip ?_ | refine WC.block ?_ | refine WC.condT rfl ?_ | refine WC.condF rfl ?_ | refine WL.off rfl rfl rfl ?_ | refine WL.off0 rfl rfl ?_ | refine WC.exit ?_ | refine blk_hit ?_ | refine blk_miss rfl ?_ | refine WC.ret ?_)
          refine WC.cond rfl (fun hc => ?_) (fun hc => ?_)
          · repeat (first | refine WC.seq ?_ | refine WC.reg ?_ | refine WL.pure rfl rfl rfl ?_ | refine WL.nil ?_ | refine WC.skip ?_ | refine WC.block ?_ | refine WC.condT rfl ?_ | refine WC.condF rfl ?_ | refine WL.off rfl rfl rfl ?_ | refine WL.off0 rfl rfl ?_ | refine WC.exit ?_ | refine blk_hit ?_ | refine blk_miss rfl ?_ | refine WC.ret ?_)
            refine WL.call rfl rfl rfl rfl rfl ent109 (partialInsertion_any b n cap t G ca cf hE SS w0 L hG (by omega) d3 hd3 a1 e1 (by omega) (by omega) w3 hp) ?_
            rintro _ w4 ⟨rfl, hd4, hp4⟩
            have hI := partialInsertionSort_holds (lt := ltO cf) hS d3 a1 e1 (by omega) (by rw [hd3.sz]; omega) hB3
            have hP4 := permIn_trans _ _ _ _ _ hP3 hI.1
            refine WL.nil ?_
            refine WC.cond rfl (fun hc => ?_) (fun hc => ?_)
            · have hK2 := hK _ hP4 (hI.2 hc)
              repeat (first | refine WC.seq ?_ | refine WC.reg ?_ | refine WL.pure rfl rfl rfl ?_ | refine WL.nil ?_ | refine WC.skip ?_ | refine WC.block ?_ | refine WC.condT rfl ?_ | refine WC.condF rfl ?_ | refine WL.off rfl rfl rfl ?_ | refine WL.off0 rfl rfl ?_ | refine WC.exit ?_ | refine blk_hit ?_ | refine blk_miss rfl ?_ | refine WC.ret ?_)
              exact Res.zero rfl rfl ⟨_, hd4, hK2.1, hK2.2, hp4⟩
            · repeat (first | refine WC.seq ?_ | refine WC.reg ?_ | refine WL.pure rfl rfl rfl ?_ | refine WL.nil ?_ | refine WC.skip ?_ | refine WC.block ?_ | refine WC.condT rfl ?_ | refine WC.condF rfl ?_ | refine WL.off rfl rfl rfl ?_ | refine WL.off0 rfl rfl ?_ | refine WC.exit ?_ | refine blk_hit ?_ | refine blk_miss rfl ?_ | refine WC.ret ?_)
              exact ⟨_, ⟨rfl, rfl, rfl, rfl, rfl, rfl, rfl, rfl, rfl, rfl⟩, hd4, hP4, hp4⟩
          · repeat (first | refine WC.seq ?_ | refine WC.reg ?_ | refine WL.pure rfl rfl rfl ?_ | refine WL.nil ?_ | refine WC.skip ?_ | refine WC.block ?_ | refine WC.condT rfl ?_ | refine WC.condF rfl ?_ | refine WL.off rfl rfl rfl ?_ | refine WL.off0 rfl rfl ?_ | refine WC.exit ?_ | refine blk_hit ?_ | refine blk_miss rfl ?_ | refine WC.ret ?_)
            exact ⟨d3, ⟨rfl, rfl, rfl, rfl, rfl, rfl, rfl, rfl, rfl, rfl⟩, hd3, hP3, hp⟩
        · repeat (first | refine WC.seq ?_ | refine WC.reg ?_ | refine WL.pure rfl rfl rfl ?_ | refine WL.nil ?_ | refine WC.skip ?_ | refine WC.block ?_ | refine WC.condT rfl ?_ | refine WC.condF rfl ?_ | refine WL.off rfl rfl rfl ?_ | refine WL.off0 rfl rfl ?_ | refine WC.exit ?_ | refine blk_hit ?_ | refine blk_miss rfl ?_ | refine WC.ret ?_)
          exact ⟨d3, ⟨rfl, rfl, rfl, rfl, rfl, rfl, rfl, rfl, rfl, rfl⟩, hd3, hP3, hp⟩
      · repeat (first | refine WC.seq ?_ | refine WC.reg ?_ | refine WL.pure rfl rfl rfl ?_ | refine WL.nil ?_ | refine WC.skip ?_ | refine WC.block ?_ | refine WC.condT rfl ?_ | refine WC.condF rfl ?_ | refine WL.off rfl rfl rfl ?_ | refine WL.off0 rfl rfl ?_ | refine WC.exit ?_ | refine blk_hit ?_ | refine blk_miss rfl ?_ | refine WC.ret ?_)
        exact ⟨d3, ⟨rfl, rfl, rfl, rfl, rfl, rfl, rfl, rfl, rfl, rfl⟩, hd3, hP3, hp⟩
    clear hp hP3 hd3 hB3
    rintro d4 e7 w4 hsub ⟨hd4, hP4, hp⟩
    refine WC.sub hsub ?_
    clear hsub e7 w3 d3
    have hB4 := hB.perm (by omega) hP4
    have hsz4 := hd4.sz
    refine WC.seq ?_
    refine WC.mid Unit (fun _ => [(0, .slice (some ⟨b, 0, none⟩) n cap), (1, .int .i64 (a1 : Nat)), (2, .int .i64 (e1 : Nat)), (3, .int .i64 l2), (4, .func (.func G) #[] ca), (10, .bool wb), (11, .bool wp), (12, .int .i64 (e1 - a1 : Nat)), (13, .int .i64 (p : Nat))])
      (fun _ w' => Hp w0 w' (BD b t d4 :: L)) ?_ ?_
    · refine WC.seq ?_
      refine WC.regQ (fun w' => Hp w0 w' (BD b t d4 :: L)) mixed (by kernel_rfl) (fun w' hw' => hp.keep hw') ?_
      repeat (first | refine WQ.pure rfl rfl rfl ?_ | refine WQ.off rfl rfl rfl ?_ | refine WQ.nil ?_)
      refine WQ.split 83 rfl (fun h1 => ?_) (fun h1 => ?_)
      · have h1 : 0 < a1 := by have := of_decide_eq_true h1; omega
        have ea : IntKind.i64.wrap (((a1 : Nat) : Int) - 1) = ((a1 - 1 : Nat) : Int) := by rw [wrap_mid (by omega) (by omega)]; omega
        repeat (first | refine WQ.pure rfl rfl rfl ?_ | refine WQ.off rfl rfl rfl ?_ | refine WQ.nil ?_)
        refine WQ.known (d := 87) (congrArg (fun z => some (Value.int .i64 z)) ea) ?_
        refine WQ.ixD (j := a1 - 1) rfl (fun _ => rfl) rfl rfl rfl rfl rfl rfl rfl rfl rfl (fun _ h => h) (by omega) (by omega) ?_
        repeat (first | refine WQ.pure rfl rfl rfl ?_ | refine WQ.off rfl rfl rfl ?_ | refine WQ.nil ?_)
        refine WQ.ixD (j := p) rfl (fun _ => rfl) rfl rfl rfl rfl rfl rfl rfl rfl rfl (fun _ h => h) (by omega) (by omega) ?_
        refine WQ.call rfl rfl rfl rfl rfl hE (hG.q (hd4.all (a1 - 1) (by omega)) (hd4.all p (by omega))) ?_
        repeat (first | refine WQ.pure rfl rfl rfl ?_ | refine WQ.off rfl rfl rfl ?_ | refine WQ.nil ?_)
        clear hp w4
        intro w4 hp
        refine WC.cond rfl (fun hc => ?_) (fun hc => ?_)
        · have hnl : ltO cf d4[a1 - 1]! d4[p]! = false := by
            have h2 : (!ltO cf d4[a1 - 1]! d4[p]!) = true := hc
            simpa using h2
          obtain ⟨m, hm⟩ : ∃ m, partitionEqual (ltO cf) d4 a1 e1 p = m := ⟨_, rfl⟩
          obtain ⟨mid, d5⟩ := m
          obtain ⟨q1, q2, q3, q4, q5⟩ := round_eq (lt := ltO cf) hS (partitionEqual_holds _) h1 hp1 hp2 (by omega) hB4 hnl hm
          have hpe := partitionEqual_any b n cap t G ca cf hE SS w0 L hG (by omega) d4 hd4 a1 e1 p hp1 hp2 (by omega) w4 hp
          rw [hm] at hpe
          repeat (first | refine WC.seq ?_ | refine WC.reg ?_ | refine WL.pure rfl rfl rfl ?_ | refine WL.nil ?_ | refine WC.skip ?_ | refine WC.block ?_ | refine WC.condT rfl ?_ | refine WC.condF rfl ?_ | refine WL.off rfl rfl rfl ?_ | refine WL.off0 rfl rfl ?_ | refine WC.exit ?_ | refine blk_hit ?_ | refine blk_miss rfl ?_ | refine WC.ret ?_)
          refine WL.call rfl rfl rfl rfl rfl ent110 hpe ?_
          rintro _ w5 ⟨rfl, hd5, hp5⟩
          repeat (first | refine WC.seq ?_ | refine WC.reg ?_ | refine WL.pure rfl rfl rfl ?_ | refine WL.nil ?_ | refine WC.skip ?_ | refine WC.block ?_ | refine WC.condT rfl ?_ | refine WC.condF rfl ?_ | refine WL.off rfl rfl rfl ?_ | refine WL.off0 rfl rfl ?_ | refine WC.exit ?_ | refine blk_hit ?_ | refine blk_miss rfl ?_ | refine WC.ret ?_)
          exact ⟨(mid, e1, l2, wb, wp, d5), by show e1 - mid < e1 - a1; omega, ⟨rfl, rfl, rfl, rfl, rfl, rfl, rfl, rfl⟩, by omega, q2, he1, hd5, q4, fun R r1 r2 => hK R (permIn_trans _ _ _ _ _ hP4 (q5 R r1 r2).1) (q5 R r1 r2).2, hp5⟩
        · repeat (first | refine WC.seq ?_ | refine WC.reg ?_ | refine WL.pure rfl rfl rfl ?_ | refine WL.nil ?_ | refine WC.skip ?_ | refine WC.block ?_ | refine WC.condT rfl ?_ | refine WC.condF rfl ?_ | refine WL.off rfl rfl rfl ?_ | refine WL.off0 rfl rfl ?_ | refine WC.exit ?_ | refine blk_hit ?_ | refine blk_miss rfl ?_ | refine WC.ret ?_)
          exact ⟨(), ⟨rfl, rfl, rfl, rfl, rfl, rfl, rfl, rfl, rfl, rfl⟩, hp⟩
      · repeat (first | refine WQ.pure rfl rfl rfl ?_ | refine WQ.off rfl rfl rfl ?_ | refine WQ.nil ?_)
        clear hp w4
        intro w4 hp
        repeat (first | refine WC.seq ?_ | refine WC.reg ?_ | refine WL.pure rfl rfl rfl ?_ | refine WL.nil ?_ | refine WC.skip ?_ | refine WC.block ?_ | refine WC.condT rfl ?_ | refine WC.condF rfl ?_ | refine WL.off rfl rfl rfl ?_ | refine WL.off0 rfl rfl ?_ | refine WC.exit ?_ | refine blk_hit ?_ | refine blk_miss rfl ?_ | refine WC.ret ?_)
        exact ⟨(), ⟨rfl, rfl, rfl, rfl, rfl, rfl, rfl, rfl, rfl, rfl⟩, hp⟩
    clear hp w4
    rintro ⟨⟩ e7 w4 hsub hp
    refine WC.sub hsub ?_
    clear hsub e7
    obtain ⟨m, hm⟩ : ∃ m, partition (ltO cf) d4 a1 e1 p = m := ⟨_, rfl⟩
    obtain ⟨mid, ap, d5⟩ := m
    obtain ⟨q1, q2, q3, q4, q5, q6, q7⟩ := round_part (lt := ltO cf) hS (partition_holds _) hp1 hp2 (by omega) hB4 hm
    repeat (first | refine WC.seq ?_ | refine WC.reg ?_ | refine WL.pure rfl rfl rfl ?_ | refine WL.nil ?_ | refine WC.skip ?_ | refine WC.block ?_ | refine WC.condT rfl ?_ | refine WC.condF rfl ?_ | refine WL.off rfl rfl rfl ?_ | refine WL.off0 rfl rfl ?_ | refine WC.exit ?_ | refine blk_hit ?_ | refine blk_miss rfl ?_ | refine WC.ret ?_)
    refine WL.call rfl rfl rfl rfl rfl ent111 (partition_any b n cap t G ca cf hE SS w0 L hG (by omega) d4 hd4 a1 e1 p hp1 hp2 (by omega) w4 hp) ?_
    rw [hm]
    rintro _ w5 ⟨rfl, hd5, hp5⟩
    have e1' := w_sub (x := mid) (y := a1) (by omega) (by omega)
    have e2' := w_sub (x := e1) (y := mid) (by omega) (by omega)
    have e3' := wrap_succ (i := mid) (n := 100000) (by omega) (by omega)
    repeat (first | refine WC.seq ?_ | refine WC.reg ?_ | refine WL.pure rfl rfl rfl ?_ | refine WL.nil ?_ | refine WC.skip ?_ | refine WC.block ?_ | refine WC.condT rfl ?_ | refine WC.condF rfl ?_ | refine WL.off rfl rfl rfl ?_ | refine WL.off0 rfl rfl ?_ | refine WC.exit ?_ | refine blk_hit ?_ | refine blk_miss rfl ?_ | refine WC.ret ?_)
    refine WC.cond rfl (fun hc => ?_) (fun hc => ?_)
    · repeat (first | refine WC.seq ?_ | refine WC.reg ?_ | refine WL.pure rfl rfl rfl ?_ | refine WL.nil ?_ | refine WC.skip ?_ | refine WC.block ?_ | refine WC.condT rfl ?_ | refine WC.condF rfl ?_ | refine WL.off rfl rfl rfl ?_ | refine WL.off0 rfl rfl ?_ | refine WC.exit ?_ | refine blk_hit ?_ | refine blk_miss rfl ?_ | refine WC.ret ?_)
      refine WL.call rfl rfl rfl rfl rfl ent92 (ih d5 a1 mid l2 w5 (by omega) hd5 q1 (by omega) q4 hp5) ?_
      rintro _ w6 ⟨d6, hd6, hP6, hS6, hp6⟩
      obtain ⟨r1, r2⟩ := q6 d6 hP6 hS6
      repeat (first | refine WC.seq ?_ | refine WC.reg ?_ | refine WL.pure rfl rfl rfl ?_ | refine WL.nil ?_ | refine WC.skip ?_ | refine WC.block ?_ | refine WC.condT rfl ?_ | refine WC.condF rfl ?_ | refine WL.off rfl rfl rfl ?_ | refine WL.off0 rfl rfl ?_ | refine WC.exit ?_ | refine blk_hit ?_ | refine blk_miss rfl ?_ | refine WC.ret ?_)
      exact ⟨(mid + 1, e1, l2, _, ap, d6), by show e1 - (mid + 1) < e1 - a1; omega, ⟨rfl, congrArg (fun z => some (Value.int .i64 z)) e3', rfl, rfl, rfl, rfl, rfl, rfl⟩, by omega, by omega, he1, hd6, r1, fun R s1 s2 => hK R (permIn_trans _ _ _ _ _ hP4 (r2 R s1 s2).1) (r2 R s1 s2).2, hp6⟩
    · repeat (first | refine WC.seq ?_ | refine WC.reg ?_ | refine WL.pure rfl rfl rfl ?_ | refine WL.nil ?_ | refine WC.skip ?_ | refine WC.block ?_ | refine WC.condT rfl ?_ | refine WC.condF rfl ?_ | refine WL.off rfl rfl rfl ?_ | refine WL.off0 rfl rfl ?_ | refine WC.exit ?_ | refine blk_hit ?_ | refine blk_miss rfl ?_ | refine WC.ret ?_)
      refine WL.known (d := 142) (congrArg (fun z => some (Value.int .i64 z)) e3') ?_
      repeat (first | refine WC.seq ?_ | refine WC.reg ?_ | refine WL.pure rfl rfl rfl ?_ | refine WL.nil ?_ | refine WC.skip ?_ | refine WC.block ?_ | refine WC.condT rfl ?_ | refine WC.condF rfl ?_ | refine WL.off rfl rfl rfl ?_ | refine WL.off0 rfl rfl ?_ | refine WC.exit ?_ | refine blk_hit ?_ | refine blk_miss rfl ?_ | refine WC.ret ?_)
      refine WL.call rfl rfl rfl rfl rfl ent92 (ih d5 (mid + 1) e1 l2 w5 (by omega) hd5 (by omega) (by omega) q5 hp5) ?_
      rintro _ w6 ⟨d6, hd6, hP6, hS6, hp6⟩
      obtain ⟨r1, r2⟩ := q7 d6 hP6 hS6
      repeat (first | refine WC.seq ?_ | refine WC.reg ?_ | refine WL.pure rfl rfl rfl ?_ | refine WL.nil ?_ | refine WC.skip ?_ | refine WC.block ?_ | refine WC.condT rfl ?_ | refine WC.condF rfl ?_ | refine WL.off rfl rfl rfl ?_ | refine WL.off0 rfl rfl ?_ | refine WC.exit ?_ | refine blk_hit ?_ | refine blk_miss rfl ?_ | refine WC.ret ?_)
      exact ⟨(a1, mid, l2, _, ap, d6), by show mid - a1 < e1 - a1; omega, ⟨rfl, rfl, rfl, rfl, rfl, rfl, rfl, rfl⟩, by omega, q1, by omega, hd6, r1, fun R s1 s2 => hK R (permIn_trans _ _ _ _ _ hP4 (r2 R s1 s2).1) (r2 R s1 s2).2, hp6⟩
theorem SortFunc_any (hS : SWO (ltO cf)) (d : Array Rp) (hd : Okd n SS d) (w : World) (hp : Hp w0 w (BD b t d :: L)) :
    Ret Tryz.prog 73 [.slice (some ⟨b, 0, none⟩) n cap, .func (.func G) #[] ca] w fun _ w' => ∃ d', Okd n SS d' ∧ PermIn 0 n d d' ∧ SortedIn (ltO cf) 0 n d' ∧ Hp w0 w' (BD b t d' :: L) := by
  have e1 : IntKind.u64.wrap ((n : Nat) : Int) = ((n : Nat) : Int) := by rw [IntKind.wrap_u64]; omega
  refine enter Tryz.func73 rfl rfl ⟨rfl, rfl⟩ rfl ?_
  repeat (first | refine WC.seq ?_ | refine WC.reg ?_ | refine WL.pure rfl rfl rfl ?_ | refine WL.nil ?_ | refine WC.skip ?_ | refine WC.block ?_ | refine WC.condT rfl ?_ | refine WC.condF rfl ?_ | refine WL.off rfl rfl rfl ?_ | refine WL.off0 rfl rfl ?_ | refine WC.exit ?_ | refine blk_hit ?_ | refine blk_miss rfl ?_ | refine WC.ret ?_)
  refine WL.known (d := 10) (congrArg (fun z => some (Value.int .u64 z)) e1) ?_
  refine WL.call rfl rfl rfl rfl rfl ent93 (Len_any n (by omega) w) ?_
  rintro _ w1 ⟨⟨m, rfl, -⟩, rfl⟩
  repeat (first | refine WC.seq ?_ | refine WC.reg ?_ | refine WL.pure rfl rfl rfl ?_ | refine WL.nil ?_ | refine WC.skip ?_ | refine WC.block ?_ | refine WC.condT rfl ?_ | refine WC.condF rfl ?_ | refine WL.off rfl rfl rfl ?_ | refine WL.off0 rfl rfl ?_ | refine WC.exit ?_ | refine blk_hit ?_ | refine blk_miss rfl ?_ | refine WC.ret ?_)
  refine WL.call rfl rfl rfl rfl rfl ent92 (pdq_any b n cap t G ca cf hE SS w0 L hG hn hS n d 0 n m w1 (by omega) hd (Nat.zero_le _) (Nat.le_refl _) (.inl rfl) hp) ?_
  rintro _ w2 h
  repeat (first | refine WC.seq ?_ | refine WC.reg ?_ | refine WL.pure rfl rfl rfl ?_ | refine WL.nil ?_ | refine WC.skip ?_ | refine WC.block ?_ | refine WC.condT rfl ?_ | refine WC.condF rfl ?_ | refine WL.off rfl rfl rfl ?_ | refine WL.off0 rfl rfl ?_ | refine WC.exit ?_ | refine blk_hit ?_ | refine blk_miss rfl ?_ | refine WC.ret ?_)
  exact Res.zero rfl rfl h
end
end Go.Proofs.YtoghnhbjdnjghaaGreat
