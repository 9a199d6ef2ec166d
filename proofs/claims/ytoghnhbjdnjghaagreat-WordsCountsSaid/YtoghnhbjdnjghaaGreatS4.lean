/- The walks of a sort: the partial insertion, the pivot. -/
import Derived.Test.YtoghnhbjdnjghaaGreatS3
set_option linter.unusedSectionVars false
namespace Go.Sort
section
variable {α : Type} [Inhabited α] {lt : α → α → Bool}
theorem scanSorted_go {d : Array α} {b i : Nat} (h : i < b) (hl : lt d[i]! d[i - 1]! = false) : scanSorted lt d b i = scanSorted lt d b (i + 1) := by
  rw [scanSorted, if_pos (by rw [decide_eq_true h, hl]; rfl)]
theorem scanSorted_stop {d : Array α} {b i : Nat} (h : ¬ (i < b ∧ lt d[i]! d[i - 1]! = false)) : scanSorted lt d b i = i := by
  rw [scanSorted, if_neg (by simpa using h)]
theorem shiftDown_go {d : Array α} {j : Nat} (h : lt d[j + 1]! d[j]! = true) : shiftDown lt (j + 1) d = shiftDown lt j (swp d (j + 1) j) := by
  rw [shiftDown, if_neg (by rw [h]; decide)]
theorem shiftDown_stop {d : Array α} {j : Nat} (h : lt d[j]! d[j - 1]! = false) : shiftDown lt j d = d := by
  cases j with
  | zero => rfl
  | succ j => rw [shiftDown, if_pos (by rw [Nat.add_sub_cancel] at h; rw [h]; rfl)]
theorem shiftUp_go {d : Array α} {b j : Nat} (hj : j < b) (h : lt d[j]! d[j - 1]! = true) : shiftUp lt b j d = shiftUp lt b (j + 1) (swp d j (j - 1)) := by
  rw [shiftUp, if_pos hj, if_neg (by rw [h]; decide)]
theorem shiftUp_stop {d : Array α} {b j : Nat} (hj : j < b) (h : lt d[j]! d[j - 1]! = false) : shiftUp lt b j d = d := by
  rw [shiftUp, if_pos hj, if_pos (by rw [h]; rfl)]
theorem shiftUp_end {d : Array α} {b j : Nat} (hj : ¬ j < b) : shiftUp lt b j d = d := by rw [shiftUp, if_neg hj]
end
end Go.Sort
namespace Go.Proofs.YtoghnhbjdnjghaaGreat
open Go.W Go.Words Go.RowKit Go.Sort
set_option maxRecDepth 100000
attribute [local irreducible] WC WL WQ WS WH

section
variable (b n cap : Nat) (t : List Value) (G : FuncId) (ca : Array Value) (cf : Rp → Rp → Int) (hE : Ents Tryz.prog G) (SS : Rp → Prop) (w0 : World) (L : List Ent) (hG : CmpOk b t G ca cf SS w0 L) (hn : n ≤ 1000000000)
include hE hG hn

set_option maxHeartbeats 2000000 in
theorem partialInsertion_any (d : Array Rp) (hd : Okd n SS d) (a e : Nat) (hae : a < e) (hen : e ≤ n) (w : World) (hp : Hp w0 w (BD b t d :: L)) :
    Ret Tryz.prog 109 [.slice (some ⟨b, 0, none⟩) n cap, .int .i64 (a : Nat), .int .i64 (e : Nat), .func (.func G) #[] ca] w fun u w' => u = .bool (partialInsertionSort (ltO cf) d a e).2 ∧ Okd n SS (partialInsertionSort (ltO cf) d a e).1 ∧ Hp w0 w' (BD b t (partialInsertionSort (ltO cf) d a e).1 :: L) := by
  have e1 := wrap_succ (i := a) (n := 1000000001) (by omega) (by omega)
  obtain ⟨R, hR⟩ : ∃ R, partialInsertionSort (ltO cf) d a e = R := ⟨_, rfl⟩
  rw [hR]
  unfold partialInsertionSort at hR
  refine enter Tryz.func109 rfl rfl ⟨rfl, rfl⟩ rfl ?_
  repeat (first | refine WC.seq ?_ | refine WC.reg ?_ | refine WL.pure rfl rfl rfl ?_ | refine WL.nil ?_ | refine WC.skip ?_ | refine WC.block ?_ | refine WC.condT rfl ?_ | refine WC.condF rfl ?_ | refine WL.off rfl rfl rfl ?_ | refine WL.off0 rfl rfl ?_ | refine WC.exit ?_ | refine blk_hit ?_ | refine blk_miss rfl ?_ | refine WC.ret ?_)
  refine WC.loop (Nat × Nat × Array Rp) (fun (s, i, _) => [(0, .slice (some ⟨b, 0, none⟩) n cap), (1, .int .i64 (a : Nat)), (2, .int .i64 (e : Nat)), (3, .func (.func G) #[] ca), (9, .int .i64 (i : Nat)), (10, .int .i64 ((5 : Int) - (s : Int)))])
    (fun (s, i, d1) w' => s ≤ 5 ∧ a < i ∧ i ≤ e ∧ Okd n SS d1 ∧ partialIns (ltO cf) a e s i d1 = R ∧ Hp w0 w' (BD b t d1 :: L)) (fun (s, _, _) => s) (5, a + 1, d) ⟨rfl, rfl, rfl, rfl, congrArg (fun z => some (Value.int .i64 z)) e1, rfl, rfl⟩ ⟨by omega, by omega, by omega, hd, hR, hp⟩ ?_
  clear hp hR hd
  rintro ⟨s, i0, d1⟩ w ⟨hs, hi0, hi0e, hOK, hR, hp⟩
  have hsz := hOK.sz
  repeat (first | refine WC.seq ?_ | refine WC.reg ?_ | refine WL.pure rfl rfl rfl ?_ | refine WL.nil ?_ | refine WC.skip ?_ | refine WC.block ?_ | refine WC.condT rfl ?_ | refine WC.condF rfl ?_ | refine WL.off rfl rfl rfl ?_ | refine WL.off0 rfl rfl ?_ | refine WC.exit ?_ | refine blk_hit ?_ | refine blk_miss rfl ?_ | refine WC.ret ?_)
  refine WC.cond rfl (fun hc => ?_) (fun hc => ?_)
  · obtain ⟨s, rfl⟩ : ∃ k, s = k + 1 := ⟨s - 1, by have := of_decide_eq_true hc; omega⟩
    rw [partialIns_succ] at hR
    have es : IntKind.i64.wrap ((5 : Int) - ((s + 1 : Nat) : Int) + 1) = (5 : Int) - ((s : Nat) : Int) := by rw [wrap_mid (by omega) (by omega)]; omega
    have eea := w_sub (x := e) (y := a) (by omega) (by omega)
    repeat (first | refine WC.seq ?_ | refine WC.reg ?_ | refine WL.pure rfl rfl rfl ?_ | refine WL.nil ?_ | refine WC.skip ?_ | refine WC.block ?_ | refine WC.condT rfl ?_ | refine WC.condF rfl ?_ | refine WL.off rfl rfl rfl ?_ | refine WL.off0 rfl rfl ?_ | refine WC.exit ?_ | refine blk_hit ?_ | refine blk_miss rfl ?_ | refine WC.ret ?_)
    refine WC.loop Nat (fun i => [(0, .slice (some ⟨b, 0, none⟩) n cap), (1, .int .i64 (a : Nat)), (2, .int .i64 (e : Nat)), (3, .func (.func G) #[] ca), (9, .int .i64 (i : Nat)), (10, .int .i64 ((5 : Int) - ((s + 1 : Nat) : Int)))])
      (fun i w' => i0 ≤ i ∧ i ≤ e ∧ scanSorted (ltO cf) d1 e i0 = scanSorted (ltO cf) d1 e i ∧ Hp w0 w' (BD b t d1 :: L)) (fun i => e - i) i0 ⟨rfl, rfl, rfl, rfl, rfl, rfl, rfl⟩ ⟨Nat.le_refl _, hi0e, rfl, hp⟩ ?_
    rintro i w ⟨hi1, hi2, hiS, hp⟩
    have ei : IntKind.i64.wrap (((i : Nat) : Int) - 1) = ((i - 1 : Nat) : Int) := by rw [wrap_mid (by omega) (by omega)]; omega
    refine WC.seq ?_
    refine WC.seq ?_
    refine WC.mid Bool (fun q => [(0, .slice (some ⟨b, 0, none⟩) n cap), (1, .int .i64 (a : Nat)), (2, .int .i64 (e : Nat)), (3, .func (.func G) #[] ca), (9, .int .i64 (i : Nat)), (10, .int .i64 ((5 : Int) - ((s + 1 : Nat) : Int))), (36, .bool q)])
      (fun q w' => (q = true ↔ i < e ∧ ltO cf d1[i]! d1[i - 1]! = false) ∧ Hp w0 w' (BD b t d1 :: L)) ?_ ?_
    · refine WC.regQ (fun w' => Hp w0 w' (BD b t d1 :: L)) mixed (by kernel_rfl) (fun w' hw' => hp.keep hw') ?_
      repeat (first | refine WQ.pure rfl rfl rfl ?_ | refine WQ.off rfl rfl rfl ?_ | refine WQ.nil ?_)
      refine WQ.split 22 rfl (fun h1 => ?_) (fun h1 => ?_)
      · have h1 : i < e := by have := of_decide_eq_true h1; omega
        repeat (first | refine WQ.pure rfl rfl rfl ?_ | refine WQ.off rfl rfl rfl ?_ | refine WQ.nil ?_)
        refine WQ.ixD (j := i) rfl (fun _ => rfl) rfl rfl rfl rfl rfl rfl rfl rfl rfl (fun _ h => h) (by omega) (by omega) ?_
        repeat (first | refine WQ.pure rfl rfl rfl ?_ | refine WQ.off rfl rfl rfl ?_ | refine WQ.nil ?_)
        refine WQ.known (d := 30) (congrArg (fun z => some (Value.int .i64 z)) ei) ?_
        refine WQ.ixD (j := i - 1) rfl (fun _ => rfl) rfl rfl rfl rfl rfl rfl rfl rfl rfl (fun _ h => h) (by omega) (by omega) ?_
        refine WQ.call rfl rfl rfl rfl rfl hE (hG.q (hOK.all i (by omega)) (hOK.all (i - 1) (by omega))) ?_
        repeat (first | refine WQ.pure rfl rfl rfl ?_ | refine WQ.off rfl rfl rfl ?_ | refine WQ.nil ?_)
        intro w' hp'
        refine ⟨_, ⟨rfl, rfl, rfl, rfl, rfl, rfl, rfl, rfl⟩, ⟨fun h => ⟨h1, ?_⟩, fun h => ?_⟩, hp'⟩
        · have h2 : (!ltO cf d1[i]! d1[i - 1]!) = true := h
          simpa using h2
        · show (!ltO cf d1[i]! d1[i - 1]!) = true
          rw [h.2]; rfl
      · have h1 : ¬ i < e := by have := of_decide_eq_false h1; omega
        repeat (first | refine WQ.pure rfl rfl rfl ?_ | refine WQ.off rfl rfl rfl ?_ | refine WQ.nil ?_)
        intro w' hp'
        exact ⟨false, ⟨rfl, rfl, rfl, rfl, rfl, rfl, rfl, rfl⟩, ⟨fun h => (by cases h), fun h => absurd h.1 h1⟩, hp'⟩
    rintro q e3 w hsub ⟨hq, hp⟩
    refine WC.sub hsub ?_
    clear hsub e3
    refine WC.cond rfl (fun hc2 => ?_) (fun hc2 => ?_)
    · obtain ⟨hg1, hg2⟩ := hq.1 hc2
      have step := wrap_succ (i := i) (n := 1000000001) (by omega) (by omega)
      rw [scanSorted_go hg1 hg2] at hiS
      repeat (first | refine WC.seq ?_ | refine WC.reg ?_ | refine WL.pure rfl rfl rfl ?_ | refine WL.nil ?_ | refine WC.skip ?_ | refine WC.block ?_ | refine WC.condT rfl ?_ | refine WC.condF rfl ?_ | refine WL.off rfl rfl rfl ?_ | refine WL.off0 rfl rfl ?_ | refine WC.exit ?_ | refine blk_hit ?_ | refine blk_miss rfl ?_ | refine WC.ret ?_)
      exact ⟨i + 1, by show e - (i + 1) < e - i; omega, ⟨rfl, rfl, rfl, rfl, congrArg (fun z => some (Value.int .i64 z)) step, rfl, rfl⟩, by omega, by omega, hiS, hp⟩
    have hst := scanSorted_stop (lt := ltO cf) (d := d1) (b := e) (i := i) (fun h => by have := hq.2 h; rw [hc2] at this; cases this)
    rw [hst] at hiS
    rw [hiS] at hR
    clear hq hc2 hst hc
    repeat (first | refine WC.seq ?_ | refine WC.reg ?_ | refine WL.pure rfl rfl rfl ?_ | refine WL.nil ?_ | refine WC.skip ?_ | refine WC.block ?_ | refine WC.condT rfl ?_ | refine WC.condF rfl ?_ | refine WL.off rfl rfl rfl ?_ | refine WL.off0 rfl rfl ?_ | refine WC.exit ?_ | refine blk_hit ?_ | refine blk_miss rfl ?_ | refine WC.ret ?_)
    refine WC.cond rfl (fun hc => ?_) (fun hc => ?_)
    · have hie : i = e := by
        have : ((i : Nat) : Int) = ((e : Nat) : Int) := by simpa using hc
        omega
      rw [if_pos hie] at hR
      subst hR
      repeat (first | refine WC.seq ?_ | refine WC.reg ?_ | refine WL.pure rfl rfl rfl ?_ | refine WL.nil ?_ | refine WC.skip ?_ | refine WC.block ?_ | refine WC.condT rfl ?_ | refine WC.condF rfl ?_ | refine WL.off rfl rfl rfl ?_ | refine WL.off0 rfl rfl ?_ | refine WC.exit ?_ | refine blk_hit ?_ | refine blk_miss rfl ?_ | refine WC.ret ?_)
      exact Res.one rfl rfl rfl ⟨rfl, hOK, hp⟩
    have hie : i ≠ e := by
      have : ¬ ((i : Nat) : Int) = ((e : Nat) : Int) := by simpa using hc
      omega
    rw [if_neg hie] at hR
    repeat (first | refine WC.seq ?_ | refine WC.reg ?_ | refine WL.pure rfl rfl rfl ?_ | refine WL.nil ?_ | refine WC.skip ?_ | refine WC.block ?_ | refine WC.condT rfl ?_ | refine WC.condF rfl ?_ | refine WL.off rfl rfl rfl ?_ | refine WL.off0 rfl rfl ?_ | refine WC.exit ?_ | refine blk_hit ?_ | refine blk_miss rfl ?_ | refine WC.ret ?_)
    refine WC.cond rfl (fun hc => ?_) (fun hc => ?_)
    · have h50 : e - a < 50 := by have := of_decide_eq_true hc; rw [eea] at this; omega
      rw [if_pos h50] at hR
      subst hR
      repeat (first | refine WC.seq ?_ | refine WC.reg ?_ | refine WL.pure rfl rfl rfl ?_ | refine WL.nil ?_ | refine WC.skip ?_ | refine WC.block ?_ | refine WC.condT rfl ?_ | refine WC.condF rfl ?_ | refine WL.off rfl rfl rfl ?_ | refine WL.off0 rfl rfl ?_ | refine WC.exit ?_ | refine blk_hit ?_ | refine blk_miss rfl ?_ | refine WC.ret ?_)
      exact Res.one rfl rfl rfl ⟨rfl, hOK, hp⟩
    have h50 : ¬ e - a < 50 := by have := of_decide_eq_false hc; rw [eea] at this; omega
    rw [if_neg h50] at hR
    repeat (first | refine WC.seq ?_ | refine WC.reg ?_ | refine WL.pure rfl rfl rfl ?_ | refine WL.nil ?_ | refine WC.skip ?_ | refine WC.block ?_ | refine WC.condT rfl ?_ | refine WC.condF rfl ?_ | refine WL.off rfl rfl rfl ?_ | refine WL.off0 rfl rfl ?_ | refine WC.exit ?_ | refine blk_hit ?_ | refine blk_miss rfl ?_ | refine WC.ret ?_)
    refine WC.mid Unit (fun _ => [(0, .slice (some ⟨b, 0, none⟩) n cap), (1, .int .i64 (a : Nat)), (2, .int .i64 (e : Nat)), (3, .func (.func G) #[] ca), (9, .int .i64 (i : Nat)), (10, .int .i64 ((5 : Int) - ((s + 1 : Nat) : Int)))]) (fun _ w' => Hp w0 w' (BD b t (Go.Sort.swp (d1) (i) (i - 1)) :: L)) ?_ ?_
    · refine WC.regH (fun _ => True) mixed (by kernel_rfl) (fun w6 hw6 hh6 => ?_)
      have kh6 := (hp).keep hw6
      refine WH.pure 0 (by kernel_rfl) rfl (by kernel_rfl) rfl rfl rfl trivial ?_
      refine WH.pure 1 (by kernel_rfl) rfl (by kernel_rfl) rfl rfl rfl trivial ?_
      refine WH.pure 2 (by kernel_rfl) rfl (by kernel_rfl) rfl rfl rfl trivial ?_
      refine WH.pure 3 (by kernel_rfl) rfl (by kernel_rfl) rfl rfl rfl trivial ?_
      refine WH.pure 4 (by kernel_rfl) rfl (by kernel_rfl) rfl rfl rfl trivial ?_
      refine WH.known (d := 50) (congrArg (fun z => some (Value.int .i64 z)) ei) ?_
      refine WH.pure 5 (by kernel_rfl) rfl (by kernel_rfl) rfl rfl rfl trivial ?_
      refine WH.pure 6 (by kernel_rfl) rfl (by kernel_rfl) rfl rfl rfl trivial ?_
      refine WH.pure 7 (by kernel_rfl) rfl (by kernel_rfl) rfl rfl rfl trivial ?_
      refine WH.known (d := 53) (congrArg (fun z => some (Value.int .i64 z)) ei) ?_
      refine WH.ixS 8 (by kernel_rfl) rfl (by kernel_rfl) rfl rfl rfl rfl rfl rfl (by omega) trivial ?_
      refine WH.pure 10 (by kernel_rfl) rfl (by kernel_rfl) rfl rfl rfl trivial ?_
      refine WH.pure 11 (by kernel_rfl) rfl (by kernel_rfl) rfl rfl rfl trivial ?_
      refine WH.ixS 12 (by kernel_rfl) rfl (by kernel_rfl) rfl rfl rfl rfl rfl rfl (by omega) trivial ?_
      refine WH.two 9 13 rfl rfl (by kernel_rfl) ?_ ?_
      · refine WL.loadN rfl rfl rfl rfl rfl rfl (cl_load kh6 (j := i - 1) (by omega)) (WL.nil ⟨trivial, ?_⟩)
        refine WH.one 13 rfl (by kernel_rfl) ?_
        refine WL.loadN rfl rfl rfl rfl rfl rfl (cl_load kh6 (j := i) (by omega)) (WL.nil ⟨trivial, ?_⟩)
        refine WH.ixS 14 (by kernel_rfl) rfl (by kernel_rfl) rfl rfl rfl rfl rfl rfl (by omega) trivial ?_
        refine WH.one 15 rfl (by kernel_rfl) ?_
        refine WL.storeN rfl rfl rfl rfl rfl (rc_one (d1)[i - 1]!) (kh6.obj 0 rfl) (cl_room (by omega)) (cl_store (j := i) (by omega)) (fun w7 hw7 => WL.nil ⟨trivial, ?_⟩)
        have hp7 := kh6.set 0 rfl rfl hw7
        refine WH.ixS 16 (by kernel_rfl) rfl (by kernel_rfl) rfl rfl rfl rfl rfl rfl (by omega) trivial ?_
        refine WH.one 17 rfl (by kernel_rfl) ?_
        refine WL.storeN rfl rfl rfl rfl rfl (rc_one (d1)[i]!) (hp7.obj 0 rfl) (cl_room (by rw [Array.size_setIfInBounds]; omega)) (cl_store (j := i - 1) (by rw [Array.size_setIfInBounds]; omega)) (fun w8 hw8 => WL.nil ⟨trivial, ?_⟩)
        have hp8 := hp7.set 0 rfl rfl hw8
        refine WH.done (by kernel_rfl) ?_
        exact ⟨(), ⟨rfl, rfl, rfl, rfl, rfl, rfl, rfl⟩, hp8⟩
      · refine WL.loadN rfl rfl rfl rfl rfl rfl (cl_load kh6 (j := i) (by omega)) (WL.nil ⟨trivial, ?_⟩)
        refine WH.one 9 rfl (by kernel_rfl) ?_
        refine WL.loadN rfl rfl rfl rfl rfl rfl (cl_load kh6 (j := i - 1) (by omega)) (WL.nil ⟨trivial, ?_⟩)
        refine WH.ixS 14 (by kernel_rfl) rfl (by kernel_rfl) rfl rfl rfl rfl rfl rfl (by omega) trivial ?_
        refine WH.one 15 rfl (by kernel_rfl) ?_
        refine WL.storeN rfl rfl rfl rfl rfl (rc_one (d1)[i - 1]!) (kh6.obj 0 rfl) (cl_room (by omega)) (cl_store (j := i) (by omega)) (fun w7 hw7 => WL.nil ⟨trivial, ?_⟩)
        have hp7 := kh6.set 0 rfl rfl hw7
        refine WH.ixS 16 (by kernel_rfl) rfl (by kernel_rfl) rfl rfl rfl rfl rfl rfl (by omega) trivial ?_
        refine WH.one 17 rfl (by kernel_rfl) ?_
        refine WL.storeN rfl rfl rfl rfl rfl (rc_one (d1)[i]!) (hp7.obj 0 rfl) (cl_room (by rw [Array.size_setIfInBounds]; omega)) (cl_store (j := i - 1) (by rw [Array.size_setIfInBounds]; omega)) (fun w8 hw8 => WL.nil ⟨trivial, ?_⟩)
        have hp8 := hp7.set 0 rfl rfl hw8
        refine WH.done (by kernel_rfl) ?_
        exact ⟨(), ⟨rfl, rfl, rfl, rfl, rfl, rfl, rfl⟩, hp8⟩
    rintro ⟨⟩ e6 w6 hsub hp6
    refine WC.sub hsub ?_
    clear hsub e6
    have hp := hp6
    have hOK := hOK.swp (i := i) (j := i - 1) (by omega) (by omega)
    clear hp6 hsz
    generalize swp d1 i (i - 1) = d2 at *
    have hia := w_sub (x := i) (y := a) (by omega) (by omega)
    have hei := w_sub (x := e) (y := i) (by omega) (by omega)
    refine WC.seq ?_
    refine WC.mid Unit (fun _ => [(0, .slice (some ⟨b, 0, none⟩) n cap), (1, .int .i64 (a : Nat)), (2, .int .i64 (e : Nat)), (3, .func (.func G) #[] ca), (9, .int .i64 (i : Nat)), (10, .int .i64 ((5 : Int) - ((s + 1 : Nat) : Int)))])
      (fun _ w' => Okd n SS (fixDown (ltO cf) a i d2) ∧ Hp w0 w' (BD b t (fixDown (ltO cf) a i d2) :: L)) ?_ ?_
    · refine WC.seq ?_
      repeat (first | refine WC.seq ?_ | refine WC.reg ?_ | refine WL.pure rfl rfl rfl ?_ | refine WL.nil ?_ | refine WC.skip ?_ | refine WC.block ?_ | refine WC.condT rfl ?_ | refine WC.condF rfl ?_ | refine WL.off rfl rfl rfl ?_ | refine WL.off0 rfl rfl ?_ | refine WC.exit ?_ | refine blk_hit ?_ | refine blk_miss rfl ?_ | refine WC.ret ?_)
      refine WC.cond rfl (fun hc => ?_) (fun hc => ?_)
      · have h2 : i - a ≥ 2 := by have := of_decide_eq_true hc; rw [hia] at this; omega
        have hF : fixDown (ltO cf) a i d2 = shiftDown (ltO cf) (i - 1) d2 := if_pos h2
        rw [hF]
        repeat (first | refine WC.seq ?_ | refine WC.reg ?_ | refine WL.pure rfl rfl rfl ?_ | refine WL.nil ?_ | refine WC.skip ?_ | refine WC.block ?_ | refine WC.condT rfl ?_ | refine WC.condF rfl ?_ | refine WL.off rfl rfl rfl ?_ | refine WL.off0 rfl rfl ?_ | refine WC.exit ?_ | refine blk_hit ?_ | refine blk_miss rfl ?_ | refine WC.ret ?_)
        refine WC.loop (Nat × Array Rp) (fun (j, _) => [(0, .slice (some ⟨b, 0, none⟩) n cap), (1, .int .i64 (a : Nat)), (2, .int .i64 (e : Nat)), (3, .func (.func G) #[] ca), (9, .int .i64 (i : Nat)), (10, .int .i64 ((5 : Int) - ((s + 1 : Nat) : Int))), (11, .int .i64 (j : Nat))])
          (fun (j, d3) w' => j < n ∧ Okd n SS d3 ∧ shiftDown (ltO cf) (i - 1) d2 = shiftDown (ltO cf) j d3 ∧ Hp w0 w' (BD b t d3 :: L)) (fun (j, _) => j) (i - 1, d2) ⟨rfl, rfl, rfl, rfl, rfl, rfl, congrArg (fun z => some (Value.int .i64 z)) ei, rfl⟩ ⟨by omega, hOK, rfl, hp⟩ ?_
        rintro ⟨j, d3⟩ w ⟨hj, hOK, hSD, hp⟩
        have hsz := hOK.sz
        repeat (first | refine WC.seq ?_ | refine WC.reg ?_ | refine WL.pure rfl rfl rfl ?_ | refine WL.nil ?_ | refine WC.skip ?_ | refine WC.block ?_ | refine WC.condT rfl ?_ | refine WC.condF rfl ?_ | refine WL.off rfl rfl rfl ?_ | refine WL.off0 rfl rfl ?_ | refine WC.exit ?_ | refine blk_hit ?_ | refine blk_miss rfl ?_ | refine WC.ret ?_)
        refine WC.cond rfl (fun hc => ?_) (fun hc => ?_)
        · obtain ⟨k, rfl⟩ : ∃ k, j = k + 1 := ⟨j - 1, by have := of_decide_eq_true hc; omega⟩
          have ek : IntKind.i64.wrap (((k + 1 : Nat) : Int) - 1) = ((k : Nat) : Int) := by rw [wrap_mid (by omega) (by omega)]; omega
          repeat (first | refine WC.seq ?_ | refine WC.reg ?_ | refine WL.pure rfl rfl rfl ?_ | refine WL.nil ?_ | refine WC.skip ?_ | refine WC.block ?_ | refine WC.condT rfl ?_ | refine WC.condF rfl ?_ | refine WL.off rfl rfl rfl ?_ | refine WL.off0 rfl rfl ?_ | refine WC.exit ?_ | refine blk_hit ?_ | refine blk_miss rfl ?_ | refine WC.ret ?_)
          refine WC.regQ (fun w' => Hp w0 w' (BD b t d3 :: L)) mixed (by kernel_rfl) (fun w' hw' => hp.keep hw') ?_
          repeat (first | refine WQ.pure rfl rfl rfl ?_ | refine WQ.off rfl rfl rfl ?_ | refine WQ.nil ?_)
          refine WQ.ixD (j := k + 1) rfl (fun _ => rfl) rfl rfl rfl rfl rfl rfl rfl rfl rfl (fun _ h => h) (by omega) (by omega) ?_
          repeat (first | refine WQ.pure rfl rfl rfl ?_ | refine WQ.off rfl rfl rfl ?_ | refine WQ.nil ?_)
          refine WQ.known (d := 79) (congrArg (fun z => some (Value.int .i64 z)) ek) ?_
          refine WQ.ixD (j := k) rfl (fun _ => rfl) rfl rfl rfl rfl rfl rfl rfl rfl rfl (fun _ h => h) (by omega) (by omega) ?_
          refine WQ.call rfl rfl rfl rfl rfl hE (hG.q (hOK.all (k + 1) (by omega)) (hOK.all k (by omega))) ?_
          repeat (first | refine WQ.pure rfl rfl rfl ?_ | refine WQ.off rfl rfl rfl ?_ | refine WQ.nil ?_)
          intro w hp
          refine WC.cond rfl (fun h3 => ?_) (fun h3 => ?_)
          · have h3 : ltO cf d3[k + 1]! d3[k]! = false := by
              have h4 : (!ltO cf d3[k + 1]! d3[k]!) = true := h3
              simpa using h4
            have hSD := hSD.trans (shiftDown_stop (j := k + 1) h3)
            repeat (first | refine WC.seq ?_ | refine WC.reg ?_ | refine WL.pure rfl rfl rfl ?_ | refine WL.nil ?_ | refine WC.skip ?_ | refine WC.block ?_ | refine WC.condT rfl ?_ | refine WC.condF rfl ?_ | refine WL.off rfl rfl rfl ?_ | refine WL.off0 rfl rfl ?_ | refine WC.exit ?_ | refine blk_hit ?_ | refine blk_miss rfl ?_ | refine WC.ret ?_)
            refine ⟨(), ⟨rfl, rfl, rfl, rfl, rfl, rfl, rfl⟩, ?_⟩
            rw [hSD]
            exact ⟨hOK, hp⟩
          have h3 : ltO cf d3[k + 1]! d3[k]! = true := by
            have h4 : (!ltO cf d3[k + 1]! d3[k]!) = false := h3
            simpa using h4
          have hSD := hSD.trans (shiftDown_go h3)
          repeat (first | refine WC.seq ?_ | refine WC.reg ?_ | refine WL.pure rfl rfl rfl ?_ | refine WL.nil ?_ | refine WC.skip ?_ | refine WC.block ?_ | refine WC.condT rfl ?_ | refine WC.condF rfl ?_ | refine WL.off rfl rfl rfl ?_ | refine WL.off0 rfl rfl ?_ | refine WC.exit ?_ | refine blk_hit ?_ | refine blk_miss rfl ?_ | refine WC.ret ?_)
          refine WC.mid Unit (fun _ => [(0, .slice (some ⟨b, 0, none⟩) n cap), (1, .int .i64 (a : Nat)), (2, .int .i64 (e : Nat)), (3, .func (.func G) #[] ca), (9, .int .i64 (i : Nat)), (10, .int .i64 ((5 : Int) - ((s + 1 : Nat) : Int))), (11, .int .i64 (k + 1 : Nat))]) (fun _ w' => Hp w0 w' (BD b t (Go.Sort.swp (d3) (k + 1) (k)) :: L)) ?_ ?_
          · refine WC.regH (fun _ => True) mixed (by kernel_rfl) (fun w6 hw6 hh6 => ?_)
            have kh6 := (hp).keep hw6
            refine WH.pure 0 (by kernel_rfl) rfl (by kernel_rfl) rfl rfl rfl trivial ?_
            refine WH.pure 1 (by kernel_rfl) rfl (by kernel_rfl) rfl rfl rfl trivial ?_
            refine WH.pure 2 (by kernel_rfl) rfl (by kernel_rfl) rfl rfl rfl trivial ?_
            refine WH.pure 3 (by kernel_rfl) rfl (by kernel_rfl) rfl rfl rfl trivial ?_
            refine WH.pure 4 (by kernel_rfl) rfl (by kernel_rfl) rfl rfl rfl trivial ?_
            refine WH.known (d := 89) (congrArg (fun z => some (Value.int .i64 z)) ek) ?_
            refine WH.pure 5 (by kernel_rfl) rfl (by kernel_rfl) rfl rfl rfl trivial ?_
            refine WH.pure 6 (by kernel_rfl) rfl (by kernel_rfl) rfl rfl rfl trivial ?_
            refine WH.pure 7 (by kernel_rfl) rfl (by kernel_rfl) rfl rfl rfl trivial ?_
            refine WH.known (d := 92) (congrArg (fun z => some (Value.int .i64 z)) ek) ?_
            refine WH.ixS 8 (by kernel_rfl) rfl (by kernel_rfl) rfl rfl rfl rfl rfl rfl (by omega) trivial ?_
            refine WH.pure 10 (by kernel_rfl) rfl (by kernel_rfl) rfl rfl rfl trivial ?_
            refine WH.pure 11 (by kernel_rfl) rfl (by kernel_rfl) rfl rfl rfl trivial ?_
            refine WH.ixS 12 (by kernel_rfl) rfl (by kernel_rfl) rfl rfl rfl rfl rfl rfl (by omega) trivial ?_
            refine WH.two 9 13 rfl rfl (by kernel_rfl) ?_ ?_
            · refine WL.loadN rfl rfl rfl rfl rfl rfl (cl_load kh6 (j := k) (by omega)) (WL.nil ⟨trivial, ?_⟩)
              refine WH.one 13 rfl (by kernel_rfl) ?_
              refine WL.loadN rfl rfl rfl rfl rfl rfl (cl_load kh6 (j := k + 1) (by omega)) (WL.nil ⟨trivial, ?_⟩)
              refine WH.ixS 14 (by kernel_rfl) rfl (by kernel_rfl) rfl rfl rfl rfl rfl rfl (by omega) trivial ?_
              refine WH.one 15 rfl (by kernel_rfl) ?_
              refine WL.storeN rfl rfl rfl rfl rfl (rc_one (d3)[k]!) (kh6.obj 0 rfl) (cl_room (by omega)) (cl_store (j := k + 1) (by omega)) (fun w7 hw7 => WL.nil ⟨trivial, ?_⟩)
              have hp7 := kh6.set 0 rfl rfl hw7
              refine WH.ixS 16 (by kernel_rfl) rfl (by kernel_rfl) rfl rfl rfl rfl rfl rfl (by omega) trivial ?_
              refine WH.one 17 rfl (by kernel_rfl) ?_
              refine WL.storeN rfl rfl rfl rfl rfl (rc_one (d3)[k + 1]!) (hp7.obj 0 rfl) (cl_room (by rw [Array.size_setIfInBounds]; omega)) (cl_store (j := k) (by rw [Array.size_setIfInBounds]; omega)) (fun w8 hw8 => WL.nil ⟨trivial, ?_⟩)
              have hp8 := hp7.set 0 rfl rfl hw8
              refine WH.done (by kernel_rfl) ?_
              exact ⟨(), ⟨rfl, rfl, rfl, rfl, rfl, rfl, rfl, rfl⟩, hp8⟩
            · refine WL.loadN rfl rfl rfl rfl rfl rfl (cl_load kh6 (j := k + 1) (by omega)) (WL.nil ⟨trivial, ?_⟩)
              refine WH.one 9 rfl (by kernel_rfl) ?_
              refine WL.loadN rfl rfl rfl rfl rfl rfl (cl_load kh6 (j := k) (by omega)) (WL.nil ⟨trivial, ?_⟩)
              refine WH.ixS 14 (by kernel_rfl) rfl (by kernel_rfl) rfl rfl rfl rfl rfl rfl (by omega) trivial ?_
              refine WH.one 15 rfl (by kernel_rfl) ?_
              refine WL.storeN rfl rfl rfl rfl rfl (rc_one (d3)[k]!) (kh6.obj 0 rfl) (cl_room (by omega)) (cl_store (j := k + 1) (by omega)) (fun w7 hw7 => WL.nil ⟨trivial, ?_⟩)
              have hp7 := kh6.set 0 rfl rfl hw7
              refine WH.ixS 16 (by kernel_rfl) rfl (by kernel_rfl) rfl rfl rfl rfl rfl rfl (by omega) trivial ?_
              refine WH.one 17 rfl (by kernel_rfl) ?_
              refine WL.storeN rfl rfl rfl rfl rfl (rc_one (d3)[k + 1]!) (hp7.obj 0 rfl) (cl_room (by rw [Array.size_setIfInBounds]; omega)) (cl_store (j := k) (by rw [Array.size_setIfInBounds]; omega)) (fun w8 hw8 => WL.nil ⟨trivial, ?_⟩)
              have hp8 := hp7.set 0 rfl rfl hw8
              refine WH.done (by kernel_rfl) ?_
              exact ⟨(), ⟨rfl, rfl, rfl, rfl, rfl, rfl, rfl, rfl⟩, hp8⟩
          rintro ⟨⟩ e6 w6 hsub hp6
          refine WC.sub hsub ?_
          clear hsub e6
          repeat (first | refine WC.seq ?_ | refine WC.reg ?_ | refine WL.pure rfl rfl rfl ?_ | refine WL.nil ?_ | refine WC.skip ?_ | refine WC.block ?_ | refine WC.condT rfl ?_ | refine WC.condF rfl ?_ | refine WL.off rfl rfl rfl ?_ | refine WL.off0 rfl rfl ?_ | refine WC.exit ?_ | refine blk_hit ?_ | refine blk_miss rfl ?_ | refine WC.ret ?_)
          exact ⟨(k, swp d3 (k + 1) k), by show k < k + 1; omega, ⟨rfl, rfl, rfl, rfl, rfl, rfl, congrArg (fun z => some (Value.int .i64 z)) ek, rfl⟩, by omega, hOK.swp (by omega) (by omega), hSD, hp6⟩
        · have hj0 : j = 0 := by have := of_decide_eq_false hc; omega
          subst hj0
          have hSD : shiftDown (ltO cf) (i - 1) d2 = d3 := hSD
          repeat (first | refine WC.seq ?_ | refine WC.reg ?_ | refine WL.pure rfl rfl rfl ?_ | refine WL.nil ?_ | refine WC.skip ?_ | refine WC.block ?_ | refine WC.condT rfl ?_ | refine WC.condF rfl ?_ | refine WL.off rfl rfl rfl ?_ | refine WL.off0 rfl rfl ?_ | refine WC.exit ?_ | refine blk_hit ?_ | refine blk_miss rfl ?_ | refine WC.ret ?_)
          refine ⟨(), ⟨rfl, rfl, rfl, rfl, rfl, rfl, rfl⟩, ?_⟩
          rw [hSD]
          exact ⟨hOK, hp⟩
      · have h2 : ¬ i - a ≥ 2 := by have := of_decide_eq_false hc; rw [hia] at this; omega
        have hF : fixDown (ltO cf) a i d2 = d2 := if_neg h2
        rw [hF]
        repeat (first | refine WC.seq ?_ | refine WC.reg ?_ | refine WL.pure rfl rfl rfl ?_ | refine WL.nil ?_ | refine WC.skip ?_ | refine WC.block ?_ | refine WC.condT rfl ?_ | refine WC.condF rfl ?_ | refine WL.off rfl rfl rfl ?_ | refine WL.off0 rfl rfl ?_ | refine WC.exit ?_ | refine blk_hit ?_ | refine blk_miss rfl ?_ | refine WC.ret ?_)
        exact ⟨(), ⟨rfl, rfl, rfl, rfl, rfl, rfl, rfl⟩, hOK, hp⟩
    clear hOK hp
    rintro ⟨⟩ e3 w hsub ⟨hOK, hp⟩
    refine WC.sub hsub ?_
    clear hsub e3
    generalize fixDown (ltO cf) a i d2 = d4 at *
    refine WC.mid Unit (fun _ => [(0, .slice (some ⟨b, 0, none⟩) n cap), (1, .int .i64 (a : Nat)), (2, .int .i64 (e : Nat)), (3, .func (.func G) #[] ca), (9, .int .i64 (i : Nat)), (10, .int .i64 ((5 : Int) - ((s + 1 : Nat) : Int)))])
      (fun _ w' => Okd n SS (fixUp (ltO cf) e i d4) ∧ Hp w0 w' (BD b t (fixUp (ltO cf) e i d4) :: L)) ?_ ?_
    · refine WC.seq ?_
      repeat (first | refine WC.seq ?_ | refine WC.reg ?_ | refine WL.pure rfl rfl rfl ?_ | refine WL.nil ?_ | refine WC.skip ?_ | refine WC.block ?_ | refine WC.condT rfl ?_ | refine WC.condF rfl ?_ | refine WL.off rfl rfl rfl ?_ | refine WL.off0 rfl rfl ?_ | refine WC.exit ?_ | refine blk_hit ?_ | refine blk_miss rfl ?_ | refine WC.ret ?_)
      refine WC.cond rfl (fun hc => ?_) (fun hc => ?_)
      · have h2 : e - i ≥ 2 := by have := of_decide_eq_true hc; rw [hei] at this; omega
        have hF : fixUp (ltO cf) e i d4 = shiftUp (ltO cf) e (i + 1) d4 := if_pos h2
        have ei1 := wrap_succ (i := i) (n := 1000000001) (by omega) (by omega)
        rw [hF]
        repeat (first | refine WC.seq ?_ | refine WC.reg ?_ | refine WL.pure rfl rfl rfl ?_ | refine WL.nil ?_ | refine WC.skip ?_ | refine WC.block ?_ | refine WC.condT rfl ?_ | refine WC.condF rfl ?_ | refine WL.off rfl rfl rfl ?_ | refine WL.off0 rfl rfl ?_ | refine WC.exit ?_ | refine blk_hit ?_ | refine blk_miss rfl ?_ | refine WC.ret ?_)
        refine WC.loop (Nat × Array Rp) (fun (j, _) => [(0, .slice (some ⟨b, 0, none⟩) n cap), (1, .int .i64 (a : Nat)), (2, .int .i64 (e : Nat)), (3, .func (.func G) #[] ca), (9, .int .i64 (i : Nat)), (10, .int .i64 ((5 : Int) - ((s + 1 : Nat) : Int))), (12, .int .i64 (j : Nat))])
          (fun (j, d3) w' => 0 < j ∧ j ≤ e ∧ Okd n SS d3 ∧ shiftUp (ltO cf) e (i + 1) d4 = shiftUp (ltO cf) e j d3 ∧ Hp w0 w' (BD b t d3 :: L)) (fun (j, _) => e - j) (i + 1, d4) ⟨rfl, rfl, rfl, rfl, rfl, rfl, congrArg (fun z => some (Value.int .i64 z)) ei1, rfl⟩ ⟨by omega, by omega, hOK, rfl, hp⟩ ?_
        rintro ⟨j, d3⟩ w ⟨hj0, hj, hOK, hSU, hp⟩
        have hsz := hOK.sz
        repeat (first | refine WC.seq ?_ | refine WC.reg ?_ | refine WL.pure rfl rfl rfl ?_ | refine WL.nil ?_ | refine WC.skip ?_ | refine WC.block ?_ | refine WC.condT rfl ?_ | refine WC.condF rfl ?_ | refine WL.off rfl rfl rfl ?_ | refine WL.off0 rfl rfl ?_ | refine WC.exit ?_ | refine blk_hit ?_ | refine blk_miss rfl ?_ | refine WC.ret ?_)
        refine WC.cond rfl (fun hc => ?_) (fun hc => ?_)
        · have hje : j < e := by have := of_decide_eq_true hc; omega
          have ek : IntKind.i64.wrap (((j : Nat) : Int) - 1) = ((j - 1 : Nat) : Int) := by rw [wrap_mid (by omega) (by omega)]; omega
          have ej := wrap_succ (i := j) (n := 1000000001) (by omega) (by omega)
          repeat (first | refine WC.seq ?_ | refine WC.reg ?_ | refine WL.pure rfl rfl rfl ?_ | refine WL.nil ?_ | refine WC.skip ?_ | refine WC.block ?_ | refine WC.condT rfl ?_ | refine WC.condF rfl ?_ | refine WL.off rfl rfl rfl ?_ | refine WL.off0 rfl rfl ?_ | refine WC.exit ?_ | refine blk_hit ?_ | refine blk_miss rfl ?_ | refine WC.ret ?_)
          refine WC.regQ (fun w' => Hp w0 w' (BD b t d3 :: L)) mixed (by kernel_rfl) (fun w' hw' => hp.keep hw') ?_
          repeat (first | refine WQ.pure rfl rfl rfl ?_ | refine WQ.off rfl rfl rfl ?_ | refine WQ.nil ?_)
          refine WQ.ixD (j := j) rfl (fun _ => rfl) rfl rfl rfl rfl rfl rfl rfl rfl rfl (fun _ h => h) (by omega) (by omega) ?_
          repeat (first | refine WQ.pure rfl rfl rfl ?_ | refine WQ.off rfl rfl rfl ?_ | refine WQ.nil ?_)
          refine WQ.known (d := 119) (congrArg (fun z => some (Value.int .i64 z)) ek) ?_
          refine WQ.ixD (j := j - 1) rfl (fun _ => rfl) rfl rfl rfl rfl rfl rfl rfl rfl rfl (fun _ h => h) (by omega) (by omega) ?_
          refine WQ.call rfl rfl rfl rfl rfl hE (hG.q (hOK.all j (by omega)) (hOK.all (j - 1) (by omega))) ?_
          repeat (first | refine WQ.pure rfl rfl rfl ?_ | refine WQ.off rfl rfl rfl ?_ | refine WQ.nil ?_)
          intro w hp
          refine WC.cond rfl (fun h3 => ?_) (fun h3 => ?_)
          · have h3 : ltO cf d3[j]! d3[j - 1]! = false := by
              have h4 : (!ltO cf d3[j]! d3[j - 1]!) = true := h3
              simpa using h4
            have hSU := hSU.trans (shiftUp_stop hje h3)
            repeat (first | refine WC.seq ?_ | refine WC.reg ?_ | refine WL.pure rfl rfl rfl ?_ | refine WL.nil ?_ | refine WC.skip ?_ | refine WC.block ?_ | refine WC.condT rfl ?_ | refine WC.condF rfl ?_ | refine WL.off rfl rfl rfl ?_ | refine WL.off0 rfl rfl ?_ | refine WC.exit ?_ | refine blk_hit ?_ | refine blk_miss rfl ?_ | refine WC.ret ?_)
            refine ⟨(), ⟨rfl, rfl, rfl, rfl, rfl, rfl, rfl⟩, ?_⟩
            rw [hSU]
            exact ⟨hOK, hp⟩
          have h3 : ltO cf d3[j]! d3[j - 1]! = true := by
            have h4 : (!ltO cf d3[j]! d3[j - 1]!) = false := h3
            simpa using h4
          have hSU := hSU.trans (shiftUp_go hje h3)
          repeat (first | refine WC.seq ?_ | refine WC.reg ?_ | refine WL.pure rfl rfl rfl ?_ | refine WL.nil ?_ | refine WC.skip ?_ | refine WC.block ?_ | refine WC.condT rfl ?_ | refine WC.condF rfl ?_ | refine WL.off rfl rfl rfl ?_ | refine WL.off0 rfl rfl ?_ | refine WC.exit ?_ | refine blk_hit ?_ | refine blk_miss rfl ?_ | refine WC.ret ?_)
          refine WC.mid Unit (fun _ => [(0, .slice (some ⟨b, 0, none⟩) n cap), (1, .int .i64 (a : Nat)), (2, .int .i64 (e : Nat)), (3, .func (.func G) #[] ca), (9, .int .i64 (i : Nat)), (10, .int .i64 ((5 : Int) - ((s + 1 : Nat) : Int))), (12, .int .i64 (j : Nat))]) (fun _ w' => Hp w0 w' (BD b t (Go.Sort.swp (d3) (j) (j - 1)) :: L)) ?_ ?_
          · refine WC.regH (fun _ => True) mixed (by kernel_rfl) (fun w6 hw6 hh6 => ?_)
            have kh6 := (hp).keep hw6
            refine WH.pure 0 (by kernel_rfl) rfl (by kernel_rfl) rfl rfl rfl trivial ?_
            refine WH.pure 1 (by kernel_rfl) rfl (by kernel_rfl) rfl rfl rfl trivial ?_
            refine WH.pure 2 (by kernel_rfl) rfl (by kernel_rfl) rfl rfl rfl trivial ?_
            refine WH.pure 3 (by kernel_rfl) rfl (by kernel_rfl) rfl rfl rfl trivial ?_
            refine WH.pure 4 (by kernel_rfl) rfl (by kernel_rfl) rfl rfl rfl trivial ?_
            refine WH.known (d := 129) (congrArg (fun z => some (Value.int .i64 z)) ek) ?_
            refine WH.pure 5 (by kernel_rfl) rfl (by kernel_rfl) rfl rfl rfl trivial ?_
            refine WH.pure 6 (by kernel_rfl) rfl (by kernel_rfl) rfl rfl rfl trivial ?_
            refine WH.pure 7 (by kernel_rfl) rfl (by kernel_rfl) rfl rfl rfl trivial ?_
            refine WH.known (d := 132) (congrArg (fun z => some (Value.int .i64 z)) ek) ?_
            refine WH.ixS 8 (by kernel_rfl) rfl (by kernel_rfl) rfl rfl rfl rfl rfl rfl (by omega) trivial ?_
            refine WH.pure 10 (by kernel_rfl) rfl (by kernel_rfl) rfl rfl rfl trivial ?_
            refine WH.pure 11 (by kernel_rfl) rfl (by kernel_rfl) rfl rfl rfl trivial ?_
            refine WH.ixS 12 (by kernel_rfl) rfl (by kernel_rfl) rfl rfl rfl rfl rfl rfl (by omega) trivial ?_
            refine WH.two 9 13 rfl rfl (by kernel_rfl) ?_ ?_
            · refine WL.loadN rfl rfl rfl rfl rfl rfl (cl_load kh6 (j := j - 1) (by omega)) (WL.nil ⟨trivial, ?_⟩)
              refine WH.one 13 rfl (by kernel_rfl) ?_
              refine WL.loadN rfl rfl rfl rfl rfl rfl (cl_load kh6 (j := j) (by omega)) (WL.nil ⟨trivial, ?_⟩)
              refine WH.ixS 14 (by kernel_rfl) rfl (by kernel_rfl) rfl rfl rfl rfl rfl rfl (by omega) trivial ?_
              refine WH.one 15 rfl (by kernel_rfl) ?_
              refine WL.storeN rfl rfl rfl rfl rfl (rc_one (d3)[j - 1]!) (kh6.obj 0 rfl) (cl_room (by omega)) (cl_store (j := j) (by omega)) (fun w7 hw7 => WL.nil ⟨trivial, ?_⟩)
              have hp7 := kh6.set 0 rfl rfl hw7
              refine WH.ixS 16 (by kernel_rfl) rfl (by kernel_rfl) rfl rfl rfl rfl rfl rfl (by omega) trivial ?_
              refine WH.one 17 rfl (by kernel_rfl) ?_
              refine WL.storeN rfl rfl rfl rfl rfl (rc_one (d3)[j]!) (hp7.obj 0 rfl) (cl_room (by rw [Array.size_setIfInBounds]; omega)) (cl_store (j := j - 1) (by rw [Array.size_setIfInBounds]; omega)) (fun w8 hw8 => WL.nil ⟨trivial, ?_⟩)
              have hp8 := hp7.set 0 rfl rfl hw8
              refine WH.done (by kernel_rfl) ?_
              exact ⟨(), ⟨rfl, rfl, rfl, rfl, rfl, rfl, rfl, rfl⟩, hp8⟩
            · refine WL.loadN rfl rfl rfl rfl rfl rfl (cl_load kh6 (j := j) (by omega)) (WL.nil ⟨trivial, ?_⟩)
              refine WH.one 9 rfl (by kernel_rfl) ?_
              refine WL.loadN rfl rfl rfl rfl rfl rfl (cl_load kh6 (j := j - 1) (by omega)) (WL.nil ⟨trivial, ?_⟩)
              refine WH.ixS 14 (by kernel_rfl) rfl (by kernel_rfl) rfl rfl rfl rfl rfl rfl (by omega) trivial ?_
              refine WH.one 15 rfl (by kernel_rfl) ?_
              refine WL.storeN rfl rfl rfl rfl rfl (rc_one (d3)[j - 1]!) (kh6.obj 0 rfl) (cl_room (by omega)) (cl_store (j := j) (by omega)) (fun w7 hw7 => WL.nil ⟨trivial, ?_⟩)
              have hp7 := kh6.set 0 rfl rfl hw7
              refine WH.ixS 16 (by kernel_rfl) rfl (by kernel_rfl) rfl rfl rfl rfl rfl rfl (by omega) trivial ?_
              refine WH.one 17 rfl (by kernel_rfl) ?_
              refine WL.storeN rfl rfl rfl rfl rfl (rc_one (d3)[j]!) (hp7.obj 0 rfl) (cl_room (by rw [Array.size_setIfInBounds]; omega)) (cl_store (j := j - 1) (by rw [Array.size_setIfInBounds]; omega)) (fun w8 hw8 => WL.nil ⟨trivial, ?_⟩)
              have hp8 := hp7.set 0 rfl rfl hw8
              refine WH.done (by kernel_rfl) ?_
              exact ⟨(), ⟨rfl, rfl, rfl, rfl, rfl, rfl, rfl, rfl⟩, hp8⟩
          rintro ⟨⟩ e6 w6 hsub hp6
          refine WC.sub hsub ?_
          clear hsub e6
          repeat (first | refine WC.seq ?_ | refine WC.reg ?_ | refine WL.pure rfl rfl rfl ?_ | refine WL.nil ?_ | refine WC.skip ?_ | refine WC.block ?_ | refine WC.condT rfl ?_ | refine WC.condF rfl ?_ | refine WL.off rfl rfl rfl ?_ | refine WL.off0 rfl rfl ?_ | refine WC.exit ?_ | refine blk_hit ?_ | refine blk_miss rfl ?_ | refine WC.ret ?_)
          exact ⟨(j + 1, swp d3 j (j - 1)), by show e - (j + 1) < e - j; omega, ⟨rfl, rfl, rfl, rfl, rfl, rfl, congrArg (fun z => some (Value.int .i64 z)) ej, rfl⟩, by omega, by omega, hOK.swp (by omega) (by omega), hSU, hp6⟩
        · have hje : ¬ j < e := by have := of_decide_eq_false hc; omega
          rw [shiftUp_end hje] at hSU
          repeat (first | refine WC.seq ?_ | refine WC.reg ?_ | refine WL.pure rfl rfl rfl ?_ | refine WL.nil ?_ | refine WC.skip ?_ | refine WC.block ?_ | refine WC.condT rfl ?_ | refine WC.condF rfl ?_ | refine WL.off rfl rfl rfl ?_ | refine WL.off0 rfl rfl ?_ | refine WC.exit ?_ | refine blk_hit ?_ | refine blk_miss rfl ?_ | refine WC.ret ?_)
          refine ⟨(), ⟨rfl, rfl, rfl, rfl, rfl, rfl, rfl⟩, ?_⟩
          rw [hSU]
          exact ⟨hOK, hp⟩
      · have h2 : ¬ e - i ≥ 2 := by have := of_decide_eq_false hc; rw [hei] at this; omega
        have hF : fixUp (ltO cf) e i d4 = d4 := if_neg h2
        rw [hF]
        repeat (first | refine WC.seq ?_ | refine WC.reg ?_ | refine WL.pure rfl rfl rfl ?_ | refine WL.nil ?_ | refine WC.skip ?_ | refine WC.block ?_ | refine WC.condT rfl ?_ | refine WC.condF rfl ?_ | refine WL.off rfl rfl rfl ?_ | refine WL.off0 rfl rfl ?_ | refine WC.exit ?_ | refine blk_hit ?_ | refine blk_miss rfl ?_ | refine WC.ret ?_)
        exact ⟨(), ⟨rfl, rfl, rfl, rfl, rfl, rfl, rfl⟩, hOK, hp⟩
    clear hOK hp
    rintro ⟨⟩ e3 w hsub ⟨hOK, hp⟩
    refine WC.sub hsub ?_
    clear hsub e3
    repeat (first | refine WC.seq ?_ | refine WC.reg ?_ | refine WL.pure rfl rfl rfl ?_ | refine WL.nil ?_ | refine WC.skip ?_ | refine WC.block ?_ | refine WC.condT rfl ?_ | refine WC.condF rfl ?_ | refine WL.off rfl rfl rfl ?_ | refine WL.off0 rfl rfl ?_ | refine WC.exit ?_ | refine blk_hit ?_ | refine blk_miss rfl ?_ | refine WC.ret ?_)
    exact ⟨(s, i, _), by show s < s + 1; omega, ⟨rfl, rfl, rfl, rfl, rfl, congrArg (fun z => some (Value.int .i64 z)) es, rfl⟩, by omega, by omega, by omega, hOK, hR, hp⟩
  · have hs0 : s = 0 := by have := of_decide_eq_false hc; omega
    subst hs0
    have hR : (d1, false) = R := hR
    subst hR
    repeat (first | refine WC.seq ?_ | refine WC.reg ?_ | refine WL.pure rfl rfl rfl ?_ | refine WL.nil ?_ | refine WC.skip ?_ | refine WC.block ?_ | refine WC.condT rfl ?_ | refine WC.condF rfl ?_ | refine WL.off rfl rfl rfl ?_ | refine WL.off0 rfl rfl ?_ | refine WC.exit ?_ | refine blk_hit ?_ | refine blk_miss rfl ?_ | refine WC.ret ?_)
    exact Res.one rfl rfl rfl ⟨rfl, hOK, hp⟩

/-! The pivot: any place between the ends. -/
abbrev Sw (bs : Nat) (v : Int) : Ent := .blk bs (.cells #[.int .i64 v] 3 (0, 0))
theorem order2_any (d : Array Rp) (hd : Okd n SS d) (x y : Nat) (hx : x < n) (hy : y < n) (bs : Nat) (v : Int) (w : World) (hp : Hp w0 w (BD b t d :: Sw bs v :: L)) :
    Ret Tryz.prog 126 [.slice (some ⟨b, 0, none⟩) n cap, .int .i64 (x : Nat), .int .i64 (y : Nat), .pointer (some ⟨bs, 0, none⟩), .func (.func G) #[] ca] w fun u w' => ∃ (p q : Nat) (v' : Int), u = .tuple #[.int .i64 (p : Nat), .int .i64 (q : Nat)] ∧ ((p = x ∧ q = y) ∨ (p = y ∧ q = x)) ∧ Hp w0 w' (BD b t d :: Sw bs v' :: L) := by
  have hsz := hd.sz
  refine enter Tryz.func126 rfl rfl ⟨rfl, rfl⟩ rfl ?_
  repeat (first | refine WC.seq ?_ | refine WC.reg ?_ | refine WL.pure rfl rfl rfl ?_ | refine WL.nil ?_ | refine WC.skip ?_ | refine WC.block ?_ | refine WC.condT rfl ?_ | refine WC.condF rfl ?_ | refine WL.off rfl rfl rfl ?_ | refine WL.off0 rfl rfl ?_ | refine WC.exit ?_ | refine blk_hit ?_ | refine blk_miss rfl ?_ | refine WC.ret ?_)
  refine WC.regQ (fun w' => Hp w0 w' (BD b t d :: Sw bs v :: L)) mixed (by kernel_rfl) (fun w' hw' => hp.keep hw') ?_
  repeat (first | refine WQ.pure rfl rfl rfl ?_ | refine WQ.off rfl rfl rfl ?_ | refine WQ.nil ?_)
  refine WQ.ixD (j := y) rfl (fun _ => rfl) rfl rfl rfl rfl rfl rfl rfl rfl rfl (fun _ h => h) (by omega) (by omega) ?_
  repeat (first | refine WQ.pure rfl rfl rfl ?_ | refine WQ.off rfl rfl rfl ?_ | refine WQ.nil ?_)
  refine WQ.ixD (j := x) rfl (fun _ => rfl) rfl rfl rfl rfl rfl rfl rfl rfl rfl (fun _ h => h) (by omega) (by omega) ?_
  refine WQ.call rfl rfl rfl rfl rfl hE (fun w' h => (hG d[y]! d[x]! d w' (hd.all y hy) (hd.all x hx) h.drop1).mono fun u w'' ⟨h1, h2⟩ => ⟨h1, by have := h.comb h2; rwa [List.nil_append] at this⟩) ?_
  repeat (first | refine WQ.pure rfl rfl rfl ?_ | refine WQ.off rfl rfl rfl ?_ | refine WQ.nil ?_)
  clear hp w
  intro w hp
  refine WC.cond rfl (fun hc => ?_) (fun hc => ?_)
  · repeat (first | refine WC.seq ?_ | refine WC.reg ?_ | refine WL.pure rfl rfl rfl ?_ | refine WL.nil ?_ | refine WC.skip ?_ | refine WC.block ?_ | refine WC.condT rfl ?_ | refine WC.condF rfl ?_ | refine WL.off rfl rfl rfl ?_ | refine WL.off0 rfl rfl ?_ | refine WC.exit ?_ | refine blk_hit ?_ | refine blk_miss rfl ?_ | refine WC.ret ?_)
    refine WL.nilC rfl rfl rfl ?_
    refine WL.loadB rfl rfl rfl rfl rfl (hp.obj 1 rfl) rfl ?_
    repeat (first | refine WC.seq ?_ | refine WC.reg ?_ | refine WL.pure rfl rfl rfl ?_ | refine WL.nil ?_ | refine WC.skip ?_ | refine WC.block ?_ | refine WC.condT rfl ?_ | refine WC.condF rfl ?_ | refine WL.off rfl rfl rfl ?_ | refine WL.off0 rfl rfl ?_ | refine WC.exit ?_ | refine blk_hit ?_ | refine blk_miss rfl ?_ | refine WC.ret ?_)
    refine WL.nilC rfl rfl rfl ?_
    refine WL.store rfl rfl rfl rfl rfl rfl (hp.obj 1 rfl) (Nat.lt_succ_self 0) (fun w2 hw2 => ?_)
    have hp2 := hp.set 1 rfl rfl hw2
    repeat (first | refine WC.seq ?_ | refine WC.reg ?_ | refine WL.pure rfl rfl rfl ?_ | refine WL.nil ?_ | refine WC.skip ?_ | refine WC.block ?_ | refine WC.condT rfl ?_ | refine WC.condF rfl ?_ | refine WL.off rfl rfl rfl ?_ | refine WL.off0 rfl rfl ?_ | refine WC.exit ?_ | refine blk_hit ?_ | refine blk_miss rfl ?_ | refine WC.ret ?_)
    exact Res.two rfl rfl rfl rfl ⟨y, x, _, rfl, .inr ⟨rfl, rfl⟩, hp2⟩
  · repeat (first | refine WC.seq ?_ | refine WC.reg ?_ | refine WL.pure rfl rfl rfl ?_ | refine WL.nil ?_ | refine WC.skip ?_ | refine WC.block ?_ | refine WC.condT rfl ?_ | refine WC.condF rfl ?_ | refine WL.off rfl rfl rfl ?_ | refine WL.off0 rfl rfl ?_ | refine WC.exit ?_ | refine blk_hit ?_ | refine blk_miss rfl ?_ | refine WC.ret ?_)
    exact Res.two rfl rfl rfl rfl ⟨x, y, v, rfl, .inl ⟨rfl, rfl⟩, hp⟩
theorem median_any (d : Array Rp) (hd : Okd n SS d) (x y z : Nat) (hx : x < n) (hy : y < n) (hz : z < n) (bs : Nat) (v : Int) (w : World) (hp : Hp w0 w (BD b t d :: Sw bs v :: L)) :
    Ret Tryz.prog 123 [.slice (some ⟨b, 0, none⟩) n cap, .int .i64 (x : Nat), .int .i64 (y : Nat), .int .i64 (z : Nat), .pointer (some ⟨bs, 0, none⟩), .func (.func G) #[] ca] w fun u w' => ∃ (p : Nat) (v' : Int), u = .int .i64 (p : Nat) ∧ (p = x ∨ p = y ∨ p = z) ∧ Hp w0 w' (BD b t d :: Sw bs v' :: L) := by
  refine enter Tryz.func123 rfl rfl ⟨rfl, rfl⟩ rfl ?_
  repeat (first | refine WC.seq ?_ | refine WC.reg ?_ | refine WL.pure rfl rfl rfl ?_ | refine WL.nil ?_ | refine WC.skip ?_ | refine WC.block ?_ | refine WC.condT rfl ?_ | refine WC.condF rfl ?_ | refine WL.off rfl rfl rfl ?_ | refine WL.off0 rfl rfl ?_ | refine WC.exit ?_ | refine blk_hit ?_ | refine blk_miss rfl ?_ | refine WC.ret ?_)
  refine WL.call rfl rfl rfl rfl rfl ent126 (order2_any b n cap t G ca cf hE SS w0 L hG hn d hd x y hx hy bs v w hp) ?_
  rintro _ w1 ⟨p1, q1, v1, rfl, h1, hp1⟩
  repeat (first | refine WC.seq ?_ | refine WC.reg ?_ | refine WL.pure rfl rfl rfl ?_ | refine WL.nil ?_ | refine WC.skip ?_ | refine WC.block ?_ | refine WC.condT rfl ?_ | refine WC.condF rfl ?_ | refine WL.off rfl rfl rfl ?_ | refine WL.off0 rfl rfl ?_ | refine WC.exit ?_ | refine blk_hit ?_ | refine blk_miss rfl ?_ | refine WC.ret ?_)
  refine WL.call rfl rfl rfl rfl rfl ent126 (order2_any b n cap t G ca cf hE SS w0 L hG hn d hd q1 z (by omega) hz bs v1 w1 hp1) ?_
  rintro _ w2 ⟨p2, q2, v2, rfl, h2, hp2⟩
  repeat (first | refine WC.seq ?_ | refine WC.reg ?_ | refine WL.pure rfl rfl rfl ?_ | refine WL.nil ?_ | refine WC.skip ?_ | refine WC.block ?_ | refine WC.condT rfl ?_ | refine WC.condF rfl ?_ | refine WL.off rfl rfl rfl ?_ | refine WL.off0 rfl rfl ?_ | refine WC.exit ?_ | refine blk_hit ?_ | refine blk_miss rfl ?_ | refine WC.ret ?_)
  refine WL.call rfl rfl rfl rfl rfl ent126 (order2_any b n cap t G ca cf hE SS w0 L hG hn d hd p1 p2 (by omega) (by omega) bs v2 w2 hp2) ?_
  rintro _ w3 ⟨p3, q3, v3, rfl, h3, hp3⟩
  repeat (first | refine WC.seq ?_ | refine WC.reg ?_ | refine WL.pure rfl rfl rfl ?_ | refine WL.nil ?_ | refine WC.skip ?_ | refine WC.block ?_ | refine WC.condT rfl ?_ | refine WC.condF rfl ?_ | refine WL.off rfl rfl rfl ?_ | refine WL.off0 rfl rfl ?_ | refine WC.exit ?_ | refine blk_hit ?_ | refine blk_miss rfl ?_ | refine WC.ret ?_)
  exact Res.one rfl rfl rfl ⟨q3, v3, rfl, by omega, hp3⟩
theorem medianAdjacent_any (d : Array Rp) (hd : Okd n SS d) (x : Nat) (h0 : 0 < x) (hx : x + 1 < n) (bs : Nat) (v : Int) (w : World) (hp : Hp w0 w (BD b t d :: Sw bs v :: L)) :
    Ret Tryz.prog 122 [.slice (some ⟨b, 0, none⟩) n cap, .int .i64 (x : Nat), .pointer (some ⟨bs, 0, none⟩), .func (.func G) #[] ca] w fun u w' => ∃ (p : Nat) (v' : Int), u = .int .i64 (p : Nat) ∧ x - 1 ≤ p ∧ p ≤ x + 1 ∧ Hp w0 w' (BD b t d :: Sw bs v' :: L) := by
  have e1 : IntKind.i64.wrap (((x : Nat) : Int) - 1) = ((x - 1 : Nat) : Int) := by rw [wrap_mid (by omega) (by omega)]; omega
  have e2 := wrap_succ (i := x) (n := 1000000001) (by omega) (by omega)
  refine enter Tryz.func122 rfl rfl ⟨rfl, rfl⟩ rfl ?_
  repeat (first | refine WC.seq ?_ | refine WC.reg ?_ | refine WL.pure rfl rfl rfl ?_ | refine WL.nil ?_ | refine WC.skip ?_ | refine WC.block ?_ | refine WC.condT rfl ?_ | refine WC.condF rfl ?_ | refine WL.off rfl rfl rfl ?_ | refine WL.off0 rfl rfl ?_ | refine WC.exit ?_ | refine blk_hit ?_ | refine blk_miss rfl ?_ | refine WC.ret ?_)
  refine WL.known (d := 11) (congrArg (fun z => some (Value.int .i64 z)) e1) ?_
  refine WL.known (d := 14) (congrArg (fun z => some (Value.int .i64 z)) e2) ?_
  refine WL.call rfl rfl rfl rfl rfl ent123 (median_any b n cap t G ca cf hE SS w0 L hG hn d hd (x - 1) x (x + 1) (by omega) (by omega) (by omega) bs v w hp) ?_
  rintro _ w1 ⟨p, v1, rfl, h1, hp1⟩
  repeat (first | refine WC.seq ?_ | refine WC.reg ?_ | refine WL.pure rfl rfl rfl ?_ | refine WL.nil ?_ | refine WC.skip ?_ | refine WC.block ?_ | refine WC.condT rfl ?_ | refine WC.condF rfl ?_ | refine WL.off rfl rfl rfl ?_ | refine WL.off0 rfl rfl ?_ | refine WC.exit ?_ | refine blk_hit ?_ | refine blk_miss rfl ?_ | refine WC.ret ?_)
  exact Res.one rfl rfl rfl ⟨p, v1, rfl, by omega, by omega, hp1⟩
theorem choosePivot_any (d : Array Rp) (hd : Okd n SS d) (a e : Nat) (hae : a + 8 ≤ e) (hen : e ≤ n) (w : World) (hp : Hp w0 w (BD b t d :: L)) :
    Ret Tryz.prog 107 [.slice (some ⟨b, 0, none⟩) n cap, .int .i64 (a : Nat), .int .i64 (e : Nat), .func (.func G) #[] ca] w fun u w' => ∃ (p : Nat) (h : Int), u = .tuple #[.int .i64 (p : Nat), .int .i64 h] ∧ a ≤ p ∧ p < e ∧ Hp w0 w' (BD b t d :: L) := by
  have el := w_sub (x := e) (y := a) (by omega) (by omega)
  obtain ⟨l, hl⟩ : ∃ l, e - a = l := ⟨_, rfl⟩
  rw [hl] at el
  have eq4 : IntKind.i64.wrap ((l : Int).tdiv 4) = ((l / 4 : Nat) : Int) := by
    rw [show ((l : Nat) : Int).tdiv 4 = ((l / 4 : Nat) : Int) from (Int.ofNat_tdiv l 4).symm, wrap_i64_in (by omega) (by omega)]
  have ek : ∀ k : Nat, k ≤ 3 → IntKind.i64.wrap ((a : Int) + IntKind.i64.wrap (IntKind.i64.wrap ((IntKind.i64.wrap ((e : Int) - (a : Int))).tdiv 4) * (k : Int))) = ((a + l / 4 * k : Nat) : Int) := by
    intro k hk
    have h1 : l / 4 * k ≤ l / 4 * 3 := Nat.mul_le_mul_left _ hk
    rw [el, eq4, ← Int.natCast_mul, wrap_i64_in (n := ((l / 4 * k : Nat) : Int)) (by omega) (by omega), w_add (by omega)]
  refine enter Tryz.func107 rfl rfl ⟨rfl, rfl⟩ rfl ?_
  repeat (first | refine WC.seq ?_ | refine WC.reg ?_ | refine WL.pure rfl rfl rfl ?_ | refine WL.nil ?_ | refine WC.skip ?_ | refine WC.block ?_ | refine WC.condT rfl ?_ | refine WC.condF rfl ?_ | refine WL.off rfl rfl rfl ?_ | refine WL.off0 rfl rfl ?_ | refine WC.exit ?_ | refine blk_hit ?_ | refine blk_miss rfl ?_ | refine WC.ret ?_)
  refine WL.alloc rfl rfl rfl ?_
  intro bs w1 hbs
  have hp1 : Hp w0 w1 (BD b t d :: Sw bs 0 :: L) := (hp.new hbs).swap
  repeat (first | refine WC.seq ?_ | refine WC.reg ?_ | refine WL.pure rfl rfl rfl ?_ | refine WL.nil ?_ | refine WC.skip ?_ | refine WC.block ?_ | refine WC.condT rfl ?_ | refine WC.condF rfl ?_ | refine WL.off rfl rfl rfl ?_ | refine WL.off0 rfl rfl ?_ | refine WC.exit ?_ | refine blk_hit ?_ | refine blk_miss rfl ?_ | refine WC.ret ?_)
  refine WC.cond rfl (fun hc => ?_) (fun hc => absurd (of_decide_eq_false hc) (by rw [el]; omega))
  refine WC.known (d := 10) (congrArg (fun z => some (Value.int .i64 z)) el) ?_
  refine WC.known (d := 12) (congrArg (fun z => some (Value.int .i64 z)) (ek 1 (by omega))) ?_
  refine WC.known (d := 13) (congrArg (fun z => some (Value.int .i64 z)) (ek 2 (by omega))) ?_
  refine WC.known (d := 14) (congrArg (fun z => some (Value.int .i64 z)) (ek 3 (by omega))) ?_
  refine WC.seq ?_
  refine WC.mid (Nat × Nat × Nat × Int) (fun (i, j, k, _) => [(0, .slice (some ⟨b, 0, none⟩) n cap), (3, .func (.func G) #[] ca), (11, .pointer (some ⟨bs, 0, none⟩)), (12, .int .i64 (i : Nat)), (13, .int .i64 (j : Nat)), (14, .int .i64 (k : Nat))])
    (fun (i, j, k, v) w' => a ≤ i ∧ i < e ∧ a ≤ j ∧ j < e ∧ a ≤ k ∧ k < e ∧ Hp w0 w' (BD b t d :: Sw bs v :: L)) ?_ ?_
  · refine WC.seq ?_
    repeat (first | refine WC.seq ?_ | refine WC.reg ?_ | refine WL.pure rfl rfl rfl ?_ | refine WL.nil ?_ | refine WC.skip ?_ | refine WC.block ?_ | refine WC.condT rfl ?_ | refine WC.condF rfl ?_ | refine WL.off rfl rfl rfl ?_ | refine WL.off0 rfl rfl ?_ | refine WC.exit ?_ | refine blk_hit ?_ | refine blk_miss rfl ?_ | refine WC.ret ?_)
    refine WC.cond rfl (fun h5 => ?_) (fun h5 => ?_)
    · have h5 : 50 ≤ l := by have := of_decide_eq_true h5; omega
      repeat (first | refine WC.seq ?_ | refine WC.reg ?_ | refine WL.pure rfl rfl rfl ?_ | refine WL.nil ?_ | refine WC.skip ?_ | refine WC.block ?_ | refine WC.condT rfl ?_ | refine WC.condF rfl ?_ | refine WL.off rfl rfl rfl ?_ | refine WL.off0 rfl rfl ?_ | refine WC.exit ?_ | refine blk_hit ?_ | refine blk_miss rfl ?_ | refine WC.ret ?_)
      refine WL.call rfl rfl rfl rfl rfl ent122 (medianAdjacent_any b n cap t G ca cf hE SS w0 L hG hn d hd (a + l / 4 * 1) (by omega) (by omega) bs 0 w1 hp1) ?_
      rintro _ w2 ⟨p1, v1, rfl, h1, h2, hp2⟩
      repeat (first | refine WC.seq ?_ | refine WC.reg ?_ | refine WL.pure rfl rfl rfl ?_ | refine WL.nil ?_ | refine WC.skip ?_ | refine WC.block ?_ | refine WC.condT rfl ?_ | refine WC.condF rfl ?_ | refine WL.off rfl rfl rfl ?_ | refine WL.off0 rfl rfl ?_ | refine WC.exit ?_ | refine blk_hit ?_ | refine blk_miss rfl ?_ | refine WC.ret ?_)
      refine WL.call rfl rfl rfl rfl rfl ent122 (medianAdjacent_any b n cap t G ca cf hE SS w0 L hG hn d hd (a + l / 4 * 2) (by omega) (by omega) bs v1 w2 hp2) ?_
      rintro _ w3 ⟨p2, v2, rfl, h3, h4, hp3⟩
      repeat (first | refine WC.seq ?_ | refine WC.reg ?_ | refine WL.pure rfl rfl rfl ?_ | refine WL.nil ?_ | refine WC.skip ?_ | refine WC.block ?_ | refine WC.condT rfl ?_ | refine WC.condF rfl ?_ | refine WL.off rfl rfl rfl ?_ | refine WL.off0 rfl rfl ?_ | refine WC.exit ?_ | refine blk_hit ?_ | refine blk_miss rfl ?_ | refine WC.ret ?_)
      refine WL.call rfl rfl rfl rfl rfl ent122 (medianAdjacent_any b n cap t G ca cf hE SS w0 L hG hn d hd (a + l / 4 * 3) (by omega) (by omega) bs v2 w3 hp3) ?_
      rintro _ w4 ⟨p3, v3, rfl, h6, h7, hp4⟩
      repeat (first | refine WC.seq ?_ | refine WC.reg ?_ | refine WL.pure rfl rfl rfl ?_ | refine WL.nil ?_ | refine WC.skip ?_ | refine WC.block ?_ | refine WC.condT rfl ?_ | refine WC.condF rfl ?_ | refine WL.off rfl rfl rfl ?_ | refine WL.off0 rfl rfl ?_ | refine WC.exit ?_ | refine blk_hit ?_ | refine blk_miss rfl ?_ | refine WC.ret ?_)
      exact ⟨(p1, p2, p3, v3), ⟨rfl, rfl, rfl, rfl, rfl, rfl, rfl⟩, by omega, by omega, by omega, by omega, by omega, by omega, hp4⟩
    · repeat (first | refine WC.seq ?_ | refine WC.reg ?_ | refine WL.pure rfl rfl rfl ?_ | refine WL.nil ?_ | refine WC.skip ?_ | refine WC.block ?_ | refine WC.condT rfl ?_ | refine WC.condF rfl ?_ | refine WL.off rfl rfl rfl ?_ | refine WL.off0 rfl rfl ?_ | refine WC.exit ?_ | refine blk_hit ?_ | refine blk_miss rfl ?_ | refine WC.ret ?_)
      exact ⟨(a + l / 4 * 1, a + l / 4 * 2, a + l / 4 * 3, 0), ⟨rfl, rfl, rfl, rfl, rfl, rfl, rfl⟩, by omega, by omega, by omega, by omega, by omega, by omega, hp1⟩
  clear hp1 hp hbs
  rintro ⟨i, j, k, v⟩ e3 w2 hsub ⟨h1, h2, h3, h4, h5, h6, hp2⟩
  refine WC.sub hsub ?_
  clear hsub e3
  repeat (first | refine WC.seq ?_ | refine WC.reg ?_ | refine WL.pure rfl rfl rfl ?_ | refine WL.nil ?_ | refine WC.skip ?_ | refine WC.block ?_ | refine WC.condT rfl ?_ | refine WC.condF rfl ?_ | refine WL.off rfl rfl rfl ?_ | refine WL.off0 rfl rfl ?_ | refine WC.exit ?_ | refine blk_hit ?_ | refine blk_miss rfl ?_ | refine WC.ret ?_)
  refine WL.call rfl rfl rfl rfl rfl ent123 (median_any b n cap t G ca cf hE SS w0 L hG hn d hd i j k (by omega) (by omega) (by omega) bs v w2 hp2) ?_
  rintro _ w3 ⟨p, v3, rfl, h7, hp3⟩
  repeat (first | refine WC.seq ?_ | refine WC.reg ?_ | refine WL.pure rfl rfl rfl ?_ | refine WL.nil ?_ | refine WC.skip ?_ | refine WC.block ?_ | refine WC.condT rfl ?_ | refine WC.condF rfl ?_ | refine WL.off rfl rfl rfl ?_ | refine WL.off0 rfl rfl ?_ | refine WC.exit ?_ | refine blk_hit ?_ | refine blk_miss rfl ?_ | refine WC.ret ?_)
  refine WL.loadB rfl rfl rfl rfl rfl (hp3.obj 1 rfl) rfl ?_
  repeat (first | refine WC.seq ?_ | refine WC.reg ?_ | refine WL.pure rfl rfl rfl ?_ | refine WL.nil ?_ | refine WC.skip ?_ | refine WC.block ?_ | refine WC.condT rfl ?_ | refine WC.condF rfl ?_ | refine WL.off rfl rfl rfl ?_ | refine WL.off0 rfl rfl ?_ | refine WC.exit ?_ | refine blk_hit ?_ | refine blk_miss rfl ?_ | refine WC.ret ?_)
  refine WC.cond rfl (fun hc => ?_) (fun hc => ?_)
  · repeat (first | refine WC.seq ?_ | refine WC.reg ?_ | refine WL.pure rfl rfl rfl ?_ | refine WL.nil ?_ | refine WC.skip ?_ | refine WC.block ?_ | refine WC.condT rfl ?_ | refine WC.condF rfl ?_ | refine WL.off rfl rfl rfl ?_ | refine WL.off0 rfl rfl ?_ | refine WC.exit ?_ | refine blk_hit ?_ | refine blk_miss rfl ?_ | refine WC.ret ?_)
    exact Res.two rfl rfl rfl rfl ⟨p, 1, rfl, by omega, by omega, hp3.drop1⟩
  · repeat (first | refine WC.seq ?_ | refine WC.reg ?_ | refine WL.pure rfl rfl rfl ?_ | refine WL.nil ?_ | refine WC.skip ?_ | refine WC.block ?_ | refine WC.condT rfl ?_ | refine WC.condF rfl ?_ | refine WL.off rfl rfl rfl ?_ | refine WL.off0 rfl rfl ?_ | refine WC.exit ?_ | refine blk_hit ?_ | refine blk_miss rfl ?_ | refine WC.ret ?_)
    refine WC.cond rfl (fun hc => ?_) (fun hc => ?_)
    · repeat (first | refine WC.seq ?_ | refine WC.reg ?_ | refine WL.pure rfl rfl rfl ?_ | refine WL.nil ?_ | refine WC.skip ?_ | refine WC.block ?_ | refine WC.condT rfl ?_ | refine WC.condF rfl ?_ | refine WL.off rfl rfl rfl ?_ | refine WL.off0 rfl rfl ?_ | refine WC.exit ?_ | refine blk_hit ?_ | refine blk_miss rfl ?_ | refine WC.ret ?_)
      exact Res.two rfl rfl rfl rfl ⟨p, 2, rfl, by omega, by omega, hp3.drop1⟩
    · repeat (first | refine WC.seq ?_ | refine WC.reg ?_ | refine WL.pure rfl rfl rfl ?_ | refine WL.nil ?_ | refine WC.skip ?_ | refine WC.block ?_ | refine WC.condT rfl ?_ | refine WC.condF rfl ?_ | refine WL.off rfl rfl rfl ?_ | refine WL.off0 rfl rfl ?_ | refine WC.exit ?_ | refine blk_hit ?_ | refine blk_miss rfl ?_ | refine WC.ret ?_)
      exact Res.two rfl rfl rfl rfl ⟨p, 0, rfl, by omega, by omega, hp3.drop1⟩
end
end Go.Proofs.YtoghnhbjdnjghaaGreat
