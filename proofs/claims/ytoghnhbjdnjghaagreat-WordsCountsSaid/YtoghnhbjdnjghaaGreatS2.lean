/- The walks of a sort: the heap, the reversal. -/
import Derived.Test.YtoghnhbjdnjghaaGreatS1
namespace Go.Sort
section
variable {α : Type} [Inhabited α] {lt : α → α → Bool}
/-- The child that a sift looks at. -/
def chd (lt : α → α → Bool) (hi F root : Nat) (d : Array α) : Nat := if (decide (2 * root + 1 + 1 < hi) && lt d[F + (2 * root + 1)]! d[F + (2 * root + 1) + 1]!) = true then 2 * root + 2 else 2 * root + 1
theorem chd_lt {hi F root : Nat} {d : Array α} (h : 2 * root + 1 < hi) : chd lt hi F root d < hi ∧ root < chd lt hi F root d := by
  unfold chd
  split
  · rename_i h1
    have := of_decide_eq_true (Bool.and_eq_true_iff.1 h1).1
    omega
  · omega
theorem sift_out {hi F root : Nat} {d : Array α} (h : ¬ 2 * root + 1 < hi) : siftDown lt hi F root d = d := by rw [siftDown, dif_pos (by omega)]
theorem sift_eq {hi F root : Nat} {d : Array α} (h : 2 * root + 1 < hi) : siftDown lt hi F root d = if lt d[F + root]! d[F + chd lt hi F root d]! = true then siftDown lt hi F (chd lt hi F root d) (swp d (F + root) (F + chd lt hi F root d)) else d := by
  rw [siftDown, dif_neg (by omega)]
  unfold chd
  by_cases h1 : (decide (2 * root + 1 + 1 < hi) && lt d[F + (2 * root + 1)]! d[F + (2 * root + 1) + 1]!) = true
  · have h2 := of_decide_eq_true (Bool.and_eq_true_iff.1 h1).1
    rw [if_pos h1, if_pos h1]
    cases h3 : lt d[F + root]! d[F + (2 * root + 2)]! with
    | false => rw [if_pos (by rfl), if_neg (by decide)]
    | true => rw [if_neg (by decide), if_pos rfl, dif_pos (by omega)]
  · rw [if_neg h1, if_neg h1]
    cases h3 : lt d[F + root]! d[F + (2 * root + 1)]! with
    | false => rw [if_pos (by rfl), if_neg (by decide)]
    | true => rw [if_neg (by decide), if_pos rfl]
theorem rev_go {i j : Nat} {d : Array α} (h : i < j) : reverseLoop i j d = reverseLoop (i + 1) (j - 1) (swp d i j) := by rw [reverseLoop, if_pos h]
theorem rev_stop {i j : Nat} {d : Array α} (h : ¬ i < j) : reverseLoop i j d = d := by rw [reverseLoop, if_neg h]
end
end Go.Sort
namespace Go.Proofs.YtoghnhbjdnjghaaGreat
open Go.W Go.Words Go.RowKit Go.Sort
set_option maxRecDepth 100000
attribute [local irreducible] WC WL WQ WS WH

theorem w_add {x y : Nat} (h : x + y ≤ 9000000000) : IntKind.i64.wrap ((x : Int) + (y : Int)) = ((x + y : Nat) : Int) := by rw [wrap_i64_in (by omega) (by omega)]; omega
theorem w_sub {x y : Nat} (h : y ≤ x) (hx : x ≤ 9000000000) : IntKind.i64.wrap ((x : Int) - (y : Int)) = ((x - y : Nat) : Int) := by rw [wrap_i64_in (by omega) (by omega)]; omega
section
variable (b n cap : Nat) (t : List Value) (G : FuncId) (ca : Array Value) (cf : Rp → Rp → Int) (hE : Ents Tryz.prog G) (SS : Rp → Prop) (w0 : World) (L : List Ent) (hG : CmpOk b t G ca cf SS w0 L) (hn : n ≤ 1000000000)
include hE hG hn

set_option maxHeartbeats 1000000 in
theorem siftDown_any (d : Array Rp) (hd : Okd n SS d) (lo hi F : Nat) (hF : F + hi ≤ n) (hlo : lo ≤ n) (w : World) (hp : Hp w0 w (BD b t d :: L)) :
    Ret Tryz.prog 119 [.slice (some ⟨b, 0, none⟩) n cap, .int .i64 (lo : Nat), .int .i64 (hi : Nat), .int .i64 (F : Nat), .func (.func G) #[] ca] w fun _ w' => Okd n SS (siftDown (ltO cf) hi F lo d) ∧ Hp w0 w' (BD b t (siftDown (ltO cf) hi F lo d) :: L) := by
  refine enter Tryz.func119 rfl rfl ⟨rfl, rfl⟩ rfl ?_
  repeat (first | refine WC.seq ?_ | refine WC.reg ?_ | refine WL.pure rfl rfl rfl ?_ | refine WL.nil ?_ | refine WC.skip ?_ | refine WC.block ?_ | refine WC.condT rfl ?_ | refine WC.condF rfl ?_ | refine WL.off rfl rfl rfl ?_ | refine WL.off0 rfl rfl ?_ | refine WC.exit ?_ | refine blk_hit ?_ | refine blk_miss rfl ?_ | refine WC.ret ?_)
  refine WC.loop (Nat × Array Rp) (fun (r, _) => [(0, .slice (some ⟨b, 0, none⟩) n cap), (2, .int .i64 (hi : Nat)), (3, .int .i64 (F : Nat)), (4, .func (.func G) #[] ca), (10, .int .i64 (r : Nat))])
    (fun (r, d1) w' => r ≤ n ∧ Okd n SS d1 ∧ siftDown (ltO cf) hi F lo d = siftDown (ltO cf) hi F r d1 ∧ Hp w0 w' (BD b t d1 :: L)) (fun (r, _) => n - r) (lo, d) ⟨rfl, rfl, rfl, rfl, rfl, rfl⟩ ⟨hlo, hd, rfl, hp⟩ ?_
  clear hp w
  rintro ⟨r, d1⟩ w ⟨hr, hd1, hS, hp⟩
  have hsz := hd1.sz
  have e1 : IntKind.i64.wrap (IntKind.i64.wrap (2 * (r : Int)) + 1) = ((2 * r + 1 : Nat) : Int) := by
    rw [wrap_i64_in (n := 2 * (r : Int)) (by omega) (by omega), wrap_i64_in (by omega) (by omega)]; omega
  repeat (first | refine WC.seq ?_ | refine WC.reg ?_ | refine WL.pure rfl rfl rfl ?_ | refine WL.nil ?_ | refine WC.skip ?_ | refine WC.block ?_ | refine WC.condT rfl ?_ | refine WC.condF rfl ?_ | refine WL.off rfl rfl rfl ?_ | refine WL.off0 rfl rfl ?_ | refine WC.exit ?_ | refine blk_hit ?_ | refine blk_miss rfl ?_ | refine WC.ret ?_)
  refine WC.cond rfl (fun hc => ?_) (fun hc => ?_)
  · have hc : ¬ 2 * r + 1 < hi := by
      have h := of_decide_eq_true hc
      rw [e1] at h
      omega
    rw [sift_out hc] at hS
    repeat (first | refine WC.seq ?_ | refine WC.reg ?_ | refine WL.pure rfl rfl rfl ?_ | refine WL.nil ?_ | refine WC.skip ?_ | refine WC.block ?_ | refine WC.condT rfl ?_ | refine WC.condF rfl ?_ | refine WL.off rfl rfl rfl ?_ | refine WL.off0 rfl rfl ?_ | refine WC.exit ?_ | refine blk_hit ?_ | refine blk_miss rfl ?_ | refine WC.ret ?_)
    refine Res.zero rfl rfl ?_
    rw [hS]
    exact ⟨hd1, hp⟩
  · have hc : 2 * r + 1 < hi := by
      have h := of_decide_eq_false hc
      rw [e1] at h
      omega
    have hch := chd_lt (lt := ltO cf) (F := F) (d := d1) hc
    rw [sift_eq hc] at hS
    refine WC.skip ?_
    refine WC.known (d := 11) (congrArg (fun z => some (Value.int .i64 z)) e1) ?_
    refine WC.seq ?_
    refine WC.mid Nat (fun c => [(0, .slice (some ⟨b, 0, none⟩) n cap), (2, .int .i64 (hi : Nat)), (3, .int .i64 (F : Nat)), (4, .func (.func G) #[] ca), (10, .int .i64 (r : Nat)), (11, .int .i64 (c : Nat))])
      (fun c w' => c = chd (ltO cf) hi F r d1 ∧ Hp w0 w' (BD b t d1 :: L)) ?_ ?_
    · refine WC.seq ?_
      have e2 := wrap_succ (i := 2 * r + 1) (n := 9000000000) (by omega) (by omega)
      refine WC.regQ (fun w' => Hp w0 w' (BD b t d1 :: L)) mixed (by kernel_rfl) (fun w' hw' => hp.keep hw') ?_
      repeat (first | refine WQ.pure rfl rfl rfl ?_ | refine WQ.off rfl rfl rfl ?_ | refine WQ.nil ?_)
      refine WQ.known (d := 20) (congrArg (fun z => some (Value.int .i64 z)) e2) ?_
      repeat (first | refine WQ.pure rfl rfl rfl ?_ | refine WQ.off rfl rfl rfl ?_ | refine WQ.nil ?_)
      refine WQ.split 23 rfl (fun h1 => ?_) (fun h1 => ?_)
      · have h1 : 2 * r + 1 + 1 < hi := by
          have h := of_decide_eq_true h1
          rw [e2] at h
          omega
        have e3 := w_add (x := F) (y := 2 * r + 1) (by omega)
        have e4 := wrap_succ (i := F + (2 * r + 1)) (n := 9000000000) (by omega) (by omega)
        repeat (first | refine WQ.pure rfl rfl rfl ?_ | refine WQ.off rfl rfl rfl ?_ | refine WQ.nil ?_)
        refine WQ.known (d := 28) (congrArg (fun z => some (Value.int .i64 z)) e3) ?_
        refine WQ.ixD rfl (fun _ => rfl) rfl rfl rfl rfl rfl rfl rfl rfl rfl (fun _ h => h) (show F + (2 * r + 1) < n by omega) (by omega) ?_
        repeat (first | refine WQ.pure rfl rfl rfl ?_ | refine WQ.off rfl rfl rfl ?_ | refine WQ.nil ?_)
        refine WQ.known (d := 35) (congrArg (fun z => some (Value.int .i64 z)) (show IntKind.i64.wrap (IntKind.i64.wrap (((F : Nat) : Int) + ((2 * r + 1 : Nat) : Int)) + 1) = ((F + (2 * r + 1) + 1 : Nat) : Int) by rw [e3, e4])) ?_
        refine WQ.ixD rfl (fun _ => rfl) rfl rfl rfl rfl rfl rfl rfl rfl rfl (fun _ h => h) (show F + (2 * r + 1) + 1 < n by omega) (by omega) ?_
        refine WQ.call rfl rfl rfl rfl rfl hE (hG.q (hd1.all (F + (2 * r + 1)) (by omega)) (hd1.all (F + (2 * r + 1) + 1) (by omega))) ?_
        repeat (first | refine WQ.pure rfl rfl rfl ?_ | refine WQ.off rfl rfl rfl ?_ | refine WQ.nil ?_)
        clear hp w
        intro w hp
        refine WC.cond rfl (fun h2 => ?_) (fun h2 => ?_)
        · have hq : chd (ltO cf) hi F r d1 = 2 * r + 2 := by unfold chd; rw [if_pos (by rw [decide_eq_true h1]; exact h2)]
          repeat (first | refine WC.seq ?_ | refine WC.reg ?_ | refine WL.pure rfl rfl rfl ?_ | refine WL.nil ?_ | refine WC.skip ?_ | refine WC.block ?_ | refine WC.condT rfl ?_ | refine WC.condF rfl ?_ | refine WL.off rfl rfl rfl ?_ | refine WL.off0 rfl rfl ?_ | refine WC.exit ?_ | refine blk_hit ?_ | refine blk_miss rfl ?_ | refine WC.ret ?_)
          exact ⟨2 * r + 1 + 1, ⟨rfl, rfl, rfl, rfl, rfl, congrArg (fun z => some (Value.int .i64 z)) e2, rfl⟩, hq.symm, hp⟩
        · have hq : chd (ltO cf) hi F r d1 = 2 * r + 1 := by unfold chd; rw [if_neg (by rw [decide_eq_true h1, Bool.true_and]; show ¬ decide (cf _ _ < 0) = true; rw [h2]; decide)]
          repeat (first | refine WC.seq ?_ | refine WC.reg ?_ | refine WL.pure rfl rfl rfl ?_ | refine WL.nil ?_ | refine WC.skip ?_ | refine WC.block ?_ | refine WC.condT rfl ?_ | refine WC.condF rfl ?_ | refine WL.off rfl rfl rfl ?_ | refine WL.off0 rfl rfl ?_ | refine WC.exit ?_ | refine blk_hit ?_ | refine blk_miss rfl ?_ | refine WC.ret ?_)
          exact ⟨2 * r + 1, ⟨rfl, rfl, rfl, rfl, rfl, rfl, rfl⟩, hq.symm, hp⟩
      · have h1 : ¬ 2 * r + 1 + 1 < hi := by
          have h := of_decide_eq_false h1
          rw [e2] at h
          omega
        repeat (first | refine WQ.pure rfl rfl rfl ?_ | refine WQ.off rfl rfl rfl ?_ | refine WQ.nil ?_)
        clear hp w
        intro w hp
        have hq : chd (ltO cf) hi F r d1 = 2 * r + 1 := by unfold chd; rw [if_neg (by rw [decide_eq_false h1, Bool.false_and]; decide)]
        repeat (first | refine WC.seq ?_ | refine WC.reg ?_ | refine WL.pure rfl rfl rfl ?_ | refine WL.nil ?_ | refine WC.skip ?_ | refine WC.block ?_ | refine WC.condT rfl ?_ | refine WC.condF rfl ?_ | refine WL.off rfl rfl rfl ?_ | refine WL.off0 rfl rfl ?_ | refine WC.exit ?_ | refine blk_hit ?_ | refine blk_miss rfl ?_ | refine WC.ret ?_)
        exact ⟨2 * r + 1, ⟨rfl, rfl, rfl, rfl, rfl, rfl, rfl⟩, hq.symm, hp⟩
    clear hp w
    rintro c e3 w hsub ⟨hcc, hp⟩
    refine WC.sub hsub ?_
    clear hsub e3
    rw [← hcc] at hS hch
    have e5 := w_add (x := F) (y := r) (by omega)
    have e6 := w_add (x := F) (y := c) (by omega)
    repeat (first | refine WC.seq ?_ | refine WC.reg ?_ | refine WL.pure rfl rfl rfl ?_ | refine WL.nil ?_ | refine WC.skip ?_ | refine WC.block ?_ | refine WC.condT rfl ?_ | refine WC.condF rfl ?_ | refine WL.off rfl rfl rfl ?_ | refine WL.off0 rfl rfl ?_ | refine WC.exit ?_ | refine blk_hit ?_ | refine blk_miss rfl ?_ | refine WC.ret ?_)
    refine WC.regQ (fun w' => Hp w0 w' (BD b t d1 :: L)) mixed (by kernel_rfl) (fun w' hw' => hp.keep hw') ?_
    repeat (first | refine WQ.pure rfl rfl rfl ?_ | refine WQ.off rfl rfl rfl ?_ | refine WQ.nil ?_)
    refine WQ.known (d := 47) (congrArg (fun z => some (Value.int .i64 z)) e5) ?_
    refine WQ.ixD rfl (fun _ => rfl) rfl rfl rfl rfl rfl rfl rfl rfl rfl (fun _ h => h) (show F + r < n by omega) (by omega) ?_
    repeat (first | refine WQ.pure rfl rfl rfl ?_ | refine WQ.off rfl rfl rfl ?_ | refine WQ.nil ?_)
    refine WQ.known (d := 53) (congrArg (fun z => some (Value.int .i64 z)) e6) ?_
    refine WQ.ixD rfl (fun _ => rfl) rfl rfl rfl rfl rfl rfl rfl rfl rfl (fun _ h => h) (show F + c < n by omega) (by omega) ?_
    refine WQ.call rfl rfl rfl rfl rfl hE (hG.q (hd1.all (F + r) (by omega)) (hd1.all (F + c) (by omega))) ?_
    repeat (first | refine WQ.pure rfl rfl rfl ?_ | refine WQ.off rfl rfl rfl ?_ | refine WQ.nil ?_)
    clear hp w
    intro w hp
    refine WC.cond rfl (fun h2 => ?_) (fun h2 => ?_)
    · rw [if_neg (by show ¬ decide (cf _ _ < 0) = true; simpa using h2)] at hS
      repeat (first | refine WC.seq ?_ | refine WC.reg ?_ | refine WL.pure rfl rfl rfl ?_ | refine WL.nil ?_ | refine WC.skip ?_ | refine WC.block ?_ | refine WC.condT rfl ?_ | refine WC.condF rfl ?_ | refine WL.off rfl rfl rfl ?_ | refine WL.off0 rfl rfl ?_ | refine WC.exit ?_ | refine blk_hit ?_ | refine blk_miss rfl ?_ | refine WC.ret ?_)
      refine Res.zero rfl rfl ?_
      rw [hS]
      exact ⟨hd1, hp⟩
    · rw [if_pos (by show decide (cf _ _ < 0) = true; simpa using h2)] at hS
      repeat (first | refine WC.seq ?_ | refine WC.reg ?_ | refine WL.pure rfl rfl rfl ?_ | refine WL.nil ?_ | refine WC.skip ?_ | refine WC.block ?_ | refine WC.condT rfl ?_ | refine WC.condF rfl ?_ | refine WL.off rfl rfl rfl ?_ | refine WL.off0 rfl rfl ?_ | refine WC.exit ?_ | refine blk_hit ?_ | refine blk_miss rfl ?_ | refine WC.ret ?_)
      refine WC.mid Unit (fun _ => [(0, .slice (some ⟨b, 0, none⟩) n cap), (2, .int .i64 (hi : Nat)), (3, .int .i64 (F : Nat)), (4, .func (.func G) #[] ca), (10, .int .i64 (r : Nat)), (11, .int .i64 (c : Nat))]) (fun _ w' => Hp w0 w' (BD b t (Go.Sort.swp (d1) (F + r) (F + c)) :: L)) ?_ ?_
      · refine WC.regH (fun _ => True) mixed (by kernel_rfl) (fun w6 hw6 hh6 => ?_)
        have kh6 := (hp).keep hw6
        refine WH.pure 0 (by kernel_rfl) rfl (by kernel_rfl) rfl rfl rfl trivial ?_
        refine WH.pure 1 (by kernel_rfl) rfl (by kernel_rfl) rfl rfl rfl trivial ?_
        refine WH.pure 2 (by kernel_rfl) rfl (by kernel_rfl) rfl rfl rfl trivial ?_
        refine WH.pure 3 (by kernel_rfl) rfl (by kernel_rfl) rfl rfl rfl trivial ?_
        refine WH.known (d := 62) (congrArg (fun z => some (Value.int .i64 z)) e5) ?_
        refine WH.pure 4 (by kernel_rfl) rfl (by kernel_rfl) rfl rfl rfl trivial ?_
        refine WH.pure 5 (by kernel_rfl) rfl (by kernel_rfl) rfl rfl rfl trivial ?_
        refine WH.pure 6 (by kernel_rfl) rfl (by kernel_rfl) rfl rfl rfl trivial ?_
        refine WH.pure 7 (by kernel_rfl) rfl (by kernel_rfl) rfl rfl rfl trivial ?_
        refine WH.known (d := 66) (congrArg (fun z => some (Value.int .i64 z)) e6) ?_
        refine WH.pure 8 (by kernel_rfl) rfl (by kernel_rfl) rfl rfl rfl trivial ?_
        refine WH.pure 9 (by kernel_rfl) rfl (by kernel_rfl) rfl rfl rfl trivial ?_
        refine WH.pure 10 (by kernel_rfl) rfl (by kernel_rfl) rfl rfl rfl trivial ?_
        refine WH.pure 11 (by kernel_rfl) rfl (by kernel_rfl) rfl rfl rfl trivial ?_
        refine WH.known (d := 70) (congrArg (fun z => some (Value.int .i64 z)) e6) ?_
        refine WH.ixS 12 (by kernel_rfl) rfl (by kernel_rfl) rfl rfl rfl rfl rfl rfl (by omega) trivial ?_
        refine WH.pure 14 (by kernel_rfl) rfl (by kernel_rfl) rfl rfl rfl trivial ?_
        refine WH.pure 15 (by kernel_rfl) rfl (by kernel_rfl) rfl rfl rfl trivial ?_
        refine WH.pure 16 (by kernel_rfl) rfl (by kernel_rfl) rfl rfl rfl trivial ?_
        refine WH.pure 17 (by kernel_rfl) rfl (by kernel_rfl) rfl rfl rfl trivial ?_
        refine WH.known (d := 76) (congrArg (fun z => some (Value.int .i64 z)) e5) ?_
        refine WH.ixS 18 (by kernel_rfl) rfl (by kernel_rfl) rfl rfl rfl rfl rfl rfl (by omega) trivial ?_
        refine WH.two 13 19 rfl rfl (by kernel_rfl) ?_ ?_
        · refine WL.loadN rfl rfl rfl rfl rfl rfl (cl_load kh6 (j := F + c) (by omega)) (WL.nil ⟨trivial, ?_⟩)
          refine WH.one 19 rfl (by kernel_rfl) ?_
          refine WL.loadN rfl rfl rfl rfl rfl rfl (cl_load kh6 (j := F + r) (by omega)) (WL.nil ⟨trivial, ?_⟩)
          refine WH.ixS 20 (by kernel_rfl) rfl (by kernel_rfl) rfl rfl rfl rfl rfl rfl (by omega) trivial ?_
          refine WH.one 21 rfl (by kernel_rfl) ?_
          refine WL.storeN rfl rfl rfl rfl rfl (rc_one (d1)[F + c]!) (kh6.obj 0 rfl) (cl_room (by omega)) (cl_store (j := F + r) (by omega)) (fun w7 hw7 => WL.nil ⟨trivial, ?_⟩)
          have hp7 := kh6.set 0 rfl rfl hw7
          refine WH.ixS 22 (by kernel_rfl) rfl (by kernel_rfl) rfl rfl rfl rfl rfl rfl (by omega) trivial ?_
          refine WH.one 23 rfl (by kernel_rfl) ?_
          refine WL.storeN rfl rfl rfl rfl rfl (rc_one (d1)[F + r]!) (hp7.obj 0 rfl) (cl_room (by rw [Array.size_setIfInBounds]; omega)) (cl_store (j := F + c) (by rw [Array.size_setIfInBounds]; omega)) (fun w8 hw8 => WL.nil ⟨trivial, ?_⟩)
          have hp8 := hp7.set 0 rfl rfl hw8
          refine WH.done (by kernel_rfl) ?_
          exact ⟨(), ⟨rfl, rfl, rfl, rfl, rfl, rfl, rfl⟩, hp8⟩
        · refine WL.loadN rfl rfl rfl rfl rfl rfl (cl_load kh6 (j := F + r) (by omega)) (WL.nil ⟨trivial, ?_⟩)
          refine WH.one 13 rfl (by kernel_rfl) ?_
          refine WL.loadN rfl rfl rfl rfl rfl rfl (cl_load kh6 (j := F + c) (by omega)) (WL.nil ⟨trivial, ?_⟩)
          refine WH.ixS 20 (by kernel_rfl) rfl (by kernel_rfl) rfl rfl rfl rfl rfl rfl (by omega) trivial ?_
          refine WH.one 21 rfl (by kernel_rfl) ?_
          refine WL.storeN rfl rfl rfl rfl rfl (rc_one (d1)[F + c]!) (kh6.obj 0 rfl) (cl_room (by omega)) (cl_store (j := F + r) (by omega)) (fun w7 hw7 => WL.nil ⟨trivial, ?_⟩)
          have hp7 := kh6.set 0 rfl rfl hw7
          refine WH.ixS 22 (by kernel_rfl) rfl (by kernel_rfl) rfl rfl rfl rfl rfl rfl (by omega) trivial ?_
          refine WH.one 23 rfl (by kernel_rfl) ?_
          refine WL.storeN rfl rfl rfl rfl rfl (rc_one (d1)[F + r]!) (hp7.obj 0 rfl) (cl_room (by rw [Array.size_setIfInBounds]; omega)) (cl_store (j := F + c) (by rw [Array.size_setIfInBounds]; omega)) (fun w8 hw8 => WL.nil ⟨trivial, ?_⟩)
          have hp8 := hp7.set 0 rfl rfl hw8
          refine WH.done (by kernel_rfl) ?_
          exact ⟨(), ⟨rfl, rfl, rfl, rfl, rfl, rfl, rfl⟩, hp8⟩
      rintro ⟨⟩ e6 w6 hsub hp6
      refine WC.sub hsub ?_
      clear hsub e6
      repeat (first | refine WC.seq ?_ | refine WC.reg ?_ | refine WL.pure rfl rfl rfl ?_ | refine WL.nil ?_ | refine WC.skip ?_ | refine WC.block ?_ | refine WC.condT rfl ?_ | refine WC.condF rfl ?_ | refine WL.off rfl rfl rfl ?_ | refine WL.off0 rfl rfl ?_ | refine WC.exit ?_ | refine blk_hit ?_ | refine blk_miss rfl ?_ | refine WC.ret ?_)
      exact ⟨(c, swp d1 (F + r) (F + c)), by show n - c < n - r; omega, ⟨rfl, rfl, rfl, rfl, rfl, rfl⟩, by omega, hd1.swp (by omega) (by omega), hS, hp6⟩

set_option maxHeartbeats 1000000 in
theorem heapSort_any (d : Array Rp) (hd : Okd n SS d) (a e : Nat) (hae : a < e) (hen : e ≤ n) (w : World) (hp : Hp w0 w (BD b t d :: L)) :
    Ret Tryz.prog 105 [.slice (some ⟨b, 0, none⟩) n cap, .int .i64 (a : Nat), .int .i64 (e : Nat), .func (.func G) #[] ca] w fun _ w' => Okd n SS (heapSort (ltO cf) d a e) ∧ Hp w0 w' (BD b t (heapSort (ltO cf) d a e) :: L) := by
  have e1 := w_sub (x := e) (y := a) (by omega) (by omega)
  obtain ⟨hi, hhi⟩ : ∃ hi, e - a = hi := ⟨_, rfl⟩
  rw [hhi] at e1
  have hh0 : 0 < hi := by omega
  have hh1 : a + hi ≤ n := by omega
  have e2 : IntKind.i64.wrap (((hi : Nat) : Int) - 1) = ((hi - 1 : Nat) : Int) := by rw [wrap_mid (by omega) (by omega)]; omega
  have e3 : IntKind.i64.wrap ((IntKind.i64.wrap (((hi : Nat) : Int) - 1)).tdiv 2) = (((hi - 1) / 2 + 1 : Nat) : Int) - 1 := by
    rw [e2]
    have h3 : (((hi - 1 : Nat) : Int)).tdiv 2 = (((hi - 1) / 2 : Nat) : Int) := (Int.ofNat_tdiv (hi - 1) 2).symm
    rw [h3, wrap_mid (by omega) (by omega)]; omega
  refine enter Tryz.func105 rfl rfl ⟨rfl, rfl⟩ rfl ?_
  have e3' : IntKind.i64.wrap ((IntKind.i64.wrap (IntKind.i64.wrap (((e : Nat) : Int) - ((a : Nat) : Int)) - 1)).tdiv 2) = (((hi - 1) / 2 + 1 : Nat) : Int) - 1 := by rw [e1]; exact e3
  repeat (first | refine WC.seq ?_ | refine WC.reg ?_ | refine WL.pure rfl rfl rfl ?_ | refine WL.nil ?_ | refine WC.skip ?_ | refine WC.block ?_ | refine WC.condT rfl ?_ | refine WC.condF rfl ?_ | refine WL.off rfl rfl rfl ?_ | refine WL.off0 rfl rfl ?_ | refine WC.exit ?_ | refine blk_hit ?_ | refine blk_miss rfl ?_ | refine WC.ret ?_)
  refine WC.loop (Nat × Array Rp) (fun (k, _) => [(0, .slice (some ⟨b, 0, none⟩) n cap), (3, .func (.func G) #[] ca), (8, .int .i64 (a : Nat)), (9, .int .i64 (0 : Nat)), (10, .int .i64 (hi : Nat)), (11, .int .i64 ((k : Int) - 1))])
    (fun (k, d1) w' => k ≤ hi ∧ Okd n SS d1 ∧ heapBuild (ltO cf) hi a ((hi - 1) / 2 + 1) d = heapBuild (ltO cf) hi a k d1 ∧ Hp w0 w' (BD b t d1 :: L)) (fun (k, _) => k) ((hi - 1) / 2 + 1, d) ⟨rfl, rfl, rfl, rfl, congrArg (fun z => some (Value.int .i64 z)) e1, congrArg (fun z => some (Value.int .i64 z)) e3', rfl⟩ ⟨by omega, hd, rfl, hp⟩ ?_
  clear hp w
  rintro ⟨k, d1⟩ w ⟨hk, hd1, hB, hp⟩
  repeat (first | refine WC.seq ?_ | refine WC.reg ?_ | refine WL.pure rfl rfl rfl ?_ | refine WL.nil ?_ | refine WC.skip ?_ | refine WC.block ?_ | refine WC.condT rfl ?_ | refine WC.condF rfl ?_ | refine WL.off rfl rfl rfl ?_ | refine WL.off0 rfl rfl ?_ | refine WC.exit ?_ | refine blk_hit ?_ | refine blk_miss rfl ?_ | refine WC.ret ?_)
  refine WC.cond rfl (fun hc => ?_) (fun hc => ?_)
  · obtain ⟨j, rfl⟩ : ∃ j, k = j + 1 := ⟨k - 1, by have := of_decide_eq_true hc; omega⟩
    have ej : ((j + 1 : Nat) : Int) - 1 = ((j : Nat) : Int) := by omega
    have ek : IntKind.i64.wrap ((((j + 1 : Nat) : Int) - 1) - 1) = ((j : Nat) : Int) - 1 := by rw [wrap_mid (by omega) (by omega)]; omega
    repeat (first | refine WC.seq ?_ | refine WC.reg ?_ | refine WL.pure rfl rfl rfl ?_ | refine WL.nil ?_ | refine WC.skip ?_ | refine WC.block ?_ | refine WC.condT rfl ?_ | refine WC.condF rfl ?_ | refine WL.off rfl rfl rfl ?_ | refine WL.off0 rfl rfl ?_ | refine WC.exit ?_ | refine blk_hit ?_ | refine blk_miss rfl ?_ | refine WC.ret ?_)
    refine WL.known (d := 25) (congrArg (fun z => some (Value.int .i64 z)) ej) ?_
    repeat (first | refine WC.seq ?_ | refine WC.reg ?_ | refine WL.pure rfl rfl rfl ?_ | refine WL.nil ?_ | refine WC.skip ?_ | refine WC.block ?_ | refine WC.condT rfl ?_ | refine WC.condF rfl ?_ | refine WL.off rfl rfl rfl ?_ | refine WL.off0 rfl rfl ?_ | refine WC.exit ?_ | refine blk_hit ?_ | refine blk_miss rfl ?_ | refine WC.ret ?_)
    refine WL.call rfl rfl rfl rfl rfl ent119 (siftDown_any b n cap t G ca cf hE SS w0 L hG hn d1 hd1 j hi a hh1 (by omega) w hp) ?_
    rintro _ w2 ⟨hd2, hp2⟩
    repeat (first | refine WC.seq ?_ | refine WC.reg ?_ | refine WL.pure rfl rfl rfl ?_ | refine WL.nil ?_ | refine WC.skip ?_ | refine WC.block ?_ | refine WC.condT rfl ?_ | refine WC.condF rfl ?_ | refine WL.off rfl rfl rfl ?_ | refine WL.off0 rfl rfl ?_ | refine WC.exit ?_ | refine blk_hit ?_ | refine blk_miss rfl ?_ | refine WC.ret ?_)
    exact ⟨(j, _), by show j < j + 1; omega, ⟨rfl, rfl, rfl, rfl, rfl, congrArg (fun z => some (Value.int .i64 z)) ek, rfl⟩, by omega, hd2, hB, hp2⟩
  · have hk : k = 0 := by have := of_decide_eq_false hc; omega
    subst hk
    have hS : heapSort (ltO cf) d a e = heapPop (ltO cf) a hi d1 := by
      unfold heapSort
      rw [hhi, hB]
      rfl
    have e4 : IntKind.i64.wrap (((hi : Nat) : Int) - 1) = ((hi : Nat) : Int) - 1 := wrap_mid (by omega) (by omega)
    repeat (first | refine WC.seq ?_ | refine WC.reg ?_ | refine WL.pure rfl rfl rfl ?_ | refine WL.nil ?_ | refine WC.skip ?_ | refine WC.block ?_ | refine WC.condT rfl ?_ | refine WC.condF rfl ?_ | refine WL.off rfl rfl rfl ?_ | refine WL.off0 rfl rfl ?_ | refine WC.exit ?_ | refine blk_hit ?_ | refine blk_miss rfl ?_ | refine WC.ret ?_)
    refine WC.loop (Nat × Array Rp) (fun (k, _) => [(0, .slice (some ⟨b, 0, none⟩) n cap), (3, .func (.func G) #[] ca), (8, .int .i64 (a : Nat)), (9, .int .i64 (0 : Nat)), (12, .int .i64 ((k : Int) - 1))])
      (fun (k, d2) w' => k ≤ hi ∧ Okd n SS d2 ∧ heapSort (ltO cf) d a e = heapPop (ltO cf) a k d2 ∧ Hp w0 w' (BD b t d2 :: L)) (fun (k, _) => k) (hi, d1) ⟨rfl, rfl, rfl, rfl, congrArg (fun z => some (Value.int .i64 z)) e4, rfl⟩ ⟨by omega, hd1, hS, hp⟩ ?_
    clear hp w hS
    rintro ⟨k, d2⟩ w ⟨hk, hd2, hS, hp⟩
    have hsz := hd2.sz
    repeat (first | refine WC.seq ?_ | refine WC.reg ?_ | refine WL.pure rfl rfl rfl ?_ | refine WL.nil ?_ | refine WC.skip ?_ | refine WC.block ?_ | refine WC.condT rfl ?_ | refine WC.condF rfl ?_ | refine WL.off rfl rfl rfl ?_ | refine WL.off0 rfl rfl ?_ | refine WC.exit ?_ | refine blk_hit ?_ | refine blk_miss rfl ?_ | refine WC.ret ?_)
    refine WC.cond rfl (fun hc => ?_) (fun hc => ?_)
    · obtain ⟨j, rfl⟩ : ∃ j, k = j + 1 := ⟨k - 1, by have := of_decide_eq_true hc; omega⟩
      have ej : ((j + 1 : Nat) : Int) - 1 = ((j : Nat) : Int) := by omega
      have ek : IntKind.i64.wrap ((((j + 1 : Nat) : Int) - 1) - 1) = ((j : Nat) : Int) - 1 := by rw [wrap_mid (by omega) (by omega)]; omega
      have ea : IntKind.i64.wrap (((a : Nat) : Int) + (((j + 1 : Nat) : Int) - 1)) = ((a + j : Nat) : Int) := by rw [ej, w_add (by omega)]
      repeat (first | refine WC.seq ?_ | refine WC.reg ?_ | refine WL.pure rfl rfl rfl ?_ | refine WL.nil ?_ | refine WC.skip ?_ | refine WC.block ?_ | refine WC.condT rfl ?_ | refine WC.condF rfl ?_ | refine WL.off rfl rfl rfl ?_ | refine WL.off0 rfl rfl ?_ | refine WC.exit ?_ | refine blk_hit ?_ | refine blk_miss rfl ?_ | refine WC.ret ?_)
      refine WC.mid Unit (fun _ => [(0, .slice (some ⟨b, 0, none⟩) n cap), (3, .func (.func G) #[] ca), (8, .int .i64 (a : Nat)), (9, .int .i64 (0 : Nat)), (12, .int .i64 (((j + 1 : Nat) : Int) - 1))]) (fun _ w' => Hp w0 w' (BD b t (Go.Sort.swp (d2) (a) (a + j)) :: L)) ?_ ?_
      · refine WC.regH (fun _ => True) mixed (by kernel_rfl) (fun w6 hw6 hh6 => ?_)
        have kh6 := (hp).keep hw6
        refine WH.pure 0 (by kernel_rfl) rfl (by kernel_rfl) rfl rfl rfl trivial ?_
        refine WH.pure 1 (by kernel_rfl) rfl (by kernel_rfl) rfl rfl rfl trivial ?_
        refine WH.pure 2 (by kernel_rfl) rfl (by kernel_rfl) rfl rfl rfl trivial ?_
        refine WH.pure 3 (by kernel_rfl) rfl (by kernel_rfl) rfl rfl rfl trivial ?_
        refine WH.pure 4 (by kernel_rfl) rfl (by kernel_rfl) rfl rfl rfl trivial ?_
        refine WH.pure 5 (by kernel_rfl) rfl (by kernel_rfl) rfl rfl rfl trivial ?_
        refine WH.known (d := 41) (congrArg (fun z => some (Value.int .i64 z)) ea) ?_
        refine WH.pure 6 (by kernel_rfl) rfl (by kernel_rfl) rfl rfl rfl trivial ?_
        refine WH.pure 7 (by kernel_rfl) rfl (by kernel_rfl) rfl rfl rfl trivial ?_
        refine WH.pure 8 (by kernel_rfl) rfl (by kernel_rfl) rfl rfl rfl trivial ?_
        refine WH.pure 9 (by kernel_rfl) rfl (by kernel_rfl) rfl rfl rfl trivial ?_
        refine WH.known (d := 45) (congrArg (fun z => some (Value.int .i64 z)) ea) ?_
        refine WH.ixS 10 (by kernel_rfl) rfl (by kernel_rfl) rfl rfl rfl rfl rfl rfl (by omega) trivial ?_
        refine WH.pure 12 (by kernel_rfl) rfl (by kernel_rfl) rfl rfl rfl trivial ?_
        refine WH.pure 13 (by kernel_rfl) rfl (by kernel_rfl) rfl rfl rfl trivial ?_
        refine WH.ixS 14 (by kernel_rfl) rfl (by kernel_rfl) rfl rfl rfl rfl rfl rfl (by omega) trivial ?_
        refine WH.two 11 15 rfl rfl (by kernel_rfl) ?_ ?_
        · refine WL.loadN rfl rfl rfl rfl rfl rfl (cl_load kh6 (j := a + j) (by omega)) (WL.nil ⟨trivial, ?_⟩)
          refine WH.one 15 rfl (by kernel_rfl) ?_
          refine WL.loadN rfl rfl rfl rfl rfl rfl (cl_load kh6 (j := a) (by omega)) (WL.nil ⟨trivial, ?_⟩)
          refine WH.ixS 16 (by kernel_rfl) rfl (by kernel_rfl) rfl rfl rfl rfl rfl rfl (by omega) trivial ?_
          refine WH.one 17 rfl (by kernel_rfl) ?_
          refine WL.storeN rfl rfl rfl rfl rfl (rc_one (d2)[a + j]!) (kh6.obj 0 rfl) (cl_room (by omega)) (cl_store (j := a) (by omega)) (fun w7 hw7 => WL.nil ⟨trivial, ?_⟩)
          have hp7 := kh6.set 0 rfl rfl hw7
          refine WH.ixS 18 (by kernel_rfl) rfl (by kernel_rfl) rfl rfl rfl rfl rfl rfl (by omega) trivial ?_
          refine WH.one 19 rfl (by kernel_rfl) ?_
          refine WL.storeN rfl rfl rfl rfl rfl (rc_one (d2)[a]!) (hp7.obj 0 rfl) (cl_room (by rw [Array.size_setIfInBounds]; omega)) (cl_store (j := a + j) (by rw [Array.size_setIfInBounds]; omega)) (fun w8 hw8 => WL.nil ⟨trivial, ?_⟩)
          have hp8 := hp7.set 0 rfl rfl hw8
          refine WH.done (by kernel_rfl) ?_
          exact ⟨(), ⟨rfl, rfl, rfl, rfl, rfl, rfl⟩, hp8⟩
        · refine WL.loadN rfl rfl rfl rfl rfl rfl (cl_load kh6 (j := a) (by omega)) (WL.nil ⟨trivial, ?_⟩)
          refine WH.one 11 rfl (by kernel_rfl) ?_
          refine WL.loadN rfl rfl rfl rfl rfl rfl (cl_load kh6 (j := a + j) (by omega)) (WL.nil ⟨trivial, ?_⟩)
          refine WH.ixS 16 (by kernel_rfl) rfl (by kernel_rfl) rfl rfl rfl rfl rfl rfl (by omega) trivial ?_
          refine WH.one 17 rfl (by kernel_rfl) ?_
          refine WL.storeN rfl rfl rfl rfl rfl (rc_one (d2)[a + j]!) (kh6.obj 0 rfl) (cl_room (by omega)) (cl_store (j := a) (by omega)) (fun w7 hw7 => WL.nil ⟨trivial, ?_⟩)
          have hp7 := kh6.set 0 rfl rfl hw7
          refine WH.ixS 18 (by kernel_rfl) rfl (by kernel_rfl) rfl rfl rfl rfl rfl rfl (by omega) trivial ?_
          refine WH.one 19 rfl (by kernel_rfl) ?_
          refine WL.storeN rfl rfl rfl rfl rfl (rc_one (d2)[a]!) (hp7.obj 0 rfl) (cl_room (by rw [Array.size_setIfInBounds]; omega)) (cl_store (j := a + j) (by rw [Array.size_setIfInBounds]; omega)) (fun w8 hw8 => WL.nil ⟨trivial, ?_⟩)
          have hp8 := hp7.set 0 rfl rfl hw8
          refine WH.done (by kernel_rfl) ?_
          exact ⟨(), ⟨rfl, rfl, rfl, rfl, rfl, rfl⟩, hp8⟩
      rintro ⟨⟩ e6 w6 hsub hp6
      refine WC.sub hsub ?_
      clear hsub e6
      have hd3 := hd2.swp (i := a) (j := a + j) (by omega) (by omega)
      repeat (first | refine WC.seq ?_ | refine WC.reg ?_ | refine WL.pure rfl rfl rfl ?_ | refine WL.nil ?_ | refine WC.skip ?_ | refine WC.block ?_ | refine WC.condT rfl ?_ | refine WC.condF rfl ?_ | refine WL.off rfl rfl rfl ?_ | refine WL.off0 rfl rfl ?_ | refine WC.exit ?_ | refine blk_hit ?_ | refine blk_miss rfl ?_ | refine WC.ret ?_)
      refine WL.known (d := 56) (congrArg (fun z => some (Value.int .i64 z)) ej) ?_
      repeat (first | refine WC.seq ?_ | refine WC.reg ?_ | refine WL.pure rfl rfl rfl ?_ | refine WL.nil ?_ | refine WC.skip ?_ | refine WC.block ?_ | refine WC.condT rfl ?_ | refine WC.condF rfl ?_ | refine WL.off rfl rfl rfl ?_ | refine WL.off0 rfl rfl ?_ | refine WC.exit ?_ | refine blk_hit ?_ | refine blk_miss rfl ?_ | refine WC.ret ?_)
      refine WL.call rfl rfl rfl rfl rfl ent119 (siftDown_any b n cap t G ca cf hE SS w0 L hG hn _ hd3 0 j a (by omega) (by omega) w6 hp6) ?_
      rintro _ w7 ⟨hd4, hp7⟩
      repeat (first | refine WC.seq ?_ | refine WC.reg ?_ | refine WL.pure rfl rfl rfl ?_ | refine WL.nil ?_ | refine WC.skip ?_ | refine WC.block ?_ | refine WC.condT rfl ?_ | refine WC.condF rfl ?_ | refine WL.off rfl rfl rfl ?_ | refine WL.off0 rfl rfl ?_ | refine WC.exit ?_ | refine blk_hit ?_ | refine blk_miss rfl ?_ | refine WC.ret ?_)
      exact ⟨(j, _), by show j < j + 1; omega, ⟨rfl, rfl, rfl, rfl, congrArg (fun z => some (Value.int .i64 z)) ek, rfl⟩, by omega, hd4, hS, hp7⟩
    · have hk : k = 0 := by have := of_decide_eq_false hc; omega
      subst hk
      repeat (first | refine WC.seq ?_ | refine WC.reg ?_ | refine WL.pure rfl rfl rfl ?_ | refine WL.nil ?_ | refine WC.skip ?_ | refine WC.block ?_ | refine WC.condT rfl ?_ | refine WC.condF rfl ?_ | refine WL.off rfl rfl rfl ?_ | refine WL.off0 rfl rfl ?_ | refine WC.exit ?_ | refine blk_hit ?_ | refine blk_miss rfl ?_ | refine WC.ret ?_)
      refine Res.zero rfl rfl ?_
      rw [hS]
      exact ⟨hd2, hp⟩

omit hE hG in
set_option maxHeartbeats 1000000 in
theorem reverseRange_any (d : Array Rp) (hd : Okd n SS d) (a e : Nat) (hae : a < e) (hen : e ≤ n) (w : World) (hp : Hp w0 w (BD b t d :: L)) :
    Ret Tryz.prog 108 [.slice (some ⟨b, 0, none⟩) n cap, .int .i64 (a : Nat), .int .i64 (e : Nat), .func (.func G) #[] ca] w fun _ w' => Okd n SS (reverseRange d a e) ∧ Hp w0 w' (BD b t (reverseRange d a e) :: L) := by
  have e1 : IntKind.i64.wrap (((e : Nat) : Int) - 1) = ((e - 1 : Nat) : Int) := by rw [wrap_mid (by omega) (by omega)]; omega
  refine enter Tryz.func108 rfl rfl ⟨rfl, rfl⟩ rfl ?_
  repeat (first | refine WC.seq ?_ | refine WC.reg ?_ | refine WL.pure rfl rfl rfl ?_ | refine WL.nil ?_ | refine WC.skip ?_ | refine WC.block ?_ | refine WC.condT rfl ?_ | refine WC.condF rfl ?_ | refine WL.off rfl rfl rfl ?_ | refine WL.off0 rfl rfl ?_ | refine WC.exit ?_ | refine blk_hit ?_ | refine blk_miss rfl ?_ | refine WC.ret ?_)
  refine WC.loop (Nat × Nat × Array Rp) (fun (i, j, _) => [(0, .slice (some ⟨b, 0, none⟩) n cap), (8, .int .i64 (i : Nat)), (9, .int .i64 (j : Nat))])
    (fun (i, j, d1) w' => i ≤ n ∧ j < n ∧ Okd n SS d1 ∧ reverseRange d a e = reverseLoop i j d1 ∧ Hp w0 w' (BD b t d1 :: L)) (fun (_, j, _) => j) (a, e - 1, d) ⟨rfl, rfl, congrArg (fun z => some (Value.int .i64 z)) e1, rfl⟩ ⟨by omega, by omega, hd, rfl, hp⟩ ?_
  clear hp w
  rintro ⟨i, j, d1⟩ w ⟨hi, hj, hd1, hR, hp⟩
  have hsz := hd1.sz
  repeat (first | refine WC.seq ?_ | refine WC.reg ?_ | refine WL.pure rfl rfl rfl ?_ | refine WL.nil ?_ | refine WC.skip ?_ | refine WC.block ?_ | refine WC.condT rfl ?_ | refine WC.condF rfl ?_ | refine WL.off rfl rfl rfl ?_ | refine WL.off0 rfl rfl ?_ | refine WC.exit ?_ | refine blk_hit ?_ | refine blk_miss rfl ?_ | refine WC.ret ?_)
  refine WC.cond rfl (fun hc => ?_) (fun hc => ?_)
  · have hij : i < j := by have := of_decide_eq_true hc; omega
    have step := wrap_succ (i := i) (n := 1000000001) (by omega) (by omega)
    have ej : IntKind.i64.wrap (((j : Nat) : Int) - 1) = ((j - 1 : Nat) : Int) := by rw [wrap_mid (by omega) (by omega)]; omega
    rw [rev_go hij] at hR
    repeat (first | refine WC.seq ?_ | refine WC.reg ?_ | refine WL.pure rfl rfl rfl ?_ | refine WL.nil ?_ | refine WC.skip ?_ | refine WC.block ?_ | refine WC.condT rfl ?_ | refine WC.condF rfl ?_ | refine WL.off rfl rfl rfl ?_ | refine WL.off0 rfl rfl ?_ | refine WC.exit ?_ | refine blk_hit ?_ | refine blk_miss rfl ?_ | refine WC.ret ?_)
    refine WC.mid Unit (fun _ => [(0, .slice (some ⟨b, 0, none⟩) n cap), (8, .int .i64 (i : Nat)), (9, .int .i64 (j : Nat))]) (fun _ w' => Hp w0 w' (BD b t (Go.Sort.swp (d1) (i) (j)) :: L)) ?_ ?_
    · refine WC.regH (fun _ => True) mixed (by kernel_rfl) (fun w6 hw6 hh6 => ?_)
      have kh6 := (hp).keep hw6
      refine WH.pure 0 (by kernel_rfl) rfl (by kernel_rfl) rfl rfl rfl trivial ?_
      refine WH.pure 1 (by kernel_rfl) rfl (by kernel_rfl) rfl rfl rfl trivial ?_
      refine WH.pure 2 (by kernel_rfl) rfl (by kernel_rfl) rfl rfl rfl trivial ?_
      refine WH.pure 3 (by kernel_rfl) rfl (by kernel_rfl) rfl rfl rfl trivial ?_
      refine WH.pure 4 (by kernel_rfl) rfl (by kernel_rfl) rfl rfl rfl trivial ?_
      refine WH.pure 5 (by kernel_rfl) rfl (by kernel_rfl) rfl rfl rfl trivial ?_
      refine WH.ixS 6 (by kernel_rfl) rfl (by kernel_rfl) rfl rfl rfl rfl rfl rfl (by omega) trivial ?_
      refine WH.pure 8 (by kernel_rfl) rfl (by kernel_rfl) rfl rfl rfl trivial ?_
      refine WH.pure 9 (by kernel_rfl) rfl (by kernel_rfl) rfl rfl rfl trivial ?_
      refine WH.ixS 10 (by kernel_rfl) rfl (by kernel_rfl) rfl rfl rfl rfl rfl rfl (by omega) trivial ?_
      refine WH.two 7 11 rfl rfl (by kernel_rfl) ?_ ?_
      · refine WL.loadN rfl rfl rfl rfl rfl rfl (cl_load kh6 (j := j) (by omega)) (WL.nil ⟨trivial, ?_⟩)
        refine WH.one 11 rfl (by kernel_rfl) ?_
        refine WL.loadN rfl rfl rfl rfl rfl rfl (cl_load kh6 (j := i) (by omega)) (WL.nil ⟨trivial, ?_⟩)
        refine WH.ixS 12 (by kernel_rfl) rfl (by kernel_rfl) rfl rfl rfl rfl rfl rfl (by omega) trivial ?_
        refine WH.one 13 rfl (by kernel_rfl) ?_
        refine WL.storeN rfl rfl rfl rfl rfl (rc_one (d1)[j]!) (kh6.obj 0 rfl) (cl_room (by omega)) (cl_store (j := i) (by omega)) (fun w7 hw7 => WL.nil ⟨trivial, ?_⟩)
        have hp7 := kh6.set 0 rfl rfl hw7
        refine WH.ixS 14 (by kernel_rfl) rfl (by kernel_rfl) rfl rfl rfl rfl rfl rfl (by omega) trivial ?_
        refine WH.one 15 rfl (by kernel_rfl) ?_
        refine WL.storeN rfl rfl rfl rfl rfl (rc_one (d1)[i]!) (hp7.obj 0 rfl) (cl_room (by rw [Array.size_setIfInBounds]; omega)) (cl_store (j := j) (by rw [Array.size_setIfInBounds]; omega)) (fun w8 hw8 => WL.nil ⟨trivial, ?_⟩)
        have hp8 := hp7.set 0 rfl rfl hw8
        refine WH.done (by kernel_rfl) ?_
        exact ⟨(), ⟨rfl, rfl, rfl, rfl⟩, hp8⟩
      · refine WL.loadN rfl rfl rfl rfl rfl rfl (cl_load kh6 (j := i) (by omega)) (WL.nil ⟨trivial, ?_⟩)
        refine WH.one 7 rfl (by kernel_rfl) ?_
        refine WL.loadN rfl rfl rfl rfl rfl rfl (cl_load kh6 (j := j) (by omega)) (WL.nil ⟨trivial, ?_⟩)
        refine WH.ixS 12 (by kernel_rfl) rfl (by kernel_rfl) rfl rfl rfl rfl rfl rfl (by omega) trivial ?_
        refine WH.one 13 rfl (by kernel_rfl) ?_
        refine WL.storeN rfl rfl rfl rfl rfl (rc_one (d1)[j]!) (kh6.obj 0 rfl) (cl_room (by omega)) (cl_store (j := i) (by omega)) (fun w7 hw7 => WL.nil ⟨trivial, ?_⟩)
        have hp7 := kh6.set 0 rfl rfl hw7
        refine WH.ixS 14 (by kernel_rfl) rfl (by kernel_rfl) rfl rfl rfl rfl rfl rfl (by omega) trivial ?_
        refine WH.one 15 rfl (by kernel_rfl) ?_
        refine WL.storeN rfl rfl rfl rfl rfl (rc_one (d1)[i]!) (hp7.obj 0 rfl) (cl_room (by rw [Array.size_setIfInBounds]; omega)) (cl_store (j := j) (by rw [Array.size_setIfInBounds]; omega)) (fun w8 hw8 => WL.nil ⟨trivial, ?_⟩)
        have hp8 := hp7.set 0 rfl rfl hw8
        refine WH.done (by kernel_rfl) ?_
        exact ⟨(), ⟨rfl, rfl, rfl, rfl⟩, hp8⟩
    rintro ⟨⟩ e6 w6 hsub hp6
    refine WC.sub hsub ?_
    clear hsub e6
    repeat (first | refine WC.seq ?_ | refine WC.reg ?_ | refine WL.pure rfl rfl rfl ?_ | refine WL.nil ?_ | refine WC.skip ?_ | refine WC.block ?_ | refine WC.condT rfl ?_ | refine WC.condF rfl ?_ | refine WL.off rfl rfl rfl ?_ | refine WL.off0 rfl rfl ?_ | refine WC.exit ?_ | refine blk_hit ?_ | refine blk_miss rfl ?_ | refine WC.ret ?_)
    exact ⟨(i + 1, j - 1, swp d1 i j), by show j - 1 < j; omega, ⟨rfl, congrArg (fun z => some (Value.int .i64 z)) step, congrArg (fun z => some (Value.int .i64 z)) ej, rfl⟩, by omega, by omega, hd1.swp (by omega) (by omega), hR, hp6⟩
  · have hij : ¬ i < j := by have := of_decide_eq_false hc; omega
    rw [rev_stop hij] at hR
    repeat (first | refine WC.seq ?_ | refine WC.reg ?_ | refine WL.pure rfl rfl rfl ?_ | refine WL.nil ?_ | refine WC.skip ?_ | refine WC.block ?_ | refine WC.condT rfl ?_ | refine WC.condF rfl ?_ | refine WL.off rfl rfl rfl ?_ | refine WL.off0 rfl rfl ?_ | refine WC.exit ?_ | refine blk_hit ?_ | refine blk_miss rfl ?_ | refine WC.ret ?_)
    refine Res.zero rfl rfl ?_
    rw [hR]
    exact ⟨hd1, hp⟩
end
end Go.Proofs.YtoghnhbjdnjghaaGreat
