/- The walks of a sort: the partitions. -/
import Derived.Test.YtoghnhbjdnjghaaGreatS2
namespace Go.Sort
section
variable {α : Type} [Inhabited α]
theorem scanUp_go {p : α → Bool} {d : Array α} {j i : Nat} (h : i ≤ j) (hp : p d[i]! = true) : scanUp p d j i = scanUp p d j (i + 1) := by
  rw [scanUp, if_pos (by rw [decide_eq_true h, hp]; rfl)]
theorem scanUp_stop {p : α → Bool} {d : Array α} {j i : Nat} (h : ¬ (i ≤ j ∧ p d[i]! = true)) : scanUp p d j i = i := by
  rw [scanUp, if_neg (by simpa using h)]
theorem scanDown_go {p : α → Bool} {d : Array α} {i j : Nat} (h0 : 0 < j) (h : i ≤ j) (hp : p d[j]! = true) : scanDown p d i j = scanDown p d i (j - 1) := by
  obtain ⟨k, rfl⟩ : ∃ k, j = k + 1 := ⟨j - 1, by omega⟩
  rw [scanDown, if_pos (by rw [decide_eq_true h, hp]; rfl)]; rfl
theorem scanDown_stop {p : α → Bool} {d : Array α} {i j : Nat} (h : ¬ (i ≤ j ∧ p d[j]! = true)) : scanDown p d i j = j := by
  cases j with
  | zero => rfl
  | succ k => rw [scanDown, if_neg (by simpa using h)]
end
end Go.Sort
namespace Go.Proofs.YtoghnhbjdnjghaaGreat
open Go.W Go.Words Go.RowKit Go.Sort
set_option maxRecDepth 100000
attribute [local irreducible] WC WL WQ WS WH

section
variable (b n cap : Nat) (t : List Value) (G : FuncId) (ca : Array Value) (cf : Rp → Rp → Int) (hE : Ents Tryz.prog G) (SS : Rp → Prop) (w0 : World) (L : List Ent) (hG : CmpOk b t G ca cf SS w0 L) (hn : n ≤ 1000000000)
include hE hG hn

set_option maxHeartbeats 2000000 in
theorem partition_any (d : Array Rp) (hd : Okd n SS d) (a e p : Nat) (hap : a ≤ p) (hpe : p < e) (hen : e ≤ n) (w : World) (hp : Hp w0 w (BD b t d :: L)) :
    Ret Tryz.prog 111 [.slice (some ⟨b, 0, none⟩) n cap, .int .i64 (a : Nat), .int .i64 (e : Nat), .int .i64 (p : Nat), .func (.func G) #[] ca] w fun u w' => u = .tuple #[.int .i64 ((partition (ltO cf) d a e p).1 : Nat), .bool (partition (ltO cf) d a e p).2.1] ∧ Okd n SS (partition (ltO cf) d a e p).2.2 ∧ Hp w0 w' (BD b t (partition (ltO cf) d a e p).2.2 :: L) := by
  have hsz := hd.sz
  have e1 := wrap_succ (i := a) (n := 1000000001) (by omega) (by omega)
  have e2 : IntKind.i64.wrap (((e : Nat) : Int) - 1) = ((e - 1 : Nat) : Int) := by rw [wrap_mid (by omega) (by omega)]; omega
  obtain ⟨r, hr⟩ : ∃ r, partition (ltO cf) d a e p = r := ⟨_, rfl⟩
  rw [hr]
  unfold partition at hr
  simp only at hr
  refine enter Tryz.func111 rfl rfl ⟨rfl, rfl⟩ rfl ?_
  repeat (first | refine WC.seq ?_ | refine WC.reg ?_ | refine WL.pure rfl rfl rfl ?_ | refine WL.nil ?_ | refine WC.skip ?_ | refine WC.block ?_ | refine WC.condT rfl ?_ | refine WC.condF rfl ?_ | refine WL.off rfl rfl rfl ?_ | refine WL.off0 rfl rfl ?_ | refine WC.exit ?_ | refine blk_hit ?_ | refine blk_miss rfl ?_ | refine WC.ret ?_)
  refine WC.mid Unit (fun _ => [(0, .slice (some ⟨b, 0, none⟩) n cap), (1, .int .i64 (a : Nat)), (2, .int .i64 (e : Nat)), (3, .int .i64 (p : Nat)), (4, .func (.func G) #[] ca)]) (fun _ w' => Hp w0 w' (BD b t (Go.Sort.swp (d) (a) (p)) :: L)) ?_ ?_
  · refine WC.regH (fun _ => True) mixed (by kernel_rfl) (fun w6 hw6 hh6 => ?_)
    have kh6 := (hp).keep hw6
    refine WH.pure 0 (by kernel_rfl) rfl (by kernel_rfl) rfl rfl rfl trivial ?_
    refine WH.pure 1 (by kernel_rfl) rfl (by kernel_rfl) rfl rfl rfl trivial ?_
    refine WH.pure 2 (by kernel_rfl) rfl (by kernel_rfl) rfl rfl rfl trivial ?_
    refine WH.pure 3 (by kernel_rfl) rfl (by kernel_rfl) rfl rfl rfl trivial ?_
    refine WH.pure 4 (by kernel_rfl) rfl (by kernel_rfl) rfl rfl rfl trivial ?_
    refine WH.pure 5 (by kernel_rfl) rfl (by kernel_rfl) rfl rfl rfl trivial ?_
    refine WH.ixS 6 (by kernel_rfl) rfl (by kernel_rfl) rfl rfl rfl rfl rfl rfl (by omega) trivial ?_
    refine WH.pure 8 (by kernel_rfl) rfl (by kernel_rfl) rfl rfl rfl trivial ?_
    refine WH.pure 9 (by kernel_rfl) rfl (by kernel_rfl) rfl rfl rfl trivial ?_
    refine WH.ixS 10 (by kernel_rfl) rfl (by kernel_rfl) rfl rfl rfl rfl rfl rfl (by omega) trivial ?_
    refine WH.two 7 11 rfl rfl (by kernel_rfl) ?_ ?_
    · refine WL.loadN rfl rfl rfl rfl rfl rfl (cl_load kh6 (j := p) (by omega)) (WL.nil ⟨trivial, ?_⟩)
      refine WH.one 11 rfl (by kernel_rfl) ?_
      refine WL.loadN rfl rfl rfl rfl rfl rfl (cl_load kh6 (j := a) (by omega)) (WL.nil ⟨trivial, ?_⟩)
      refine WH.ixS 12 (by kernel_rfl) rfl (by kernel_rfl) rfl rfl rfl rfl rfl rfl (by omega) trivial ?_
      refine WH.one 13 rfl (by kernel_rfl) ?_
      refine WL.storeN rfl rfl rfl rfl rfl (rc_one (d)[p]!) (kh6.obj 0 rfl) (cl_room (by omega)) (cl_store (j := a) (by omega)) (fun w7 hw7 => WL.nil ⟨trivial, ?_⟩)
      have hp7 := kh6.set 0 rfl rfl hw7
      refine WH.ixS 14 (by kernel_rfl) rfl (by kernel_rfl) rfl rfl rfl rfl rfl rfl (by omega) trivial ?_
      refine WH.one 15 rfl (by kernel_rfl) ?_
      refine WL.storeN rfl rfl rfl rfl rfl (rc_one (d)[a]!) (hp7.obj 0 rfl) (cl_room (by rw [Array.size_setIfInBounds]; omega)) (cl_store (j := p) (by rw [Array.size_setIfInBounds]; omega)) (fun w8 hw8 => WL.nil ⟨trivial, ?_⟩)
      have hp8 := hp7.set 0 rfl rfl hw8
      refine WH.done (by kernel_rfl) ?_
      exact ⟨(), ⟨rfl, rfl, rfl, rfl, rfl, rfl⟩, hp8⟩
    · refine WL.loadN rfl rfl rfl rfl rfl rfl (cl_load kh6 (j := a) (by omega)) (WL.nil ⟨trivial, ?_⟩)
      refine WH.one 7 rfl (by kernel_rfl) ?_
      refine WL.loadN rfl rfl rfl rfl rfl rfl (cl_load kh6 (j := p) (by omega)) (WL.nil ⟨trivial, ?_⟩)
      refine WH.ixS 12 (by kernel_rfl) rfl (by kernel_rfl) rfl rfl rfl rfl rfl rfl (by omega) trivial ?_
      refine WH.one 13 rfl (by kernel_rfl) ?_
      refine WL.storeN rfl rfl rfl rfl rfl (rc_one (d)[p]!) (kh6.obj 0 rfl) (cl_room (by omega)) (cl_store (j := a) (by omega)) (fun w7 hw7 => WL.nil ⟨trivial, ?_⟩)
      have hp7 := kh6.set 0 rfl rfl hw7
      refine WH.ixS 14 (by kernel_rfl) rfl (by kernel_rfl) rfl rfl rfl rfl rfl rfl (by omega) trivial ?_
      refine WH.one 15 rfl (by kernel_rfl) ?_
      refine WL.storeN rfl rfl rfl rfl rfl (rc_one (d)[a]!) (hp7.obj 0 rfl) (cl_room (by rw [Array.size_setIfInBounds]; omega)) (cl_store (j := p) (by rw [Array.size_setIfInBounds]; omega)) (fun w8 hw8 => WL.nil ⟨trivial, ?_⟩)
      have hp8 := hp7.set 0 rfl rfl hw8
      refine WH.done (by kernel_rfl) ?_
      exact ⟨(), ⟨rfl, rfl, rfl, rfl, rfl, rfl⟩, hp8⟩
  rintro ⟨⟩ e6 w6 hsub hp6
  refine WC.sub hsub ?_
  clear hsub e6
  have hp := hp6
  have hOK := hd.swp (i := a) (j := p) (by omega) (by omega)
  clear hp6 hd
  generalize swp d a p = d1 at *
  have hsz := hOK.sz
  repeat (first | refine WC.seq ?_ | refine WC.reg ?_ | refine WL.pure rfl rfl rfl ?_ | refine WL.nil ?_ | refine WC.skip ?_ | refine WC.block ?_ | refine WC.condT rfl ?_ | refine WC.condF rfl ?_ | refine WL.off rfl rfl rfl ?_ | refine WL.off0 rfl rfl ?_ | refine WC.exit ?_ | refine blk_hit ?_ | refine blk_miss rfl ?_ | refine WC.ret ?_)
  refine WC.loop Nat (fun i => [(0, .slice (some ⟨b, 0, none⟩) n cap), (1, .int .i64 (a : Nat)), (4, .func (.func G) #[] ca), (12, .int .i64 (i : Nat)), (13, .int .i64 (e - 1 : Nat))])
    (fun i w' => a + 1 ≤ i ∧ (i ≤ a + 1 ∨ i ≤ e - 1 + 1) ∧ scanUp (fun x => ltO cf x d1[a]!) d1 (e - 1) (a + 1) = scanUp (fun x => ltO cf x d1[a]!) d1 (e - 1) i ∧ Hp w0 w' (BD b t d1 :: L)) (fun i => e - 1 + 1 - i) (a + 1) ⟨rfl, rfl, rfl, congrArg (fun z => some (Value.int .i64 z)) e1, congrArg (fun z => some (Value.int .i64 z)) e2, rfl⟩ ⟨Nat.le_refl _, .inl (Nat.le_refl _), rfl, hp⟩ ?_
  rintro i w ⟨hi1, hi2, hiS, hp⟩
  refine WC.seq ?_
  refine WC.seq ?_
  refine WC.mid Bool (fun q => [(0, .slice (some ⟨b, 0, none⟩) n cap), (1, .int .i64 (a : Nat)), (4, .func (.func G) #[] ca), (12, .int .i64 (i : Nat)), (13, .int .i64 (e - 1 : Nat)), (47, .bool q)]) (fun q w' => (q = true ↔ i ≤ e - 1 ∧ (fun x => ltO cf x d1[a]!) d1[i]! = true) ∧ Hp w0 w' (BD b t d1 :: L)) ?_ ?_
  · refine WC.regQ (fun w' => Hp w0 w' (BD b t d1 :: L)) mixed (by kernel_rfl) (fun w' hw' => hp.keep hw') ?_
    repeat (first | refine WQ.pure rfl rfl rfl ?_ | refine WQ.off rfl rfl rfl ?_ | refine WQ.nil ?_)
    refine WQ.split 35 rfl (fun h1 => ?_) (fun h1 => ?_)
    · have h1 : i ≤ e - 1 := by have := of_decide_eq_true h1; omega
      repeat (first | refine WQ.pure rfl rfl rfl ?_ | refine WQ.off rfl rfl rfl ?_ | refine WQ.nil ?_)
      refine WQ.ixD (j := i) rfl (fun _ => rfl) rfl rfl rfl rfl rfl rfl rfl rfl rfl (fun _ h => h) (by omega) (by omega) ?_
      repeat (first | refine WQ.pure rfl rfl rfl ?_ | refine WQ.off rfl rfl rfl ?_ | refine WQ.nil ?_)
      refine WQ.ixD (j := a) rfl (fun _ => rfl) rfl rfl rfl rfl rfl rfl rfl rfl rfl (fun _ h => h) (by omega) (by omega) ?_
      refine WQ.call rfl rfl rfl rfl rfl hE (hG.q (hOK.all i (by omega)) (hOK.all a (by omega))) ?_
      repeat (first | refine WQ.pure rfl rfl rfl ?_ | refine WQ.off rfl rfl rfl ?_ | refine WQ.nil ?_)
      intro w' hp'
      exact ⟨_, ⟨rfl, rfl, rfl, rfl, rfl, rfl, rfl⟩, ⟨fun h => ⟨h1, h⟩, fun h => h.2⟩, hp'⟩
    · have h1 : ¬ i ≤ e - 1 := by have := of_decide_eq_false h1; omega
      repeat (first | refine WQ.pure rfl rfl rfl ?_ | refine WQ.off rfl rfl rfl ?_ | refine WQ.nil ?_)
      intro w' hp'
      exact ⟨false, ⟨rfl, rfl, rfl, rfl, rfl, rfl, rfl⟩, ⟨fun h => (by cases h), fun h => absurd h.1 h1⟩, hp'⟩
  rintro q e3 w hsub ⟨hq, hp⟩
  refine WC.sub hsub ?_
  clear hsub e3
  refine WC.cond rfl (fun hc2 => ?_) (fun hc2 => ?_)
  · obtain ⟨hg1, hg2⟩ := hq.1 hc2
    have step := wrap_succ (i := i) (n := 1000000001) (by omega) (by omega)
    rw [scanUp_go hg1 hg2] at hiS
    repeat (first | refine WC.seq ?_ | refine WC.reg ?_ | refine WL.pure rfl rfl rfl ?_ | refine WL.nil ?_ | refine WC.skip ?_ | refine WC.block ?_ | refine WC.condT rfl ?_ | refine WC.condF rfl ?_ | refine WL.off rfl rfl rfl ?_ | refine WL.off0 rfl rfl ?_ | refine WC.exit ?_ | refine blk_hit ?_ | refine blk_miss rfl ?_ | refine WC.ret ?_)
    exact ⟨i + 1, by show e - 1 + 1 - (i + 1) < e - 1 + 1 - i; omega, ⟨rfl, rfl, rfl, congrArg (fun z => some (Value.int .i64 z)) step, rfl, rfl⟩, by omega, .inr (by omega), hiS, hp⟩
  have hst := scanUp_stop (p := fun x => ltO cf x d1[a]!) (d := d1) (j := e - 1) (i := i) (fun h => by have := hq.2 h; rw [hc2] at this; cases this)
  rw [hst] at hiS
  clear hq hc2 hst
  repeat (first | refine WC.seq ?_ | refine WC.reg ?_ | refine WL.pure rfl rfl rfl ?_ | refine WL.nil ?_ | refine WC.skip ?_ | refine WC.block ?_ | refine WC.condT rfl ?_ | refine WC.condF rfl ?_ | refine WL.off rfl rfl rfl ?_ | refine WL.off0 rfl rfl ?_ | refine WC.exit ?_ | refine blk_hit ?_ | refine blk_miss rfl ?_ | refine WC.ret ?_)
  refine WC.loop Nat (fun j => [(0, .slice (some ⟨b, 0, none⟩) n cap), (1, .int .i64 (a : Nat)), (4, .func (.func G) #[] ca), (12, .int .i64 (i : Nat)), (13, .int .i64 (j : Nat))])
    (fun j w' => j ≤ e - 1 ∧ (j < e - 1 → i ≤ j + 1) ∧ scanDown (fun x => !ltO cf x d1[a]!) d1 (i) (e - 1) = scanDown (fun x => !ltO cf x d1[a]!) d1 (i) j ∧ Hp w0 w' (BD b t d1 :: L)) (fun j => j) (e - 1) ⟨rfl, rfl, rfl, rfl, rfl, rfl⟩ ⟨Nat.le_refl _, (fun h => absurd h (Nat.lt_irrefl _)), rfl, hp⟩ ?_
  rintro j w ⟨hj1, hj2, hjS, hp⟩
  refine WC.seq ?_
  refine WC.seq ?_
  refine WC.mid Bool (fun q => [(0, .slice (some ⟨b, 0, none⟩) n cap), (1, .int .i64 (a : Nat)), (4, .func (.func G) #[] ca), (12, .int .i64 (i : Nat)), (13, .int .i64 (j : Nat)), (66, .bool q)]) (fun q w' => (q = true ↔ i ≤ j ∧ (fun x => !ltO cf x d1[a]!) d1[j]! = true) ∧ Hp w0 w' (BD b t d1 :: L)) ?_ ?_
  · refine WC.regQ (fun w' => Hp w0 w' (BD b t d1 :: L)) mixed (by kernel_rfl) (fun w' hw' => hp.keep hw') ?_
    repeat (first | refine WQ.pure rfl rfl rfl ?_ | refine WQ.off rfl rfl rfl ?_ | refine WQ.nil ?_)
    refine WQ.split 53 rfl (fun h1 => ?_) (fun h1 => ?_)
    · have h1 : i ≤ j := by have := of_decide_eq_true h1; omega
      repeat (first | refine WQ.pure rfl rfl rfl ?_ | refine WQ.off rfl rfl rfl ?_ | refine WQ.nil ?_)
      refine WQ.ixD (j := j) rfl (fun _ => rfl) rfl rfl rfl rfl rfl rfl rfl rfl rfl (fun _ h => h) (by omega) (by omega) ?_
      repeat (first | refine WQ.pure rfl rfl rfl ?_ | refine WQ.off rfl rfl rfl ?_ | refine WQ.nil ?_)
      refine WQ.ixD (j := a) rfl (fun _ => rfl) rfl rfl rfl rfl rfl rfl rfl rfl rfl (fun _ h => h) (by omega) (by omega) ?_
      refine WQ.call rfl rfl rfl rfl rfl hE (hG.q (hOK.all j (by omega)) (hOK.all a (by omega))) ?_
      repeat (first | refine WQ.pure rfl rfl rfl ?_ | refine WQ.off rfl rfl rfl ?_ | refine WQ.nil ?_)
      intro w' hp'
      exact ⟨_, ⟨rfl, rfl, rfl, rfl, rfl, rfl, rfl⟩, ⟨fun h => ⟨h1, h⟩, fun h => h.2⟩, hp'⟩
    · have h1 : ¬ i ≤ j := by have := of_decide_eq_false h1; omega
      repeat (first | refine WQ.pure rfl rfl rfl ?_ | refine WQ.off rfl rfl rfl ?_ | refine WQ.nil ?_)
      intro w' hp'
      exact ⟨false, ⟨rfl, rfl, rfl, rfl, rfl, rfl, rfl⟩, ⟨fun h => (by cases h), fun h => absurd h.1 h1⟩, hp'⟩
  rintro q e3 w hsub ⟨hq, hp⟩
  refine WC.sub hsub ?_
  clear hsub e3
  refine WC.cond rfl (fun hc2 => ?_) (fun hc2 => ?_)
  · obtain ⟨hg1, hg2⟩ := hq.1 hc2
    have step : IntKind.i64.wrap (((j : Nat) : Int) - 1) = ((j - 1 : Nat) : Int) := by rw [wrap_mid (by omega) (by omega)]; omega
    rw [scanDown_go (by omega) hg1 hg2] at hjS
    repeat (first | refine WC.seq ?_ | refine WC.reg ?_ | refine WL.pure rfl rfl rfl ?_ | refine WL.nil ?_ | refine WC.skip ?_ | refine WC.block ?_ | refine WC.condT rfl ?_ | refine WC.condF rfl ?_ | refine WL.off rfl rfl rfl ?_ | refine WL.off0 rfl rfl ?_ | refine WC.exit ?_ | refine blk_hit ?_ | refine blk_miss rfl ?_ | refine WC.ret ?_)
    exact ⟨j - 1, by show j - 1 < j; omega, ⟨rfl, rfl, rfl, rfl, congrArg (fun z => some (Value.int .i64 z)) step, rfl⟩, by omega, fun _ => by omega, hjS, hp⟩
  have hst := scanDown_stop (p := fun x => !ltO cf x d1[a]!) (d := d1) (i := i) (j := j) (fun h => by have := hq.2 h; rw [hc2] at this; cases this)
  rw [hst] at hjS
  clear hq hc2 hst
  rw [hiS, hjS] at hr
  repeat (first | refine WC.seq ?_ | refine WC.reg ?_ | refine WL.pure rfl rfl rfl ?_ | refine WL.nil ?_ | refine WC.skip ?_ | refine WC.block ?_ | refine WC.condT rfl ?_ | refine WC.condF rfl ?_ | refine WL.off rfl rfl rfl ?_ | refine WL.off0 rfl rfl ?_ | refine WC.exit ?_ | refine blk_hit ?_ | refine blk_miss rfl ?_ | refine WC.ret ?_)
  refine WC.cond rfl (fun hc => ?_) (fun hc => ?_)
  · have hlt : i > j := by have := of_decide_eq_true hc; omega
    rw [if_pos hlt] at hr
    subst hr
    repeat (first | refine WC.seq ?_ | refine WC.reg ?_ | refine WL.pure rfl rfl rfl ?_ | refine WL.nil ?_ | refine WC.skip ?_ | refine WC.block ?_ | refine WC.condT rfl ?_ | refine WC.condF rfl ?_ | refine WL.off rfl rfl rfl ?_ | refine WL.off0 rfl rfl ?_ | refine WC.exit ?_ | refine blk_hit ?_ | refine blk_miss rfl ?_ | refine WC.ret ?_)
    refine WC.mid Unit (fun _ => [(0, .slice (some ⟨b, 0, none⟩) n cap), (1, .int .i64 (a : Nat)), (13, .int .i64 (j : Nat))]) (fun _ w' => Hp w0 w' (BD b t (Go.Sort.swp (d1) (j) (a)) :: L)) ?_ ?_
    · refine WC.regH (fun _ => True) mixed (by kernel_rfl) (fun w6 hw6 hh6 => ?_)
      have kh6 := (hp).keep hw6
      refine WH.pure 0 (by kernel_rfl) rfl (by kernel_rfl) rfl rfl rfl trivial ?_
      refine WH.pure 1 (by kernel_rfl) rfl (by kernel_rfl) rfl rfl rfl trivial ?_
      refine WH.pure 2 (by kernel_rfl) rfl (by kernel_rfl) rfl rfl rfl trivial ?_
      refine WH.pure 3 (by kernel_rfl) rfl (by kernel_rfl) rfl rfl rfl trivial ?_
      refine WH.pure 4 (by kernel_rfl) rfl (by kernel_rfl) rfl rfl rfl trivial ?_
      refine WH.pure 5 (by kernel_rfl) rfl (by kernel_rfl) rfl rfl rfl trivial ?_
      refine WH.ixS 6 (by kernel_rfl) rfl (by kernel_rfl) rfl rfl rfl rfl rfl rfl (by omega) trivial ?_
      refine WH.pure 8 (by kernel_rfl) rfl (by kernel_rfl) rfl rfl rfl trivial ?_
      refine WH.pure 9 (by kernel_rfl) rfl (by kernel_rfl) rfl rfl rfl trivial ?_
      refine WH.ixS 10 (by kernel_rfl) rfl (by kernel_rfl) rfl rfl rfl rfl rfl rfl (by omega) trivial ?_
      refine WH.two 7 11 rfl rfl (by kernel_rfl) ?_ ?_
      · refine WL.loadN rfl rfl rfl rfl rfl rfl (cl_load kh6 (j := a) (by omega)) (WL.nil ⟨trivial, ?_⟩)
        refine WH.one 11 rfl (by kernel_rfl) ?_
        refine WL.loadN rfl rfl rfl rfl rfl rfl (cl_load kh6 (j := j) (by omega)) (WL.nil ⟨trivial, ?_⟩)
        refine WH.ixS 12 (by kernel_rfl) rfl (by kernel_rfl) rfl rfl rfl rfl rfl rfl (by omega) trivial ?_
        refine WH.one 13 rfl (by kernel_rfl) ?_
        refine WL.storeN rfl rfl rfl rfl rfl (rc_one (d1)[a]!) (kh6.obj 0 rfl) (cl_room (by omega)) (cl_store (j := j) (by omega)) (fun w7 hw7 => WL.nil ⟨trivial, ?_⟩)
        have hp7 := kh6.set 0 rfl rfl hw7
        refine WH.ixS 14 (by kernel_rfl) rfl (by kernel_rfl) rfl rfl rfl rfl rfl rfl (by omega) trivial ?_
        refine WH.one 15 rfl (by kernel_rfl) ?_
        refine WL.storeN rfl rfl rfl rfl rfl (rc_one (d1)[j]!) (hp7.obj 0 rfl) (cl_room (by rw [Array.size_setIfInBounds]; omega)) (cl_store (j := a) (by rw [Array.size_setIfInBounds]; omega)) (fun w8 hw8 => WL.nil ⟨trivial, ?_⟩)
        have hp8 := hp7.set 0 rfl rfl hw8
        refine WH.done (by kernel_rfl) ?_
        exact ⟨(), ⟨rfl, rfl, rfl, rfl⟩, hp8⟩
      · refine WL.loadN rfl rfl rfl rfl rfl rfl (cl_load kh6 (j := j) (by omega)) (WL.nil ⟨trivial, ?_⟩)
        refine WH.one 7 rfl (by kernel_rfl) ?_
        refine WL.loadN rfl rfl rfl rfl rfl rfl (cl_load kh6 (j := a) (by omega)) (WL.nil ⟨trivial, ?_⟩)
        refine WH.ixS 12 (by kernel_rfl) rfl (by kernel_rfl) rfl rfl rfl rfl rfl rfl (by omega) trivial ?_
        refine WH.one 13 rfl (by kernel_rfl) ?_
        refine WL.storeN rfl rfl rfl rfl rfl (rc_one (d1)[a]!) (kh6.obj 0 rfl) (cl_room (by omega)) (cl_store (j := j) (by omega)) (fun w7 hw7 => WL.nil ⟨trivial, ?_⟩)
        have hp7 := kh6.set 0 rfl rfl hw7
        refine WH.ixS 14 (by kernel_rfl) rfl (by kernel_rfl) rfl rfl rfl rfl rfl rfl (by omega) trivial ?_
        refine WH.one 15 rfl (by kernel_rfl) ?_
        refine WL.storeN rfl rfl rfl rfl rfl (rc_one (d1)[j]!) (hp7.obj 0 rfl) (cl_room (by rw [Array.size_setIfInBounds]; omega)) (cl_store (j := a) (by rw [Array.size_setIfInBounds]; omega)) (fun w8 hw8 => WL.nil ⟨trivial, ?_⟩)
        have hp8 := hp7.set 0 rfl rfl hw8
        refine WH.done (by kernel_rfl) ?_
        exact ⟨(), ⟨rfl, rfl, rfl, rfl⟩, hp8⟩
    rintro ⟨⟩ e6 w6 hsub hp6
    refine WC.sub hsub ?_
    clear hsub e6
    repeat (first | refine WC.seq ?_ | refine WC.reg ?_ | refine WL.pure rfl rfl rfl ?_ | refine WL.nil ?_ | refine WC.skip ?_ | refine WC.block ?_ | refine WC.condT rfl ?_ | refine WC.condF rfl ?_ | refine WL.off rfl rfl rfl ?_ | refine WL.off0 rfl rfl ?_ | refine WC.exit ?_ | refine blk_hit ?_ | refine blk_miss rfl ?_ | refine WC.ret ?_)
    exact Res.two rfl rfl rfl rfl ⟨rfl, hOK.swp (by omega) (by omega), hp6⟩
  have hlt : ¬ i > j := by have := of_decide_eq_false hc; omega
  rw [if_neg hlt] at hr
  have st1 := wrap_succ (i := i) (n := 1000000001) (by omega) (by omega)
  have st2 : IntKind.i64.wrap (((j : Nat) : Int) - 1) = ((j - 1 : Nat) : Int) := by rw [wrap_mid (by omega) (by omega)]; omega
  repeat (first | refine WC.seq ?_ | refine WC.reg ?_ | refine WL.pure rfl rfl rfl ?_ | refine WL.nil ?_ | refine WC.skip ?_ | refine WC.block ?_ | refine WC.condT rfl ?_ | refine WC.condF rfl ?_ | refine WL.off rfl rfl rfl ?_ | refine WL.off0 rfl rfl ?_ | refine WC.exit ?_ | refine blk_hit ?_ | refine blk_miss rfl ?_ | refine WC.ret ?_)
  refine WC.mid Unit (fun _ => [(0, .slice (some ⟨b, 0, none⟩) n cap), (1, .int .i64 (a : Nat)), (4, .func (.func G) #[] ca), (12, .int .i64 (i : Nat)), (13, .int .i64 (j : Nat))]) (fun _ w' => Hp w0 w' (BD b t (Go.Sort.swp (d1) (i) (j)) :: L)) ?_ ?_
  · refine WC.regH (fun _ => True) mixed (by kernel_rfl) (fun w6 hw6 hh6 => ?_)
    have kh6 := (hp).keep hw6
    refine WH.pure 0 (by kernel_rfl) rfl (by kernel_rfl) rfl rfl rfl trivial ?_
    refine WH.pure 1 (by kernel_rfl) rfl (by kernel_rfl) rfl rfl rfl trivial ?_
    refine WH.pure 2 (by kernel_rfl) rfl (by kernel_rfl) rfl rfl rfl trivial ?_
    refine WH.pure 3 (by kernel_rfl) rfl (by kernel_rfl) rfl rfl rfl trivial ?_
    refine WH.pure 4 (by kernel_rfl) rfl (by kernel_rfl) rfl rfl rfl trivial ?_
    refine WH.pure 5 (by kernel_rfl) rfl (by kernel_rfl) rfl rfl rfl trivial ?_
    refine WH.ixS 6 (by kernel_rfl) rfl (by kernel_rfl) rfl rfl rfl rfl rfl rfl (by omega) trivial ?_
    refine WH.pure 8 (by kernel_rfl) rfl (by kernel_rfl) rfl rfl rfl trivial ?_
    refine WH.pure 9 (by kernel_rfl) rfl (by kernel_rfl) rfl rfl rfl trivial ?_
    refine WH.ixS 10 (by kernel_rfl) rfl (by kernel_rfl) rfl rfl rfl rfl rfl rfl (by omega) trivial ?_
    refine WH.two 7 11 rfl rfl (by kernel_rfl) ?_ ?_
    · refine WL.loadN rfl rfl rfl rfl rfl rfl (cl_load kh6 (j := j) (by omega)) (WL.nil ⟨trivial, ?_⟩)
      refine WH.one 11 rfl (by kernel_rfl) ?_
      refine WL.loadN rfl rfl rfl rfl rfl rfl (cl_load kh6 (j := i) (by omega)) (WL.nil ⟨trivial, ?_⟩)
      refine WH.ixS 12 (by kernel_rfl) rfl (by kernel_rfl) rfl rfl rfl rfl rfl rfl (by omega) trivial ?_
      refine WH.one 13 rfl (by kernel_rfl) ?_
      refine WL.storeN rfl rfl rfl rfl rfl (rc_one (d1)[j]!) (kh6.obj 0 rfl) (cl_room (by omega)) (cl_store (j := i) (by omega)) (fun w7 hw7 => WL.nil ⟨trivial, ?_⟩)
      have hp7 := kh6.set 0 rfl rfl hw7
      refine WH.ixS 14 (by kernel_rfl) rfl (by kernel_rfl) rfl rfl rfl rfl rfl rfl (by omega) trivial ?_
      refine WH.one 15 rfl (by kernel_rfl) ?_
      refine WL.storeN rfl rfl rfl rfl rfl (rc_one (d1)[i]!) (hp7.obj 0 rfl) (cl_room (by rw [Array.size_setIfInBounds]; omega)) (cl_store (j := j) (by rw [Array.size_setIfInBounds]; omega)) (fun w8 hw8 => WL.nil ⟨trivial, ?_⟩)
      have hp8 := hp7.set 0 rfl rfl hw8
      refine WH.done (by kernel_rfl) ?_
      exact ⟨(), ⟨rfl, rfl, rfl, rfl, rfl, rfl⟩, hp8⟩
    · refine WL.loadN rfl rfl rfl rfl rfl rfl (cl_load kh6 (j := i) (by omega)) (WL.nil ⟨trivial, ?_⟩)
      refine WH.one 7 rfl (by kernel_rfl) ?_
      refine WL.loadN rfl rfl rfl rfl rfl rfl (cl_load kh6 (j := j) (by omega)) (WL.nil ⟨trivial, ?_⟩)
      refine WH.ixS 12 (by kernel_rfl) rfl (by kernel_rfl) rfl rfl rfl rfl rfl rfl (by omega) trivial ?_
      refine WH.one 13 rfl (by kernel_rfl) ?_
      refine WL.storeN rfl rfl rfl rfl rfl (rc_one (d1)[j]!) (kh6.obj 0 rfl) (cl_room (by omega)) (cl_store (j := i) (by omega)) (fun w7 hw7 => WL.nil ⟨trivial, ?_⟩)
      have hp7 := kh6.set 0 rfl rfl hw7
      refine WH.ixS 14 (by kernel_rfl) rfl (by kernel_rfl) rfl rfl rfl rfl rfl rfl (by omega) trivial ?_
      refine WH.one 15 rfl (by kernel_rfl) ?_
      refine WL.storeN rfl rfl rfl rfl rfl (rc_one (d1)[i]!) (hp7.obj 0 rfl) (cl_room (by rw [Array.size_setIfInBounds]; omega)) (cl_store (j := j) (by rw [Array.size_setIfInBounds]; omega)) (fun w8 hw8 => WL.nil ⟨trivial, ?_⟩)
      have hp8 := hp7.set 0 rfl rfl hw8
      refine WH.done (by kernel_rfl) ?_
      exact ⟨(), ⟨rfl, rfl, rfl, rfl, rfl, rfl⟩, hp8⟩
  rintro ⟨⟩ e6 w6 hsub hp6
  refine WC.sub hsub ?_
  clear hsub e6
  have hp := hp6
  have hOK := hOK.swp (i := i) (j := j) (by omega) (by omega)
  clear hp6
  generalize swp d1 i j = d2 at *
  obtain ⟨R, hR⟩ : ∃ R, partLoop (ltO cf) a (i + 1) (j - 1) d2 = R := ⟨_, rfl⟩
  rw [hR] at hr
  repeat (first | refine WC.seq ?_ | refine WC.reg ?_ | refine WL.pure rfl rfl rfl ?_ | refine WL.nil ?_ | refine WC.skip ?_ | refine WC.block ?_ | refine WC.condT rfl ?_ | refine WC.condF rfl ?_ | refine WL.off rfl rfl rfl ?_ | refine WL.off0 rfl rfl ?_ | refine WC.exit ?_ | refine blk_hit ?_ | refine blk_miss rfl ?_ | refine WC.ret ?_)
  refine WC.loop (Nat × Nat × Array Rp) (fun (i, j, _) => [(0, .slice (some ⟨b, 0, none⟩) n cap), (1, .int .i64 (a : Nat)), (4, .func (.func G) #[] ca), (12, .int .i64 (i : Nat)), (13, .int .i64 (j : Nat))])
    (fun (i, j, d) w' => a < i ∧ i ≤ n ∧ j < n ∧ Okd n SS d ∧ R = partLoop (ltO cf) a i j d ∧ Hp w0 w' (BD b t d :: L)) (fun (i, j, _) => j + 1 - i) (i + 1, j - 1, d2) ⟨rfl, rfl, rfl, congrArg (fun z => some (Value.int .i64 z)) st1, congrArg (fun z => some (Value.int .i64 z)) st2, rfl⟩ ⟨by omega, by omega, by omega, hOK, hR.symm, hp⟩ ?_
  clear hR hOK hp hsz hiS hjS hi1 hi2 hj1 hj2 st1 st2 hlt hc
  rintro ⟨i0, j0, d3⟩ w ⟨hi0, hin, hj0, hOK, hPL, hp⟩
  have hsz := hOK.sz
  repeat (first | refine WC.seq ?_ | refine WC.reg ?_ | refine WL.pure rfl rfl rfl ?_ | refine WL.nil ?_ | refine WC.skip ?_ | refine WC.block ?_ | refine WC.condT rfl ?_ | refine WC.condF rfl ?_ | refine WL.off rfl rfl rfl ?_ | refine WL.off0 rfl rfl ?_ | refine WC.exit ?_ | refine blk_hit ?_ | refine blk_miss rfl ?_ | refine WC.ret ?_)
  refine WC.loop Nat (fun i1 => [(0, .slice (some ⟨b, 0, none⟩) n cap), (1, .int .i64 (a : Nat)), (4, .func (.func G) #[] ca), (12, .int .i64 (i1 : Nat)), (13, .int .i64 (j0 : Nat))])
    (fun i1 w' => i0 ≤ i1 ∧ (i1 ≤ i0 ∨ i1 ≤ j0 + 1) ∧ scanUp (fun x => ltO cf x d3[a]!) d3 (j0) (i0) = scanUp (fun x => ltO cf x d3[a]!) d3 (j0) i1 ∧ Hp w0 w' (BD b t d3 :: L)) (fun i1 => j0 + 1 - i1) (i0) ⟨rfl, rfl, rfl, rfl, rfl, rfl⟩ ⟨Nat.le_refl _, .inl (Nat.le_refl _), rfl, hp⟩ ?_
  rintro i1 w ⟨hi11, hi12, hi1S, hp⟩
  refine WC.seq ?_
  refine WC.seq ?_
  refine WC.mid Bool (fun q => [(0, .slice (some ⟨b, 0, none⟩) n cap), (1, .int .i64 (a : Nat)), (4, .func (.func G) #[] ca), (12, .int .i64 (i1 : Nat)), (13, .int .i64 (j0 : Nat)), (120, .bool q)]) (fun q w' => (q = true ↔ i1 ≤ j0 ∧ (fun x => ltO cf x d3[a]!) d3[i1]! = true) ∧ Hp w0 w' (BD b t d3 :: L)) ?_ ?_
  · refine WC.regQ (fun w' => Hp w0 w' (BD b t d3 :: L)) mixed (by kernel_rfl) (fun w' hw' => hp.keep hw') ?_
    repeat (first | refine WQ.pure rfl rfl rfl ?_ | refine WQ.off rfl rfl rfl ?_ | refine WQ.nil ?_)
    refine WQ.split 108 rfl (fun h1 => ?_) (fun h1 => ?_)
    · have h1 : i1 ≤ j0 := by have := of_decide_eq_true h1; omega
      repeat (first | refine WQ.pure rfl rfl rfl ?_ | refine WQ.off rfl rfl rfl ?_ | refine WQ.nil ?_)
      refine WQ.ixD (j := i1) rfl (fun _ => rfl) rfl rfl rfl rfl rfl rfl rfl rfl rfl (fun _ h => h) (by omega) (by omega) ?_
      repeat (first | refine WQ.pure rfl rfl rfl ?_ | refine WQ.off rfl rfl rfl ?_ | refine WQ.nil ?_)
      refine WQ.ixD (j := a) rfl (fun _ => rfl) rfl rfl rfl rfl rfl rfl rfl rfl rfl (fun _ h => h) (by omega) (by omega) ?_
      refine WQ.call rfl rfl rfl rfl rfl hE (hG.q (hOK.all i1 (by omega)) (hOK.all a (by omega))) ?_
      repeat (first | refine WQ.pure rfl rfl rfl ?_ | refine WQ.off rfl rfl rfl ?_ | refine WQ.nil ?_)
      intro w' hp'
      exact ⟨_, ⟨rfl, rfl, rfl, rfl, rfl, rfl, rfl⟩, ⟨fun h => ⟨h1, h⟩, fun h => h.2⟩, hp'⟩
    · have h1 : ¬ i1 ≤ j0 := by have := of_decide_eq_false h1; omega
      repeat (first | refine WQ.pure rfl rfl rfl ?_ | refine WQ.off rfl rfl rfl ?_ | refine WQ.nil ?_)
      intro w' hp'
      exact ⟨false, ⟨rfl, rfl, rfl, rfl, rfl, rfl, rfl⟩, ⟨fun h => (by cases h), fun h => absurd h.1 h1⟩, hp'⟩
  rintro q e3 w hsub ⟨hq, hp⟩
  refine WC.sub hsub ?_
  clear hsub e3
  refine WC.cond rfl (fun hc2 => ?_) (fun hc2 => ?_)
  · obtain ⟨hg1, hg2⟩ := hq.1 hc2
    have step := wrap_succ (i := i1) (n := 1000000001) (by omega) (by omega)
    rw [scanUp_go hg1 hg2] at hi1S
    repeat (first | refine WC.seq ?_ | refine WC.reg ?_ | refine WL.pure rfl rfl rfl ?_ | refine WL.nil ?_ | refine WC.skip ?_ | refine WC.block ?_ | refine WC.condT rfl ?_ | refine WC.condF rfl ?_ | refine WL.off rfl rfl rfl ?_ | refine WL.off0 rfl rfl ?_ | refine WC.exit ?_ | refine blk_hit ?_ | refine blk_miss rfl ?_ | refine WC.ret ?_)
    exact ⟨i1 + 1, by show j0 + 1 - (i1 + 1) < j0 + 1 - i1; omega, ⟨rfl, rfl, rfl, congrArg (fun z => some (Value.int .i64 z)) step, rfl, rfl⟩, by omega, .inr (by omega), hi1S, hp⟩
  have hst := scanUp_stop (p := fun x => ltO cf x d3[a]!) (d := d3) (j := j0) (i := i1) (fun h => by have := hq.2 h; rw [hc2] at this; cases this)
  rw [hst] at hi1S
  clear hq hc2 hst
  repeat (first | refine WC.seq ?_ | refine WC.reg ?_ | refine WL.pure rfl rfl rfl ?_ | refine WL.nil ?_ | refine WC.skip ?_ | refine WC.block ?_ | refine WC.condT rfl ?_ | refine WC.condF rfl ?_ | refine WL.off rfl rfl rfl ?_ | refine WL.off0 rfl rfl ?_ | refine WC.exit ?_ | refine blk_hit ?_ | refine blk_miss rfl ?_ | refine WC.ret ?_)
  refine WC.loop Nat (fun j1 => [(0, .slice (some ⟨b, 0, none⟩) n cap), (1, .int .i64 (a : Nat)), (4, .func (.func G) #[] ca), (12, .int .i64 (i1 : Nat)), (13, .int .i64 (j1 : Nat))])
    (fun j1 w' => j1 ≤ j0 ∧ (j1 < j0 → i1 ≤ j1 + 1) ∧ scanDown (fun x => !ltO cf x d3[a]!) d3 (i1) (j0) = scanDown (fun x => !ltO cf x d3[a]!) d3 (i1) j1 ∧ Hp w0 w' (BD b t d3 :: L)) (fun j1 => j1) (j0) ⟨rfl, rfl, rfl, rfl, rfl, rfl⟩ ⟨Nat.le_refl _, (fun h => absurd h (Nat.lt_irrefl _)), rfl, hp⟩ ?_
  rintro j1 w ⟨hj11, hj12, hj1S, hp⟩
  refine WC.seq ?_
  refine WC.seq ?_
  refine WC.mid Bool (fun q => [(0, .slice (some ⟨b, 0, none⟩) n cap), (1, .int .i64 (a : Nat)), (4, .func (.func G) #[] ca), (12, .int .i64 (i1 : Nat)), (13, .int .i64 (j1 : Nat)), (139, .bool q)]) (fun q w' => (q = true ↔ i1 ≤ j1 ∧ (fun x => !ltO cf x d3[a]!) d3[j1]! = true) ∧ Hp w0 w' (BD b t d3 :: L)) ?_ ?_
  · refine WC.regQ (fun w' => Hp w0 w' (BD b t d3 :: L)) mixed (by kernel_rfl) (fun w' hw' => hp.keep hw') ?_
    repeat (first | refine WQ.pure rfl rfl rfl ?_ | refine WQ.off rfl rfl rfl ?_ | refine WQ.nil ?_)
    refine WQ.split 126 rfl (fun h1 => ?_) (fun h1 => ?_)
    · have h1 : i1 ≤ j1 := by have := of_decide_eq_true h1; omega
      repeat (first | refine WQ.pure rfl rfl rfl ?_ | refine WQ.off rfl rfl rfl ?_ | refine WQ.nil ?_)
      refine WQ.ixD (j := j1) rfl (fun _ => rfl) rfl rfl rfl rfl rfl rfl rfl rfl rfl (fun _ h => h) (by omega) (by omega) ?_
      repeat (first | refine WQ.pure rfl rfl rfl ?_ | refine WQ.off rfl rfl rfl ?_ | refine WQ.nil ?_)
      refine WQ.ixD (j := a) rfl (fun _ => rfl) rfl rfl rfl rfl rfl rfl rfl rfl rfl (fun _ h => h) (by omega) (by omega) ?_
      refine WQ.call rfl rfl rfl rfl rfl hE (hG.q (hOK.all j1 (by omega)) (hOK.all a (by omega))) ?_
      repeat (first | refine WQ.pure rfl rfl rfl ?_ | refine WQ.off rfl rfl rfl ?_ | refine WQ.nil ?_)
      intro w' hp'
      exact ⟨_, ⟨rfl, rfl, rfl, rfl, rfl, rfl, rfl⟩, ⟨fun h => ⟨h1, h⟩, fun h => h.2⟩, hp'⟩
    · have h1 : ¬ i1 ≤ j1 := by have := of_decide_eq_false h1; omega
      repeat (first | refine WQ.pure rfl rfl rfl ?_ | refine WQ.off rfl rfl rfl ?_ | refine WQ.nil ?_)
      intro w' hp'
      exact ⟨false, ⟨rfl, rfl, rfl, rfl, rfl, rfl, rfl⟩, ⟨fun h => (by cases h), fun h => absurd h.1 h1⟩, hp'⟩
  rintro q e3 w hsub ⟨hq, hp⟩
  refine WC.sub hsub ?_
  clear hsub e3
  refine WC.cond rfl (fun hc2 => ?_) (fun hc2 => ?_)
  · obtain ⟨hg1, hg2⟩ := hq.1 hc2
    have step : IntKind.i64.wrap (((j1 : Nat) : Int) - 1) = ((j1 - 1 : Nat) : Int) := by rw [wrap_mid (by omega) (by omega)]; omega
    rw [scanDown_go (by omega) hg1 hg2] at hj1S
    repeat (first | refine WC.seq ?_ | refine WC.reg ?_ | refine WL.pure rfl rfl rfl ?_ | refine WL.nil ?_ | refine WC.skip ?_ | refine WC.block ?_ | refine WC.condT rfl ?_ | refine WC.condF rfl ?_ | refine WL.off rfl rfl rfl ?_ | refine WL.off0 rfl rfl ?_ | refine WC.exit ?_ | refine blk_hit ?_ | refine blk_miss rfl ?_ | refine WC.ret ?_)
    exact ⟨j1 - 1, by show j1 - 1 < j1; omega, ⟨rfl, rfl, rfl, rfl, congrArg (fun z => some (Value.int .i64 z)) step, rfl⟩, by omega, fun _ => by omega, hj1S, hp⟩
  have hst := scanDown_stop (p := fun x => !ltO cf x d3[a]!) (d := d3) (i := i1) (j := j1) (fun h => by have := hq.2 h; rw [hc2] at this; cases this)
  rw [hst] at hj1S
  clear hq hc2 hst
  rw [partLoop_eq, hi1S, hj1S] at hPL
  repeat (first | refine WC.seq ?_ | refine WC.reg ?_ | refine WL.pure rfl rfl rfl ?_ | refine WL.nil ?_ | refine WC.skip ?_ | refine WC.block ?_ | refine WC.condT rfl ?_ | refine WC.condF rfl ?_ | refine WL.off rfl rfl rfl ?_ | refine WL.off0 rfl rfl ?_ | refine WC.exit ?_ | refine blk_hit ?_ | refine blk_miss rfl ?_ | refine WC.ret ?_)
  refine WC.cond rfl (fun hc => ?_) (fun hc => ?_)
  · have hlt : i1 > j1 := by have := of_decide_eq_true hc; omega
    rw [if_pos hlt] at hPL
    subst hPL
    subst hr
    repeat (first | refine WC.seq ?_ | refine WC.reg ?_ | refine WL.pure rfl rfl rfl ?_ | refine WL.nil ?_ | refine WC.skip ?_ | refine WC.block ?_ | refine WC.condT rfl ?_ | refine WC.condF rfl ?_ | refine WL.off rfl rfl rfl ?_ | refine WL.off0 rfl rfl ?_ | refine WC.exit ?_ | refine blk_hit ?_ | refine blk_miss rfl ?_ | refine WC.ret ?_)
    refine WC.mid Unit (fun _ => [(0, .slice (some ⟨b, 0, none⟩) n cap), (1, .int .i64 (a : Nat)), (13, .int .i64 (j1 : Nat))]) (fun _ w' => Hp w0 w' (BD b t (Go.Sort.swp (d3) (j1) (a)) :: L)) ?_ ?_
    · refine WC.regH (fun _ => True) mixed (by kernel_rfl) (fun w6 hw6 hh6 => ?_)
      have kh6 := (hp).keep hw6
      refine WH.pure 0 (by kernel_rfl) rfl (by kernel_rfl) rfl rfl rfl trivial ?_
      refine WH.pure 1 (by kernel_rfl) rfl (by kernel_rfl) rfl rfl rfl trivial ?_
      refine WH.pure 2 (by kernel_rfl) rfl (by kernel_rfl) rfl rfl rfl trivial ?_
      refine WH.pure 3 (by kernel_rfl) rfl (by kernel_rfl) rfl rfl rfl trivial ?_
      refine WH.pure 4 (by kernel_rfl) rfl (by kernel_rfl) rfl rfl rfl trivial ?_
      refine WH.pure 5 (by kernel_rfl) rfl (by kernel_rfl) rfl rfl rfl trivial ?_
      refine WH.ixS 6 (by kernel_rfl) rfl (by kernel_rfl) rfl rfl rfl rfl rfl rfl (by omega) trivial ?_
      refine WH.pure 8 (by kernel_rfl) rfl (by kernel_rfl) rfl rfl rfl trivial ?_
      refine WH.pure 9 (by kernel_rfl) rfl (by kernel_rfl) rfl rfl rfl trivial ?_
      refine WH.ixS 10 (by kernel_rfl) rfl (by kernel_rfl) rfl rfl rfl rfl rfl rfl (by omega) trivial ?_
      refine WH.two 7 11 rfl rfl (by kernel_rfl) ?_ ?_
      · refine WL.loadN rfl rfl rfl rfl rfl rfl (cl_load kh6 (j := a) (by omega)) (WL.nil ⟨trivial, ?_⟩)
        refine WH.one 11 rfl (by kernel_rfl) ?_
        refine WL.loadN rfl rfl rfl rfl rfl rfl (cl_load kh6 (j := j1) (by omega)) (WL.nil ⟨trivial, ?_⟩)
        refine WH.ixS 12 (by kernel_rfl) rfl (by kernel_rfl) rfl rfl rfl rfl rfl rfl (by omega) trivial ?_
        refine WH.one 13 rfl (by kernel_rfl) ?_
        refine WL.storeN rfl rfl rfl rfl rfl (rc_one (d3)[a]!) (kh6.obj 0 rfl) (cl_room (by omega)) (cl_store (j := j1) (by omega)) (fun w7 hw7 => WL.nil ⟨trivial, ?_⟩)
        have hp7 := kh6.set 0 rfl rfl hw7
        refine WH.ixS 14 (by kernel_rfl) rfl (by kernel_rfl) rfl rfl rfl rfl rfl rfl (by omega) trivial ?_
        refine WH.one 15 rfl (by kernel_rfl) ?_
        refine WL.storeN rfl rfl rfl rfl rfl (rc_one (d3)[j1]!) (hp7.obj 0 rfl) (cl_room (by rw [Array.size_setIfInBounds]; omega)) (cl_store (j := a) (by rw [Array.size_setIfInBounds]; omega)) (fun w8 hw8 => WL.nil ⟨trivial, ?_⟩)
        have hp8 := hp7.set 0 rfl rfl hw8
        refine WH.done (by kernel_rfl) ?_
        exact ⟨(), ⟨rfl, rfl, rfl, rfl⟩, hp8⟩
      · refine WL.loadN rfl rfl rfl rfl rfl rfl (cl_load kh6 (j := j1) (by omega)) (WL.nil ⟨trivial, ?_⟩)
        refine WH.one 7 rfl (by kernel_rfl) ?_
        refine WL.loadN rfl rfl rfl rfl rfl rfl (cl_load kh6 (j := a) (by omega)) (WL.nil ⟨trivial, ?_⟩)
        refine WH.ixS 12 (by kernel_rfl) rfl (by kernel_rfl) rfl rfl rfl rfl rfl rfl (by omega) trivial ?_
        refine WH.one 13 rfl (by kernel_rfl) ?_
        refine WL.storeN rfl rfl rfl rfl rfl (rc_one (d3)[a]!) (kh6.obj 0 rfl) (cl_room (by omega)) (cl_store (j := j1) (by omega)) (fun w7 hw7 => WL.nil ⟨trivial, ?_⟩)
        have hp7 := kh6.set 0 rfl rfl hw7
        refine WH.ixS 14 (by kernel_rfl) rfl (by kernel_rfl) rfl rfl rfl rfl rfl rfl (by omega) trivial ?_
        refine WH.one 15 rfl (by kernel_rfl) ?_
        refine WL.storeN rfl rfl rfl rfl rfl (rc_one (d3)[j1]!) (hp7.obj 0 rfl) (cl_room (by rw [Array.size_setIfInBounds]; omega)) (cl_store (j := a) (by rw [Array.size_setIfInBounds]; omega)) (fun w8 hw8 => WL.nil ⟨trivial, ?_⟩)
        have hp8 := hp7.set 0 rfl rfl hw8
        refine WH.done (by kernel_rfl) ?_
        exact ⟨(), ⟨rfl, rfl, rfl, rfl⟩, hp8⟩
    rintro ⟨⟩ e6 w6 hsub hp6
    refine WC.sub hsub ?_
    clear hsub e6
    repeat (first | refine WC.seq ?_ | refine WC.reg ?_ | refine WL.pure rfl rfl rfl ?_ | refine WL.nil ?_ | refine WC.skip ?_ | refine WC.block ?_ | refine WC.condT rfl ?_ | refine WC.condF rfl ?_ | refine WL.off rfl rfl rfl ?_ | refine WL.off0 rfl rfl ?_ | refine WC.exit ?_ | refine blk_hit ?_ | refine blk_miss rfl ?_ | refine WC.ret ?_)
    exact Res.two rfl rfl rfl rfl ⟨rfl, hOK.swp (by omega) (by omega), hp6⟩
  have hlt : ¬ i1 > j1 := by have := of_decide_eq_false hc; omega
  rw [if_neg hlt] at hPL
  have st1 := wrap_succ (i := i1) (n := 1000000001) (by omega) (by omega)
  have st2 : IntKind.i64.wrap (((j1 : Nat) : Int) - 1) = ((j1 - 1 : Nat) : Int) := by rw [wrap_mid (by omega) (by omega)]; omega
  repeat (first | refine WC.seq ?_ | refine WC.reg ?_ | refine WL.pure rfl rfl rfl ?_ | refine WL.nil ?_ | refine WC.skip ?_ | refine WC.block ?_ | refine WC.condT rfl ?_ | refine WC.condF rfl ?_ | refine WL.off rfl rfl rfl ?_ | refine WL.off0 rfl rfl ?_ | refine WC.exit ?_ | refine blk_hit ?_ | refine blk_miss rfl ?_ | refine WC.ret ?_)
  refine WC.mid Unit (fun _ => [(0, .slice (some ⟨b, 0, none⟩) n cap), (1, .int .i64 (a : Nat)), (4, .func (.func G) #[] ca), (12, .int .i64 (i1 : Nat)), (13, .int .i64 (j1 : Nat))]) (fun _ w' => Hp w0 w' (BD b t (Go.Sort.swp (d3) (i1) (j1)) :: L)) ?_ ?_
  · refine WC.regH (fun _ => True) mixed (by kernel_rfl) (fun w6 hw6 hh6 => ?_)
    have kh6 := (hp).keep hw6
    refine WH.pure 0 (by kernel_rfl) rfl (by kernel_rfl) rfl rfl rfl trivial ?_
    refine WH.pure 1 (by kernel_rfl) rfl (by kernel_rfl) rfl rfl rfl trivial ?_
    refine WH.pure 2 (by kernel_rfl) rfl (by kernel_rfl) rfl rfl rfl trivial ?_
    refine WH.pure 3 (by kernel_rfl) rfl (by kernel_rfl) rfl rfl rfl trivial ?_
    refine WH.pure 4 (by kernel_rfl) rfl (by kernel_rfl) rfl rfl rfl trivial ?_
    refine WH.pure 5 (by kernel_rfl) rfl (by kernel_rfl) rfl rfl rfl trivial ?_
    refine WH.ixS 6 (by kernel_rfl) rfl (by kernel_rfl) rfl rfl rfl rfl rfl rfl (by omega) trivial ?_
    refine WH.pure 8 (by kernel_rfl) rfl (by kernel_rfl) rfl rfl rfl trivial ?_
    refine WH.pure 9 (by kernel_rfl) rfl (by kernel_rfl) rfl rfl rfl trivial ?_
    refine WH.ixS 10 (by kernel_rfl) rfl (by kernel_rfl) rfl rfl rfl rfl rfl rfl (by omega) trivial ?_
    refine WH.two 7 11 rfl rfl (by kernel_rfl) ?_ ?_
    · refine WL.loadN rfl rfl rfl rfl rfl rfl (cl_load kh6 (j := j1) (by omega)) (WL.nil ⟨trivial, ?_⟩)
      refine WH.one 11 rfl (by kernel_rfl) ?_
      refine WL.loadN rfl rfl rfl rfl rfl rfl (cl_load kh6 (j := i1) (by omega)) (WL.nil ⟨trivial, ?_⟩)
      refine WH.ixS 12 (by kernel_rfl) rfl (by kernel_rfl) rfl rfl rfl rfl rfl rfl (by omega) trivial ?_
      refine WH.one 13 rfl (by kernel_rfl) ?_
      refine WL.storeN rfl rfl rfl rfl rfl (rc_one (d3)[j1]!) (kh6.obj 0 rfl) (cl_room (by omega)) (cl_store (j := i1) (by omega)) (fun w7 hw7 => WL.nil ⟨trivial, ?_⟩)
      have hp7 := kh6.set 0 rfl rfl hw7
      refine WH.ixS 14 (by kernel_rfl) rfl (by kernel_rfl) rfl rfl rfl rfl rfl rfl (by omega) trivial ?_
      refine WH.one 15 rfl (by kernel_rfl) ?_
      refine WL.storeN rfl rfl rfl rfl rfl (rc_one (d3)[i1]!) (hp7.obj 0 rfl) (cl_room (by rw [Array.size_setIfInBounds]; omega)) (cl_store (j := j1) (by rw [Array.size_setIfInBounds]; omega)) (fun w8 hw8 => WL.nil ⟨trivial, ?_⟩)
      have hp8 := hp7.set 0 rfl rfl hw8
      refine WH.done (by kernel_rfl) ?_
      exact ⟨(), ⟨rfl, rfl, rfl, rfl, rfl, rfl⟩, hp8⟩
    · refine WL.loadN rfl rfl rfl rfl rfl rfl (cl_load kh6 (j := i1) (by omega)) (WL.nil ⟨trivial, ?_⟩)
      refine WH.one 7 rfl (by kernel_rfl) ?_
      refine WL.loadN rfl rfl rfl rfl rfl rfl (cl_load kh6 (j := j1) (by omega)) (WL.nil ⟨trivial, ?_⟩)
      refine WH.ixS 12 (by kernel_rfl) rfl (by kernel_rfl) rfl rfl rfl rfl rfl rfl (by omega) trivial ?_
      refine WH.one 13 rfl (by kernel_rfl) ?_
      refine WL.storeN rfl rfl rfl rfl rfl (rc_one (d3)[j1]!) (kh6.obj 0 rfl) (cl_room (by omega)) (cl_store (j := i1) (by omega)) (fun w7 hw7 => WL.nil ⟨trivial, ?_⟩)
      have hp7 := kh6.set 0 rfl rfl hw7
      refine WH.ixS 14 (by kernel_rfl) rfl (by kernel_rfl) rfl rfl rfl rfl rfl rfl (by omega) trivial ?_
      refine WH.one 15 rfl (by kernel_rfl) ?_
      refine WL.storeN rfl rfl rfl rfl rfl (rc_one (d3)[i1]!) (hp7.obj 0 rfl) (cl_room (by rw [Array.size_setIfInBounds]; omega)) (cl_store (j := j1) (by rw [Array.size_setIfInBounds]; omega)) (fun w8 hw8 => WL.nil ⟨trivial, ?_⟩)
      have hp8 := hp7.set 0 rfl rfl hw8
      refine WH.done (by kernel_rfl) ?_
      exact ⟨(), ⟨rfl, rfl, rfl, rfl, rfl, rfl⟩, hp8⟩
  rintro ⟨⟩ e6 w6 hsub hp6
  refine WC.sub hsub ?_
  clear hsub e6
  repeat (first | refine WC.seq ?_ | refine WC.reg ?_ | refine WL.pure rfl rfl rfl ?_ | refine WL.nil ?_ | refine WC.skip ?_ | refine WC.block ?_ | refine WC.condT rfl ?_ | refine WC.condF rfl ?_ | refine WL.off rfl rfl rfl ?_ | refine WL.off0 rfl rfl ?_ | refine WC.exit ?_ | refine blk_hit ?_ | refine blk_miss rfl ?_ | refine WC.ret ?_)
  exact ⟨(i1 + 1, j1 - 1, swp d3 i1 j1), by show j1 - 1 + 1 - (i1 + 1) < j0 + 1 - i0; omega, ⟨rfl, rfl, rfl, congrArg (fun z => some (Value.int .i64 z)) st1, congrArg (fun z => some (Value.int .i64 z)) st2, rfl⟩, by omega, by omega, by omega, hOK.swp (by omega) (by omega), hPL, hp6⟩

set_option maxHeartbeats 2000000 in
theorem partitionEqual_any (d : Array Rp) (hd : Okd n SS d) (a e p : Nat) (hap : a ≤ p) (hpe : p < e) (hen : e ≤ n) (w : World) (hp : Hp w0 w (BD b t d :: L)) :
    Ret Tryz.prog 110 [.slice (some ⟨b, 0, none⟩) n cap, .int .i64 (a : Nat), .int .i64 (e : Nat), .int .i64 (p : Nat), .func (.func G) #[] ca] w fun u w' => u = .int .i64 ((partitionEqual (ltO cf) d a e p).1 : Nat) ∧ Okd n SS (partitionEqual (ltO cf) d a e p).2 ∧ Hp w0 w' (BD b t (partitionEqual (ltO cf) d a e p).2 :: L) := by
  have hsz := hd.sz
  have e1 := wrap_succ (i := a) (n := 1000000001) (by omega) (by omega)
  have e2 : IntKind.i64.wrap (((e : Nat) : Int) - 1) = ((e - 1 : Nat) : Int) := by rw [wrap_mid (by omega) (by omega)]; omega
  obtain ⟨R, hR⟩ : ∃ R, partitionEqual (ltO cf) d a e p = R := ⟨_, rfl⟩
  rw [hR]
  unfold partitionEqual at hR
  refine enter Tryz.func110 rfl rfl ⟨rfl, rfl⟩ rfl ?_
  repeat (first | refine WC.seq ?_ | refine WC.reg ?_ | refine WL.pure rfl rfl rfl ?_ | refine WL.nil ?_ | refine WC.skip ?_ | refine WC.block ?_ | refine WC.condT rfl ?_ | refine WC.condF rfl ?_ | refine WL.off rfl rfl rfl ?_ | refine WL.off0 rfl rfl ?_ | refine WC.exit ?_ | refine blk_hit ?_ | refine blk_miss rfl ?_ | refine WC.ret ?_)
  refine WC.mid Unit (fun _ => [(0, .slice (some ⟨b, 0, none⟩) n cap), (1, .int .i64 (a : Nat)), (2, .int .i64 (e : Nat)), (3, .int .i64 (p : Nat)), (4, .func (.func G) #[] ca)]) (fun _ w' => Hp w0 w' (BD b t (Go.Sort.swp (d) (a) (p)) :: L)) ?_ ?_
  · refine WC.regH (fun _ => True) mixed (by kernel_rfl) (fun w6 hw6 hh6 => ?_)
    have kh6 := (hp).keep hw6
    refine WH.pure 0 (by kernel_rfl) rfl (by kernel_rfl) rfl rfl rfl trivial ?_
    refine WH.pure 1 (by kernel_rfl) rfl (by kernel_rfl) rfl rfl rfl trivial ?_
    refine WH.pure 2 (by kernel_rfl) rfl (by kernel_rfl) rfl rfl rfl trivial ?_
    refine WH.pure 3 (by kernel_rfl) rfl (by kernel_rfl) rfl rfl rfl trivial ?_
    refine WH.pure 4 (by kernel_rfl) rfl (by kernel_rfl) rfl rfl rfl trivial ?_
    refine WH.pure 5 (by kernel_rfl) rfl (by kernel_rfl) rfl rfl rfl trivial ?_
    refine WH.ixS 6 (by kernel_rfl) rfl (by kernel_rfl) rfl rfl rfl rfl rfl rfl (by omega) trivial ?_
    refine WH.pure 8 (by kernel_rfl) rfl (by kernel_rfl) rfl rfl rfl trivial ?_
    refine WH.pure 9 (by kernel_rfl) rfl (by kernel_rfl) rfl rfl rfl trivial ?_
    refine WH.ixS 10 (by kernel_rfl) rfl (by kernel_rfl) rfl rfl rfl rfl rfl rfl (by omega) trivial ?_
    refine WH.two 7 11 rfl rfl (by kernel_rfl) ?_ ?_
    · refine WL.loadN rfl rfl rfl rfl rfl rfl (cl_load kh6 (j := p) (by omega)) (WL.nil ⟨trivial, ?_⟩)
      refine WH.one 11 rfl (by kernel_rfl) ?_
      refine WL.loadN rfl rfl rfl rfl rfl rfl (cl_load kh6 (j := a) (by omega)) (WL.nil ⟨trivial, ?_⟩)
      refine WH.ixS 12 (by kernel_rfl) rfl (by kernel_rfl) rfl rfl rfl rfl rfl rfl (by omega) trivial ?_
      refine WH.one 13 rfl (by kernel_rfl) ?_
      refine WL.storeN rfl rfl rfl rfl rfl (rc_one (d)[p]!) (kh6.obj 0 rfl) (cl_room (by omega)) (cl_store (j := a) (by omega)) (fun w7 hw7 => WL.nil ⟨trivial, ?_⟩)
      have hp7 := kh6.set 0 rfl rfl hw7
      refine WH.ixS 14 (by kernel_rfl) rfl (by kernel_rfl) rfl rfl rfl rfl rfl rfl (by omega) trivial ?_
      refine WH.one 15 rfl (by kernel_rfl) ?_
      refine WL.storeN rfl rfl rfl rfl rfl (rc_one (d)[a]!) (hp7.obj 0 rfl) (cl_room (by rw [Array.size_setIfInBounds]; omega)) (cl_store (j := p) (by rw [Array.size_setIfInBounds]; omega)) (fun w8 hw8 => WL.nil ⟨trivial, ?_⟩)
      have hp8 := hp7.set 0 rfl rfl hw8
      refine WH.done (by kernel_rfl) ?_
      exact ⟨(), ⟨rfl, rfl, rfl, rfl, rfl, rfl⟩, hp8⟩
    · refine WL.loadN rfl rfl rfl rfl rfl rfl (cl_load kh6 (j := a) (by omega)) (WL.nil ⟨trivial, ?_⟩)
      refine WH.one 7 rfl (by kernel_rfl) ?_
      refine WL.loadN rfl rfl rfl rfl rfl rfl (cl_load kh6 (j := p) (by omega)) (WL.nil ⟨trivial, ?_⟩)
      refine WH.ixS 12 (by kernel_rfl) rfl (by kernel_rfl) rfl rfl rfl rfl rfl rfl (by omega) trivial ?_
      refine WH.one 13 rfl (by kernel_rfl) ?_
      refine WL.storeN rfl rfl rfl rfl rfl (rc_one (d)[p]!) (kh6.obj 0 rfl) (cl_room (by omega)) (cl_store (j := a) (by omega)) (fun w7 hw7 => WL.nil ⟨trivial, ?_⟩)
      have hp7 := kh6.set 0 rfl rfl hw7
      refine WH.ixS 14 (by kernel_rfl) rfl (by kernel_rfl) rfl rfl rfl rfl rfl rfl (by omega) trivial ?_
      refine WH.one 15 rfl (by kernel_rfl) ?_
      refine WL.storeN rfl rfl rfl rfl rfl (rc_one (d)[a]!) (hp7.obj 0 rfl) (cl_room (by rw [Array.size_setIfInBounds]; omega)) (cl_store (j := p) (by rw [Array.size_setIfInBounds]; omega)) (fun w8 hw8 => WL.nil ⟨trivial, ?_⟩)
      have hp8 := hp7.set 0 rfl rfl hw8
      refine WH.done (by kernel_rfl) ?_
      exact ⟨(), ⟨rfl, rfl, rfl, rfl, rfl, rfl⟩, hp8⟩
  rintro ⟨⟩ e6 w6 hsub hp6
  refine WC.sub hsub ?_
  clear hsub e6
  have hp := hp6
  have hOK := hd.swp (i := a) (j := p) (by omega) (by omega)
  clear hp6 hd
  generalize swp d a p = d1 at *
  repeat (first | refine WC.seq ?_ | refine WC.reg ?_ | refine WL.pure rfl rfl rfl ?_ | refine WL.nil ?_ | refine WC.skip ?_ | refine WC.block ?_ | refine WC.condT rfl ?_ | refine WC.condF rfl ?_ | refine WL.off rfl rfl rfl ?_ | refine WL.off0 rfl rfl ?_ | refine WC.exit ?_ | refine blk_hit ?_ | refine blk_miss rfl ?_ | refine WC.ret ?_)
  refine WC.loop (Nat × Nat × Array Rp) (fun (i, j, _) => [(0, .slice (some ⟨b, 0, none⟩) n cap), (1, .int .i64 (a : Nat)), (4, .func (.func G) #[] ca), (11, .int .i64 (i : Nat)), (12, .int .i64 (j : Nat))])
    (fun (i, j, d) w' => a < i ∧ i ≤ n ∧ j < n ∧ Okd n SS d ∧ R = partEqLoop (ltO cf) a i j d ∧ Hp w0 w' (BD b t d :: L)) (fun (i, j, _) => j + 1 - i) (a + 1, e - 1, d1) ⟨rfl, rfl, rfl, congrArg (fun z => some (Value.int .i64 z)) e1, congrArg (fun z => some (Value.int .i64 z)) e2, rfl⟩ ⟨by omega, by omega, by omega, hOK, hR.symm, hp⟩ ?_
  clear hR hOK hp hsz
  rintro ⟨i0, j0, d3⟩ w ⟨hi0, hin, hj0, hOK, hPL, hp⟩
  have hsz := hOK.sz
  repeat (first | refine WC.seq ?_ | refine WC.reg ?_ | refine WL.pure rfl rfl rfl ?_ | refine WL.nil ?_ | refine WC.skip ?_ | refine WC.block ?_ | refine WC.condT rfl ?_ | refine WC.condF rfl ?_ | refine WL.off rfl rfl rfl ?_ | refine WL.off0 rfl rfl ?_ | refine WC.exit ?_ | refine blk_hit ?_ | refine blk_miss rfl ?_ | refine WC.ret ?_)
  refine WC.loop Nat (fun i1 => [(0, .slice (some ⟨b, 0, none⟩) n cap), (1, .int .i64 (a : Nat)), (4, .func (.func G) #[] ca), (11, .int .i64 (i1 : Nat)), (12, .int .i64 (j0 : Nat))])
    (fun i1 w' => i0 ≤ i1 ∧ (i1 ≤ i0 ∨ i1 ≤ j0 + 1) ∧ scanUp (fun x => !ltO cf d3[a]! x) d3 (j0) (i0) = scanUp (fun x => !ltO cf d3[a]! x) d3 (j0) i1 ∧ Hp w0 w' (BD b t d3 :: L)) (fun i1 => j0 + 1 - i1) (i0) ⟨rfl, rfl, rfl, rfl, rfl, rfl⟩ ⟨Nat.le_refl _, .inl (Nat.le_refl _), rfl, hp⟩ ?_
  rintro i1 w ⟨hi11, hi12, hi1S, hp⟩
  refine WC.seq ?_
  refine WC.seq ?_
  refine WC.mid Bool (fun q => [(0, .slice (some ⟨b, 0, none⟩) n cap), (1, .int .i64 (a : Nat)), (4, .func (.func G) #[] ca), (11, .int .i64 (i1 : Nat)), (12, .int .i64 (j0 : Nat)), (47, .bool q)]) (fun q w' => (q = true ↔ i1 ≤ j0 ∧ (fun x => !ltO cf d3[a]! x) d3[i1]! = true) ∧ Hp w0 w' (BD b t d3 :: L)) ?_ ?_
  · refine WC.regQ (fun w' => Hp w0 w' (BD b t d3 :: L)) mixed (by kernel_rfl) (fun w' hw' => hp.keep hw') ?_
    repeat (first | refine WQ.pure rfl rfl rfl ?_ | refine WQ.off rfl rfl rfl ?_ | refine WQ.nil ?_)
    refine WQ.split 34 rfl (fun h1 => ?_) (fun h1 => ?_)
    · have h1 : i1 ≤ j0 := by have := of_decide_eq_true h1; omega
      repeat (first | refine WQ.pure rfl rfl rfl ?_ | refine WQ.off rfl rfl rfl ?_ | refine WQ.nil ?_)
      refine WQ.ixD (j := a) rfl (fun _ => rfl) rfl rfl rfl rfl rfl rfl rfl rfl rfl (fun _ h => h) (by omega) (by omega) ?_
      repeat (first | refine WQ.pure rfl rfl rfl ?_ | refine WQ.off rfl rfl rfl ?_ | refine WQ.nil ?_)
      refine WQ.ixD (j := i1) rfl (fun _ => rfl) rfl rfl rfl rfl rfl rfl rfl rfl rfl (fun _ h => h) (by omega) (by omega) ?_
      refine WQ.call rfl rfl rfl rfl rfl hE (hG.q (hOK.all a (by omega)) (hOK.all i1 (by omega))) ?_
      repeat (first | refine WQ.pure rfl rfl rfl ?_ | refine WQ.off rfl rfl rfl ?_ | refine WQ.nil ?_)
      intro w' hp'
      exact ⟨_, ⟨rfl, rfl, rfl, rfl, rfl, rfl, rfl⟩, ⟨fun h => ⟨h1, h⟩, fun h => h.2⟩, hp'⟩
    · have h1 : ¬ i1 ≤ j0 := by have := of_decide_eq_false h1; omega
      repeat (first | refine WQ.pure rfl rfl rfl ?_ | refine WQ.off rfl rfl rfl ?_ | refine WQ.nil ?_)
      intro w' hp'
      exact ⟨false, ⟨rfl, rfl, rfl, rfl, rfl, rfl, rfl⟩, ⟨fun h => (by cases h), fun h => absurd h.1 h1⟩, hp'⟩
  rintro q e3 w hsub ⟨hq, hp⟩
  refine WC.sub hsub ?_
  clear hsub e3
  refine WC.cond rfl (fun hc2 => ?_) (fun hc2 => ?_)
  · obtain ⟨hg1, hg2⟩ := hq.1 hc2
    have step := wrap_succ (i := i1) (n := 1000000001) (by omega) (by omega)
    rw [scanUp_go hg1 hg2] at hi1S
    repeat (first | refine WC.seq ?_ | refine WC.reg ?_ | refine WL.pure rfl rfl rfl ?_ | refine WL.nil ?_ | refine WC.skip ?_ | refine WC.block ?_ | refine WC.condT rfl ?_ | refine WC.condF rfl ?_ | refine WL.off rfl rfl rfl ?_ | refine WL.off0 rfl rfl ?_ | refine WC.exit ?_ | refine blk_hit ?_ | refine blk_miss rfl ?_ | refine WC.ret ?_)
    exact ⟨i1 + 1, by show j0 + 1 - (i1 + 1) < j0 + 1 - i1; omega, ⟨rfl, rfl, rfl, congrArg (fun z => some (Value.int .i64 z)) step, rfl, rfl⟩, by omega, .inr (by omega), hi1S, hp⟩
  have hst := scanUp_stop (p := fun x => !ltO cf d3[a]! x) (d := d3) (j := j0) (i := i1) (fun h => by have := hq.2 h; rw [hc2] at this; cases this)
  rw [hst] at hi1S
  clear hq hc2 hst
  repeat (first | refine WC.seq ?_ | refine WC.reg ?_ | refine WL.pure rfl rfl rfl ?_ | refine WL.nil ?_ | refine WC.skip ?_ | refine WC.block ?_ | refine WC.condT rfl ?_ | refine WC.condF rfl ?_ | refine WL.off rfl rfl rfl ?_ | refine WL.off0 rfl rfl ?_ | refine WC.exit ?_ | refine blk_hit ?_ | refine blk_miss rfl ?_ | refine WC.ret ?_)
  refine WC.loop Nat (fun j1 => [(0, .slice (some ⟨b, 0, none⟩) n cap), (1, .int .i64 (a : Nat)), (4, .func (.func G) #[] ca), (11, .int .i64 (i1 : Nat)), (12, .int .i64 (j1 : Nat))])
    (fun j1 w' => j1 ≤ j0 ∧ (j1 < j0 → i1 ≤ j1 + 1) ∧ scanDown (fun x => ltO cf d3[a]! x) d3 (i1) (j0) = scanDown (fun x => ltO cf d3[a]! x) d3 (i1) j1 ∧ Hp w0 w' (BD b t d3 :: L)) (fun j1 => j1) (j0) ⟨rfl, rfl, rfl, rfl, rfl, rfl⟩ ⟨Nat.le_refl _, (fun h => absurd h (Nat.lt_irrefl _)), rfl, hp⟩ ?_
  rintro j1 w ⟨hj11, hj12, hj1S, hp⟩
  refine WC.seq ?_
  refine WC.seq ?_
  refine WC.mid Bool (fun q => [(0, .slice (some ⟨b, 0, none⟩) n cap), (1, .int .i64 (a : Nat)), (4, .func (.func G) #[] ca), (11, .int .i64 (i1 : Nat)), (12, .int .i64 (j1 : Nat)), (65, .bool q)]) (fun q w' => (q = true ↔ i1 ≤ j1 ∧ (fun x => ltO cf d3[a]! x) d3[j1]! = true) ∧ Hp w0 w' (BD b t d3 :: L)) ?_ ?_
  · refine WC.regQ (fun w' => Hp w0 w' (BD b t d3 :: L)) mixed (by kernel_rfl) (fun w' hw' => hp.keep hw') ?_
    repeat (first | refine WQ.pure rfl rfl rfl ?_ | refine WQ.off rfl rfl rfl ?_ | refine WQ.nil ?_)
    refine WQ.split 53 rfl (fun h1 => ?_) (fun h1 => ?_)
    · have h1 : i1 ≤ j1 := by have := of_decide_eq_true h1; omega
      repeat (first | refine WQ.pure rfl rfl rfl ?_ | refine WQ.off rfl rfl rfl ?_ | refine WQ.nil ?_)
      refine WQ.ixD (j := a) rfl (fun _ => rfl) rfl rfl rfl rfl rfl rfl rfl rfl rfl (fun _ h => h) (by omega) (by omega) ?_
      repeat (first | refine WQ.pure rfl rfl rfl ?_ | refine WQ.off rfl rfl rfl ?_ | refine WQ.nil ?_)
      refine WQ.ixD (j := j1) rfl (fun _ => rfl) rfl rfl rfl rfl rfl rfl rfl rfl rfl (fun _ h => h) (by omega) (by omega) ?_
      refine WQ.call rfl rfl rfl rfl rfl hE (hG.q (hOK.all a (by omega)) (hOK.all j1 (by omega))) ?_
      repeat (first | refine WQ.pure rfl rfl rfl ?_ | refine WQ.off rfl rfl rfl ?_ | refine WQ.nil ?_)
      intro w' hp'
      exact ⟨_, ⟨rfl, rfl, rfl, rfl, rfl, rfl, rfl⟩, ⟨fun h => ⟨h1, h⟩, fun h => h.2⟩, hp'⟩
    · have h1 : ¬ i1 ≤ j1 := by have := of_decide_eq_false h1; omega
      repeat (first | refine WQ.pure rfl rfl rfl ?_ | refine WQ.off rfl rfl rfl ?_ | refine WQ.nil ?_)
      intro w' hp'
      exact ⟨false, ⟨rfl, rfl, rfl, rfl, rfl, rfl, rfl⟩, ⟨fun h => (by cases h), fun h => absurd h.1 h1⟩, hp'⟩
  rintro q e3 w hsub ⟨hq, hp⟩
  refine WC.sub hsub ?_
  clear hsub e3
  refine WC.cond rfl (fun hc2 => ?_) (fun hc2 => ?_)
  · obtain ⟨hg1, hg2⟩ := hq.1 hc2
    have step : IntKind.i64.wrap (((j1 : Nat) : Int) - 1) = ((j1 - 1 : Nat) : Int) := by rw [wrap_mid (by omega) (by omega)]; omega
    rw [scanDown_go (by omega) hg1 hg2] at hj1S
    repeat (first | refine WC.seq ?_ | refine WC.reg ?_ | refine WL.pure rfl rfl rfl ?_ | refine WL.nil ?_ | refine WC.skip ?_ | refine WC.block ?_ | refine WC.condT rfl ?_ | refine WC.condF rfl ?_ | refine WL.off rfl rfl rfl ?_ | refine WL.off0 rfl rfl ?_ | refine WC.exit ?_ | refine blk_hit ?_ | refine blk_miss rfl ?_ | refine WC.ret ?_)
    exact ⟨j1 - 1, by show j1 - 1 < j1; omega, ⟨rfl, rfl, rfl, rfl, congrArg (fun z => some (Value.int .i64 z)) step, rfl⟩, by omega, fun _ => by omega, hj1S, hp⟩
  have hst := scanDown_stop (p := fun x => ltO cf d3[a]! x) (d := d3) (i := i1) (j := j1) (fun h => by have := hq.2 h; rw [hc2] at this; cases this)
  rw [hst] at hj1S
  clear hq hc2 hst
  rw [partEqLoop_eq, hi1S, hj1S] at hPL
  repeat (first | refine WC.seq ?_ | refine WC.reg ?_ | refine WL.pure rfl rfl rfl ?_ | refine WL.nil ?_ | refine WC.skip ?_ | refine WC.block ?_ | refine WC.condT rfl ?_ | refine WC.condF rfl ?_ | refine WL.off rfl rfl rfl ?_ | refine WL.off0 rfl rfl ?_ | refine WC.exit ?_ | refine blk_hit ?_ | refine blk_miss rfl ?_ | refine WC.ret ?_)
  refine WC.cond rfl (fun hc => ?_) (fun hc => ?_)
  · have hlt : i1 > j1 := by have := of_decide_eq_true hc; omega
    rw [if_pos hlt] at hPL
    subst hPL
    repeat (first | refine WC.seq ?_ | refine WC.reg ?_ | refine WL.pure rfl rfl rfl ?_ | refine WL.nil ?_ | refine WC.skip ?_ | refine WC.block ?_ | refine WC.condT rfl ?_ | refine WC.condF rfl ?_ | refine WL.off rfl rfl rfl ?_ | refine WL.off0 rfl rfl ?_ | refine WC.exit ?_ | refine blk_hit ?_ | refine blk_miss rfl ?_ | refine WC.ret ?_)
    exact Res.one rfl rfl rfl ⟨rfl, hOK, hp⟩
  have hlt : ¬ i1 > j1 := by have := of_decide_eq_false hc; omega
  rw [if_neg hlt] at hPL
  have st1 := wrap_succ (i := i1) (n := 1000000001) (by omega) (by omega)
  have st2 : IntKind.i64.wrap (((j1 : Nat) : Int) - 1) = ((j1 - 1 : Nat) : Int) := by rw [wrap_mid (by omega) (by omega)]; omega
  repeat (first | refine WC.seq ?_ | refine WC.reg ?_ | refine WL.pure rfl rfl rfl ?_ | refine WL.nil ?_ | refine WC.skip ?_ | refine WC.block ?_ | refine WC.condT rfl ?_ | refine WC.condF rfl ?_ | refine WL.off rfl rfl rfl ?_ | refine WL.off0 rfl rfl ?_ | refine WC.exit ?_ | refine blk_hit ?_ | refine blk_miss rfl ?_ | refine WC.ret ?_)
  refine WC.mid Unit (fun _ => [(0, .slice (some ⟨b, 0, none⟩) n cap), (1, .int .i64 (a : Nat)), (4, .func (.func G) #[] ca), (11, .int .i64 (i1 : Nat)), (12, .int .i64 (j1 : Nat))]) (fun _ w' => Hp w0 w' (BD b t (Go.Sort.swp (d3) (i1) (j1)) :: L)) ?_ ?_
  · refine WC.regH (fun _ => True) mixed (by kernel_rfl) (fun w6 hw6 hh6 => ?_)
    have kh6 := (hp).keep hw6
    refine WH.pure 0 (by kernel_rfl) rfl (by kernel_rfl) rfl rfl rfl trivial ?_
    refine WH.pure 1 (by kernel_rfl) rfl (by kernel_rfl) rfl rfl rfl trivial ?_
    refine WH.pure 2 (by kernel_rfl) rfl (by kernel_rfl) rfl rfl rfl trivial ?_
    refine WH.pure 3 (by kernel_rfl) rfl (by kernel_rfl) rfl rfl rfl trivial ?_
    refine WH.pure 4 (by kernel_rfl) rfl (by kernel_rfl) rfl rfl rfl trivial ?_
    refine WH.pure 5 (by kernel_rfl) rfl (by kernel_rfl) rfl rfl rfl trivial ?_
    refine WH.ixS 6 (by kernel_rfl) rfl (by kernel_rfl) rfl rfl rfl rfl rfl rfl (by omega) trivial ?_
    refine WH.pure 8 (by kernel_rfl) rfl (by kernel_rfl) rfl rfl rfl trivial ?_
    refine WH.pure 9 (by kernel_rfl) rfl (by kernel_rfl) rfl rfl rfl trivial ?_
    refine WH.ixS 10 (by kernel_rfl) rfl (by kernel_rfl) rfl rfl rfl rfl rfl rfl (by omega) trivial ?_
    refine WH.two 7 11 rfl rfl (by kernel_rfl) ?_ ?_
    · refine WL.loadN rfl rfl rfl rfl rfl rfl (cl_load kh6 (j := j1) (by omega)) (WL.nil ⟨trivial, ?_⟩)
      refine WH.one 11 rfl (by kernel_rfl) ?_
      refine WL.loadN rfl rfl rfl rfl rfl rfl (cl_load kh6 (j := i1) (by omega)) (WL.nil ⟨trivial, ?_⟩)
      refine WH.ixS 12 (by kernel_rfl) rfl (by kernel_rfl) rfl rfl rfl rfl rfl rfl (by omega) trivial ?_
      refine WH.one 13 rfl (by kernel_rfl) ?_
      refine WL.storeN rfl rfl rfl rfl rfl (rc_one (d3)[j1]!) (kh6.obj 0 rfl) (cl_room (by omega)) (cl_store (j := i1) (by omega)) (fun w7 hw7 => WL.nil ⟨trivial, ?_⟩)
      have hp7 := kh6.set 0 rfl rfl hw7
      refine WH.ixS 14 (by kernel_rfl) rfl (by kernel_rfl) rfl rfl rfl rfl rfl rfl (by omega) trivial ?_
      refine WH.one 15 rfl (by kernel_rfl) ?_
      refine WL.storeN rfl rfl rfl rfl rfl (rc_one (d3)[i1]!) (hp7.obj 0 rfl) (cl_room (by rw [Array.size_setIfInBounds]; omega)) (cl_store (j := j1) (by rw [Array.size_setIfInBounds]; omega)) (fun w8 hw8 => WL.nil ⟨trivial, ?_⟩)
      have hp8 := hp7.set 0 rfl rfl hw8
      refine WH.done (by kernel_rfl) ?_
      exact ⟨(), ⟨rfl, rfl, rfl, rfl, rfl, rfl⟩, hp8⟩
    · refine WL.loadN rfl rfl rfl rfl rfl rfl (cl_load kh6 (j := i1) (by omega)) (WL.nil ⟨trivial, ?_⟩)
      refine WH.one 7 rfl (by kernel_rfl) ?_
      refine WL.loadN rfl rfl rfl rfl rfl rfl (cl_load kh6 (j := j1) (by omega)) (WL.nil ⟨trivial, ?_⟩)
      refine WH.ixS 12 (by kernel_rfl) rfl (by kernel_rfl) rfl rfl rfl rfl rfl rfl (by omega) trivial ?_
      refine WH.one 13 rfl (by kernel_rfl) ?_
      refine WL.storeN rfl rfl rfl rfl rfl (rc_one (d3)[j1]!) (kh6.obj 0 rfl) (cl_room (by omega)) (cl_store (j := i1) (by omega)) (fun w7 hw7 => WL.nil ⟨trivial, ?_⟩)
      have hp7 := kh6.set 0 rfl rfl hw7
      refine WH.ixS 14 (by kernel_rfl) rfl (by kernel_rfl) rfl rfl rfl rfl rfl rfl (by omega) trivial ?_
      refine WH.one 15 rfl (by kernel_rfl) ?_
      refine WL.storeN rfl rfl rfl rfl rfl (rc_one (d3)[i1]!) (hp7.obj 0 rfl) (cl_room (by rw [Array.size_setIfInBounds]; omega)) (cl_store (j := j1) (by rw [Array.size_setIfInBounds]; omega)) (fun w8 hw8 => WL.nil ⟨trivial, ?_⟩)
      have hp8 := hp7.set 0 rfl rfl hw8
      refine WH.done (by kernel_rfl) ?_
      exact ⟨(), ⟨rfl, rfl, rfl, rfl, rfl, rfl⟩, hp8⟩
  rintro ⟨⟩ e6 w6 hsub hp6
  refine WC.sub hsub ?_
  clear hsub e6
  repeat (first | refine WC.seq ?_ | refine WC.reg ?_ | refine WL.pure rfl rfl rfl ?_ | refine WL.nil ?_ | refine WC.skip ?_ | refine WC.block ?_ | refine WC.condT rfl ?_ | refine WC.condF rfl ?_ | refine WL.off rfl rfl rfl ?_ | refine WL.off0 rfl rfl ?_ | refine WC.exit ?_ | refine blk_hit ?_ | refine blk_miss rfl ?_ | refine WC.ret ?_)
  exact ⟨(i1 + 1, j1 - 1, swp d3 i1 j1), by show j1 - 1 + 1 - (i1 + 1) < j0 + 1 - i0; omega, ⟨rfl, rfl, rfl, congrArg (fun z => some (Value.int .i64 z)) st1, congrArg (fun z => some (Value.int .i64 z)) st2, rfl⟩, by omega, by omega, by omega, hOK.swp (by omega) (by omega), hPL, hp6⟩
end
end Go.Proofs.YtoghnhbjdnjghaaGreat
