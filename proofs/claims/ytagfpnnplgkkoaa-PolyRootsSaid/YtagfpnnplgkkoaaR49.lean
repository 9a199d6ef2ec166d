/- The walk of the law of roots. -/
import Derived.Test.YtagfpnnplgkkoaaR48
import Derived.Test.YtagfpnnplgkkoaaQs
namespace Go.Proofs.Ytagfpnnplgkkoaa
open Go.W Go.Poly Go.Tree Go.RowKit
set_option maxRecDepth 100000
attribute [local irreducible] WC WL WQ WS WH

set_option maxHeartbeats 1000000 in
theorem PolyRoots_any (p : Int) (fa : Option Addr) (fc : Nat) (xf : List Int) (w : World) (sf : Sl w fa (zs xf)) (hfc : xf.length ≤ fc) (hbig : xf.length ≤ 9223372036854775807) :
    Ret Try.prog 12 [.int .i64 p, .slice fa xf.length fc] w fun u w' => u = .bool true ∧ Hp w w' [] := by
  refine enter Try.func12 rfl rfl ⟨rfl, rfl⟩ rfl ?_
  repeat (first | refine WC.seq ?_ | refine WC.reg ?_ | refine WL.pure rfl rfl rfl ?_ | refine WL.nil ?_ | refine WC.skip ?_ | refine WC.block ?_ | refine WC.condT rfl ?_ | refine WC.condF rfl ?_ | refine WL.off rfl rfl rfl ?_ | refine WL.off0 rfl rfl ?_ | refine WC.exit ?_ | refine blk_hit ?_ | refine blk_miss rfl ?_ | refine WC.ret ?_)
  refine WL.call rfl rfl rfl rfl rfl ent26 (fieldO_any p w) ?_
  rintro _ w1 ⟨rfl, q, rfl, hq, hq2⟩
  have hq0 := hq.pos
  repeat (first | refine WC.seq ?_ | refine WC.reg ?_ | refine WL.pure rfl rfl rfl ?_ | refine WL.nil ?_ | refine WC.skip ?_ | refine WC.block ?_ | refine WC.condT rfl ?_ | refine WC.condF rfl ?_ | refine WL.off rfl rfl rfl ?_ | refine WL.off0 rfl rfl ?_ | refine WC.exit ?_ | refine blk_hit ?_ | refine blk_miss rfl ?_ | refine WC.ret ?_)
  refine WL.buildS (cs := ints [1]) rfl rfl rfl rfl rfl rfl rfl rfl rfl ?_
  intro b0 w2 hb0
  have hp2' : Hp w1 w2 [Rw (.slice (some ⟨b0, 0, none⟩) 1 1) [1], Rw (.slice none 0 0) []] := ((Hp.start w1).nilRw.new hb0).toRow (m := 1) (s := 1) rfl (by decide)
  repeat (first | refine WC.seq ?_ | refine WC.reg ?_ | refine WL.pure rfl rfl rfl ?_ | refine WL.nil ?_)
  refine WC.mid (Value × Option Addr × Nat × List Nat × List Nat) (fun (vf, a, c, R, _) => [(0, .int .i64 (q : Nat)), (5, vf), (6, .slice a R.length c)])
    (fun (vf, a, c, R, Z) w' => R.length ≤ 12 ∧ (∀ y ∈ R, y < q) ∧ RT q R Z ∧ Hp w1 w' [Rw vf Z, Rw (.slice a R.length c) R]) ?_ ?_
  rotate_left
  · rintro ⟨vf, a, c, R, Z⟩ e2 w2 hsub ⟨hR, hRq, hRT, hp2⟩
    refine WC.sub hsub ?_
    clear hsub e2 hp2' hb0
    have hZl := hRT.rts.len
    have hZp := hRT.rts.z
    obtain ⟨ys, hy1, hy2, hy3⟩ := rt_spl hq hRT hR (by omega)
    have d5 : Pd w2 vf Z := Pd.row hp2 0 rfl
    repeat (first | refine WC.seq ?_ | refine WC.reg ?_ | refine WL.pure rfl rfl rfl ?_ | refine WL.nil ?_ | refine WC.skip ?_ | refine WC.block ?_ | refine WC.condT rfl ?_ | refine WC.condF rfl ?_ | refine WL.off rfl rfl rfl ?_ | refine WL.off0 rfl rfl ?_ | refine WC.exit ?_ | refine blk_hit ?_ | refine blk_miss rfl ?_ | refine WC.ret ?_)
    refine WL.call rfl rfl rfl rfl rfl ent35 (Factor_ok q hq hq2 vf Z ys hZp (List.ne_nil_of_length_pos (by omega)) (by omega) hy1 (by omega) w2 d5) ?_
    rintro _ w3 ⟨v19, fs, BF, rfl, hfs, hfb, hp3⟩
    rw [hZl, Nat.add_sub_cancel, hRT.top]
    have hfl : fs.length = R.length := by
      have := congrArg List.length hfs
      rw [List.length_map, (isrt_perm _ _ _).length_eq] at this
      omega
    have hfe : ∀ x ∈ fs, x.1.2.length = 2 ∧ x.2 = 1 := by
      intro x hx
      have h1 : prE x ∈ spl q ys := by
        have := List.mem_map_of_mem (f := prE) hx
        rw [hfs] at this
        exact (isrt_perm _ _ _).mem_iff.1 this
      exact hy3 _ h1
    obtain ⟨fsa, fsc, rfl⟩ := owns_shape (hp3.at 0 rfl)
    have sfs : Sl w3 fsa (fcs fs) := Sl.of_row (hp3.at 0 rfl)
    have hpd : ∀ x ∈ fs, Pd w3 x.1.1 x.1.2 := fun x hx => bag_pd (A := [_]) hp3 (hfb x hx).1
    have hw3 := hp2.nil'.over hp3.nil'
    have d5 := d5.hp hp3
    have sR : Sl w3 a (ints R) := (show Sl w2 a (ints R) from Sl.of_row (hp2.at 1 rfl)).hp hp3
    clear hp2 hp3 hfs hfb hy1 hy2 hy3
    repeat (first | refine WC.seq ?_ | refine WC.reg ?_ | refine WL.pure rfl rfl rfl ?_ | refine WL.nil ?_ | refine WC.skip ?_ | refine WC.block ?_ | refine WC.condT rfl ?_ | refine WC.condF rfl ?_ | refine WL.off rfl rfl rfl ?_ | refine WL.off0 rfl rfl ?_ | refine WC.exit ?_ | refine blk_hit ?_ | refine blk_miss rfl ?_ | refine WC.ret ?_)
    refine WC.cond rfl (fun h => ?_) (fun h => ?_)
    · exfalso
      simp [hfl] at h
    repeat (first | refine WC.seq ?_ | refine WC.reg ?_ | refine WL.pure rfl rfl rfl ?_ | refine WL.nil ?_ | refine WC.skip ?_ | refine WC.block ?_ | refine WC.condT rfl ?_ | refine WC.condF rfl ?_ | refine WL.off rfl rfl rfl ?_ | refine WL.off0 rfl rfl ?_ | refine WC.exit ?_ | refine blk_hit ?_ | refine blk_miss rfl ?_ | refine WC.ret ?_)
    refine WC.loop Nat (fun i => [(0, .int .i64 (q : Nat)), (5, vf), (6, .slice a R.length c), (13, .slice fsa fs.length fsc), (15, .int .i64 (i : Nat))])
      (fun i w' => i ≤ fs.length ∧ w3 = w') (fun i => fs.length - i) 0 ⟨rfl, rfl, rfl, rfl, rfl, rfl⟩ ⟨Nat.zero_le _, rfl⟩ ?_
    rintro i _ ⟨hi, rfl⟩
    repeat (first | refine WC.seq ?_ | refine WC.reg ?_ | refine WL.pure rfl rfl rfl ?_ | refine WL.nil ?_ | refine WC.skip ?_ | refine WC.block ?_ | refine WC.condT rfl ?_ | refine WC.condF rfl ?_ | refine WL.off rfl rfl rfl ?_ | refine WL.off0 rfl rfl ?_ | refine WC.exit ?_ | refine blk_hit ?_ | refine blk_miss rfl ?_ | refine WC.ret ?_)
    refine WC.cond rfl (fun h => ?_) (fun h => ?_)
    · have hi : i < fs.length := by have := of_decide_eq_true h; omega
      have step : IntKind.i64.wrap ((i : Int) + 1) = ((i + 1 : Nat) : Int) := by rw [wrap_i64_in (by omega) (by omega)]; omega
      obtain ⟨ai, ci, ev, -⟩ := hpd fs[i] (List.getElem_mem hi)
      obtain ⟨hl2, hl1⟩ := hfe fs[i] (List.getElem_mem hi)
      have h0 := fcs_at fs i hi 0 (fs[i]).1.1 rfl
      have h1 := fcs_at fs i hi 1 (.int .i64 ((fs[i]).2 : Nat)) rfl
      obtain ⟨b', o', rfl, hc⟩ := sfs _ _ h0
      have hc1 := Sl.cell sfs h1
      rw [ev, hl2] at hc
      rw [hl1] at hc1
      repeat (first | refine WC.seq ?_ | refine WC.reg ?_ | refine WL.pure rfl rfl rfl ?_ | refine WL.nil ?_ | refine WC.skip ?_ | refine WC.block ?_ | refine WC.condT rfl ?_ | refine WC.condF rfl ?_ | refine WL.off rfl rfl rfl ?_ | refine WL.off0 rfl rfl ?_ | refine WC.exit ?_ | refine blk_hit ?_ | refine blk_miss rfl ?_ | refine WC.ret ?_)
      refine WL.ix rfl rfl rfl rfl rfl hi rfl ?_
      repeat (first | refine WC.seq ?_ | refine WC.reg ?_ | refine WL.pure rfl rfl rfl ?_ | refine WL.nil ?_ | refine WC.skip ?_ | refine WC.block ?_ | refine WC.condT rfl ?_ | refine WC.condF rfl ?_ | refine WL.off rfl rfl rfl ?_ | refine WL.off0 rfl rfl ?_ | refine WC.exit ?_ | refine blk_hit ?_ | refine blk_miss rfl ?_ | refine WC.ret ?_)
      refine WL.load rfl rfl rfl rfl rfl hc ?_
      repeat (first | refine WC.seq ?_ | refine WC.reg ?_ | refine WL.pure rfl rfl rfl ?_ | refine WL.nil ?_ | refine WC.skip ?_ | refine WC.block ?_ | refine WC.condT rfl ?_ | refine WC.condF rfl ?_ | refine WL.off rfl rfl rfl ?_ | refine WL.off0 rfl rfl ?_ | refine WC.exit ?_ | refine blk_hit ?_ | refine blk_miss rfl ?_ | refine WC.ret ?_)
      refine WL.ix rfl rfl rfl rfl rfl hi rfl ?_
      repeat (first | refine WC.seq ?_ | refine WC.reg ?_ | refine WL.pure rfl rfl rfl ?_ | refine WL.nil ?_ | refine WC.skip ?_ | refine WC.block ?_ | refine WC.condT rfl ?_ | refine WC.condF rfl ?_ | refine WL.off rfl rfl rfl ?_ | refine WL.off0 rfl rfl ?_ | refine WC.exit ?_ | refine blk_hit ?_ | refine blk_miss rfl ?_ | refine WC.ret ?_)
      refine WL.load rfl rfl rfl rfl rfl hc1 ?_
      repeat (first | refine WC.seq ?_ | refine WC.reg ?_ | refine WL.pure rfl rfl rfl ?_ | refine WL.nil ?_ | refine WC.skip ?_ | refine WC.block ?_ | refine WC.condT rfl ?_ | refine WC.condF rfl ?_ | refine WL.off rfl rfl rfl ?_ | refine WL.off0 rfl rfl ?_ | refine WC.exit ?_ | refine blk_hit ?_ | refine blk_miss rfl ?_ | refine WC.ret ?_)
      exact ⟨i + 1, by show fs.length - (i + 1) < fs.length - i; omega, ⟨rfl, rfl, rfl, rfl, congrArg (fun z => some (Value.int .i64 z)) step, rfl⟩, hi, rfl⟩
    · repeat (first | refine WC.seq ?_ | refine WC.reg ?_ | refine WL.pure rfl rfl rfl ?_ | refine WL.nil ?_ | refine WC.skip ?_ | refine WC.block ?_ | refine WC.condT rfl ?_ | refine WC.condF rfl ?_ | refine WL.off rfl rfl rfl ?_ | refine WL.off0 rfl rfl ?_ | refine WC.exit ?_ | refine blk_hit ?_ | refine blk_miss rfl ?_ | refine WC.ret ?_)
      refine WC.loop Nat (fun i => [(0, .int .i64 (q : Nat)), (5, vf), (6, .slice a R.length c), (16, .int .i64 (i : Nat))])
        (fun i w' => i ≤ R.length ∧ Hp w3 w' []) (fun i => R.length - i) 0 ⟨rfl, rfl, rfl, rfl, rfl⟩ ⟨Nat.zero_le _, Hp.start _⟩ ?_
      rintro i w4 ⟨hi, hp4⟩
      repeat (first | refine WC.seq ?_ | refine WC.reg ?_ | refine WL.pure rfl rfl rfl ?_ | refine WL.nil ?_ | refine WC.skip ?_ | refine WC.block ?_ | refine WC.condT rfl ?_ | refine WC.condF rfl ?_ | refine WL.off rfl rfl rfl ?_ | refine WL.off0 rfl rfl ?_ | refine WC.exit ?_ | refine blk_hit ?_ | refine blk_miss rfl ?_ | refine WC.ret ?_)
      refine WC.cond rfl (fun h => ?_) (fun h => ?_)
      · have hi : i < R.length := by have := of_decide_eq_true h; omega
        have step : IntKind.i64.wrap ((i : Int) + 1) = ((i + 1 : Nat) : Int) := by rw [wrap_i64_in (by omega) (by omega)]; omega
        have hv := hRT.rts.v0 i hi
        have hlt : R.getD i 0 < q := hRq _ (getD_mem hi)
        repeat (first | refine WC.seq ?_ | refine WC.reg ?_ | refine WL.pure rfl rfl rfl ?_ | refine WL.nil ?_ | refine WC.skip ?_ | refine WC.block ?_ | refine WC.condT rfl ?_ | refine WC.condF rfl ?_ | refine WL.off rfl rfl rfl ?_ | refine WL.off0 rfl rfl ?_ | refine WC.exit ?_ | refine blk_hit ?_ | refine blk_miss rfl ?_ | refine WC.ret ?_)
        refine WL.ixload rfl (fun _ => rfl) rfl rfl rfl rfl rfl rfl rfl hi rfl rfl (sR.hp hp4) (ints_at hi) ?_
        intro pa
        repeat (first | refine WC.seq ?_ | refine WC.reg ?_ | refine WL.pure rfl rfl rfl ?_ | refine WL.nil ?_ | refine WC.skip ?_ | refine WC.block ?_ | refine WC.condT rfl ?_ | refine WC.condF rfl ?_ | refine WL.off rfl rfl rfl ?_ | refine WL.off0 rfl rfl ?_ | refine WC.exit ?_ | refine blk_hit ?_ | refine blk_miss rfl ?_ | refine WC.ret ?_)
        refine WL.call rfl rfl rfl rfl rfl ent28 (Value_ok q hq hq2 vf Z (co R i) hZp hlt (by omega) w4 (d5.hp hp4)) ?_
        rintro _ w5 ⟨rfl, hp5⟩
        rw [show valL q Z (co R i) = 0 from hv]
        repeat (first | refine WC.seq ?_ | refine WC.reg ?_ | refine WL.pure rfl rfl rfl ?_ | refine WL.nil ?_ | refine WC.skip ?_ | refine WC.block ?_ | refine WC.condT rfl ?_ | refine WC.condF rfl ?_ | refine WL.off rfl rfl rfl ?_ | refine WL.off0 rfl rfl ?_ | refine WC.exit ?_ | refine blk_hit ?_ | refine blk_miss rfl ?_ | refine WC.ret ?_)
        exact ⟨i + 1, by show R.length - (i + 1) < R.length - i; omega, ⟨rfl, rfl, rfl, congrArg (fun z => some (Value.int .i64 z)) step, rfl⟩, hi, hp4.over hp5⟩
      · repeat (first | refine WC.seq ?_ | refine WC.reg ?_ | refine WL.pure rfl rfl rfl ?_ | refine WL.nil ?_ | refine WC.skip ?_ | refine WC.block ?_ | refine WC.condT rfl ?_ | refine WC.condF rfl ?_ | refine WL.off rfl rfl rfl ?_ | refine WL.off0 rfl rfl ?_ | refine WC.exit ?_ | refine blk_hit ?_ | refine blk_miss rfl ?_ | refine WC.ret ?_)
        refine WL.call rfl rfl rfl rfl rfl ent21 (awake_any w4) ?_
        rintro _ w5 ⟨rfl, hp5⟩
        repeat (first | refine WC.seq ?_ | refine WC.reg ?_ | refine WL.pure rfl rfl rfl ?_ | refine WL.nil ?_ | refine WC.skip ?_ | refine WC.block ?_ | refine WC.condT rfl ?_ | refine WC.condF rfl ?_ | refine WL.off rfl rfl rfl ?_ | refine WL.off0 rfl rfl ?_ | refine WC.exit ?_ | refine blk_hit ?_ | refine blk_miss rfl ?_ | refine WC.ret ?_)
        exact Res.one rfl rfl rfl ⟨rfl, (hw3.over hp4).over hp5⟩
  repeat (first | refine WC.seq ?_ | refine WC.reg ?_ | refine WL.pure rfl rfl rfl ?_ | refine WL.nil ?_ | refine WC.skip ?_ | refine WC.block ?_ | refine WC.condT rfl ?_ | refine WC.condF rfl ?_ | refine WL.off rfl rfl rfl ?_ | refine WL.off0 rfl rfl ?_ | refine WC.exit ?_ | refine blk_hit ?_ | refine blk_miss rfl ?_ | refine WC.ret ?_)
  refine WC.loop (Nat × Value × Option Addr × Nat × List Nat × List Nat) (fun (i, vf, a, c, R, _) => [(0, .int .i64 (q : Nat)), (1, .slice fa xf.length fc), (5, vf), (6, .slice a R.length c), (7, .int .i64 (i : Nat))])
    (fun (i, vf, a, c, R, Z) w' => i ≤ xf.length ∧ R.length ≤ 12 ∧ (∀ y ∈ R, y < q) ∧ RT q R Z ∧ Hp w1 w' [Rw vf Z, Rw (.slice a R.length c) R]) (fun (i, _) => xf.length - i) (0, _, none, 0, [], [1]) ⟨rfl, rfl, rfl, rfl, rfl, rfl⟩ ⟨Nat.zero_le _, Nat.zero_le _, (fun y hy => by cases hy), rt_nil hq, hp2'⟩ ?_
  clear hp2' hb0 w2
  rintro ⟨i, vf, a, c, R, Z⟩ w2 ⟨hi, hR, hRq, hRT, hp2⟩
  repeat (first | refine WC.seq ?_ | refine WC.reg ?_ | refine WL.pure rfl rfl rfl ?_ | refine WL.nil ?_ | refine WC.skip ?_ | refine WC.block ?_ | refine WC.condT rfl ?_ | refine WC.condF rfl ?_ | refine WL.off rfl rfl rfl ?_ | refine WL.off0 rfl rfl ?_ | refine WC.exit ?_ | refine blk_hit ?_ | refine blk_miss rfl ?_ | refine WC.ret ?_)
  refine WL.split 26 rfl (fun h1 => ?_) (fun h1 => ?_)
  · have hi : i < xf.length := by have := of_decide_eq_true h1; omega
    have step : IntKind.i64.wrap ((i : Int) + 1) = ((i + 1 : Nat) : Int) := by rw [wrap_i64_in (by omega) (by omega)]; omega
    repeat (first | refine WC.seq ?_ | refine WC.reg ?_ | refine WL.pure rfl rfl rfl ?_ | refine WL.nil ?_ | refine WC.skip ?_ | refine WC.block ?_ | refine WC.condT rfl ?_ | refine WC.condF rfl ?_ | refine WL.off rfl rfl rfl ?_ | refine WL.off0 rfl rfl ?_ | refine WC.exit ?_ | refine blk_hit ?_ | refine blk_miss rfl ?_ | refine WC.ret ?_)
    refine WC.cond rfl (fun h2 => ?_) (fun h2 => ?_)
    · have hR12 : R.length < 12 := by have := of_decide_eq_true h2; omega
      have hxi : (zs xf)[i]? = some (.int .i64 (xf[i])) := by simp [zs, hi]
      repeat (first | refine WC.seq ?_ | refine WC.reg ?_ | refine WL.pure rfl rfl rfl ?_ | refine WL.nil ?_ | refine WC.skip ?_ | refine WC.block ?_ | refine WC.condT rfl ?_ | refine WC.condF rfl ?_ | refine WL.off rfl rfl rfl ?_ | refine WL.off0 rfl rfl ?_ | refine WC.exit ?_ | refine blk_hit ?_ | refine blk_miss rfl ?_ | refine WC.ret ?_)
      refine WL.ixload rfl (fun _ => rfl) rfl rfl rfl rfl rfl rfl rfl hi rfl rfl (sf.hp hp2) hxi ?_
      intro pa
      repeat (first | refine WC.seq ?_ | refine WC.reg ?_ | refine WL.pure rfl rfl rfl ?_ | refine WL.nil ?_ | refine WC.skip ?_ | refine WC.block ?_ | refine WC.condT rfl ?_ | refine WC.condF rfl ?_ | refine WL.off rfl rfl rfl ?_ | refine WL.off0 rfl rfl ?_ | refine WC.exit ?_ | refine blk_hit ?_ | refine blk_miss rfl ?_ | refine WC.ret ?_)
      refine WL.callP rfl rfl rfl rfl rfl ent34 (modO_any _ q hq0 (by omega) _) ?_
      have hx := modN_lt hq0 (xf[i])
      generalize modN (xf[i]) q = x at *
      have sR : Sl w2 a (ints R) := Sl.of_row (hp2.at 1 rfl)
      repeat (first | refine WC.seq ?_ | refine WC.reg ?_ | refine WL.pure rfl rfl rfl ?_ | refine WL.nil ?_ | refine WC.skip ?_ | refine WC.block ?_ | refine WC.condT rfl ?_ | refine WC.condF rfl ?_ | refine WL.off rfl rfl rfl ?_ | refine WL.off0 rfl rfl ?_ | refine WC.exit ?_ | refine blk_hit ?_ | refine blk_miss rfl ?_ | refine WC.ret ?_)
      refine WC.loop (Nat × Int) (fun (k, y) => [(0, .int .i64 (q : Nat)), (1, .slice fa xf.length fc), (5, vf), (6, .slice a R.length c), (7, .int .i64 (i : Nat)), (8, .int .i64 y), (9, .int .i64 (k : Nat))])
        (fun (k, y) w' => w' = w2 ∧ k ≤ R.length ∧ (y = -1 ∨ (y = (x : Int) ∧ ∀ j, j < k → R.getD j 0 ≠ x))) (fun (k, _) => R.length - k) (0, (x : Int)) ⟨rfl, rfl, rfl, rfl, rfl, rfl, rfl, rfl⟩ ⟨rfl, Nat.zero_le _, .inr ⟨rfl, fun j hj => by omega⟩⟩ ?_
      rintro ⟨k, y⟩ w3 ⟨rfl, hk, hy⟩
      have fin : ∀ y' : Int, (y' = -1 ∨ (y' = (x : Int) ∧ ∀ j, j < R.length → R.getD j 0 ≠ x)) → True := fun _ _ => trivial
      repeat (first | refine WC.seq ?_ | refine WC.reg ?_ | refine WL.pure rfl rfl rfl ?_ | refine WL.nil ?_ | refine WC.skip ?_ | refine WC.block ?_ | refine WC.condT rfl ?_ | refine WC.condF rfl ?_ | refine WL.off rfl rfl rfl ?_ | refine WL.off0 rfl rfl ?_ | refine WC.exit ?_ | refine blk_hit ?_ | refine blk_miss rfl ?_ | refine WC.ret ?_)
      refine WL.split 43 rfl (fun h3 => ?_) (fun h3 => ?_)
      · have hk : k < R.length := by have := of_decide_eq_true h3; omega
        have stepk : IntKind.i64.wrap ((k : Int) + 1) = ((k + 1 : Nat) : Int) := by rw [wrap_i64_in (by omega) (by omega)]; omega
        repeat (first | refine WC.seq ?_ | refine WC.reg ?_ | refine WL.pure rfl rfl rfl ?_ | refine WL.nil ?_ | refine WC.skip ?_ | refine WC.block ?_ | refine WC.condT rfl ?_ | refine WC.condF rfl ?_ | refine WL.off rfl rfl rfl ?_ | refine WL.off0 rfl rfl ?_ | refine WC.exit ?_ | refine blk_hit ?_ | refine blk_miss rfl ?_ | refine WC.ret ?_)
        refine WC.cond rfl (fun h4 => ?_) (fun h4 => ?_)
        · have hyr := hy.resolve_left (by have := of_decide_eq_true h4; omega)
          obtain ⟨rfl, hy2⟩ := hyr
          repeat (first | refine WC.seq ?_ | refine WC.reg ?_ | refine WL.pure rfl rfl rfl ?_ | refine WL.nil ?_ | refine WC.skip ?_ | refine WC.block ?_ | refine WC.condT rfl ?_ | refine WC.condF rfl ?_ | refine WL.off rfl rfl rfl ?_ | refine WL.off0 rfl rfl ?_ | refine WC.exit ?_ | refine blk_hit ?_ | refine blk_miss rfl ?_ | refine WC.ret ?_)
          refine WL.ixload rfl (fun _ => rfl) rfl rfl rfl rfl rfl rfl rfl hk rfl rfl sR (ints_at hk) ?_
          intro pb
          repeat (first | refine WC.seq ?_ | refine WC.reg ?_ | refine WL.pure rfl rfl rfl ?_ | refine WL.nil ?_ | refine WC.skip ?_ | refine WC.block ?_ | refine WC.condT rfl ?_ | refine WC.condF rfl ?_ | refine WL.off rfl rfl rfl ?_ | refine WL.off0 rfl rfl ?_ | refine WC.exit ?_ | refine blk_hit ?_ | refine blk_miss rfl ?_ | refine WC.ret ?_)
          refine WC.cond rfl (fun h5 => ?_) (fun h5 => ?_)
          · repeat (first | refine WC.seq ?_ | refine WC.reg ?_ | refine WL.pure rfl rfl rfl ?_ | refine WL.nil ?_ | refine WC.skip ?_ | refine WC.block ?_ | refine WC.condT rfl ?_ | refine WC.condF rfl ?_ | refine WL.off rfl rfl rfl ?_ | refine WL.off0 rfl rfl ?_ | refine WC.exit ?_ | refine blk_hit ?_ | refine blk_miss rfl ?_ | refine WC.ret ?_)
            exact ⟨(k + 1, -1), by show R.length - (k + 1) < R.length - k; omega, ⟨rfl, rfl, rfl, rfl, rfl, rfl, congrArg (fun z => some (Value.int .i64 z)) stepk, rfl⟩, rfl, hk, .inl rfl⟩
          · have h5 : ¬ ((co R k : Nat) : Int) = (x : Int) := by simpa using h5
            repeat (first | refine WC.seq ?_ | refine WC.reg ?_ | refine WL.pure rfl rfl rfl ?_ | refine WL.nil ?_ | refine WC.skip ?_ | refine WC.block ?_ | refine WC.condT rfl ?_ | refine WC.condF rfl ?_ | refine WL.off rfl rfl rfl ?_ | refine WL.off0 rfl rfl ?_ | refine WC.exit ?_ | refine blk_hit ?_ | refine blk_miss rfl ?_ | refine WC.ret ?_)
            refine ⟨(k + 1, (x : Int)), by show R.length - (k + 1) < R.length - k; omega, ⟨rfl, rfl, rfl, rfl, rfl, rfl, congrArg (fun z => some (Value.int .i64 z)) stepk, rfl⟩, rfl, hk, .inr ⟨rfl, fun j hj => ?_⟩⟩
            by_cases hjk : j = k
            · subst hjk
              intro e
              exact h5 (by exact_mod_cast e)
            · exact hy2 j (by omega)
        · have hy : y = -1 := hy.resolve_right (fun h => by have := of_decide_eq_false h4; omega)
          subst hy
          repeat (first | refine WC.seq ?_ | refine WC.reg ?_ | refine WL.pure rfl rfl rfl ?_ | refine WL.nil ?_ | refine WC.skip ?_ | refine WC.block ?_ | refine WC.condT rfl ?_ | refine WC.condF rfl ?_ | refine WL.off rfl rfl rfl ?_ | refine WL.off0 rfl rfl ?_ | refine WC.exit ?_ | refine blk_hit ?_ | refine blk_miss rfl ?_ | refine WC.ret ?_)
          exact ⟨(i + 1, vf, a, c, R, Z), by show xf.length - (i + 1) < xf.length - i; omega, ⟨rfl, rfl, rfl, rfl, congrArg (fun z => some (Value.int .i64 z)) step, rfl⟩, hi, hR, hRq, hRT, hp2⟩
      · have hk : k = R.length := by have := of_decide_eq_false h3; omega
        subst hk
        rcases hy with rfl | ⟨rfl, hne⟩
        · repeat (first | refine WC.seq ?_ | refine WC.reg ?_ | refine WL.pure rfl rfl rfl ?_ | refine WL.nil ?_ | refine WC.skip ?_ | refine WC.block ?_ | refine WC.condT rfl ?_ | refine WC.condF rfl ?_ | refine WL.off rfl rfl rfl ?_ | refine WL.off0 rfl rfl ?_ | refine WC.exit ?_ | refine blk_hit ?_ | refine blk_miss rfl ?_ | refine WC.ret ?_)
          exact ⟨(i + 1, vf, a, c, R, Z), by show xf.length - (i + 1) < xf.length - i; omega, ⟨rfl, rfl, rfl, rfl, congrArg (fun z => some (Value.int .i64 z)) step, rfl⟩, hi, hR, hRq, hRT, hp2⟩
        · repeat (first | refine WC.seq ?_ | refine WC.reg ?_ | refine WL.pure rfl rfl rfl ?_ | refine WL.nil ?_ | refine WC.skip ?_ | refine WC.block ?_ | refine WC.condT rfl ?_ | refine WC.condF rfl ?_ | refine WL.off rfl rfl rfl ?_ | refine WL.off0 rfl rfl ?_ | refine WC.exit ?_ | refine blk_hit ?_ | refine blk_miss rfl ?_ | refine WC.ret ?_)
          have hnx : ∀ y ∈ R, y ≠ x := by
            intro y hy
            obtain ⟨j, hj, rfl⟩ := List.mem_iff_getElem.1 hy
            have := hne j hj
            rwa [List.getD_eq_getElem?_getD, List.getElem?_eq_getElem hj] at this
          have hRT2 := rt_snoc hq hRT hx hnx
          have hZl := hRT.rts.len
          have hl2 := hRT2.rts.len
          rw [List.length_append, List.length_singleton] at hl2
          repeat (first | refine WC.seq ?_ | refine WC.reg ?_ | refine WL.pure rfl rfl rfl ?_ | refine WL.nil ?_ | refine WC.skip ?_ | refine WC.block ?_ | refine WC.condT rfl ?_ | refine WC.condF rfl ?_ | refine WL.off rfl rfl rfl ?_ | refine WL.off0 rfl rfl ?_ | refine WC.exit ?_ | refine blk_hit ?_ | refine blk_miss rfl ?_ | refine WC.ret ?_)
          refine WL.buildS (cs := ints [x]) rfl rfl rfl rfl rfl rfl rfl rfl rfl ?_
          intro bs w4 hbs
          have hp3 := hp2.new hbs
          refine WL.append 2 hp3 rfl rfl rfl rfl rfl (by decide) rfl rfl rfl (news := ints [x]) (Sl.of_obj (hp3.obj 0 rfl) (fun q u hq => by simpa using hq)) rfl (ints_cells _) (by unfold maxLen; omega) (by show (R.length + 1) * 8 ≤ _; omega) ?_
          intro a' c' w5 hp5 hg5
          have e2 : ints R ++ ints [x] = ints (R ++ [x]) := by unfold ints; rw [List.map_append]
          have e3 : R.length + 1 = (R ++ [x]).length := by rw [List.length_append, List.length_singleton]
          rw [e2] at hp5
          have hp6 : Hp w1 w5 [Rw vf Z, Rw (.slice a' (R ++ [x]).length c') (R ++ [x])] := by
            have := hp5.tail
            rw [show (R ++ [x]).length = R.length + 1 from e3.symm]
            unfold Rw
            rw [← e3]
            exact this
          have hem : IntKind.i64.wrap ((q : Int) - (x : Int)) = ((q - x : Nat) : Int) := by rw [wrap_i64_in (by omega) (by omega)]; omega
          have hem2 : (IntKind.i64.wrap ((q : Int) - (x : Int))).tmod (q : Int) = (((q - x) % q : Nat) : Int) := by rw [hem]; exact (Int.ofNat_tmod _ _).symm
          repeat (first | refine WC.seq ?_ | refine WC.reg ?_ | refine WL.pure rfl rfl rfl ?_ | refine WL.nil ?_ | refine WC.skip ?_ | refine WC.block ?_ | refine WC.condT rfl ?_ | refine WC.condF rfl ?_ | refine WL.off rfl rfl rfl ?_ | refine WL.off0 rfl rfl ?_ | refine WC.exit ?_ | refine blk_hit ?_ | refine blk_miss rfl ?_ | refine WC.ret ?_)
          refine WL.rem rfl rfl rfl rfl (by omega) ?_
          refine WL.known (d := 68) (congrArg (fun z => some (Value.int .i64 z)) hem2) ?_
          refine WL.buildS (cs := ints [(q - x) % q, 1]) rfl rfl rfl rfl rfl rfl rfl rfl rfl ?_
          intro bl w6 hbl
          have hr6 : Hp w5 w6 [Rw (.slice (some ⟨bl, 0, none⟩) 2 2) [(q - x) % q, 1]] := ((Hp.start w5).new hbl).toRow (m := 2) (s := 1) rfl (by decide)
          have hd5 : Pd w6 vf Z := (Pd.row hp6 0 rfl).hp hr6
          refine WL.call rfl rfl rfl rfl rfl ent17 (Mul_ok q hq hq2 vf _ Z [(q - x) % q, 1] hRT.rts.z (lin_isP hq x) (by omega) (by simp) (by omega) w6 hd5 (Pd.row hr6 0 rfl)) ?_
          rintro _ w7 ⟨v2, rfl, hp7⟩
          have hp8 := hp6.comb (hr6.nil'.over hp7)
          repeat (first | refine WC.seq ?_ | refine WC.reg ?_ | refine WL.pure rfl rfl rfl ?_ | refine WL.nil ?_ | refine WC.skip ?_ | refine WC.block ?_ | refine WC.condT rfl ?_ | refine WC.condF rfl ?_ | refine WL.off rfl rfl rfl ?_ | refine WL.off0 rfl rfl ?_ | refine WC.exit ?_ | refine blk_hit ?_ | refine blk_miss rfl ?_ | refine WC.ret ?_)
          refine ⟨(i + 1, v2, a', c', R ++ [x], mulL q Z [(q - x) % q, 1]), by show xf.length - (i + 1) < xf.length - i; omega, ⟨rfl, rfl, rfl, congrArg (fun z => some (Value.slice a' z c')) e3, congrArg (fun z => some (Value.int .i64 z)) step, rfl⟩, hi, by rw [← e3]; omega, ?_, hRT2, ?_⟩
          · intro y hy
            rcases List.mem_append.1 hy with hy | hy
            · exact hRq y hy
            · simp only [List.mem_singleton] at hy
              omega
          · exact hp8.pick [0, 2] (by decide)
    · repeat (first | refine WC.seq ?_ | refine WC.reg ?_ | refine WL.pure rfl rfl rfl ?_ | refine WL.nil ?_ | refine WC.skip ?_ | refine WC.block ?_ | refine WC.condT rfl ?_ | refine WC.condF rfl ?_ | refine WL.off rfl rfl rfl ?_ | refine WL.off0 rfl rfl ?_ | refine WC.exit ?_ | refine blk_hit ?_ | refine blk_miss rfl ?_ | refine WC.ret ?_)
      exact ⟨(vf, a, c, R, Z), ⟨rfl, rfl, rfl, rfl⟩, hR, hRq, hRT, hp2⟩
  · repeat (first | refine WC.seq ?_ | refine WC.reg ?_ | refine WL.pure rfl rfl rfl ?_ | refine WL.nil ?_ | refine WC.skip ?_ | refine WC.block ?_ | refine WC.condT rfl ?_ | refine WC.condF rfl ?_ | refine WL.off rfl rfl rfl ?_ | refine WL.off0 rfl rfl ?_ | refine WC.exit ?_ | refine blk_hit ?_ | refine blk_miss rfl ?_ | refine WC.ret ?_)
    exact ⟨(vf, a, c, R, Z), ⟨rfl, rfl, rfl, rfl⟩, hR, hRq, hRT, hp2⟩
end Go.Proofs.Ytagfpnnplgkkoaa
