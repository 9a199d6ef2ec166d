/- The walks of the own laws' helpers: mod, key, tame. -/
import Derived.Test.YtdnkkflpgebfbaaDoorL16
namespace Go.W
open Go.RowKit
section
variable {P : Program} [T : TT P] {n : Nat} {l0 : List Oper} {S : World → Prop} {N : Nor} {Z : Pan} {e : Env} {w : World} {fuel : Nat} {listed : Array Bool}
theorem WH.ix {d : Nat} {t ty E : TypeId} {pos : String} {aft : Array Edge} {g : Option (Nat × Bool)} {ti : TI} {x ix : Operand} {b o len cap j : Nat} {k : IntKind} {z : Value} {s b2 : Nat} (i : Nat) (hs : Region.noSelect l0.toArray = true) (hi : nth l0 i = some ⟨some d, .indexAddr t x ix, ty, pos, aft, g⟩)
    (hB : takeB l0.toArray listed i = true) (hg : grd l0 e g = some true) (hd : Nat.blt d n = true) (ht : T.ti t = some ⟨.slice E, z, s, b2⟩) (hE : T.ti E = some ti)
    (hx : opv e x = some (.slice (some ⟨b, o, none⟩) len cap)) (hix : opv e ix = some (.int k (j : Nat))) (hj : j < len) (hS : S w)
    (h : WH P n l0 S N Z fuel (listed.setIfInBounds i true) ((d, .pointer (some ⟨b, o + j * ti.size, none⟩)) :: e) w) : WH P n l0 S N Z (fuel + 1) listed e w := by
  refine WH.take i hs hi hB hg hd (fun w _ => ?_) hS h
  have hu : P.underlying t = some (.slice E) := (T.ok t _ ht).k
  intro ρ hρ d' pos' aft' g'
  have hsz := (T.ok E ti hE).sizeOf w
  have c1 : (0 : Int) ≤ (j : Int) ∧ (j : Int) < (len : Int) := ⟨by omega, by omega⟩
  simp only [execOp, hρ _ _ hx, hρ _ _ hix, Instr.indexAt, asIntOf, Sem.run_bind, Sem.run_pure, Result.andThen_ok, run_underlying hu]
  rw [if_pos c1]
  simp [hsz, Addr.add_lit]
end
end Go.W
namespace Go.Proofs.YtdnkkflpgebfbaaDoor
open Go.W Go.Tree
set_option maxRecDepth 100000
attribute [local irreducible] WC WL WQ WS WH

def modN (x : Int) (n : Nat) : Nat := (x % 18446744073709551616).toNat % n
theorem modN_lt {n : Nat} (h : 0 < n) (x : Int) : modN x n < n := Nat.mod_lt _ h
theorem mod_any (x : Int) (n : Nat) (h0 : 0 < n) (hn : n < 1000) : Pur Tryd.prog 26 [.int .i64 x, .int .i64 n] (.int .i64 (modN x n)) := by
  intro w
  refine enter Tryd.func26 rfl rfl ⟨rfl, rfl⟩ rfl ?_
  have e1 : IntKind.u64.wrap x = (((x % 18446744073709551616).toNat : Nat) : Int) := by rw [IntKind.wrap_u64]; omega
  have e2 : IntKind.u64.wrap (n : Int) = ((n : Nat) : Int) := by rw [IntKind.wrap_u64]; omega
  repeat (first | refine WC.seq ?_ | refine WC.reg ?_ | refine WL.pure rfl rfl rfl ?_ | refine WL.nil ?_ | refine WC.skip ?_ | refine WC.block ?_ | refine WC.condT rfl ?_ | refine WC.condF rfl ?_ | refine WL.off rfl rfl rfl ?_ | refine WL.off0 rfl rfl ?_ | refine WC.exit ?_ | refine blk_hit ?_ | refine blk_miss rfl ?_ | refine WC.ret ?_)
  refine WL.known (d := 6) (congrArg (fun z => some (Value.int .u64 z)) e1) ?_
  refine WL.known (d := 8) (congrArg (fun z => some (Value.int .u64 z)) e2) ?_
  refine WL.rem rfl rfl rfl rfl (by omega) ?_
  repeat (first | refine WC.seq ?_ | refine WC.reg ?_ | refine WL.pure rfl rfl rfl ?_ | refine WL.nil ?_ | refine WC.skip ?_ | refine WC.block ?_ | refine WC.condT rfl ?_ | refine WC.condF rfl ?_ | refine WL.off rfl rfl rfl ?_ | refine WL.off0 rfl rfl ?_ | refine WC.exit ?_ | refine blk_hit ?_ | refine blk_miss rfl ?_ | refine WC.ret ?_)
  refine Res.one rfl rfl rfl ⟨?_, rfl⟩
  have h1 : (((x % 18446744073709551616).toNat : Nat) : Int).tmod (n : Int) = ((modN x n : Nat) : Int) := (Int.ofNat_tmod _ _).symm
  have h2 := modN_lt h0 x
  rw [h1, wrap_i64_in (by omega) (by omega)]

def keyN (o : List Int) (v : Nat) : Int := o.getD v 0
theorem key_any (oa : Option Addr) (oc : Nat) (o : List Int) (v : Nat) (w : World) (ho : Sl w oa (zs o)) :
    Ret Tryd.prog 33 [.slice oa o.length oc, .int .i64 v] w fun u w' => u = .int .i64 (keyN o v) ∧ w' = w := by
  refine enter Tryd.func33 rfl rfl ⟨rfl, rfl⟩ rfl ?_
  repeat (first | refine WC.seq ?_ | refine WC.reg ?_ | refine WL.pure rfl rfl rfl ?_ | refine WL.nil ?_ | refine WC.skip ?_ | refine WC.block ?_ | refine WC.condT rfl ?_ | refine WC.condF rfl ?_ | refine WL.off rfl rfl rfl ?_ | refine WL.off0 rfl rfl ?_ | refine WC.exit ?_ | refine blk_hit ?_ | refine blk_miss rfl ?_ | refine WC.ret ?_)
  refine WC.cond rfl (fun h => ?_) (fun h => ?_)
  · have h : v < o.length := by have := of_decide_eq_true h; omega
    repeat (first | refine WC.seq ?_ | refine WC.reg ?_ | refine WL.pure rfl rfl rfl ?_ | refine WL.nil ?_ | refine WC.skip ?_ | refine WC.block ?_ | refine WC.condT rfl ?_ | refine WC.condF rfl ?_ | refine WL.off rfl rfl rfl ?_ | refine WL.off0 rfl rfl ?_ | refine WC.exit ?_ | refine blk_hit ?_ | refine blk_miss rfl ?_ | refine WC.ret ?_)
    refine WL.ixload rfl (fun _ => rfl) rfl rfl rfl rfl rfl rfl rfl h rfl rfl ho (by simp [zs, h] : (zs o)[v]? = some (.int .i64 (o.getD v 0))) ?_
    intro p
    repeat (first | refine WC.seq ?_ | refine WC.reg ?_ | refine WL.pure rfl rfl rfl ?_ | refine WL.nil ?_ | refine WC.skip ?_ | refine WC.block ?_ | refine WC.condT rfl ?_ | refine WC.condF rfl ?_ | refine WL.off rfl rfl rfl ?_ | refine WL.off0 rfl rfl ?_ | refine WC.exit ?_ | refine blk_hit ?_ | refine blk_miss rfl ?_ | refine WC.ret ?_)
    exact Res.one rfl rfl rfl ⟨rfl, rfl⟩
  · have h : ¬ v < o.length := by have := of_decide_eq_false h; omega
    repeat (first | refine WC.seq ?_ | refine WC.reg ?_ | refine WL.pure rfl rfl rfl ?_ | refine WL.nil ?_ | refine WC.skip ?_ | refine WC.block ?_ | refine WC.condT rfl ?_ | refine WC.condF rfl ?_ | refine WL.off rfl rfl rfl ?_ | refine WL.off0 rfl rfl ?_ | refine WC.exit ?_ | refine blk_hit ?_ | refine blk_miss rfl ?_ | refine WC.ret ?_)
    refine Res.one rfl rfl rfl ⟨?_, rfl⟩
    simp [keyN, List.getD_eq_getElem?_getD, List.getElem?_eq_none (Nat.le_of_not_lt h)]

/-- What tame hands back: a graph. -/
def TameIs (w : World) (most : Nat) (v : Value) (w' : World) : Prop :=
  ∃ (N : Nat) (es : List Ed) (g : List Nat) (a : Option Addr) (c : Nat), N ≤ most ∧ mkG (N : Nat) es = some g ∧ v = .agg #[.int .i64 (N : Nat), .slice a es.length c] ∧ Hp w w' [.row 50 2 (.slice a es.length c) es.length (prs es)]

theorem tame_any (ea : Option Addr) (ce : Nat) (n : Int) (es : List Ed) (most : Nat) (hmost : most ≤ 14) (w : World) (hs : Sl w ea (prs es)) :
    Ret Tryd.prog 24 [.agg #[.int .i64 n, .slice ea es.length ce], .int .i64 (most : Nat)] w (TameIs w most) := by
  refine enter Tryd.func24 rfl rfl ⟨rfl, rfl⟩ rfl ?_
  repeat (first | refine WC.seq ?_ | refine WC.reg ?_ | refine WL.pure rfl rfl rfl ?_ | refine WL.nil ?_ | refine WC.skip ?_ | refine WC.block ?_ | refine WC.condT rfl ?_ | refine WC.condF rfl ?_ | refine WL.off rfl rfl rfl ?_ | refine WL.off0 rfl rfl ?_ | refine WC.exit ?_ | refine blk_hit ?_ | refine blk_miss rfl ?_ | refine WC.ret ?_)
  refine WL.box rfl rfl rfl ?_
  intro b2 w1 hb2
  have hp1 := (Hp.start w).new hb2
  refine WL.alloc rfl rfl rfl ?_
  intro b4 w2 hb4
  have hp2 := hp1.new hb4
  repeat (first | refine WC.seq ?_ | refine WC.reg ?_ | refine WL.pure rfl rfl rfl ?_ | refine WL.nil ?_ | refine WC.skip ?_ | refine WC.block ?_ | refine WC.condT rfl ?_ | refine WC.condF rfl ?_ | refine WL.off rfl rfl rfl ?_ | refine WL.off0 rfl rfl ?_ | refine WC.exit ?_ | refine blk_hit ?_ | refine blk_miss rfl ?_ | refine WC.ret ?_)
  refine WL.loadB rfl rfl rfl rfl rfl (hp2.obj 1 rfl) rfl ?_
  refine WL.buildT rfl rfl rfl rfl rfl rfl ?_
  refine WL.var rfl rfl rfl (fun _ => rfl) rfl rfl (show ∀ u ∈ [Value.int .i64 n, .slice none 0 0], u.oneCell' = true from Cells.cons rfl (Cells.cons rfl Cells.nil)) ?_
  intro b5 w3 hb5
  have hp3 := hp2.new hb5
  refine WL.nil ?_
  refine WC.seq ?_
  refine WC.mid Nat (fun _ => [(2, .pointer (some ⟨b2, 0, none⟩)), (4, .pointer (some ⟨b4, 0, none⟩)), (5, .pointer (some ⟨b5, 0, none⟩))])
    (fun N w' => N ≤ most ∧ Hp w w' [.blk b5 (.cells #[.int .i64 (N : Nat), .slice none 0 0] 24 (0, 0)), .blk b4 (.cells ti24.zero.cells 24 (0, 0)), .blk b2 (.cells #[.int .i64 n, .slice ea es.length ce] 24 (0, 0))]) ?_ ?_
  · have hm1 : IntKind.i64.wrap ((most : Int) + 1) = ((most + 1 : Nat) : Int) := by rw [wrap_i64_in (by omega) (by omega)]; omega
    have hlt := modN_lt (n := most + 1) (by omega) n
    repeat (first | refine WC.seq ?_ | refine WC.reg ?_ | refine WL.pure rfl rfl rfl ?_ | refine WL.nil ?_ | refine WC.skip ?_ | refine WC.block ?_ | refine WC.condT rfl ?_ | refine WC.condF rfl ?_ | refine WL.off rfl rfl rfl ?_ | refine WL.off0 rfl rfl ?_ | refine WC.exit ?_ | refine blk_hit ?_ | refine blk_miss rfl ?_ | refine WC.ret ?_)
    refine WL.loadB rfl rfl rfl rfl rfl (hp3.obj 0 rfl) rfl ?_
    repeat (first | refine WC.seq ?_ | refine WC.reg ?_ | refine WL.pure rfl rfl rfl ?_ | refine WL.nil ?_ | refine WC.skip ?_ | refine WC.block ?_ | refine WC.condT rfl ?_ | refine WC.condF rfl ?_ | refine WL.off rfl rfl rfl ?_ | refine WL.off0 rfl rfl ?_ | refine WC.exit ?_ | refine blk_hit ?_ | refine blk_miss rfl ?_ | refine WC.ret ?_)
    refine WL.split 14 rfl (fun h1 => ?_) (fun h1 => ?_)
    · repeat (first | refine WC.seq ?_ | refine WC.reg ?_ | refine WL.pure rfl rfl rfl ?_ | refine WL.nil ?_ | refine WC.skip ?_ | refine WC.block ?_ | refine WC.condT rfl ?_ | refine WC.condF rfl ?_ | refine WL.off rfl rfl rfl ?_ | refine WL.off0 rfl rfl ?_ | refine WC.exit ?_ | refine blk_hit ?_ | refine blk_miss rfl ?_ | refine WC.ret ?_)
      refine WL.loadB rfl rfl rfl rfl rfl (hp3.obj 2 rfl) rfl ?_
      repeat (first | refine WC.seq ?_ | refine WC.reg ?_ | refine WL.pure rfl rfl rfl ?_ | refine WL.nil ?_ | refine WC.skip ?_ | refine WC.block ?_ | refine WC.condT rfl ?_ | refine WC.condF rfl ?_ | refine WL.off rfl rfl rfl ?_ | refine WL.off0 rfl rfl ?_ | refine WC.exit ?_ | refine blk_hit ?_ | refine blk_miss rfl ?_ | refine WC.ret ?_)
      refine WL.known (d := 23) (congrArg (fun z => some (Value.int .i64 z)) hm1) ?_
      refine WL.callP rfl rfl rfl rfl rfl ent26 (mod_any n (most + 1) (by omega) (by omega) _) ?_
      repeat (first | refine WC.seq ?_ | refine WC.reg ?_ | refine WL.pure rfl rfl rfl ?_ | refine WL.nil ?_ | refine WC.skip ?_ | refine WC.block ?_ | refine WC.condT rfl ?_ | refine WC.condF rfl ?_ | refine WL.off rfl rfl rfl ?_ | refine WL.off0 rfl rfl ?_ | refine WC.exit ?_ | refine blk_hit ?_ | refine blk_miss rfl ?_ | refine WC.ret ?_)
      refine WL.store rfl rfl rfl rfl rfl rfl (hp3.obj 0 rfl) (show 0 + 0 < 2 from by decide) (fun w5 hw5 => ?_)
      have hp5 := hp3.set 0 rfl rfl hw5
      repeat (first | refine WC.seq ?_ | refine WC.reg ?_ | refine WL.pure rfl rfl rfl ?_ | refine WL.nil ?_ | refine WC.skip ?_ | refine WC.block ?_ | refine WC.condT rfl ?_ | refine WC.condF rfl ?_ | refine WL.off rfl rfl rfl ?_ | refine WL.off0 rfl rfl ?_ | refine WC.exit ?_ | refine blk_hit ?_ | refine blk_miss rfl ?_ | refine WC.ret ?_)
      exact ⟨modN n (most + 1), ⟨rfl, rfl, rfl, rfl⟩, by omega, hp5⟩
    · have h1 : ¬ n < 0 := of_decide_eq_false h1
      repeat (first | refine WC.seq ?_ | refine WC.reg ?_ | refine WL.pure rfl rfl rfl ?_ | refine WL.nil ?_ | refine WC.skip ?_ | refine WC.block ?_ | refine WC.condT rfl ?_ | refine WC.condF rfl ?_ | refine WL.off rfl rfl rfl ?_ | refine WL.off0 rfl rfl ?_ | refine WC.exit ?_ | refine blk_hit ?_ | refine blk_miss rfl ?_ | refine WC.ret ?_)
      refine WL.loadB rfl rfl rfl rfl rfl (hp3.obj 0 rfl) rfl ?_
      repeat (first | refine WC.seq ?_ | refine WC.reg ?_ | refine WL.pure rfl rfl rfl ?_ | refine WL.nil ?_ | refine WC.skip ?_ | refine WC.block ?_ | refine WC.condT rfl ?_ | refine WC.condF rfl ?_ | refine WL.off rfl rfl rfl ?_ | refine WL.off0 rfl rfl ?_ | refine WC.exit ?_ | refine blk_hit ?_ | refine blk_miss rfl ?_ | refine WC.ret ?_)
      refine WC.cond rfl (fun h2 => ?_) (fun h2 => ?_)
      · repeat (first | refine WC.seq ?_ | refine WC.reg ?_ | refine WL.pure rfl rfl rfl ?_ | refine WL.nil ?_ | refine WC.skip ?_ | refine WC.block ?_ | refine WC.condT rfl ?_ | refine WC.condF rfl ?_ | refine WL.off rfl rfl rfl ?_ | refine WL.off0 rfl rfl ?_ | refine WC.exit ?_ | refine blk_hit ?_ | refine blk_miss rfl ?_ | refine WC.ret ?_)
        refine WL.loadB rfl rfl rfl rfl rfl (hp3.obj 2 rfl) rfl ?_
        repeat (first | refine WC.seq ?_ | refine WC.reg ?_ | refine WL.pure rfl rfl rfl ?_ | refine WL.nil ?_ | refine WC.skip ?_ | refine WC.block ?_ | refine WC.condT rfl ?_ | refine WC.condF rfl ?_ | refine WL.off rfl rfl rfl ?_ | refine WL.off0 rfl rfl ?_ | refine WC.exit ?_ | refine blk_hit ?_ | refine blk_miss rfl ?_ | refine WC.ret ?_)
        refine WL.known (d := 23) (congrArg (fun z => some (Value.int .i64 z)) hm1) ?_
        refine WL.callP rfl rfl rfl rfl rfl ent26 (mod_any n (most + 1) (by omega) (by omega) _) ?_
        repeat (first | refine WC.seq ?_ | refine WC.reg ?_ | refine WL.pure rfl rfl rfl ?_ | refine WL.nil ?_ | refine WC.skip ?_ | refine WC.block ?_ | refine WC.condT rfl ?_ | refine WC.condF rfl ?_ | refine WL.off rfl rfl rfl ?_ | refine WL.off0 rfl rfl ?_ | refine WC.exit ?_ | refine blk_hit ?_ | refine blk_miss rfl ?_ | refine WC.ret ?_)
        refine WL.store rfl rfl rfl rfl rfl rfl (hp3.obj 0 rfl) (show 0 + 0 < 2 from by decide) (fun w5 hw5 => ?_)
        have hp5 := hp3.set 0 rfl rfl hw5
        repeat (first | refine WC.seq ?_ | refine WC.reg ?_ | refine WL.pure rfl rfl rfl ?_ | refine WL.nil ?_ | refine WC.skip ?_ | refine WC.block ?_ | refine WC.condT rfl ?_ | refine WC.condF rfl ?_ | refine WL.off rfl rfl rfl ?_ | refine WL.off0 rfl rfl ?_ | refine WC.exit ?_ | refine blk_hit ?_ | refine blk_miss rfl ?_ | refine WC.ret ?_)
        exact ⟨modN n (most + 1), ⟨rfl, rfl, rfl, rfl⟩, by omega, hp5⟩
      · have h2 : ¬ (most : Int) < n := of_decide_eq_false h2
        obtain ⟨N, rfl⟩ := Int.eq_ofNat_of_zero_le (show 0 ≤ n by omega)
        repeat (first | refine WC.seq ?_ | refine WC.reg ?_ | refine WL.pure rfl rfl rfl ?_ | refine WL.nil ?_ | refine WC.skip ?_ | refine WC.block ?_ | refine WC.condT rfl ?_ | refine WC.condF rfl ?_ | refine WL.off rfl rfl rfl ?_ | refine WL.off0 rfl rfl ?_ | refine WC.exit ?_ | refine blk_hit ?_ | refine blk_miss rfl ?_ | refine WC.ret ?_)
        exact ⟨N, ⟨rfl, rfl, rfl, rfl⟩, by omega, hp3⟩
  · rintro N e2 w5 hsub2 ⟨hN, hp5⟩
    refine WC.sub hsub2 ?_
    have hmk0 : mkG (N : Nat) [] = some (List.replicate N 0) := by rw [mkG, if_neg (by simp; omega)]; rfl
    repeat (first | refine WC.seq ?_ | refine WC.reg ?_ | refine WL.pure rfl rfl rfl ?_ | refine WL.nil ?_ | refine WC.skip ?_ | refine WC.block ?_ | refine WC.condT rfl ?_ | refine WC.condF rfl ?_ | refine WL.off rfl rfl rfl ?_ | refine WL.off0 rfl rfl ?_ | refine WC.exit ?_ | refine blk_hit ?_ | refine blk_miss rfl ?_ | refine WC.ret ?_)
    refine WC.loop (Nat × List Ed × Option Addr × Nat) (fun (i, _) => [(2, .pointer (some ⟨b2, 0, none⟩)), (4, .pointer (some ⟨b4, 0, none⟩)), (5, .pointer (some ⟨b5, 0, none⟩)), (6, .int .i64 (i : Nat))])
      (fun (i, fs, a, c) w' => i ≤ es.length ∧ i ≤ 90 ∧ fs.length ≤ i ∧ (∃ g, mkG (N : Nat) fs = some g) ∧ Hp w w' [.row 50 2 (.slice a fs.length c) fs.length (prs fs), .blk b5 (.cells #[.int .i64 (N : Nat), .slice a fs.length c] 24 (0, 0)),
        .blk b4 (.cells ti24.zero.cells 24 (0, 0)), .blk b2 (.cells #[.int .i64 n, .slice ea es.length ce] 24 (0, 0))]) (fun (i, _) => es.length - i) (0, [], none, 0)
      ⟨rfl, rfl, rfl, rfl, rfl⟩ ⟨Nat.zero_le _, Nat.zero_le _, Nat.le_refl _, ⟨_, hmk0⟩, hp5.nilrow 50 2⟩ ?_
    rintro ⟨i, fs, a, c⟩ w6 ⟨hi, hi90, hfl, ⟨g, hg⟩, hp6⟩
    have hcell : ∀ (w' : World), w'.heap[b5]? = some (.cells #[.int .i64 (N : Nat), .slice a fs.length c] 24 (0, 0)) → ∀ (j : Nat) (v : Value), [Value.int .i64 (N : Nat), .slice a fs.length c][j]? = some v → w'.cell? ⟨b5, 0 + j, none⟩ = some v :=
      fun w' h j v hj => cell_of_obj h (by rw [Nat.zero_add]; simpa using hj)
    repeat (first | refine WC.seq ?_ | refine WC.reg ?_ | refine WL.pure rfl rfl rfl ?_ | refine WL.nil ?_ | refine WC.skip ?_ | refine WC.block ?_ | refine WC.condT rfl ?_ | refine WC.condF rfl ?_ | refine WL.off rfl rfl rfl ?_ | refine WL.off0 rfl rfl ?_ | refine WC.exit ?_ | refine blk_hit ?_ | refine blk_miss rfl ?_ | refine WC.ret ?_)
    refine WL.loadB rfl rfl rfl rfl rfl (hp6.obj 3 rfl) rfl ?_
    repeat (first | refine WC.seq ?_ | refine WC.reg ?_ | refine WL.pure rfl rfl rfl ?_ | refine WL.nil ?_ | refine WC.skip ?_ | refine WC.block ?_ | refine WC.condT rfl ?_ | refine WC.condF rfl ?_ | refine WL.off rfl rfl rfl ?_ | refine WL.off0 rfl rfl ?_ | refine WC.exit ?_ | refine blk_hit ?_ | refine blk_miss rfl ?_ | refine WC.ret ?_)
    refine WL.split 31 rfl (fun q1 => ?_) (fun q1 => ?_)
    rotate_left
    · repeat (first | refine WC.seq ?_ | refine WC.reg ?_ | refine WL.pure rfl rfl rfl ?_ | refine WL.nil ?_ | refine WC.skip ?_ | refine WC.block ?_ | refine WC.condT rfl ?_ | refine WC.condF rfl ?_ | refine WL.off rfl rfl rfl ?_ | refine WL.off0 rfl rfl ?_ | refine WC.exit ?_ | refine blk_hit ?_ | refine blk_miss rfl ?_ | refine WC.ret ?_)
      refine WL.loadN (cs := [.int .i64 (N : Nat), .slice a fs.length c]) rfl rfl rfl rfl rfl rfl (hcell _ (hp6.obj 1 rfl)) ?_
      refine WL.storeN rfl rfl rfl rfl rfl (show ∀ u ∈ [Value.int .i64 (N : Nat), .slice a fs.length c], u.oneCell' = true from Cells.cons rfl (Cells.cons rfl Cells.nil)) (hp6.obj 2 rfl) (Nat.le_refl 2) rfl (fun w7 hw7 => ?_)
      have hp7 := hp6.set 2 rfl rfl hw7
      repeat (first | refine WC.seq ?_ | refine WC.reg ?_ | refine WL.pure rfl rfl rfl ?_ | refine WL.nil ?_ | refine WC.skip ?_ | refine WC.block ?_ | refine WC.condT rfl ?_ | refine WC.condF rfl ?_ | refine WL.off rfl rfl rfl ?_ | refine WL.off0 rfl rfl ?_ | refine WC.exit ?_ | refine blk_hit ?_ | refine blk_miss rfl ?_ | refine WC.ret ?_)
      exact Res.cell rfl rfl rfl rfl rfl rfl (hp7.obj 2 rfl) ⟨N, fs, g, a, c, hN, hg, rfl, hp7.pick [0] (by decide)⟩
    have hi : i < es.length := by have := of_decide_eq_true q1; omega
    repeat (first | refine WC.seq ?_ | refine WC.reg ?_ | refine WL.pure rfl rfl rfl ?_ | refine WL.nil ?_ | refine WC.skip ?_ | refine WC.block ?_ | refine WC.condT rfl ?_ | refine WC.condF rfl ?_ | refine WL.off rfl rfl rfl ?_ | refine WL.off0 rfl rfl ?_ | refine WC.exit ?_ | refine blk_hit ?_ | refine blk_miss rfl ?_ | refine WC.ret ?_)
    refine WL.split 35 rfl (fun q2 => ?_) (fun q2 => ?_)
    rotate_left
    · repeat (first | refine WC.seq ?_ | refine WC.reg ?_ | refine WL.pure rfl rfl rfl ?_ | refine WL.nil ?_ | refine WC.skip ?_ | refine WC.block ?_ | refine WC.condT rfl ?_ | refine WC.condF rfl ?_ | refine WL.off rfl rfl rfl ?_ | refine WL.off0 rfl rfl ?_ | refine WC.exit ?_ | refine blk_hit ?_ | refine blk_miss rfl ?_ | refine WC.ret ?_)
      refine WL.loadN (cs := [.int .i64 (N : Nat), .slice a fs.length c]) rfl rfl rfl rfl rfl rfl (hcell _ (hp6.obj 1 rfl)) ?_
      refine WL.storeN rfl rfl rfl rfl rfl (show ∀ u ∈ [Value.int .i64 (N : Nat), .slice a fs.length c], u.oneCell' = true from Cells.cons rfl (Cells.cons rfl Cells.nil)) (hp6.obj 2 rfl) (Nat.le_refl 2) rfl (fun w7 hw7 => ?_)
      have hp7 := hp6.set 2 rfl rfl hw7
      repeat (first | refine WC.seq ?_ | refine WC.reg ?_ | refine WL.pure rfl rfl rfl ?_ | refine WL.nil ?_ | refine WC.skip ?_ | refine WC.block ?_ | refine WC.condT rfl ?_ | refine WC.condF rfl ?_ | refine WL.off rfl rfl rfl ?_ | refine WL.off0 rfl rfl ?_ | refine WC.exit ?_ | refine blk_hit ?_ | refine blk_miss rfl ?_ | refine WC.ret ?_)
      exact Res.cell rfl rfl rfl rfl rfl rfl (hp7.obj 2 rfl) ⟨N, fs, g, a, c, hN, hg, rfl, hp7.pick [0] (by decide)⟩
    have hi90 : i < 90 := by have := of_decide_eq_true q2; omega
    repeat (first | refine WC.seq ?_ | refine WC.reg ?_ | refine WL.pure rfl rfl rfl ?_ | refine WL.nil ?_ | refine WC.skip ?_ | refine WC.block ?_ | refine WC.condT rfl ?_ | refine WC.condF rfl ?_ | refine WL.off rfl rfl rfl ?_ | refine WL.off0 rfl rfl ?_ | refine WC.exit ?_ | refine blk_hit ?_ | refine blk_miss rfl ?_ | refine WC.ret ?_)
    refine WL.loadB rfl rfl rfl rfl rfl (hp6.obj 1 rfl) rfl ?_
    repeat (first | refine WC.seq ?_ | refine WC.reg ?_ | refine WL.pure rfl rfl rfl ?_ | refine WL.nil ?_ | refine WC.skip ?_ | refine WC.block ?_ | refine WC.condT rfl ?_ | refine WC.condF rfl ?_ | refine WL.off rfl rfl rfl ?_ | refine WL.off0 rfl rfl ?_ | refine WC.exit ?_ | refine blk_hit ?_ | refine blk_miss rfl ?_ | refine WC.ret ?_)
    refine WC.cond rfl (fun q3 => ?_) (fun q3 => ?_)
    rotate_left
    · repeat (first | refine WC.seq ?_ | refine WC.reg ?_ | refine WL.pure rfl rfl rfl ?_ | refine WL.nil ?_ | refine WC.skip ?_ | refine WC.block ?_ | refine WC.condT rfl ?_ | refine WC.condF rfl ?_ | refine WL.off rfl rfl rfl ?_ | refine WL.off0 rfl rfl ?_ | refine WC.exit ?_ | refine blk_hit ?_ | refine blk_miss rfl ?_ | refine WC.ret ?_)
      refine WL.loadN (cs := [.int .i64 (N : Nat), .slice a fs.length c]) rfl rfl rfl rfl rfl rfl (hcell _ (hp6.obj 1 rfl)) ?_
      refine WL.storeN rfl rfl rfl rfl rfl (show ∀ u ∈ [Value.int .i64 (N : Nat), .slice a fs.length c], u.oneCell' = true from Cells.cons rfl (Cells.cons rfl Cells.nil)) (hp6.obj 2 rfl) (Nat.le_refl 2) rfl (fun w7 hw7 => ?_)
      have hp7 := hp6.set 2 rfl rfl hw7
      repeat (first | refine WC.seq ?_ | refine WC.reg ?_ | refine WL.pure rfl rfl rfl ?_ | refine WL.nil ?_ | refine WC.skip ?_ | refine WC.block ?_ | refine WC.condT rfl ?_ | refine WC.condF rfl ?_ | refine WL.off rfl rfl rfl ?_ | refine WL.off0 rfl rfl ?_ | refine WC.exit ?_ | refine blk_hit ?_ | refine blk_miss rfl ?_ | refine WC.ret ?_)
      exact Res.cell rfl rfl rfl rfl rfl rfl (hp7.obj 2 rfl) ⟨N, fs, g, a, c, hN, hg, rfl, hp7.pick [0] (by decide)⟩
    have hN1 : 1 < N := by have := of_decide_eq_true q3; omega
    obtain ⟨be, oe, rfl⟩ := Sl.some hs (prs_get hi).1
    have step : IntKind.i64.wrap ((i : Int) + 1) = ((i + 1 : Nat) : Int) := by rw [wrap_i64_in (by omega) (by omega)]; omega
    have hS : ∀ (w' : World), Hp w w' [.row 50 2 (.slice a fs.length c) fs.length (prs fs), .blk b5 (.cells #[.int .i64 (N : Nat), .slice a fs.length c] 24 (0, 0)),
        .blk b4 (.cells ti24.zero.cells 24 (0, 0)), .blk b2 (.cells #[.int .i64 n, .slice (some ⟨be, oe, none⟩) es.length ce] 24 (0, 0))] →
        w'.cell? ⟨b5, 0 + 1, none⟩ = some (.slice a fs.length c) ∧ w'.cell? ⟨b5, 0 + 0, none⟩ = some (.int .i64 (N : Nat)) ∧ w'.cell? ⟨b2, 0 + 1, none⟩ = some (.slice (some ⟨be, oe, none⟩) es.length ce) ∧
        w'.cell? ⟨be, oe + i * 2 + 0 * 1, none⟩ = some (.int .i64 (es[i]).1) ∧ w'.cell? ⟨be, oe + i * 2 + 1 * 1, none⟩ = some (.int .i64 (es[i]).2) := by
      intro w' h
      refine ⟨cell_of_obj (h.obj 1 rfl) rfl, cell_of_obj (h.obj 1 rfl) rfl, cell_of_obj (h.obj 3 rfl) rfl, ?_, ?_⟩
      · have := Sl.cell (hs.hp h) (prs_get hi).1
        rw [← Nat.add_assoc] at this; exact this
      · have := Sl.cell (hs.hp h) (prs_get hi).2
        rw [← Nat.add_assoc] at this; exact this
    have hm0 := modN_lt (n := N) (by omega) (es[i]).1
    have hm1 := modN_lt (n := N) (by omega) (es[i]).2
    generalize hx : modN (es[i]).1 N = x at *
    generalize hy : modN (es[i]).2 N = y at *
    have htk : fs.take 101 = fs := List.take_of_length_le (by omega)
    have hfc : fs.length ≤ c := by
      obtain ⟨_, ⟨hv, hn⟩ | ⟨_, _, _, hv, _, _, hnc, _⟩⟩ := hp6.at 0 rfl
      · rw [hn]; exact Nat.zero_le _
      · simp only [Value.slice.injEq] at hv; rw [hv.2.2]; exact hnc
    repeat (first | refine WC.seq ?_ | refine WC.reg ?_ | refine WL.pure rfl rfl rfl ?_ | refine WL.nil ?_ | refine WC.skip ?_ | refine WC.block ?_ | refine WC.condT rfl ?_ | refine WC.condF rfl ?_ | refine WL.off rfl rfl rfl ?_ | refine WL.off0 rfl rfl ?_ | refine WC.exit ?_ | refine blk_hit ?_ | refine blk_miss rfl ?_ | refine WC.ret ?_)
    refine WC.mid (Option Addr × Nat) (fun (a7, c7) => [(2, .pointer (some ⟨b2, 0, none⟩)), (4, .pointer (some ⟨b4, 0, none⟩)), (5, .pointer (some ⟨b5, 0, none⟩)), (6, .int .i64 (i : Nat)), (7, .slice a7 (fs.length + 1) c7)])
      (fun (a7, c7) w' => Hp w w' [.row 50 2 (.slice a7 (fs.length + 1) c7) (fs.length + 1) (prs fs ++ pr ((x : Int), (y : Int))), .row 50 2 (.slice a fs.length c) fs.length (prs fs), .blk b5 (.cells #[.int .i64 (N : Nat), .slice a fs.length c] 24 (0, 0)),
        .blk b4 (.cells ti24.zero.cells 24 (0, 0)), .blk b2 (.cells #[.int .i64 n, .slice (some ⟨be, oe, none⟩) es.length ce] 24 (0, 0))]) ?_ ?_
    · refine WC.regH (fun w' => Hp w w' [.row 50 2 (.slice a fs.length c) fs.length (prs fs), .blk b5 (.cells #[.int .i64 (N : Nat), .slice a fs.length c] 24 (0, 0)),
        .blk b4 (.cells ti24.zero.cells 24 (0, 0)), .blk b2 (.cells #[.int .i64 n, .slice (some ⟨be, oe, none⟩) es.length ce] 24 (0, 0))]) mixed (by kernel_rfl) (fun w7 hw7 hh7 => ?_)
      have hp7 := hp6.keep hw7
      have hN2 : 0 < N := by omega
      refine WH.pure 0 (by kernel_rfl) rfl (by kernel_rfl) rfl rfl rfl hp7 ?_
      refine WH.load 1 (by kernel_rfl) rfl (by kernel_rfl) rfl rfl rfl rfl rfl (fun w3 h3 => (hS w3 h3).1) hp7 ?_
      refine WH.pure 3 (by kernel_rfl) rfl (by kernel_rfl) rfl rfl rfl hp7 ?_
      refine WH.load 4 (by kernel_rfl) rfl (by kernel_rfl) rfl rfl rfl rfl rfl (fun w3 h3 => (hS w3 h3).2.2.1) hp7 ?_
      refine WH.pure 5 (by kernel_rfl) rfl (by kernel_rfl) rfl rfl rfl hp7 ?_
      refine WH.ix 6 (by kernel_rfl) rfl (by kernel_rfl) rfl rfl rfl rfl rfl rfl hi hp7 ?_
      refine WH.pure 7 (by kernel_rfl) rfl (by kernel_rfl) rfl rfl rfl hp7 ?_
      refine WH.load 8 (by kernel_rfl) rfl (by kernel_rfl) rfl rfl rfl rfl rfl (fun w3 h3 => (hS w3 h3).2.2.2.1) hp7 ?_
      refine WH.pure 9 (by kernel_rfl) rfl (by kernel_rfl) rfl rfl rfl hp7 ?_
      refine WH.load 10 (by kernel_rfl) rfl (by kernel_rfl) rfl rfl rfl rfl rfl (fun w3 h3 => (hS w3 h3).2.1) hp7 ?_
      refine WH.pure 12 (by kernel_rfl) rfl (by kernel_rfl) rfl rfl rfl hp7 ?_
      refine WH.load 13 (by kernel_rfl) rfl (by kernel_rfl) rfl rfl rfl rfl rfl (fun w3 h3 => (hS w3 h3).2.2.1) hp7 ?_
      refine WH.pure 14 (by kernel_rfl) rfl (by kernel_rfl) rfl rfl rfl hp7 ?_
      refine WH.ix 15 (by kernel_rfl) rfl (by kernel_rfl) rfl rfl rfl rfl rfl rfl hi hp7 ?_
      refine WH.pure 16 (by kernel_rfl) rfl (by kernel_rfl) rfl rfl rfl hp7 ?_
      refine WH.load 17 (by kernel_rfl) rfl (by kernel_rfl) rfl rfl rfl rfl rfl (fun w3 h3 => (hS w3 h3).2.2.2.2) hp7 ?_
      refine WH.pure 18 (by kernel_rfl) rfl (by kernel_rfl) rfl rfl rfl hp7 ?_
      refine WH.load 19 (by kernel_rfl) rfl (by kernel_rfl) rfl rfl rfl rfl rfl (fun w3 h3 => (hS w3 h3).2.1) hp7 ?_
      refine WH.one 2 rfl (by kernel_rfl) ?_
      refine WL.call rfl rfl rfl rfl rfl ent13 (lines_any a c fs w7 (Sl.of_row (hp7.at 0 rfl)) hfc) ?_
      rintro _ w8 ⟨a8, c8, hp8, rfl⟩
      rw [htk] at hp8 ⊢
      have hp8' := hp7.call hp8.below
      have hp8 := hp7.comb hp8
      refine WL.nil ⟨hp8', ?_⟩
      refine WH.one 11 rfl (by kernel_rfl) ?_
      refine WL.callP rfl rfl rfl rfl rfl ent26 (mod_any _ N hN2 (by omega) _) ?_
      rw [hx]
      refine WL.nil ⟨hp8', ?_⟩
      refine WH.one 20 rfl (by kernel_rfl) ?_
      refine WL.callP rfl rfl rfl rfl rfl ent26 (mod_any _ N hN2 (by omega) _) ?_
      rw [hy]
      refine WL.nil ⟨hp8', ?_⟩
      refine WH.one 21 rfl (by kernel_rfl) ?_
      refine WL.buildA (cs := pr ((x : Int), (y : Int))) rfl rfl rfl rfl rfl rfl (WL.nil ⟨hp8', ?_⟩)
      refine WH.one 22 rfl (by kernel_rfl) ?_
      refine WL.buildS (cs := pr ((x : Int), (y : Int))) rfl rfl rfl rfl rfl rfl rfl rfl rfl ?_
      intro bs w9 hbs
      have hp9' := hp8'.call (RowKit.Below.trans (below_of_grownBy hbs.grown (Nat.le_refl _) (fun k e1 => by cases e1)) (RowKit.Below.refl _ _))
      have hp9 := hp8.new hbs
      refine WL.nil ⟨hp9', ?_⟩
      refine WH.one 23 rfl (by kernel_rfl) ?_
      refine WL.append 1 hp9 rfl rfl rfl rfl rfl (by decide) rfl rfl rfl (news := pr ((x : Int), (y : Int))) (Sl.of_obj (hp9.obj 0 rfl) (fun q u hq => by simpa using hq)) rfl (Cells.cons rfl (Cells.cons rfl Cells.nil)) (by unfold maxLen; omega) (by show (fs.length + 1) * 16 ≤ _; omega) ?_
      intro a' cap' wA hpA hgA
      refine WL.nil ⟨hpA.tail.tail, ?_⟩
      refine WH.one 24 rfl (by kernel_rfl) (WL.pure rfl rfl rfl (WL.nil ⟨hpA.tail.tail, ?_⟩))
      refine WH.done (by kernel_rfl) ?_
      exact ⟨(a', cap'), ⟨rfl, rfl, rfl, rfl, rfl, rfl⟩, hpA.tail⟩
    · rintro ⟨a7, c7⟩ e3 w7 hsub3 hp7
      refine WC.sub hsub3 ?_
      have hpe : prs fs ++ pr ((x : Int), (y : Int)) = prs (fs ++ [((x : Int), (y : Int))]) := by simp [prs]
      have hle : (fs ++ [((x : Int), (y : Int))]).length = fs.length + 1 := by simp
      rw [hpe, ← hle] at hp7
      rw [← hle]
      repeat (first | refine WC.seq ?_ | refine WC.reg ?_ | refine WL.pure rfl rfl rfl ?_ | refine WL.nil ?_ | refine WC.skip ?_ | refine WC.block ?_ | refine WC.condT rfl ?_ | refine WC.condF rfl ?_ | refine WL.off rfl rfl rfl ?_ | refine WL.off0 rfl rfl ?_ | refine WC.exit ?_ | refine blk_hit ?_ | refine blk_miss rfl ?_ | refine WC.ret ?_)
      refine WL.loadB rfl rfl rfl rfl rfl (hp7.obj 2 rfl) rfl ?_
      repeat (first | refine WC.seq ?_ | refine WC.reg ?_ | refine WL.pure rfl rfl rfl ?_ | refine WL.nil ?_ | refine WC.skip ?_ | refine WC.block ?_ | refine WC.condT rfl ?_ | refine WC.condF rfl ?_ | refine WL.off rfl rfl rfl ?_ | refine WL.off0 rfl rfl ?_ | refine WC.exit ?_ | refine blk_hit ?_ | refine blk_miss rfl ?_ | refine WC.ret ?_)
      refine WL.call rfl rfl rfl rfl rfl ent18 (Graph_any a7 c7 (N : Nat) (fs ++ [((x : Int), (y : Int))]) w7 (Sl.of_row (hp7.at 0 rfl)) (by rw [hle]; omega)) ?_
      rintro _ w8 ⟨hp8, rfl⟩
      have hp8 := hp7.call hp8.below
      refine WL.nil ?_
      refine WC.cond rfl (fun q4 => ?_) (fun q4 => ?_)
      · obtain ⟨g', hg'⟩ := Option.isSome_iff_exists.1 q4
        repeat (first | refine WC.seq ?_ | refine WC.reg ?_ | refine WL.pure rfl rfl rfl ?_ | refine WL.nil ?_ | refine WC.skip ?_ | refine WC.block ?_ | refine WC.condT rfl ?_ | refine WC.condF rfl ?_ | refine WL.off rfl rfl rfl ?_ | refine WL.off0 rfl rfl ?_ | refine WC.exit ?_ | refine blk_hit ?_ | refine blk_miss rfl ?_ | refine WC.ret ?_)
        refine WL.store rfl rfl rfl rfl rfl rfl (hp8.obj 2 rfl) (show 0 + 1 < 2 from by decide) (fun w9 hw9 => ?_)
        have hp9 := hp8.set 2 rfl rfl hw9
        repeat (first | refine WC.seq ?_ | refine WC.reg ?_ | refine WL.pure rfl rfl rfl ?_ | refine WL.nil ?_ | refine WC.skip ?_ | refine WC.block ?_ | refine WC.condT rfl ?_ | refine WC.condF rfl ?_ | refine WL.off rfl rfl rfl ?_ | refine WL.off0 rfl rfl ?_ | refine WC.exit ?_ | refine blk_hit ?_ | refine blk_miss rfl ?_ | refine WC.ret ?_)
        exact ⟨(i + 1, fs ++ [((x : Int), (y : Int))], a7, c7), by show es.length - (i + 1) < es.length - i; omega, ⟨rfl, rfl, rfl, congrArg (fun z => some (Value.int .i64 z)) step, rfl⟩, hi, hi90, by rw [hle]; omega, ⟨g', hg'⟩, hp9.pick [0, 2, 3, 4] (by decide)⟩
      · repeat (first | refine WC.seq ?_ | refine WC.reg ?_ | refine WL.pure rfl rfl rfl ?_ | refine WL.nil ?_ | refine WC.skip ?_ | refine WC.block ?_ | refine WC.condT rfl ?_ | refine WC.condF rfl ?_ | refine WL.off rfl rfl rfl ?_ | refine WL.off0 rfl rfl ?_ | refine WC.exit ?_ | refine blk_hit ?_ | refine blk_miss rfl ?_ | refine WC.ret ?_)
        exact ⟨(i + 1, fs, a, c), by show es.length - (i + 1) < es.length - i; omega, ⟨rfl, rfl, rfl, congrArg (fun z => some (Value.int .i64 z)) step, rfl⟩, hi, hi90, by omega, ⟨g, hg⟩, hp8.tail⟩
end Go.Proofs.YtdnkkflpgebfbaaDoor
