/- The walk of the reference's interpolation. -/
import Derived.Test.YtagfpnnplgkkoaaR38
import Derived.Test.YtagfpnnplgkkoaaR41
namespace Go.W
open Go.RowKit
section
variable {P : Program} [T : TT P] {n : Nat} {l0 : List Oper} {S : World → Prop} {N : Nor} {Z : Pan} {e : Env} {w : World} {fuel : Nat} {listed : Array Bool}
theorem WH.rem {d : Nat} {t t2 ty : TypeId} {pos : String} {aft : Array Edge} {g : Option (Nat × Bool)} {x y : Operand} {k : IntKind} {a b : Int} (i : Nat) (hs : Region.noSelect l0.toArray = true) (hi : nth l0 i = some ⟨some d, .binOp .rem t x y t2, ty, pos, aft, g⟩)
    (hB : takeB l0.toArray listed i = true) (hg : grd l0 e g = some true) (hd : Nat.blt d n = true) (hx : opv e x = some (.int k a)) (hy : opv e y = some (.int k b)) (hb : b ≠ 0) (hS : S w)
    (h : WH P n l0 S N Z fuel (listed.setIfInBounds i true) ((d, .int k (a.tmod b)) :: e) w) : WH P n l0 S N Z (fuel + 1) listed e w := by
  refine WH.take i hs hi hB hg hd (fun w _ => ?_) hS h
  intro ρ hρ d' pos' aft' g'
  simp [execOp, hρ _ _ hx, hρ _ _ hy, eqGuard_at_int, binOp_rem, Op.intDiv, hb]
end
end Go.W
namespace Go.Poly
open Go.W Go.Tree
theorem pt_fst {w : World} {b o : Nat} {l : List Ed} {j : Nat} (h : j < l.length) (sl : Sl w (some ⟨b, o, none⟩) (prs l)) : w.cell? ⟨b, o + j * 2 + 0 * 1, none⟩ = some (.int .i64 (Xz l j)) := by
  have h1 := pt_cells h 0 (.int .i64 (Xz l j)) rfl
  obtain ⟨b', o', e, hc⟩ := sl _ _ h1
  simp only [Option.some.injEq, Addr.mk.injEq] at e
  rw [e.1, e.2.1]; exact hc
theorem pt_snd {w : World} {b o : Nat} {l : List Ed} {j : Nat} (h : j < l.length) (sl : Sl w (some ⟨b, o, none⟩) (prs l)) : w.cell? ⟨b, o + j * 2 + 1 * 1, none⟩ = some (.int .i64 (Yz l j)) := by
  have h1 := pt_cells h 1 (.int .i64 (Yz l j)) rfl
  obtain ⟨b', o', e, hc⟩ := sl _ _ h1
  simp only [Option.some.injEq, Addr.mk.injEq] at e
  rw [e.1, e.2.1]; exact hc
end Go.Poly
namespace Go.Proofs.Ytagfpnnplgkkoaa
open Go.W Go.Poly Go.Tree Go.RowKit
set_option maxRecDepth 100000
attribute [local irreducible] WC WL WQ WS WH

theorem Rtrim_pd (vf : Value) (f : List Nat) (hlen : f.length ≤ 1000000) (w : World) (sf : Pd w vf f) :
    Ret Try.prog 47 [vf] w fun u w' => Hp w w' [Rw u (trimL f)] := by
  obtain ⟨a, c, rfl, hs, -, hc⟩ := sf
  refine (Rtrim_any a c f hc hlen w hs).mono ?_
  rintro _ w' ⟨b, c', rfl, h⟩
  exact h

set_option maxHeartbeats 1000000 in
theorem RThrough_pd (q : Nat) (la : Option Addr) (lc : Nat) (l : List Ed) (hq : Pri q) (hq2 : q ≤ 1021) (hl : l.length ≤ 33) (hG : Gd (q : Int) l l.length) (w : World) (sl : Sl w la (prs l)) :
    Ret Try.prog 33 [.int .i64 (q : Nat), .slice la l.length lc] w fun u w' => Hp w w' [Rw u (rthL q (Xn l) (Yn l) l.length l.length)] := by
  have hq0 := hq.pos
  have hpts := hG.pts
  refine enter Try.func33 rfl rfl ⟨rfl, rfl⟩ rfl ?_
  repeat (first | refine WC.seq ?_ | refine WC.reg ?_ | refine WL.pure rfl rfl rfl ?_ | refine WL.nil ?_ | refine WC.skip ?_ | refine WC.block ?_ | refine WC.condT rfl ?_ | refine WC.condF rfl ?_ | refine WL.off rfl rfl rfl ?_ | refine WL.off0 rfl rfl ?_ | refine WC.exit ?_ | refine blk_hit ?_ | refine blk_miss rfl ?_ | refine WC.ret ?_)
  refine WC.loop (Nat × Value) (fun (i, v) => [(0, .int .i64 (q : Nat)), (1, .slice la l.length lc), (5, v), (6, .int .i64 (i : Nat))])
    (fun (i, v) w' => i ≤ l.length ∧ Hp w w' [Rw v (rthL q (Xn l) (Yn l) l.length i)]) (fun (i, _) => l.length - i) (0, .slice none 0 0) ⟨rfl, rfl, rfl, rfl, rfl⟩ ⟨Nat.zero_le _, (Hp.start w).nilRw⟩ ?_
  rintro ⟨i, v⟩ w1 ⟨hi, hp1⟩
  repeat (first | refine WC.seq ?_ | refine WC.reg ?_ | refine WL.pure rfl rfl rfl ?_ | refine WL.nil ?_ | refine WC.skip ?_ | refine WC.block ?_ | refine WC.condT rfl ?_ | refine WC.condF rfl ?_ | refine WL.off rfl rfl rfl ?_ | refine WL.off0 rfl rfl ?_ | refine WC.exit ?_ | refine blk_hit ?_ | refine blk_miss rfl ?_ | refine WC.ret ?_)
  refine WC.cond rfl (fun h => ?_) (fun h => ?_)
  · have hi : i < l.length := by have := of_decide_eq_true h; omega
    have step : IntKind.i64.wrap ((i : Int) + 1) = ((i + 1 : Nat) : Int) := by rw [wrap_i64_in (by omega) (by omega)]; omega
    have hgi := hG.1 i hi
    have hX := hpts.1 i hi
    have eX : Xz l i = ((Xn l i : Nat) : Int) := by unfold Xn; omega
    have eY : Yz l i = ((Yn l i : Nat) : Int) := by unfold Yn; omega
    have hrt := rt_inv hq hpts hi
    obtain ⟨o1, o2, -⟩ := rth_inv hq hpts i (by omega)
    obtain ⟨b, o, rfl⟩ := Sl.some sl (pt_cells hi 0 _ rfl)
    have dv := Pd.row hp1 0 rfl
    have sl1 := sl.hp hp1
    have hw1 := hp1.nil'
    repeat (first | refine WC.seq ?_ | refine WC.reg ?_ | refine WL.pure rfl rfl rfl ?_ | refine WL.nil ?_ | refine WC.skip ?_ | refine WC.block ?_ | refine WC.condT rfl ?_ | refine WC.condF rfl ?_ | refine WL.off rfl rfl rfl ?_ | refine WL.off0 rfl rfl ?_ | refine WC.exit ?_ | refine blk_hit ?_ | refine blk_miss rfl ?_ | refine WC.ret ?_)
    refine WL.ix rfl rfl rfl rfl rfl hi rfl ?_
    repeat (first | refine WC.seq ?_ | refine WC.reg ?_ | refine WL.pure rfl rfl rfl ?_ | refine WL.nil ?_ | refine WC.skip ?_ | refine WC.block ?_ | refine WC.condT rfl ?_ | refine WC.condF rfl ?_ | refine WL.off rfl rfl rfl ?_ | refine WL.off0 rfl rfl ?_ | refine WC.exit ?_ | refine blk_hit ?_ | refine blk_miss rfl ?_ | refine WC.ret ?_)
    refine WL.load rfl rfl rfl rfl rfl (pt_snd hi sl1) ?_
    refine WL.known (d := 20) (congrArg (fun z => some (Value.int .i64 z)) eY) ?_
    refine WL.buildS (cs := ints [Yn l i]) rfl rfl rfl rfl rfl rfl rfl rfl rfl ?_
    intro bt w2 hbt
    have hr2 : Hp w1 w2 [Rw (.slice (some ⟨bt, 0, none⟩) 1 1) [Yn l i]] := ((Hp.start w1).new hbt).toRow (m := 1) (s := 1) rfl (by decide)
    repeat (first | refine WC.seq ?_ | refine WC.reg ?_ | refine WL.pure rfl rfl rfl ?_ | refine WL.nil ?_ | refine WC.skip ?_ | refine WC.block ?_ | refine WC.condT rfl ?_ | refine WC.condF rfl ?_ | refine WL.off rfl rfl rfl ?_ | refine WL.off0 rfl rfl ?_ | refine WC.exit ?_ | refine blk_hit ?_ | refine blk_miss rfl ?_ | refine WC.ret ?_)
    refine WC.loop (Nat × Value) (fun (k, vt) => [(0, .int .i64 (q : Nat)), (1, .slice (some ⟨b, o, none⟩) l.length lc), (5, v), (6, .int .i64 (i : Nat)), (7, vt), (8, .int .i64 ((rtL q (Xn l) (Yn l) i k).2 : Nat)), (9, .int .i64 (k : Nat))])
      (fun (k, vt) w' => k ≤ l.length ∧ Hp w1 w' [Rw vt (rtL q (Xn l) (Yn l) i k).1]) (fun (k, _) => l.length - k) (0, _) ⟨rfl, rfl, rfl, rfl, rfl, rfl, rfl, rfl⟩ ⟨Nat.zero_le _, hr2⟩ ?_
    clear hr2 hbt w2
    rintro ⟨k, vt⟩ w2 ⟨hk, hp2⟩
    repeat (first | refine WC.seq ?_ | refine WC.reg ?_ | refine WL.pure rfl rfl rfl ?_ | refine WL.nil ?_ | refine WC.skip ?_ | refine WC.block ?_ | refine WC.condT rfl ?_ | refine WC.condF rfl ?_ | refine WL.off rfl rfl rfl ?_ | refine WL.off0 rfl rfl ?_ | refine WC.exit ?_ | refine blk_hit ?_ | refine blk_miss rfl ?_ | refine WC.ret ?_)
    refine WC.cond rfl (fun h => ?_) (fun h => ?_)
    · have hk : k < l.length := by have := of_decide_eq_true h; omega
      have stepk : IntKind.i64.wrap ((k : Int) + 1) = ((k + 1 : Nat) : Int) := by rw [wrap_i64_in (by omega) (by omega)]; omega
      have hrk := hrt k (by omega)
      have hXk := hpts.1 k hk
      have eXk : Xz l k = ((Xn l k : Nat) : Int) := by have := hG.1 k hk; unfold Xn; omega
      have hn : rtL q (Xn l) (Yn l) i (k + 1) = if k = i then rtL q (Xn l) (Yn l) i k else (mulL q (trimL (rtL q (Xn l) (Yn l) i k).1) [(q - Xn l k) % q, 1], (rtL q (Xn l) (Yn l) i k).2 * (Xn l i + q - Xn l k) % q) := rfl
      have close : ∀ w' u, Hp w2 w' [Rw u (rtL q (Xn l) (Yn l) i (k + 1)).1] → (k + 1 ≤ l.length ∧ Hp w1 w' [Rw u (rtL q (Xn l) (Yn l) i (k + 1)).1]) := fun w' u h1 => ⟨hk, hp2.nil'.over h1⟩
      repeat (first | refine WC.seq ?_ | refine WC.reg ?_ | refine WL.pure rfl rfl rfl ?_ | refine WL.nil ?_ | refine WC.skip ?_ | refine WC.block ?_ | refine WC.condT rfl ?_ | refine WC.condF rfl ?_ | refine WL.off rfl rfl rfl ?_ | refine WL.off0 rfl rfl ?_ | refine WC.exit ?_ | refine blk_hit ?_ | refine blk_miss rfl ?_ | refine WC.ret ?_)
      refine WC.cond rfl (fun hne => ?_) (fun hne => ?_)
      · have hne : ¬ (k : Int) = (i : Int) := by simpa using hne
        have hne : k ≠ i := by omega
        rw [if_neg hne] at hn
        have t1 := hrk.lt
        have t2 := hrk.len
        have t3 := hrk.by_
        have hn1 : (rtL q (Xn l) (Yn l) i (k + 1)).1 = mulL q (trimL (rtL q (Xn l) (Yn l) i k).1) [(q - Xn l k) % q, 1] := by rw [hn]
        have hn2 : (rtL q (Xn l) (Yn l) i (k + 1)).2 = (rtL q (Xn l) (Yn l) i k).2 * (Xn l i + q - Xn l k) % q := by rw [hn]
        obtain ⟨by_, hby⟩ : ∃ b, (rtL q (Xn l) (Yn l) i k).2 = b := ⟨_, rfl⟩
        rw [hby] at t3 hn2
        generalize (rtL q (Xn l) (Yn l) i k).1 = t at *
        have sl2 := sl1.hp hp2
        have dt := Pd.row hp2 0 rfl
        have hw2 := hp2.nil'
        have lt : t.length ≤ 34 := by omega
        have ltt := trim_le t
        have hti : IsP q (trimL t) := trim_isP fun c hc => by
          obtain ⟨j, hj, rfl⟩ := List.mem_iff_getElem.1 hc
          have := t1 j
          simpa [co, List.getElem?_eq_getElem hj] using this
        have hlin := lin_isP hq (Xn l k)
        have e1 : (IntKind.i64.wrap ((q : Int) - ((Xn l k : Nat) : Int))).tmod (q : Int) = (((q - Xn l k) % q : Nat) : Int) := by
          rw [wrap_i64_in (by omega) (by omega), Int.tmod_eq_emod_of_nonneg (by omega), Int.natCast_emod, show ((q - Xn l k : Nat) : Int) = (q : Int) - ((Xn l k : Nat) : Int) by omega]
        repeat (first | refine WC.seq ?_ | refine WC.reg ?_ | refine WL.pure rfl rfl rfl ?_ | refine WL.nil ?_ | refine WC.skip ?_ | refine WC.block ?_ | refine WC.condT rfl ?_ | refine WC.condF rfl ?_ | refine WL.off rfl rfl rfl ?_ | refine WL.off0 rfl rfl ?_ | refine WC.exit ?_ | refine blk_hit ?_ | refine blk_miss rfl ?_ | refine WC.ret ?_)
        refine WC.mid Value (fun u => [(0, .int .i64 (q : Nat)), (1, .slice (some ⟨b, o, none⟩) l.length lc), (5, v), (6, .int .i64 (i : Nat)), (7, u), (8, .int .i64 ((rtL q (Xn l) (Yn l) i k).2 : Nat)), (9, .int .i64 (k : Nat))])
          (fun u w' => Hp w2 w' [Rw u (mulL q (trimL t) [(q - Xn l k) % q, 1])]) ?_ ?_
        · refine WC.regH (fun w' => Hp w2 w' []) mixed (by kernel_rfl) (fun w5 hw5 hh5 => ?_)
          have hp5 := (Hp.start w2).keep hw5
          refine WH.pure 0 (by kernel_rfl) rfl (by kernel_rfl) rfl rfl rfl hp5 ?_
          refine WH.pure 1 (by kernel_rfl) rfl (by kernel_rfl) rfl rfl rfl hp5 ?_
          refine WH.pure 3 (by kernel_rfl) rfl (by kernel_rfl) rfl rfl rfl hp5 ?_
          refine WH.pure 4 (by kernel_rfl) rfl (by kernel_rfl) rfl rfl rfl hp5 ?_
          refine WH.pure 5 (by kernel_rfl) rfl (by kernel_rfl) rfl rfl rfl hp5 ?_
          refine WH.ixS 6 (by kernel_rfl) rfl (by kernel_rfl) rfl rfl rfl rfl rfl rfl hk hp5 ?_
          refine WH.pure 7 (by kernel_rfl) rfl (by kernel_rfl) rfl rfl rfl hp5 ?_
          refine WH.load 8 (by kernel_rfl) rfl (by kernel_rfl) rfl rfl rfl rfl rfl (fun w' h => pt_fst hk (sl2.hp h)) hp5 ?_
          refine WH.known (d := 39) (congrArg (fun z => some (Value.int .i64 z)) eXk) ?_
          refine WH.pure 9 (by kernel_rfl) rfl (by kernel_rfl) rfl rfl rfl hp5 ?_
          refine WH.pure 10 (by kernel_rfl) rfl (by kernel_rfl) rfl rfl rfl hp5 ?_
          refine WH.rem 11 (by kernel_rfl) rfl (by kernel_rfl) rfl rfl rfl rfl (by omega) hp5 ?_
          refine WH.known (d := 42) (congrArg (fun z => some (Value.int .i64 z)) e1) ?_
          refine WH.two 2 12 rfl rfl (by kernel_rfl) ?_ ?_
          · refine WL.call rfl rfl rfl rfl rfl ent47 (Rtrim_pd vt t (by omega) w5 (dt.hp hp5)) ?_
            rintro ut w6 hp6
            have hq6 := hp5.over hp6.nil'
            refine WL.nil ⟨hq6, ?_⟩
            refine WH.one 12 rfl (by kernel_rfl) ?_
            refine WL.buildS (cs := ints [(q - Xn l k) % q, 1]) rfl rfl rfl rfl rfl rfl rfl rfl rfl ?_
            intro bs w7 hbs
            have hp7 : Hp w6 w7 [Rw (.slice (some ⟨bs, 0, none⟩) 2 2) [(q - Xn l k) % q, 1]] := ((Hp.start w6).new hbs).toRow (m := 2) (s := 1) rfl (by decide)
            have hq7 := hq6.over hp7.nil'
            refine WL.nil ⟨hq7, ?_⟩
            refine WH.one 13 rfl (by kernel_rfl) ?_
            refine WL.call rfl rfl rfl rfl rfl ent23 (RMul_pd q _ _ (trimL t) _ hq hq2 hti hlin (by omega) (by simp) w7 ((Pd.row hp6 0 rfl).hp hp7) (Pd.row hp7 0 rfl)) ?_
            rintro u w8 hp8
            have hq8 := hq7.over hp8.nil'
            refine WL.nil ⟨hq8, ?_⟩
            refine WH.pure 14 (by kernel_rfl) rfl (by kernel_rfl) rfl rfl rfl hq8 ?_
            refine WH.done (by kernel_rfl) ?_
            exact ⟨u, ⟨rfl, rfl, rfl, rfl, rfl, rfl, rfl, rfl⟩, hq7.over hp8⟩
          · refine WL.buildS (cs := ints [(q - Xn l k) % q, 1]) rfl rfl rfl rfl rfl rfl rfl rfl rfl ?_
            intro bs w6 hbs
            have hp6 : Hp w5 w6 [Rw (.slice (some ⟨bs, 0, none⟩) 2 2) [(q - Xn l k) % q, 1]] := ((Hp.start w5).new hbs).toRow (m := 2) (s := 1) rfl (by decide)
            have hq6 := hp5.over hp6.nil'
            refine WL.nil ⟨hq6, ?_⟩
            refine WH.one 2 rfl (by kernel_rfl) ?_
            refine WL.call rfl rfl rfl rfl rfl ent47 (Rtrim_pd vt t (by omega) w6 (dt.hp hq6)) ?_
            rintro ut w7 hp7
            have hq7 := hq6.over hp7.nil'
            refine WL.nil ⟨hq7, ?_⟩
            refine WH.one 13 rfl (by kernel_rfl) ?_
            refine WL.call rfl rfl rfl rfl rfl ent23 (RMul_pd q _ _ (trimL t) _ hq hq2 hti hlin (by omega) (by simp) w7 (Pd.row hp7 0 rfl) ((Pd.row hp6 0 rfl).hp hp7)) ?_
            rintro u w8 hp8
            have hq8 := hq7.over hp8.nil'
            refine WL.nil ⟨hq8, ?_⟩
            refine WH.pure 14 (by kernel_rfl) rfl (by kernel_rfl) rfl rfl rfl hq8 ?_
            refine WH.done (by kernel_rfl) ?_
            exact ⟨u, ⟨rfl, rfl, rfl, rfl, rfl, rfl, rfl, rfl⟩, hq7.over hp8⟩
        rintro u e2 w5 hsub (hp5 : Hp w2 w5 [Rw u (mulL q (trimL t) [(q - Xn l k) % q, 1])])
        refine WC.sub hsub ?_
        have sl5 := sl2.hp hp5
        have hX1 := hX.1
        have hXk1 := hXk.1
        have e2 : IntKind.i64.wrap (((Xn l i : Nat) : Int) - ((Xn l k : Nat) : Int)) = ((Xn l i : Nat) : Int) - ((Xn l k : Nat) : Int) := wrap_mid (by omega) (by omega)
        have e3 : IntKind.i64.wrap (((Xn l i : Nat) : Int) - ((Xn l k : Nat) : Int) + (q : Int)) = ((Xn l i + q - Xn l k : Nat) : Int) := by rw [wrap_i64_in (by omega) (by omega)]; omega
        have e4 : (IntKind.i64.wrap ((by_ : Int) * ((Xn l i + q - Xn l k : Nat) : Int))).tmod (q : Int) = (((rtL q (Xn l) (Yn l) i (k + 1)).2 : Nat) : Int) := by
          have h5 : by_ * (Xn l i + q - Xn l k) ≤ 1021 * 2042 := Nat.mul_le_mul (by omega) (by omega)
          rw [hn2, ← Int.natCast_mul, wrap_i64_in (by omega) (by omega), Int.tmod_eq_emod_of_nonneg (by omega), Int.natCast_emod]
        refine WC.mid Unit (fun _ => [(0, .int .i64 (q : Nat)), (1, .slice (some ⟨b, o, none⟩) l.length lc), (5, v), (6, .int .i64 (i : Nat)), (7, u), (8, .int .i64 ((rtL q (Xn l) (Yn l) i (k + 1)).2 : Nat)), (9, .int .i64 (k : Nat))])
          (fun _ w' => Hp w5 w' []) ?_ ?_
        · refine WC.regH (fun w' => Hp w5 w' []) mixed (by kernel_rfl) (fun w6 hw6 hh6 => ?_)
          have hp6 := (Hp.start w5).keep hw6
          refine WH.pure 0 (by kernel_rfl) rfl (by kernel_rfl) rfl rfl rfl hp6 ?_
          refine WH.known (d := 45) (congrArg (fun b : Nat => some (Value.int .i64 (b : Nat))) hby) ?_
          refine WH.pure 1 (by kernel_rfl) rfl (by kernel_rfl) rfl rfl rfl hp6 ?_
          refine WH.pure 2 (by kernel_rfl) rfl (by kernel_rfl) rfl rfl rfl hp6 ?_
          refine WH.ixS 3 (by kernel_rfl) rfl (by kernel_rfl) rfl rfl rfl rfl rfl rfl hi hp6 ?_
          refine WH.pure 4 (by kernel_rfl) rfl (by kernel_rfl) rfl rfl rfl hp6 ?_
          refine WH.load 5 (by kernel_rfl) rfl (by kernel_rfl) rfl rfl rfl rfl rfl (fun w' h => pt_fst hi (sl5.hp h)) hp6 ?_
          refine WH.known (d := 50) (congrArg (fun z => some (Value.int .i64 z)) eX) ?_
          refine WH.pure 6 (by kernel_rfl) rfl (by kernel_rfl) rfl rfl rfl hp6 ?_
          refine WH.pure 7 (by kernel_rfl) rfl (by kernel_rfl) rfl rfl rfl hp6 ?_
          refine WH.ixS 8 (by kernel_rfl) rfl (by kernel_rfl) rfl rfl rfl rfl rfl rfl hk hp6 ?_
          refine WH.pure 9 (by kernel_rfl) rfl (by kernel_rfl) rfl rfl rfl hp6 ?_
          refine WH.load 10 (by kernel_rfl) rfl (by kernel_rfl) rfl rfl rfl rfl rfl (fun w' h => pt_fst hk (sl5.hp h)) hp6 ?_
          refine WH.known (d := 55) (congrArg (fun z => some (Value.int .i64 z)) eXk) ?_
          refine WH.pure 11 (by kernel_rfl) rfl (by kernel_rfl) rfl rfl rfl hp6 ?_
          refine WH.known (d := 56) (congrArg (fun z => some (Value.int .i64 z)) e2) ?_
          refine WH.pure 12 (by kernel_rfl) rfl (by kernel_rfl) rfl rfl rfl hp6 ?_
          refine WH.pure 13 (by kernel_rfl) rfl (by kernel_rfl) rfl rfl rfl hp6 ?_
          refine WH.known (d := 58) (congrArg (fun z => some (Value.int .i64 z)) e3) ?_
          refine WH.pure 14 (by kernel_rfl) rfl (by kernel_rfl) rfl rfl rfl hp6 ?_
          refine WH.pure 15 (by kernel_rfl) rfl (by kernel_rfl) rfl rfl rfl hp6 ?_
          refine WH.rem 16 (by kernel_rfl) rfl (by kernel_rfl) rfl rfl rfl rfl (by omega) hp6 ?_
          refine WH.known (d := 61) (congrArg (fun z => some (Value.int .i64 z)) e4) ?_
          refine WH.pure 17 (by kernel_rfl) rfl (by kernel_rfl) rfl rfl rfl hp6 ?_
          refine WH.done (by kernel_rfl) ?_
          exact ⟨(), ⟨rfl, rfl, rfl, rfl, rfl, rfl, rfl, rfl⟩, hp6⟩
        rintro ⟨⟩ e2 w6 hsub (hp6 : Hp w5 w6 [])
        refine WC.sub hsub ?_
        repeat (first | refine WC.seq ?_ | refine WC.reg ?_ | refine WL.pure rfl rfl rfl ?_ | refine WL.nil ?_ | refine WC.skip ?_ | refine WC.block ?_ | refine WC.condT rfl ?_ | refine WC.condF rfl ?_ | refine WL.off rfl rfl rfl ?_ | refine WL.off0 rfl rfl ?_ | refine WC.exit ?_ | refine blk_hit ?_ | refine blk_miss rfl ?_ | refine WC.ret ?_)
        exact ⟨(k + 1, u), by show l.length - (k + 1) < l.length - k; omega, ⟨rfl, rfl, rfl, rfl, rfl, rfl, congrArg (fun z => some (Value.int .i64 z)) stepk, rfl⟩, close _ _ (by rw [hn1]; exact hp5.call hp6.below)⟩
      · have hne : (k : Int) = (i : Int) := by simpa using hne
        have hne : k = i := by omega
        rw [if_pos hne] at hn
        repeat (first | refine WC.seq ?_ | refine WC.reg ?_ | refine WL.pure rfl rfl rfl ?_ | refine WL.nil ?_ | refine WC.skip ?_ | refine WC.block ?_ | refine WC.condT rfl ?_ | refine WC.condF rfl ?_ | refine WL.off rfl rfl rfl ?_ | refine WL.off0 rfl rfl ?_ | refine WC.exit ?_ | refine blk_hit ?_ | refine blk_miss rfl ?_ | refine WC.ret ?_)
        exact ⟨(k + 1, vt), by show l.length - (k + 1) < l.length - k; omega, ⟨rfl, rfl, rfl, rfl, rfl, congrArg (fun s : List Nat × Nat => some (Value.int .i64 (s.2 : Nat))) hn.symm, congrArg (fun z => some (Value.int .i64 z)) stepk, rfl⟩, hk, hn ▸ hp2⟩
    · have hk : k = l.length := by have := of_decide_eq_false h; omega
      subst hk
      have hrl := hrt l.length (Nat.le_refl _)
      have hrth : rthL q (Xn l) (Yn l) l.length (i + 1) = addL q (rthL q (Xn l) (Yn l) l.length i) (rscL q (rtL q (Xn l) (Yn l) i l.length).1 (iv q (rtL q (Xn l) (Yn l) i l.length).2)) := rfl
      have t1 := hrl.lt
      have t2 := hrl.len
      have t3 := hrl.by_
      clear hrl hrt
      obtain ⟨by_, hby⟩ : ∃ b, (rtL q (Xn l) (Yn l) i l.length).2 = b := ⟨_, rfl⟩
      rw [hby] at t3 hrth
      generalize (rtL q (Xn l) (Yn l) i l.length).1 = t at *
      have hiv := iv_lt hq0 by_
      have dt := Pd.row hp2 0 rfl
      have lt : t.length ≤ 34 := by omega
      have lsc : (rscL q t (iv q by_)).length ≤ t.length := by
        refine Nat.le_trans (trim_le' _) ?_; rw [fl_len]; exact Nat.le_refl _
      repeat (first | refine WC.seq ?_ | refine WC.reg ?_ | refine WL.pure rfl rfl rfl ?_ | refine WL.nil ?_ | refine WC.skip ?_ | refine WC.block ?_ | refine WC.condT rfl ?_ | refine WC.condF rfl ?_ | refine WL.off rfl rfl rfl ?_ | refine WL.off0 rfl rfl ?_ | refine WC.exit ?_ | refine blk_hit ?_ | refine blk_miss rfl ?_ | refine WC.ret ?_)
      refine WL.known (d := 67) (congrArg (fun b : Nat => some (Value.int .i64 (b : Nat))) hby) ?_
      refine WL.callP rfl rfl rfl rfl rfl ent49 (Rinverse_any q by_ hq t3.1 t3.2 (by omega) _) ?_
      refine WL.call rfl rfl rfl rfl rfl ent57 (RScale_pd q _ _ t hq0 hq2 t1 hiv (by omega) w2 dt) ?_
      rintro u3 w3 hp3
      refine WL.call rfl rfl rfl rfl rfl ent22 (RAdd_pd q _ _ _ _ hq hq2 o1 (rsc_isP hq0 t _) (by omega) (by omega) w3 ((dv.hp hp2).hp hp3) (Pd.row hp3 0 rfl)) ?_
      rintro u4 w4 hp4
      rw [← hrth] at hp4
      repeat (first | refine WC.seq ?_ | refine WC.reg ?_ | refine WL.pure rfl rfl rfl ?_ | refine WL.nil ?_ | refine WC.skip ?_ | refine WC.block ?_ | refine WC.condT rfl ?_ | refine WC.condF rfl ?_ | refine WL.off rfl rfl rfl ?_ | refine WL.off0 rfl rfl ?_ | refine WC.exit ?_ | refine blk_hit ?_ | refine blk_miss rfl ?_ | refine WC.ret ?_)
      exact ⟨(i + 1, u4), by show l.length - (i + 1) < l.length - i; omega, ⟨rfl, rfl, rfl, congrArg (fun z => some (Value.int .i64 z)) step, rfl⟩, hi, ((hw1.over hp2.nil').over hp3.nil').over hp4⟩
  · have hi : i = l.length := by have := of_decide_eq_false h; omega
    subst hi
    repeat (first | refine WC.seq ?_ | refine WC.reg ?_ | refine WL.pure rfl rfl rfl ?_ | refine WL.nil ?_ | refine WC.skip ?_ | refine WC.block ?_ | refine WC.condT rfl ?_ | refine WC.condF rfl ?_ | refine WL.off rfl rfl rfl ?_ | refine WL.off0 rfl rfl ?_ | refine WC.exit ?_ | refine blk_hit ?_ | refine blk_miss rfl ?_ | refine WC.ret ?_)
    exact Res.one rfl rfl rfl hp1
end Go.Proofs.Ytagfpnnplgkkoaa
