/- The walk of the law that a polynomial comes again through its points. -/
import Derived.Test.YtagfpnnplgkkoaaR41
namespace Go.Poly
open Go.W Go.Tree
def agX (q c : Nat) (j : Nat) : Nat := (c + j) % q
def agL (q c : Nat) (F : List Nat) (i : Nat) : List Ed := (List.range i).map fun j => (((agX q c j : Nat) : Int), ((valL q F (agX q c j) : Nat) : Int))
theorem ag_len (q c : Nat) (F : List Nat) (i : Nat) : (agL q c F i).length = i := by simp [agL]
theorem ag_succ (q c : Nat) (F : List Nat) (i : Nat) : agL q c F (i + 1) = agL q c F i ++ [(((agX q c i : Nat) : Int), ((valL q F (agX q c i) : Nat) : Int))] := by simp [agL, List.range_succ]
theorem ag_get (q c : Nat) (F : List Nat) {i j : Nat} (h : j < i) : (agL q c F i).getD j (0, 0) = (((agX q c j : Nat) : Int), ((valL q F (agX q c j) : Nat) : Int)) := by
  rw [List.getD_eq_getElem?_getD, List.getElem?_eq_getElem (by rw [ag_len]; exact h)]
  simp [agL]
theorem ag_gd {q : Nat} (hq : 0 < q) (c : Nat) (F : List Nat) {i : Nat} (hi : i ≤ q) : Gd (q : Int) (agL q c F i) i := by
  refine ⟨fun j hj => ?_, fun j k hjk hk => ?_⟩
  · have h1 : agX q c j < q := Nat.mod_lt _ hq
    have h2 := valL_lt' hq F (agX q c j)
    unfold Xz Yz
    rw [ag_get q c F hj]
    simp only
    omega
  · unfold Xz
    rw [ag_get q c F (by omega), ag_get q c F hk]
    simp only [agX]
    intro h
    have h : (c + j) % q = (c + k) % q := by exact_mod_cast h
    have h1 := Nat.div_add_mod (c + j) q
    have h2 := Nat.div_add_mod (c + k) q
    have h3 : q * ((c + k) / q) = q * ((c + j) / q) + (k - j) := by omega
    have h4 : (k - j) % q = 0 := by
      have : (q * ((c + j) / q) + (k - j)) % q = 0 := by rw [← h3, Nat.mul_mod_right]
      rwa [Nat.mul_add_mod] at this
    rw [Nat.mod_eq_of_lt (by omega)] at h4
    omega
theorem ag_again {q : Nat} (hq : Pri q) (c : Nat) {F : List Nat} (hF : IsP q F) (lF : F.length ≤ q) :
    (thL q (Xn (agL q c F F.length)) (Yn (agL q c F F.length)) F.length).1 = F := by
  have hg := (ag_gd hq.pos c F lF).pts
  refine through_again hq hg hF (Nat.le_refl _) fun i hi => ?_
  unfold Xn Yn Xz Yz
  rw [ag_get q c F hi]
  simp
end Go.Poly
namespace Go.Proofs.Ytagfpnnplgkkoaa
open Go.W Go.Poly Go.Tree Go.RowKit
set_option maxRecDepth 100000
attribute [local irreducible] WC WL WQ WS WH

set_option maxHeartbeats 1000000 in
theorem PolyAgain_any (p x : Int) (fa : Option Addr) (fc : Nat) (xf : List Int) (w : World) (sf : Sl w fa (zs xf)) (hfc : xf.length ≤ fc) (hfn : fa = none → fc = 0) :
    Ret Try.prog 11 [.int .i64 p, .slice fa xf.length fc, .int .i64 x] w fun u w' => u = .bool true ∧ Hp w w' [] := by
  have zf : Pz w (.slice fa xf.length fc) xf := ⟨_, _, rfl, sf, hfn, hfc⟩
  refine enter Try.func11 rfl rfl ⟨rfl, rfl⟩ rfl ?_
  repeat (first | refine WC.seq ?_ | refine WC.reg ?_ | refine WL.pure rfl rfl rfl ?_ | refine WL.nil ?_ | refine WC.skip ?_ | refine WC.block ?_ | refine WC.condT rfl ?_ | refine WC.condF rfl ?_ | refine WL.off rfl rfl rfl ?_ | refine WL.off0 rfl rfl ?_ | refine WC.exit ?_ | refine blk_hit ?_ | refine blk_miss rfl ?_ | refine WC.ret ?_)
  refine WL.call rfl rfl rfl rfl rfl ent26 (fieldO_any p w) ?_
  rintro _ w1 ⟨rfl, q, rfl, hq, hq2⟩
  have hF := tm_isP hq.pos xf (min q 33)
  have lF := tm_len q xf (min q 33)
  have hq0 := hq.pos
  repeat (first | refine WC.seq ?_ | refine WC.reg ?_ | refine WL.pure rfl rfl rfl ?_ | refine WL.nil ?_ | refine WC.skip ?_ | refine WC.block ?_ | refine WC.condT rfl ?_ | refine WC.condF rfl ?_ | refine WL.off rfl rfl rfl ?_ | refine WL.off0 rfl rfl ?_ | refine WC.exit ?_ | refine blk_hit ?_ | refine blk_miss rfl ?_ | refine WC.ret ?_)
  refine WL.known (d := 20) (congrArg (fun z => some (Value.int .i64 z)) (show min (q : Int) 33 = ((min q 33 : Nat) : Int) by omega)) ?_
  refine WL.call rfl rfl rfl rfl rfl ent27 (tame_pz q (min q 33) _ xf hq.pos hq2 (by omega) w1 zf) ?_
  rintro v7 w2 hp2
  have d7 := Pd.row hp2 0 rfl
  have hw2 := hp2.nil'
  clear hp2
  generalize tmL q xf (min q 33) = F at *
  obtain ⟨a7, c7, rfl, s7, n7, l7⟩ := d7
  have d7 : Pd w2 (.slice a7 F.length c7) F := ⟨_, _, rfl, s7, n7, l7⟩
  repeat (first | refine WC.seq ?_ | refine WC.reg ?_ | refine WL.pure rfl rfl rfl ?_ | refine WL.nil ?_ | refine WC.skip ?_ | refine WC.block ?_ | refine WC.condT rfl ?_ | refine WC.condF rfl ?_ | refine WL.off rfl rfl rfl ?_ | refine WL.off0 rfl rfl ?_ | refine WC.exit ?_ | refine blk_hit ?_ | refine blk_miss rfl ?_ | refine WC.ret ?_)
  refine WC.loop (Nat × Option Addr × Nat) (fun (i, la, lc) => [(0, .int .i64 (q : Nat)), (2, .int .i64 x), (7, .slice a7 F.length c7), (8, .slice la i lc), (9, .int .i64 (i : Nat))])
    (fun (i, la, lc) w' => i ≤ F.length ∧ Hp w2 w' [.row 50 2 (.slice la i lc) i (prs (agL q (modN x q) F i))]) (fun (i, _, _) => F.length - i) (0, none, 0) ⟨rfl, rfl, rfl, rfl, rfl, rfl⟩ ⟨Nat.zero_le _, (Hp.start w2).nilrow _ _⟩ ?_
  rintro ⟨i, la, lc⟩ w3 ⟨hi, hp3⟩
  repeat (first | refine WC.seq ?_ | refine WC.reg ?_ | refine WL.pure rfl rfl rfl ?_ | refine WL.nil ?_ | refine WC.skip ?_ | refine WC.block ?_ | refine WC.condT rfl ?_ | refine WC.condF rfl ?_ | refine WL.off rfl rfl rfl ?_ | refine WL.off0 rfl rfl ?_ | refine WC.exit ?_ | refine blk_hit ?_ | refine blk_miss rfl ?_ | refine WC.ret ?_)
  refine WC.cond rfl (fun h => ?_) (fun h => ?_)
  · have hi : i < F.length := by have := of_decide_eq_true h; omega
    have step : IntKind.i64.wrap ((i : Int) + 1) = ((i + 1 : Nat) : Int) := by rw [wrap_i64_in (by omega) (by omega)]; omega
    have hml := modN_lt hq0 x
    repeat (first | refine WC.seq ?_ | refine WC.reg ?_ | refine WL.pure rfl rfl rfl ?_ | refine WL.nil ?_ | refine WC.skip ?_ | refine WC.block ?_ | refine WC.condT rfl ?_ | refine WC.condF rfl ?_ | refine WL.off rfl rfl rfl ?_ | refine WL.off0 rfl rfl ?_ | refine WC.exit ?_ | refine blk_hit ?_ | refine blk_miss rfl ?_ | refine WC.ret ?_)
    refine WL.callP rfl rfl rfl rfl rfl ent34 (modO_any x q hq0 (by omega) _) ?_
    have hX : agX q (modN x q) i < q := Nat.mod_lt _ hq0
    have eX : ((modN x q + i : Nat) : Int) % (q : Int) = ((agX q (modN x q) i : Nat) : Int) := (Int.natCast_emod _ _).symm
    have eag : prs (agL q (modN x q) F (i + 1)) = prs (agL q (modN x q) F i) ++ pr (((agX q (modN x q) i : Nat) : Int), ((valL q F (agX q (modN x q) i) : Nat) : Int)) := by rw [ag_succ]; simp [prs]
    generalize agX q (modN x q) i = X at *
    repeat (first | refine WC.seq ?_ | refine WC.reg ?_ | refine WL.pure rfl rfl rfl ?_ | refine WL.nil ?_ | refine WC.skip ?_ | refine WC.block ?_ | refine WC.condT rfl ?_ | refine WC.condF rfl ?_ | refine WL.off rfl rfl rfl ?_ | refine WL.off0 rfl rfl ?_ | refine WC.exit ?_ | refine blk_hit ?_ | refine blk_miss rfl ?_ | refine WC.ret ?_)
    refine WL.rem rfl rfl rfl rfl (by omega) ?_
    refine WL.known (d := 34) (congrArg (fun z => some (Value.int .i64 z)) (show (IntKind.i64.wrap (((modN x q : Nat) : Int) + (i : Int))).tmod (q : Int) = (X : Int) by rw [wrap_i64_in (by omega) (by omega), Int.tmod_eq_emod_of_nonneg (by omega)]; exact_mod_cast eX)) ?_
    repeat (first | refine WC.seq ?_ | refine WC.reg ?_ | refine WL.pure rfl rfl rfl ?_ | refine WL.nil ?_ | refine WC.skip ?_ | refine WC.block ?_ | refine WC.condT rfl ?_ | refine WC.condF rfl ?_ | refine WL.off rfl rfl rfl ?_ | refine WL.off0 rfl rfl ?_ | refine WC.exit ?_ | refine blk_hit ?_ | refine blk_miss rfl ?_ | refine WC.ret ?_)
    refine WL.call rfl rfl rfl rfl rfl ent28 (Value_ok q hq hq2 _ F X hF hX (by omega) w3 (d7.hp hp3)) ?_
    rintro _ w4 ⟨rfl, hp4⟩
    have hp5 := hp3.call hp4.below
    repeat (first | refine WC.seq ?_ | refine WC.reg ?_ | refine WL.pure rfl rfl rfl ?_ | refine WL.nil ?_ | refine WC.skip ?_ | refine WC.block ?_ | refine WC.condT rfl ?_ | refine WC.condF rfl ?_ | refine WL.off rfl rfl rfl ?_ | refine WL.off0 rfl rfl ?_ | refine WC.exit ?_ | refine blk_hit ?_ | refine blk_miss rfl ?_ | refine WC.ret ?_)
    refine WL.buildA (cs := pr ((X : Int), ((valL q F X : Nat) : Int))) rfl rfl rfl rfl rfl rfl ?_
    refine WL.buildS (cs := pr ((X : Int), ((valL q F X : Nat) : Int))) rfl rfl rfl rfl rfl rfl rfl rfl rfl ?_
    intro bs w6 hbs
    have hp6 := hp5.new hbs
    refine WL.append 1 hp6 rfl rfl rfl rfl rfl (by decide) rfl rfl rfl (news := pr ((X : Int), ((valL q F X : Nat) : Int))) (Sl.of_obj (hp6.obj 0 rfl) (fun q u hq => by simpa using hq)) rfl (Cells.cons rfl (Cells.cons rfl Cells.nil)) (by unfold maxLen; omega) (by show (i + 1) * 16 ≤ _; omega) ?_
    intro a' c' w7 hp7 hg7
    rw [← eag] at hp7
    repeat (first | refine WC.seq ?_ | refine WC.reg ?_ | refine WL.pure rfl rfl rfl ?_ | refine WL.nil ?_ | refine WC.skip ?_ | refine WC.block ?_ | refine WC.condT rfl ?_ | refine WC.condF rfl ?_ | refine WL.off rfl rfl rfl ?_ | refine WL.off0 rfl rfl ?_ | refine WC.exit ?_ | refine blk_hit ?_ | refine blk_miss rfl ?_ | refine WC.ret ?_)
    exact ⟨(i + 1, a', c'), by show F.length - (i + 1) < F.length - i; omega, ⟨rfl, rfl, rfl, rfl, congrArg (fun z => some (Value.int .i64 z)) step, rfl⟩, hi, hp7.tail⟩
  · have hi : i = F.length := by have := of_decide_eq_false h; omega
    subst hi
    have hl := ag_len q (modN x q) F F.length
    have hg := ag_gd hq0 (modN x q) F (show F.length ≤ q by omega)
    have ha := ag_again hq (modN x q) hF (show F.length ≤ q by omega)
    have sl : Sl w3 la (prs (agL q (modN x q) F F.length)) := Sl.of_row (hp3.at 0 rfl)
    generalize agL q (modN x q) F F.length = l at *
    have d7 := d7.hp hp3
    have hp3 := hw2.over hp3.nil'
    rw [← hl] at hg
    have thr := Through_any (q : Int) la lc l (by omega) w3 sl
    rw [hl] at thr
    repeat (first | refine WC.seq ?_ | refine WC.reg ?_ | refine WL.pure rfl rfl rfl ?_ | refine WL.nil ?_ | refine WC.skip ?_ | refine WC.block ?_ | refine WC.condT rfl ?_ | refine WC.condF rfl ?_ | refine WL.off rfl rfl rfl ?_ | refine WL.off0 rfl rfl ?_ | refine WC.exit ?_ | refine blk_hit ?_ | refine blk_miss rfl ?_ | refine WC.ret ?_)
    refine WL.call rfl rfl rfl rfl rfl ent32 thr ?_
    rintro u w4 ⟨-, h2⟩
    obtain ⟨v, rfl, hp4⟩ := h2 q (field_ok hq hq2) rfl (by omega) (hl ▸ hg)
    rw [ha] at hp4
    repeat (first | refine WC.seq ?_ | refine WC.reg ?_ | refine WL.pure rfl rfl rfl ?_ | refine WL.nil ?_ | refine WC.skip ?_ | refine WC.block ?_ | refine WC.condT rfl ?_ | refine WC.condF rfl ?_ | refine WL.off rfl rfl rfl ?_ | refine WL.off0 rfl rfl ?_ | refine WC.exit ?_ | refine blk_hit ?_ | refine blk_miss rfl ?_ | refine WC.ret ?_)
    refine WL.call rfl rfl rfl rfl rfl ent18 (Same_pd v _ F F (by omega) w4 (Pd.row hp4 0 rfl) (d7.hp hp4)) ?_
    rintro _ w6 ⟨rfl, hp6⟩
    rw [decide_eq_true rfl]
    repeat (first | refine WC.seq ?_ | refine WC.reg ?_ | refine WL.pure rfl rfl rfl ?_ | refine WL.nil ?_ | refine WC.skip ?_ | refine WC.block ?_ | refine WC.condT rfl ?_ | refine WC.condF rfl ?_ | refine WL.off rfl rfl rfl ?_ | refine WL.off0 rfl rfl ?_ | refine WC.exit ?_ | refine blk_hit ?_ | refine blk_miss rfl ?_ | refine WC.ret ?_)
    refine WL.call rfl rfl rfl rfl rfl ent21 (awake_any w6) ?_
    rintro _ w9 ⟨rfl, hp9⟩
    repeat (first | refine WC.seq ?_ | refine WC.reg ?_ | refine WL.pure rfl rfl rfl ?_ | refine WL.nil ?_ | refine WC.skip ?_ | refine WC.block ?_ | refine WC.condT rfl ?_ | refine WC.condF rfl ?_ | refine WL.off rfl rfl rfl ?_ | refine WL.off0 rfl rfl ?_ | refine WC.exit ?_ | refine blk_hit ?_ | refine blk_miss rfl ?_ | refine WC.ret ?_)
    exact Res.one rfl rfl rfl ⟨rfl, ((hp3.over hp4.nil').over hp6).over hp9⟩
end Go.Proofs.Ytagfpnnplgkkoaa
