/- Texts on the way to LtlOne, one behind the other: U22 U23 U24 U25. -/
import Derived.Test.YtpbbneclkhfgoaaDoorG5
section
/- ltl, twenty-second: graph. -/
namespace Go.Proofs.YtpbbneclkhfgoaaDoor
open Go.W Go.Ltl Go.RowKit
set_option maxRecDepth 100000
attribute [local irreducible] WC WL WQ WS WH

def rowE (x : Option Addr × Nat × List Nat) : Ent := Rna (byR x) x.2.2.length x.2.2
def byE (B : By) : List Ent := B.map fun p => rowE p.2
theorem rowE_sl {w0 w : World} {L : List Ent} (hp : Hp w0 w L) {x : Option Addr × Nat × List Nat} (hx : rowE x ∈ L) : Sl w x.1 (natL x.2.2) := Sl.of_row (hp.sat _ hx)
theorem byE_sl {w0 w : World} {A C : List Ent} {B : By} (hp : Hp w0 w (A ++ (byE B ++ C))) : ∀ p ∈ B, Sl w p.2.1 (natL p.2.2.2) := fun p h => rowE_sl hp (by
  have : rowE p.2 ∈ byE B := List.mem_map.2 ⟨p, h, rfl⟩
  simp [this])
def byF (pairs : Nat) (want : List Nat) (i : Nat) (k : Int × Int) : List Nat := (List.range i).filter fun u => ((u / pairs : Nat) : Int) = k.1 ∧ ((want.getD u 0 : Nat) : Int) = k.2
theorem byF_len (pairs : Nat) (want : List Nat) (i : Nat) (k : Int × Int) : (byF pairs want i k).length ≤ i := by
  have := List.length_filter_le (fun u => decide (((u / pairs : Nat) : Int) = k.1 ∧ ((want.getD u 0 : Nat) : Int) = k.2)) (List.range i)
  rw [List.length_range] at this
  exact this
theorem byF_succ (pairs : Nat) (want : List Nat) (i : Nat) (k : Int × Int) : byF pairs want (i + 1) k = byF pairs want i k ++ if k = (((i / pairs : Nat) : Int), ((want.getD i 0 : Nat) : Int)) then [i] else [] := by
  unfold byF
  rw [List.range_succ, List.filter_append]
  congr 1
  by_cases h : k = (((i / pairs : Nat) : Int), ((want.getD i 0 : Nat) : Int))
  · subst h; simp
  · rw [if_neg h]
    have : ¬ (((i / pairs : Nat) : Int) = k.1 ∧ ((want.getD i 0 : Nat) : Int) = k.2) := fun h2 => h (Prod.ext h2.1.symm h2.2.symm)
    rw [List.filter_cons_of_neg (by simpa using this)]; rfl
theorem byG_put (B : By) (k q : Int × Int) (x : Option Addr × Nat × List Nat) : byG (kPut B k x) q = if q = k then x.2.2 else byG B q := by
  unfold byG
  rw [kGet_put]
  split <;> rfl
theorem set_nil (R : Nrs) (m : Nat) (x : Option Addr × Nat × List Nat) : (rsV R ++ List.replicate (m + 1) (Value.slice none 0 0)).toArray.setIfInBounds R.length (byR x) = (rsV (R ++ [x]) ++ List.replicate m (Value.slice none 0 0)).toArray := by
  apply Array.ext'
  rw [Array.toList_setIfInBounds, List.toList_toArray, List.toList_toArray]
  have hl : R.length = (rsV R).length := by simp [rsV]
  rw [List.replicate_succ, hl, List.set_append_right _ _ (Nat.le_refl _), Nat.sub_self, List.set_cons_zero]
  simp [rsV, byR]
theorem natL_get {l : List Nat} {i : Nat} (h : i < l.length) : (natL l)[i]? = some (.int .i64 (l.getD i 0 : Nat)) := by rw [natL_at h]; simp [h]

theorem graph_any (xb : Nat) (an : Option Addr) (cn : Nat) (rs : Nrs) (mk : Value) (starts : Nat) (lv : Value) (pairs : Nat) (wa : Option Addr) (wc : Nat) (want : List Nat) (tv fv : Value) (w : World)
    (hx : w.heap[xb]? = some (Sxo (.slice an rs.length cn) mk starts lv pairs (.slice wa want.length wc) tv fv)) (hT : Tbl w an rs) (hW : Sl w wa (natL want))
    (hp0 : 0 < pairs) (hN : want.length = rs.length * pairs) (hrs : ∀ x ∈ rs, x.2.2.length ≤ 16) (hn : rs.length ≤ 16) (hpp : pairs ≤ 4096) (hwb : ∀ x ∈ want, x < 2 ^ 40) :
    Ret Tryd.prog 87 [ptr xb] w fun u w' => ∃ ob R, u = .slice (some ⟨ob, 0, none⟩) R.length R.length ∧ R.length = want.length ∧ rsN R = graphM (rsN rs) pairs want ∧ Hp w w' [] ∧ Tbl w' (some ⟨ob, 0, none⟩) R := by
  have hne : ((pairs : Nat) : Int) ≠ 0 := by omega
  have hNb : want.length ≤ 65536 := by rw [hN]; exact Nat.le_trans (Nat.mul_le_mul hn hpp) (by decide)
  have hxl : xb < w.heap.size := (Array.getElem?_eq_some_iff.1 hx).1
  have hc4 : w.cell? ⟨xb, 4, none⟩ = some (.int .i64 (pairs : Nat)) := cell_of_obj (j := 4) hx rfl
  have hc5 : w.cell? ⟨xb, 5, none⟩ = some (.slice wa want.length wc) := cell_of_obj (j := 5) hx rfl
  refine enter Tryd.func87 rfl rfl ⟨rfl, rfl⟩ rfl ?_
  repeat (first | refine WC.seq ?_ | refine WC.reg ?_ | refine WL.pure rfl rfl rfl ?_ | refine WL.nil ?_ | refine WC.skip ?_ | refine WC.block ?_ | refine WC.condT rfl ?_ | refine WC.condF rfl ?_ | refine WL.off rfl rfl rfl ?_ | refine WL.off0 rfl rfl ?_ | refine WC.exit ?_ | refine blk_hit ?_ | refine blk_miss rfl ?_ | refine WC.ret ?_)
  refine WL.makeMap rfl rfl ?_
  intro mb w1 h1
  have hp1 : Hp w w1 ([] ++ (.blk mb (mapO pKey (byV [])) :: (byE [] ++ []))) := (Hp.start w).new h1
  repeat (first | refine WC.seq ?_ | refine WC.reg ?_ | refine WL.pure rfl rfl rfl ?_ | refine WL.nil ?_ | refine WC.skip ?_ | refine WC.block ?_ | refine WC.condT rfl ?_ | refine WC.condF rfl ?_ | refine WL.off rfl rfl rfl ?_ | refine WL.off0 rfl rfl ?_ | refine WC.exit ?_ | refine blk_hit ?_ | refine blk_miss rfl ?_ | refine WC.ret ?_)
  refine WL.nilC rfl rfl rfl ?_
  repeat (first | refine WC.seq ?_ | refine WC.reg ?_ | refine WL.pure rfl rfl rfl ?_ | refine WL.nil ?_ | refine WC.skip ?_ | refine WC.block ?_ | refine WC.condT rfl ?_ | refine WC.condF rfl ?_ | refine WL.off rfl rfl rfl ?_ | refine WL.off0 rfl rfl ?_ | refine WC.exit ?_ | refine blk_hit ?_ | refine blk_miss rfl ?_ | refine WC.ret ?_)
  refine WL.load rfl rfl rfl rfl rfl (cell_below hp1.below hc5) ?_
  repeat (first | refine WC.seq ?_ | refine WC.reg ?_ | refine WL.pure rfl rfl rfl ?_ | refine WL.nil ?_ | refine WC.skip ?_ | refine WC.block ?_ | refine WC.condT rfl ?_ | refine WC.condF rfl ?_ | refine WL.off rfl rfl rfl ?_ | refine WL.off0 rfl rfl ?_ | refine WC.exit ?_ | refine blk_hit ?_ | refine blk_miss rfl ?_ | refine WC.ret ?_)
  refine WC.loop (Nat × By) (fun (i, _) => [(0, ptr xb), (3, .map (some mb)), (13, .slice wa want.length wc), (14, .int .i64 (want.length : Nat)), (15, .int .i64 (i : Nat))])
    (fun (i, B) w' => i ≤ want.length ∧ (∀ k, byG B k = byF pairs want i k) ∧ Hp w w' (.blk mb (mapO pKey (byV B)) :: (byE B ++ []))) (fun (i, _) => want.length - i) (0, []) ⟨rfl, rfl, rfl, rfl, rfl, rfl⟩ ⟨Nat.zero_le _, fun k => rfl, hp1⟩ ?_
  clear hp1
  rintro ⟨i, B⟩ w2 ⟨hi, hG, hp2⟩
  replace hi : i ≤ want.length := hi
  replace hG : ∀ k, byG B k = byF pairs want i k := hG
  replace hp2 : Hp w w2 (.blk mb (mapO pKey (byV B)) :: (byE B ++ [])) := hp2
  repeat (first | refine WC.seq ?_ | refine WC.reg ?_ | refine WL.pure rfl rfl rfl ?_ | refine WL.nil ?_ | refine WC.skip ?_ | refine WC.block ?_ | refine WC.condT rfl ?_ | refine WC.condF rfl ?_ | refine WL.off rfl rfl rfl ?_ | refine WL.off0 rfl rfl ?_ | refine WC.exit ?_ | refine blk_hit ?_ | refine blk_miss rfl ?_ | refine WC.ret ?_)
  refine WC.cond rfl (fun c1 => ?_) (fun c1 => ?_)
  · have hi : i < want.length := by have := of_decide_eq_true c1; omega
    have step := wrap_succ (i := i) (n := i + 1) (by omega) (by omega)
    have e1 := wrap_div (a := i) (b := pairs) (by omega)
    have e0 : want.getD i 0 = want[i] := by simp [hi]
    obtain ⟨wt, hwt⟩ : ∃ wt, wt = want.getD i 0 := ⟨_, rfl⟩
    have hwtb : wt < 2 ^ 40 := by rw [hwt, e0]; exact hwb _ (List.getElem_mem hi)
    repeat (first | refine WC.seq ?_ | refine WC.reg ?_ | refine WL.pure rfl rfl rfl ?_ | refine WL.nil ?_ | refine WC.skip ?_ | refine WC.block ?_ | refine WC.condT rfl ?_ | refine WC.condF rfl ?_ | refine WL.off rfl rfl rfl ?_ | refine WL.off0 rfl rfl ?_ | refine WC.exit ?_ | refine blk_hit ?_ | refine blk_miss rfl ?_ | refine WC.ret ?_)
    refine WL.ixload rfl (fun _ => rfl) rfl rfl rfl rfl rfl rfl rfl hi rfl rfl (hW.hp hp2) (natL_get hi) ?_
    intro q
    rw [← hwt]
    repeat (first | refine WC.seq ?_ | refine WC.reg ?_ | refine WL.pure rfl rfl rfl ?_ | refine WL.nil ?_ | refine WC.skip ?_ | refine WC.block ?_ | refine WC.condT rfl ?_ | refine WC.condF rfl ?_ | refine WL.off rfl rfl rfl ?_ | refine WL.off0 rfl rfl ?_ | refine WC.exit ?_ | refine blk_hit ?_ | refine blk_miss rfl ?_ | refine WC.ret ?_)
    refine WL.nilC rfl rfl rfl ?_
    repeat (first | refine WC.seq ?_ | refine WC.reg ?_ | refine WL.pure rfl rfl rfl ?_ | refine WL.nil ?_ | refine WC.skip ?_ | refine WC.block ?_ | refine WC.condT rfl ?_ | refine WC.condF rfl ?_ | refine WL.off rfl rfl rfl ?_ | refine WL.off0 rfl rfl ?_ | refine WC.exit ?_ | refine blk_hit ?_ | refine blk_miss rfl ?_ | refine WC.ret ?_)
    refine WL.load rfl rfl rfl rfl rfl (cell_below hp2.below hc4) ?_
    refine WL.quo rfl rfl rfl rfl hne ?_
    refine WL.known (d := 25) (congrArg (fun z => some (Value.int .i64 z)) e1) ?_
    refine WL.pure rfl rfl rfl ?_
    refine WL.buildA (cs := [.int .i64 (i / pairs : Nat), .int .i64 (wt : Nat)]) rfl rfl rfl rfl rfl rfl ?_
    refine WL.alloc rfl rfl rfl (fun b6 w3 h3 => ?_)
    have hp3 := hp2.new h3
    refine WL.storeN rfl rfl rfl rfl rfl (by simp [Value.oneCell']) (hp3.obj 0 rfl) (Nat.le_refl _) rfl (fun w4 h4 => ?_)
    have hp4 : Hp w w4 (.blk b6 (.cells #[.int .i64 (i / pairs : Nat), .int .i64 (wt : Nat)] 79 (0, 0)) :: .blk mb (mapO pKey (byV B)) :: (byE B ++ [])) := hp3.set 0 rfl rfl h4
    repeat (first | refine WC.seq ?_ | refine WC.reg ?_ | refine WL.pure rfl rfl rfl ?_ | refine WL.nil ?_ | refine WC.skip ?_ | refine WC.block ?_ | refine WC.condT rfl ?_ | refine WC.condF rfl ?_ | refine WL.off rfl rfl rfl ?_ | refine WL.off0 rfl rfl ?_ | refine WC.exit ?_ | refine blk_hit ?_ | refine blk_miss rfl ?_ | refine WC.ret ?_)
    refine WL.loadN rfl rfl rfl rfl rfl (cs := [.int .i64 (i / pairs : Nat), .int .i64 (wt : Nat)]) rfl (fun q v hq => cell_of_obj (hp4.obj 0 rfl) (by rw [Nat.zero_add]; simpa using hq)) ?_
    repeat (first | refine WC.seq ?_ | refine WC.reg ?_ | refine WL.pure rfl rfl rfl ?_ | refine WL.nil ?_ | refine WC.skip ?_ | refine WC.block ?_ | refine WC.condT rfl ?_ | refine WC.condF rfl ?_ | refine WL.off rfl rfl rfl ?_ | refine WL.off0 rfl rfl ?_ | refine WC.exit ?_ | refine blk_hit ?_ | refine blk_miss rfl ?_ | refine WC.ret ?_)
    refine WL.buildS (cs := [.int .i64 (i : Nat)]) rfl rfl rfl rfl rfl rfl rfl rfl rfl (fun b7 w5 h5 => ?_)
    have hp5 := hp4.new h5
    obtain ⟨k, hk⟩ : ∃ k : Int × Int, k = (((i / pairs : Nat) : Int), ((wt : Nat) : Int)) := ⟨_, rfl⟩
    have hkv : Value.agg #[.int .i64 (i / pairs : Nat), .int .i64 (wt : Nat)] = pKey k := by rw [hk]; rfl
    refine WL.val rfl rfl rfl (yMapEnt (k := k) (l := byV B) (keyT_pair rfl rfl) rfl rfl rfl (congrArg some hkv) (hp5.obj 2 rfl)) ?_
    have hp6 := hp5.set 2 rfl rfl (setB_put (hp5.obj 2 rfl) (o' := mapO pKey (kTouch (byV B) k ti22.zero)))
    generalize (w5.putObj mb (mapO pKey (kTouch (byV B) k ti22.zero))) = w6 at *
    have htch : kTouch (byV B) k ti22.zero = byV (kTouch B k (none, 0, [])) := kTouch_map (g := id) byR (fun _ _ h => h) B k (none, 0, [])
    obtain ⟨x, hxx⟩ : ∃ x, x = (kGet B k).getD (none, 0, []) := ⟨_, rfl⟩
    have hgx : byG B k = x.2.2 := by rw [hxx]; unfold byG; cases kGet B k <;> rfl
    have hgv : (kGet (byV B) k).getD ti22.zero = byR x := by rw [byV_get, hxx]; cases kGet B k <;> rfl
    have hpos : kPos (byV B) k = kPos B k := kPos_map (g := id) byR (fun _ _ h => h) B k
    have hxl2 : x.2.2.length ≤ 65536 := by rw [← hgx, hG]; exact Nat.le_trans (byF_len _ _ _ _) (by omega)
    rw [htch] at hp6
    rw [hgv, hpos]
    have hat := kTouch_get B k (none, 0, [])
    rw [← hxx] at hat
    have hput := kTouch_put B k (none, 0, [])
    obtain ⟨xa, xc, xl⟩ := x
    replace hxl2 : xl.length ≤ 65536 := hxl2
    generalize hB' : kTouch B k (none, 0, []) = B' at *
    have hp7 : Hp w w6 (.blk b7 (.cells #[.int .i64 (i : Nat)] 3 (0, 0)) :: .blk b6 (.cells #[.int .i64 (i / pairs : Nat), .int .i64 (wt : Nat)] 79 (0, 0)) :: .blk mb (mapO pKey (byV B')) :: (byE B' ++ [])) := by
      subst hB'
      unfold kTouch at hp6 ⊢
      split at hp6
      · rename_i h; rw [if_pos h]; exact hp6
      · rename_i h; rw [if_neg h]
        unfold byE
        rw [List.map_append]
        have := Hp.rot [rowE (none, 0, [])] (.blk b7 (.cells #[.int .i64 (i : Nat)] 3 (0, 0)) :: .blk b6 (.cells #[.int .i64 (i / pairs : Nat), .int .i64 (wt : Nat)] 79 (0, 0)) :: .blk mb (mapO pKey (byV (B ++ [(k, (none, 0, []))]))) :: byE B) [] (hp6.nilrow 3 1)
        simpa [byE] using this
    have hnth : nth (byE B' ++ []) (kPos B k) = some (rowE (xa, xc, xl)) := by
      rw [nth_eq, List.append_nil, byE, List.getElem?_map, hat]; rfl
    repeat (first | refine WC.seq ?_ | refine WC.reg ?_ | refine WL.pure rfl rfl rfl ?_ | refine WL.nil ?_ | refine WC.skip ?_ | refine WC.block ?_ | refine WC.condT rfl ?_ | refine WC.condF rfl ?_ | refine WL.off rfl rfl rfl ?_ | refine WL.off0 rfl rfl ?_ | refine WC.exit ?_ | refine blk_hit ?_ | refine blk_miss rfl ?_ | refine WC.ret ?_)
    refine WL.append (kPos B k + 3) hp7 rfl rfl rfl rfl rfl (by decide) rfl rfl hnth (news := [.int .i64 (i : Nat)]) (Sl.of_obj (hp7.obj 0 rfl) (fun q u hq => by simpa using hq)) rfl (natL_cells [i]) (by unfold maxLen; show xl.length + 1 ≤ _; omega) (by show (xl.length + 1) * 8 ≤ _; omega) ?_
    intro ra rc w7 hp8 _
    obtain ⟨y, hy⟩ : ∃ y : Option Addr × Nat × List Nat, y = (ra, rc, xl ++ [i]) := ⟨_, rfl⟩
    have hyr : byR y = .slice ra (xl.length + 1) rc := by rw [hy]; unfold byR; rw [List.length_append]; rfl
    have hp9 : Hp w w7 (.blk b7 (.cells #[.int .i64 (i : Nat)] 3 (0, 0)) :: .blk b6 (.cells #[.int .i64 (i / pairs : Nat), .int .i64 (wt : Nat)] 79 (0, 0)) :: .blk mb (mapO pKey (byV B')) :: (byE (kPut B k y) ++ [])) := by
      rw [← hput y]
      have e9 : byE (B'.set (kPos B k) (k, y)) ++ [] = (byE B' ++ []).set (kPos B k) (rowE y) := by
        rw [List.append_nil, List.append_nil]; unfold byE; rw [List.map_set]
      rw [e9]
      have e10 : rowE y = .row 3 1 (.slice ra (xl.length + 1) rc) (xl.length + 1) (natL xl ++ [.int .i64 (i : Nat)]) := by
        unfold rowE; rw [hyr, hy]; simp [Rna, natL]
      rw [e10]
      exact hp8
    repeat (first | refine WC.seq ?_ | refine WC.reg ?_ | refine WL.pure rfl rfl rfl ?_ | refine WL.nil ?_ | refine WC.skip ?_ | refine WC.block ?_ | refine WC.condT rfl ?_ | refine WC.condF rfl ?_ | refine WL.off rfl rfl rfl ?_ | refine WL.off0 rfl rfl ?_ | refine WC.exit ?_ | refine blk_hit ?_ | refine blk_miss rfl ?_ | refine WC.ret ?_)
    refine WL.skip rfl rfl (yEntSt (k := k) (l := byV B) (v := byR y) (zz := ti22.zero) (kv := pKey) rfl (congrArg (fun z => some (Value.int .i64 (z : Nat))) hpos.symm) (congrArg some hyr.symm) (by rw [htch]; exact hp9.obj 2 rfl)) ?_
    have hp10 := hp9.set 2 rfl rfl (setB_put (hp9.obj 2 rfl) (o' := mapO pKey (kPut (byV B) k (byR y))))
    generalize (w7.putObj mb (mapO pKey (kPut (byV B) k (byR y)))) = w8 at *
    rw [show kPut (byV B) k (byR y) = byV (kPut B k y) from kPut_map (g := id) byR (fun _ _ h => h) B k y] at hp10
    repeat (first | refine WC.seq ?_ | refine WC.reg ?_ | refine WL.pure rfl rfl rfl ?_ | refine WL.nil ?_ | refine WC.skip ?_ | refine WC.block ?_ | refine WC.condT rfl ?_ | refine WC.condF rfl ?_ | refine WL.off rfl rfl rfl ?_ | refine WL.off0 rfl rfl ?_ | refine WC.exit ?_ | refine blk_hit ?_ | refine blk_miss rfl ?_ | refine WC.ret ?_)
    refine ⟨(i + 1, kPut B k y), (by show want.length - (i + 1) < want.length - i; omega), ⟨rfl, rfl, rfl, rfl, congrArg (fun z => some (Value.int .i64 z)) step, rfl⟩, hi, ?_, hp10.tail.tail⟩
    intro q
    rw [byG_put, byF_succ, ← hwt, ← hk, ← hG]
    by_cases hq : q = k
    · rw [if_pos hq, if_pos hq, hq, hgx, hy]
    · rw [if_neg hq, if_neg hq, List.append_nil]
  · have hi : i = want.length := by have := of_decide_eq_false c1; omega
    subst hi
    repeat (first | refine WC.seq ?_ | refine WC.reg ?_ | refine WL.pure rfl rfl rfl ?_ | refine WL.nil ?_ | refine WC.skip ?_ | refine WC.block ?_ | refine WC.condT rfl ?_ | refine WC.condF rfl ?_ | refine WL.off rfl rfl rfl ?_ | refine WL.off0 rfl rfl ?_ | refine WC.exit ?_ | refine blk_hit ?_ | refine blk_miss rfl ?_ | refine WC.ret ?_)
    refine WL.nilC rfl rfl rfl ?_
    repeat (first | refine WC.seq ?_ | refine WC.reg ?_ | refine WL.pure rfl rfl rfl ?_ | refine WL.nil ?_ | refine WC.skip ?_ | refine WC.block ?_ | refine WC.condT rfl ?_ | refine WC.condF rfl ?_ | refine WL.off rfl rfl rfl ?_ | refine WL.off0 rfl rfl ?_ | refine WC.exit ?_ | refine blk_hit ?_ | refine blk_miss rfl ?_ | refine WC.ret ?_)
    refine WL.load rfl rfl rfl rfl rfl (cell_below hp2.below hc5) ?_
    repeat (first | refine WC.seq ?_ | refine WC.reg ?_ | refine WL.pure rfl rfl rfl ?_ | refine WL.nil ?_ | refine WC.skip ?_ | refine WC.block ?_ | refine WC.condT rfl ?_ | refine WC.condF rfl ?_ | refine WL.off rfl rfl rfl ?_ | refine WL.off0 rfl rfl ?_ | refine WC.exit ?_ | refine blk_hit ?_ | refine blk_miss rfl ?_ | refine WC.ret ?_)
    refine WL.make (m := want.length) rfl rfl rfl rfl rfl rfl rfl rfl (by show 24 * want.length ≤ _; omega) (by unfold maxLen; omega) (fun ob w3 h3 => ?_)
    have hp3 := hp2.new h3
    repeat (first | refine WC.seq ?_ | refine WC.reg ?_ | refine WL.pure rfl rfl rfl ?_ | refine WL.nil ?_ | refine WC.skip ?_ | refine WC.block ?_ | refine WC.condT rfl ?_ | refine WC.condF rfl ?_ | refine WL.off rfl rfl rfl ?_ | refine WL.off0 rfl rfl ?_ | refine WC.exit ?_ | refine blk_hit ?_ | refine blk_miss rfl ?_ | refine WC.ret ?_)
    refine WC.loop (Nat × Nrs) (fun (j, _) => [(0, ptr xb), (3, .map (some mb)), (7, .slice (some ⟨ob, 0, none⟩) want.length want.length), (44, .int .i64 (want.length : Nat)), (45, .int .i64 (j : Nat))])
      (fun (j, R) w' => j ≤ want.length ∧ R.length = j ∧ rsN R = (graphM (rsN rs) pairs want).take j ∧ Hp w w' (.blk ob (.cells (rsV R ++ List.replicate (want.length - j) (Value.slice none 0 0)).toArray 22 (0, 0)) :: .blk mb (mapO pKey (byV B)) :: (R.reverse.map rowE ++ (byE B ++ [])))) (fun (j, _) => want.length - j) (0, []) ⟨rfl, rfl, rfl, rfl, rfl, rfl⟩ ⟨Nat.zero_le _, rfl, rfl, hp3⟩ ?_
    clear hp3 hp2
    rintro ⟨j, R⟩ w4 ⟨hj, hRl, hRn, hp4⟩
    replace hj : j ≤ want.length := hj
    replace hRl : R.length = j := hRl
    replace hRn : rsN R = (graphM (rsN rs) pairs want).take j := hRn
    replace hp4 : Hp w w4 (.blk ob (.cells (rsV R ++ List.replicate (want.length - j) (Value.slice none 0 0)).toArray 22 (0, 0)) :: .blk mb (mapO pKey (byV B)) :: (R.reverse.map rowE ++ (byE B ++ []))) := hp4
    repeat (first | refine WC.seq ?_ | refine WC.reg ?_ | refine WL.pure rfl rfl rfl ?_ | refine WL.nil ?_ | refine WC.skip ?_ | refine WC.block ?_ | refine WC.condT rfl ?_ | refine WC.condF rfl ?_ | refine WL.off rfl rfl rfl ?_ | refine WL.off0 rfl rfl ?_ | refine WC.exit ?_ | refine blk_hit ?_ | refine blk_miss rfl ?_ | refine WC.ret ?_)
    refine WC.cond rfl (fun c2 => ?_) (fun c2 => ?_)
    · have hj : j < want.length := by have := of_decide_eq_true c2; omega
      have step := wrap_succ (i := j) (n := j + 1) (by omega) (by omega)
      repeat (first | refine WC.seq ?_ | refine WC.reg ?_ | refine WL.pure rfl rfl rfl ?_ | refine WL.nil ?_ | refine WC.skip ?_ | refine WC.block ?_ | refine WC.condT rfl ?_ | refine WC.condF rfl ?_ | refine WL.off rfl rfl rfl ?_ | refine WL.off0 rfl rfl ?_ | refine WC.exit ?_ | refine blk_hit ?_ | refine blk_miss rfl ?_ | refine WC.ret ?_)
      refine WL.call rfl rfl rfl rfl rfl ent103 (next_any xb an cn rs mk starts lv pairs _ tv fv mb B w4 j (by rw [hp4.below.block xb hxl]; exact hx) (hT.hp hp4) (hp4.obj 1 rfl) (byE_sl (A := .blk ob (.cells (rsV R ++ List.replicate (want.length - j) (Value.slice none 0 0)).toArray 22 (0, 0)) :: .blk mb (mapO pKey (byV B)) :: R.reverse.map rowE) hp4) hp0 (by omega) hrs (fun k => by rw [hG]; exact Nat.le_trans (byF_len _ _ _ _) hNb) hn hpp) ?_
      rintro _ w5 ⟨ra, rc, rfl, hp5⟩
      have hp6 := hp4.comb hp5
      obtain ⟨out, hout⟩ : ∃ out, out = nxF B (j % pairs) ((rsN rs).getD (j / pairs) []) := ⟨_, rfl⟩
      simp only [← hout] at hp6 ⊢
      have hsz : j < (rsV R ++ List.replicate (want.length - j) (Value.slice none 0 0)).toArray.size := by
        simp [rsV]; omega
      repeat (first | refine WC.seq ?_ | refine WC.reg ?_ | refine WL.pure rfl rfl rfl ?_ | refine WL.nil ?_ | refine WC.skip ?_ | refine WC.block ?_ | refine WC.condT rfl ?_ | refine WC.condF rfl ?_ | refine WL.off rfl rfl rfl ?_ | refine WL.off0 rfl rfl ?_ | refine WC.exit ?_ | refine blk_hit ?_ | refine blk_miss rfl ?_ | refine WC.ret ?_)
      refine WL.ix1 rfl rfl rfl rfl rfl rfl rfl hj ?_
      rw [Nat.zero_add]
      refine WL.store rfl rfl rfl rfl rfl rfl (hp6.obj 1 rfl) hsz (fun w6 h6 => ?_)
      have hp7 := hp6.set 1 rfl rfl h6
      have e7 : (rsV R ++ List.replicate (want.length - j) (Value.slice none 0 0)).toArray.setIfInBounds j (.slice ra out.length rc) = (rsV (R ++ [(ra, rc, out)]) ++ List.replicate (want.length - (j + 1)) (Value.slice none 0 0)).toArray := by
        have := set_nil R (want.length - (j + 1)) (ra, rc, out)
        rw [show want.length - (j + 1) + 1 = want.length - j by omega, hRl] at this
        exact this
      rw [e7] at hp7
      repeat (first | refine WC.seq ?_ | refine WC.reg ?_ | refine WL.pure rfl rfl rfl ?_ | refine WL.nil ?_ | refine WC.skip ?_ | refine WC.block ?_ | refine WC.condT rfl ?_ | refine WC.condF rfl ?_ | refine WL.off rfl rfl rfl ?_ | refine WL.off0 rfl rfl ?_ | refine WC.exit ?_ | refine blk_hit ?_ | refine blk_miss rfl ?_ | refine WC.ret ?_)
      refine ⟨(j + 1, R ++ [(ra, rc, out)]), (by show want.length - (j + 1) < want.length - j; omega), ⟨rfl, rfl, rfl, rfl, congrArg (fun z => some (Value.int .i64 z)) step, rfl⟩, hj, by simp [hRl], ?_, ?_⟩
      · have hgl : (graphM (rsN rs) pairs want).length = want.length := by simp [graphM]
        show rsN (R ++ [(ra, rc, out)]) = (graphM (rsN rs) pairs want).take (j + 1)
        rw [List.take_succ_eq_append_getElem (by rw [hgl]; exact hj), ← hRn]
        unfold rsN
        rw [List.map_append]
        congr 1
        simp only [List.map_cons, List.map_nil, graphM, List.getElem_map, List.getElem_range, hout, nxF]
        congr 1
        show List.flatMap _ ((rsN rs).getD (j / pairs) []) = List.flatMap _ ((rsN rs).getD (j / pairs) [])
        congr 1
        funext t
        rw [hG, byF]
        congr 1
        funext u
        exact decide_eq_decide.2 (and_congr Int.ofNat_inj Int.ofNat_inj)
      · show Hp w w6 (.blk ob (.cells (rsV (R ++ [(ra, rc, out)]) ++ List.replicate (want.length - (j + 1)) (Value.slice none 0 0)).toArray 22 (0, 0)) :: .blk mb (mapO pKey (byV B)) :: ((R ++ [(ra, rc, out)]).reverse.map rowE ++ (byE B ++ [])))
        rw [List.reverse_append, List.reverse_singleton, List.singleton_append, List.map_cons]
        exact Hp.rot [rowE (ra, rc, out)] [_, _] _ hp7
    · have hj : j = want.length := by have := of_decide_eq_false c2; omega
      subst hj
      rw [Nat.sub_self, List.replicate_zero, List.append_nil] at hp4
      have hgl : (graphM (rsN rs) pairs want).length = want.length := by simp [graphM]
      repeat (first | refine WC.seq ?_ | refine WC.reg ?_ | refine WL.pure rfl rfl rfl ?_ | refine WL.nil ?_ | refine WC.skip ?_ | refine WC.block ?_ | refine WC.condT rfl ?_ | refine WC.condF rfl ?_ | refine WL.off rfl rfl rfl ?_ | refine WL.off0 rfl rfl ?_ | refine WC.exit ?_ | refine blk_hit ?_ | refine blk_miss rfl ?_ | refine WC.ret ?_)
      refine Res.one rfl rfl rfl ⟨ob, R, by rw [hRl], hRl, by rw [hRn, List.take_of_length_le (by rw [hgl]; omega)], hp4.nil', Sl.of_obj (hp4.obj 0 rfl) (fun i u h => by simpa using h), fun x hx => rowE_sl hp4 ?_⟩
      have : rowE x ∈ R.reverse.map rowE := List.mem_map.2 ⟨x, List.mem_reverse.2 hx, rfl⟩
      simp only [List.mem_cons, List.mem_append]
      exact .inr (.inr (.inl this))
end Go.Proofs.YtpbbneclkhfgoaaDoor
end
section
/- ltl, twenty-third: components (printed by genu23.py). -/
namespace Go.W
open Go.RowKit
theorem Hp.rowCut {w0 w : World} {L L' : List Ent} {E s n m c : Nat} {a : Option Addr} {xs : List Value} (h : Hp w0 w L) (i : Nat) (hi : nth L i = some (.row E s (.slice a n c) n xs)) (hm : m ≤ n) (hL : L.set i (.row E s (.slice a m c) m (xs.take (m * s))) = L') : Hp w0 w L' := by
  have hs := h.at i hi
  refine h.repl (row := none) i hi hL (World.grownBy.refl w _) (fun k hk => by cases hk) ?_ (fun k hk => .inl ?_)
  · obtain ⟨hl, ⟨hv, hn⟩ | ⟨b, cap, cur, hv, hb, hg, hnc, hcm, hcs, ht⟩⟩ := hs
    · subst hn
      have : m = 0 := by omega
      subst this
      exact ⟨by simp, .inl ⟨hv, rfl⟩⟩
    · simp only [Value.slice.injEq] at hv
      obtain ⟨rfl, _, rfl⟩ := hv
      refine ⟨?_, .inr ⟨b, c, cur, rfl, hb, hg, Nat.le_trans hm hnc, hcm, hcs, ?_⟩⟩
      · rw [List.length_take, hl]
        exact Nat.min_eq_left (Nat.mul_le_mul_right _ hm)
      · rw [← ht, List.take_take, Nat.min_eq_left (Nat.mul_le_mul_right _ hm)]
  · cases a with
    | none => cases hk
    | some a => exact hk
theorem Sl.cell {w : World} {b o i : Nat} {cs : List Value} {u : Value} (h : Sl w (Option.some ⟨b, o, none⟩) cs) (hi : cs[i]? = Option.some u) : w.cell? ⟨b, o + i, none⟩ = Option.some u := by
  obtain ⟨b', o', ha, hc⟩ := h i u hi
  simp only [Option.some.injEq, Addr.mk.injEq] at ha
  rw [ha.1, ha.2.1]; exact hc
theorem Hp.capR {w0 w : World} {L : List Ent} {E s n c : Nat} {a : Option Addr} {xs : List Value} (h : Hp w0 w L) (i : Nat) (hi : nth L i = some (.row E s (.slice a n c) n xs)) : n ≤ c := row_cap (h.at i hi)
end Go.W
namespace Go.Ltl
open Go.W
theorem cast_min (a b : Nat) : min (a : Int) (b : Int) = ((min a b : Nat) : Int) := by
  rcases Nat.le_total a b with h | h
  · rw [Nat.min_eq_left h, Int.min_eq_left (by omega)]
  · rw [Nat.min_eq_right h, Int.min_eq_right (by omega)]
theorem getD_some {l : List Nat} {j : Nat} (h : j < l.length) : l[j]? = some (l.getD j 0) := by simp [h]
theorem tjEnter_path (s : Tj) (v : Nat) : (tjEnter s v).path = s.path := by unfold tjEnter; split <;> rfl
theorem tjRun_nil {next : List (List Nat)} {f : Nat} {s : Tj} (h : s.path = []) : tjRun next f s = some (f, s) := by
  cases f <;> (unfold tjRun; rw [if_pos h])
theorem tjRun_step {next : List (List Nat)} {f : Nat} {s : Tj} {v : Nat} {rest : List Nat} {r : Nat × Tj} (h : tjRun next f s = some r) (hp : s.path = v :: rest) :
    ∃ f0 s', f = f0 + 1 ∧ tjTurn next (tjEnter s v) v rest = some s' ∧ tjRun next f0 s' = some r := by
  have hne : s.path ≠ [] := by rw [hp]; exact List.cons_ne_nil _ _
  cases f with
  | zero => unfold tjRun at h; rw [if_neg hne] at h; cases h
  | succ f =>
    unfold tjRun at h
    rw [if_neg hne] at h
    unfold tjStep at h
    rw [hp] at h
    simp only at h
    cases hq : tjTurn next (tjEnter s v) v rest with
    | none => rw [hq] at h; cases h
    | some s' => rw [hq] at h; exact ⟨f, s', rfl, rfl, h⟩
/-- Within bounds: B more than the fuel. -/
structure TjOk (n B : Nat) (s : Tj) (f : Nat) : Prop where
  i : s.index.length = n
  l : s.low.length = n
  o : s.of_.length = n
  a : s.at_.length = n
  p : ∀ x ∈ s.path, x < n
  k : ∀ x ∈ s.stk, x < n
  c : s.count + f ≤ B
  m : s.number + f ≤ B
  kl : s.stk.length + f ≤ B
  pl : s.path.length + f ≤ B + 1
end Go.Ltl
namespace Go.Proofs.YtpbbneclkhfgoaaDoor
open Go.W Go.Ltl Go.RowKit
set_option maxRecDepth 100000
attribute [local irreducible] WC WL WQ WS WH

/-- A list of numbers of one's own. -/
abbrev cE (b : Nat) (l : List Nat) : Ent := .blk b (.cells (natL l).toArray 3 (0, 0))
theorem cE_sl {w0 w : World} {L : List Ent} {b : Nat} {l : List Nat} (h : Hp w0 w L) (q : Nat) (hq : nth L q = some (cE b l)) : Sl w (some ⟨b, 0, none⟩) (natL l) := Sl.of_obj (h.obj q hq) (fun i u hu => by simpa using hu)
theorem cE_set {w0 w w' : World} {L L' : List Ent} {b j x : Nat} {l : List Nat} (h : Hp w0 w L) (q : Nat) (hq : nth L q = some (cE b l)) (hL : L.set q (cE b (l.set j x)) = L') (hs : SetB w b (.cells ((natL l).toArray.setIfInBounds j (.int .i64 (x : Nat))) 3 (0, 0)) w') : Hp w0 w' L' := by
  have e1 : (natL l).toArray.setIfInBounds j (.int .i64 (x : Nat)) = (natL (l.set j x)).toArray := by simp [natL, List.map_set]
  rw [e1] at hs
  exact h.set q hq hL hs
theorem cE_room {l : List Nat} {j n : Nat} (hl : l.length = n) (h : j < n) : j < (natL l).toArray.size := by simp [natL]; omega
theorem nd {l : List Nat} {i n : Nat} (hl : l.length = n) (h : i < n) : (natL l)[i]? = some (.int .i64 (l.getD i 0 : Nat)) := natL_get (by omega)
theorem natL_zero (n : Nat) : (List.replicate n (Value.int .i64 0)).toArray = (natL (List.replicate n 0)).toArray := by simp [natL]
/-- The top of a row. -/
theorem top_at (v : Nat) (rest : List Nat) : (natL (v :: rest).reverse)[rest.length]? = some (.int .i64 (v : Nat)) := by simp [natL]
theorem top_take (v : Nat) (rest : List Nat) : (natL (v :: rest).reverse).take (rest.length * 1) = natL rest.reverse := by
  simp only [natL, List.reverse_cons, List.map_append, Nat.mul_one]
  have : rest.length = (List.map (fun (n : Nat) => Value.int .i64 n) rest.reverse).length := by simp
  rw [this, List.take_left]
theorem top_push (v : Nat) (rest : List Nat) : natL (v :: rest).reverse = natL rest.reverse ++ [.int .i64 (v : Nat)] := by simp [natL]
/-- A row with its top first. -/
abbrev stE (a : Option Addr) (c : Nat) (l : List Nat) : Ent := Rna (.slice a l.length c) l.length l.reverse
theorem stE_push (a : Option Addr) (c v : Nat) (l : List Nat) : stE a c (v :: l) = .row 3 1 (.slice a (l.length + 1) c) (l.length + 1) (natL l.reverse ++ [.int .i64 (v : Nat)]) := by
  show Ent.row _ _ _ _ (natL (v :: l).reverse) = _
  rw [top_push]; rfl
theorem stE_sl {w0 w : World} {L : List Ent} {a : Option Addr} {c : Nat} {l : List Nat} (h : Hp w0 w L) (q : Nat) (hq : nth L q = some (stE a c l)) : Sl w a (natL l.reverse) := Sl.of_row (h.at q hq)
abbrev sN (b N : Nat) : Value := .slice (some ⟨b, 0, none⟩) N N
abbrev cpE (an : Option Addr) (cn N ib lb ob ab root : Nat) (s : Tj) (sa : Option Addr) (sc : Nat) (pa : Option Addr) (pc : Nat) : Env :=
  [(0, .slice an N cn), (3, .int .i64 (N : Nat)), (4, sN ib N), (5, sN lb N), (6, sN ob N), (7, sN ab N), (8, .slice sa s.stk.length sc), (9, .slice pa s.path.length pc), (10, .int .i64 (s.count : Nat)), (11, .int .i64 (s.number : Nat)), (26, .int .i64 (N : Nat)), (27, .int .i64 (root : Nat))]
abbrev cpL (ib lb ob ab : Nat) (s : Tj) (sa : Option Addr) (sc : Nat) (pa : Option Addr) (pc : Nat) : List Ent := [cE ib s.index, cE lb s.low, cE ob s.of_, cE ab s.at_, stE sa sc s.stk, stE pa pc s.path]
theorem mem_set {l : List Nat} {p : Nat → Prop} (h : ∀ x ∈ l, p x) {a : Nat} (ha : p a) : ∀ x ∈ a :: l, p x := fun x hx => by
  rcases List.mem_cons.1 hx with h1 | h1
  · rw [h1]; exact ha
  · exact h x h1

theorem components_any (an : Option Addr) (cn N : Nat) (rs : Nrs) (w : World) (hN : rs.length = N) (hT : Tbl w an rs) (hn : N ≤ 65536) (hrow : ∀ x ∈ rs, x.2.2.length ≤ 1048576) (hin : ∀ x ∈ rs, ∀ u ∈ x.2.2, u < N) (F : Nat) (hF : F ≤ 1099511627776) (of_ : List Nat)
    (hM : compM F (rsN rs) = some of_) : Ret Tryd.prog 88 [.slice an N cn] w fun u w' => ∃ ob, u = sN ob N ∧ of_.length = N ∧ Hp w w' [cE ob of_] := by
  refine enter Tryd.func88 rfl rfl ⟨rfl, rfl⟩ rfl ?_
  repeat (first | refine WC.seq ?_ | refine WC.reg ?_ | refine WL.pure rfl rfl rfl ?_ | refine WL.nil ?_ | refine WC.skip ?_ | refine WC.block ?_ | refine WC.condT rfl ?_ | refine WC.condF rfl ?_ | refine WL.off rfl rfl rfl ?_ | refine WL.off0 rfl rfl ?_ | refine WC.exit ?_ | refine blk_hit ?_ | refine blk_miss rfl ?_ | refine WC.ret ?_)
  refine WC.mid (Nat × Nat × Nat) (fun (ib, lb, ob) => [(0, .slice an N cn), (3, .int .i64 (N : Nat)), (4, sN ib N), (5, sN lb N), (6, sN ob N)]) (fun (ib, lb, ob) w' => Hp w w' [cE ib (List.replicate N 0), cE lb (List.replicate N 0), cE ob (List.replicate N 0)]) ?_ ?_
  · unfold cE
    simp only [← natL_zero]
    refine WC.regH (fun _ => True) mixed (by kernel_rfl) (fun wm0 hw hh => ?_)
    have hm0 := (Hp.start w).keep hw
    refine WH.pure 0 (by kernel_rfl) rfl (by kernel_rfl) rfl rfl rfl (trivial) ?_
    refine WH.pure 2 (by kernel_rfl) rfl (by kernel_rfl) rfl rfl rfl (trivial) ?_
    refine WH.pure 4 (by kernel_rfl) rfl (by kernel_rfl) rfl rfl rfl (trivial) ?_
    refine WH.many [1, 3, 5] (by kernel_rfl) (by decide) ?_
    intro i hi
    simp only [List.mem_cons, List.not_mem_nil, or_false] at hi
    rcases hi with rfl | rfl | rfl
    · refine ⟨_, rfl, ?_⟩
      refine WL.make (m := N) rfl rfl rfl rfl rfl rfl rfl rfl (by show 8 * N ≤ _; omega) (by unfold maxLen; omega) (fun ib wm1 hb0 => ?_)
      have hm1 := hm0.new hb0
      refine WL.nil ⟨trivial, ?_⟩
      refine WH.pure 6 (by kernel_rfl) rfl (by kernel_rfl) rfl rfl rfl trivial ?_
      refine WH.many [3, 5] (by kernel_rfl) (by decide) ?_
      intro i hi
      simp only [List.mem_cons, List.not_mem_nil, or_false] at hi
      rcases hi with rfl | rfl
      · refine ⟨_, rfl, ?_⟩
        refine WL.make (m := N) rfl rfl rfl rfl rfl rfl rfl rfl (by show 8 * N ≤ _; omega) (by unfold maxLen; omega) (fun lb wm2 hb1 => ?_)
        have hm2 := hm1.new hb1
        refine WL.nil ⟨trivial, ?_⟩
        refine WH.pure 7 (by kernel_rfl) rfl (by kernel_rfl) rfl rfl rfl trivial ?_
        refine WH.one 5 rfl (by kernel_rfl) ?_
        refine WL.make (m := N) rfl rfl rfl rfl rfl rfl rfl rfl (by show 8 * N ≤ _; omega) (by unfold maxLen; omega) (fun ob wm3 hb2 => ?_)
        have hm3 := hm2.new hb2
        refine WL.nil ⟨trivial, ?_⟩
        refine WH.pure 8 (by kernel_rfl) rfl (by kernel_rfl) rfl rfl rfl trivial ?_
        refine WH.done (by kernel_rfl) ?_
        exact ⟨(ib, lb, ob), ⟨rfl, rfl, rfl, rfl, rfl, rfl⟩, hm3.pick [2, 1, 0] (by decide)⟩
      · refine ⟨_, rfl, ?_⟩
        refine WL.make (m := N) rfl rfl rfl rfl rfl rfl rfl rfl (by show 8 * N ≤ _; omega) (by unfold maxLen; omega) (fun ob wm2 hb1 => ?_)
        have hm2 := hm1.new hb1
        refine WL.nil ⟨trivial, ?_⟩
        refine WH.one 3 rfl (by kernel_rfl) ?_
        refine WL.make (m := N) rfl rfl rfl rfl rfl rfl rfl rfl (by show 8 * N ≤ _; omega) (by unfold maxLen; omega) (fun lb wm3 hb2 => ?_)
        have hm3 := hm2.new hb2
        refine WL.nil ⟨trivial, ?_⟩
        refine WH.pure 7 (by kernel_rfl) rfl (by kernel_rfl) rfl rfl rfl trivial ?_
        refine WH.pure 8 (by kernel_rfl) rfl (by kernel_rfl) rfl rfl rfl trivial ?_
        refine WH.done (by kernel_rfl) ?_
        exact ⟨(ib, lb, ob), ⟨rfl, rfl, rfl, rfl, rfl, rfl⟩, hm3.pick [2, 0, 1] (by decide)⟩
    · refine ⟨_, rfl, ?_⟩
      refine WL.make (m := N) rfl rfl rfl rfl rfl rfl rfl rfl (by show 8 * N ≤ _; omega) (by unfold maxLen; omega) (fun lb wm1 hb0 => ?_)
      have hm1 := hm0.new hb0
      refine WL.nil ⟨trivial, ?_⟩
      refine WH.many [1, 5] (by kernel_rfl) (by decide) ?_
      intro i hi
      simp only [List.mem_cons, List.not_mem_nil, or_false] at hi
      rcases hi with rfl | rfl
      · refine ⟨_, rfl, ?_⟩
        refine WL.make (m := N) rfl rfl rfl rfl rfl rfl rfl rfl (by show 8 * N ≤ _; omega) (by unfold maxLen; omega) (fun ib wm2 hb1 => ?_)
        have hm2 := hm1.new hb1
        refine WL.nil ⟨trivial, ?_⟩
        refine WH.pure 6 (by kernel_rfl) rfl (by kernel_rfl) rfl rfl rfl trivial ?_
        refine WH.pure 7 (by kernel_rfl) rfl (by kernel_rfl) rfl rfl rfl trivial ?_
        refine WH.one 5 rfl (by kernel_rfl) ?_
        refine WL.make (m := N) rfl rfl rfl rfl rfl rfl rfl rfl (by show 8 * N ≤ _; omega) (by unfold maxLen; omega) (fun ob wm3 hb2 => ?_)
        have hm3 := hm2.new hb2
        refine WL.nil ⟨trivial, ?_⟩
        refine WH.pure 8 (by kernel_rfl) rfl (by kernel_rfl) rfl rfl rfl trivial ?_
        refine WH.done (by kernel_rfl) ?_
        exact ⟨(ib, lb, ob), ⟨rfl, rfl, rfl, rfl, rfl, rfl⟩, hm3.pick [1, 2, 0] (by decide)⟩
      · refine ⟨_, rfl, ?_⟩
        refine WL.make (m := N) rfl rfl rfl rfl rfl rfl rfl rfl (by show 8 * N ≤ _; omega) (by unfold maxLen; omega) (fun ob wm2 hb1 => ?_)
        have hm2 := hm1.new hb1
        refine WL.nil ⟨trivial, ?_⟩
        refine WH.one 1 rfl (by kernel_rfl) ?_
        refine WL.make (m := N) rfl rfl rfl rfl rfl rfl rfl rfl (by show 8 * N ≤ _; omega) (by unfold maxLen; omega) (fun ib wm3 hb2 => ?_)
        have hm3 := hm2.new hb2
        refine WL.nil ⟨trivial, ?_⟩
        refine WH.pure 6 (by kernel_rfl) rfl (by kernel_rfl) rfl rfl rfl trivial ?_
        refine WH.pure 7 (by kernel_rfl) rfl (by kernel_rfl) rfl rfl rfl trivial ?_
        refine WH.pure 8 (by kernel_rfl) rfl (by kernel_rfl) rfl rfl rfl trivial ?_
        refine WH.done (by kernel_rfl) ?_
        exact ⟨(ib, lb, ob), ⟨rfl, rfl, rfl, rfl, rfl, rfl⟩, hm3.pick [0, 2, 1] (by decide)⟩
    · refine ⟨_, rfl, ?_⟩
      refine WL.make (m := N) rfl rfl rfl rfl rfl rfl rfl rfl (by show 8 * N ≤ _; omega) (by unfold maxLen; omega) (fun ob wm1 hb0 => ?_)
      have hm1 := hm0.new hb0
      refine WL.nil ⟨trivial, ?_⟩
      refine WH.many [1, 3] (by kernel_rfl) (by decide) ?_
      intro i hi
      simp only [List.mem_cons, List.not_mem_nil, or_false] at hi
      rcases hi with rfl | rfl
      · refine ⟨_, rfl, ?_⟩
        refine WL.make (m := N) rfl rfl rfl rfl rfl rfl rfl rfl (by show 8 * N ≤ _; omega) (by unfold maxLen; omega) (fun ib wm2 hb1 => ?_)
        have hm2 := hm1.new hb1
        refine WL.nil ⟨trivial, ?_⟩
        refine WH.pure 6 (by kernel_rfl) rfl (by kernel_rfl) rfl rfl rfl trivial ?_
        refine WH.one 3 rfl (by kernel_rfl) ?_
        refine WL.make (m := N) rfl rfl rfl rfl rfl rfl rfl rfl (by show 8 * N ≤ _; omega) (by unfold maxLen; omega) (fun lb wm3 hb2 => ?_)
        have hm3 := hm2.new hb2
        refine WL.nil ⟨trivial, ?_⟩
        refine WH.pure 7 (by kernel_rfl) rfl (by kernel_rfl) rfl rfl rfl trivial ?_
        refine WH.pure 8 (by kernel_rfl) rfl (by kernel_rfl) rfl rfl rfl trivial ?_
        refine WH.done (by kernel_rfl) ?_
        exact ⟨(ib, lb, ob), ⟨rfl, rfl, rfl, rfl, rfl, rfl⟩, hm3.pick [1, 0, 2] (by decide)⟩
      · refine ⟨_, rfl, ?_⟩
        refine WL.make (m := N) rfl rfl rfl rfl rfl rfl rfl rfl (by show 8 * N ≤ _; omega) (by unfold maxLen; omega) (fun lb wm2 hb1 => ?_)
        have hm2 := hm1.new hb1
        refine WL.nil ⟨trivial, ?_⟩
        refine WH.one 1 rfl (by kernel_rfl) ?_
        refine WL.make (m := N) rfl rfl rfl rfl rfl rfl rfl rfl (by show 8 * N ≤ _; omega) (by unfold maxLen; omega) (fun ib wm3 hb2 => ?_)
        have hm3 := hm2.new hb2
        refine WL.nil ⟨trivial, ?_⟩
        refine WH.pure 6 (by kernel_rfl) rfl (by kernel_rfl) rfl rfl rfl trivial ?_
        refine WH.pure 7 (by kernel_rfl) rfl (by kernel_rfl) rfl rfl rfl trivial ?_
        refine WH.pure 8 (by kernel_rfl) rfl (by kernel_rfl) rfl rfl rfl trivial ?_
        refine WH.done (by kernel_rfl) ?_
        exact ⟨(ib, lb, ob), ⟨rfl, rfl, rfl, rfl, rfl, rfl⟩, hm3.pick [0, 1, 2] (by decide)⟩
  rintro ⟨ib, lb, ob⟩ e1 w1 hsub hp1
  replace hp1 : Hp w w1 [cE ib (List.replicate N 0), cE lb (List.replicate N 0), cE ob (List.replicate N 0)] := hp1
  refine WC.sub hsub ?_
  clear hsub e1
  repeat (first | refine WC.seq ?_ | refine WC.reg ?_ | refine WL.pure rfl rfl rfl ?_ | refine WL.nil ?_ | refine WC.skip ?_ | refine WC.block ?_ | refine WC.condT rfl ?_ | refine WC.condF rfl ?_ | refine WL.off rfl rfl rfl ?_ | refine WL.off0 rfl rfl ?_ | refine WC.exit ?_ | refine blk_hit ?_ | refine blk_miss rfl ?_ | refine WC.ret ?_)
  refine WL.make (m := N) rfl rfl rfl rfl rfl rfl rfl rfl (by show 8 * N ≤ _; omega) (by unfold maxLen; omega) (fun ab w2 h2 => ?_)
  have hp2 := hp1.new h2
  rw [show ti3.zero = Value.int .i64 0 from rfl, natL_zero] at hp2
  have hp3 := ((hp2.nilrow 3 1).nilrow 3 1).pick [3, 4, 5, 2, 0, 1] (by decide)
  replace hp3 : Hp w w2 (cpL ib lb ob ab (tj0 N) none 0 none 0) := hp3
  clear hp2 hp1
  unfold compM at hM
  rw [rsN_len, hN] at hM
  obtain ⟨sF, hC, hsF⟩ := Option.map_eq_some_iff.1 hM
  have hok0 : TjOk N F (tj0 N) F := ⟨by simp [tj0], by simp [tj0], by simp [tj0], by simp [tj0], fun x hx => by simp [tj0] at hx, fun x hx => by simp [tj0] at hx, by simp [tj0], by simp [tj0], by simp [tj0], by simp [tj0]⟩
  repeat (first | refine WC.seq ?_ | refine WC.reg ?_ | refine WL.pure rfl rfl rfl ?_ | refine WL.nil ?_ | refine WC.skip ?_ | refine WC.block ?_ | refine WC.condT rfl ?_ | refine WC.condF rfl ?_ | refine WL.off rfl rfl rfl ?_ | refine WL.off0 rfl rfl ?_ | refine WC.exit ?_ | refine blk_hit ?_ | refine blk_miss rfl ?_ | refine WC.ret ?_)
  refine WC.loop (Nat × Nat × Tj × Option Addr × Nat × Option Addr × Nat) (fun (root, f, s, sa, sc, pa, pc) => cpE an cn N ib lb ob ab root s sa sc pa pc)
    (fun (root, f, s, sa, sc, pa, pc) w' => root ≤ N ∧ compRoots (rsN rs) (N - root) root f s = some sF ∧ s.path = [] ∧ TjOk N F s f ∧ Hp w w' (cpL ib lb ob ab s sa sc pa pc)) (fun (root, _) => N - root) (0, F, tj0 N, none, 0, none, 0) ⟨rfl, rfl, rfl, rfl, rfl, rfl, rfl, rfl, rfl, rfl, rfl, rfl, rfl⟩ ⟨Nat.zero_le _, by rw [Nat.sub_zero]; exact hC, rfl, hok0, hp3⟩ ?_
  clear hp3 hok0 hC hM
  rintro ⟨root, f, s, sa, sc, pa, pc⟩ w3 ⟨hr, hC, hpn, hok, hp3⟩
  replace hr : root ≤ N := hr
  replace hC : compRoots (rsN rs) (N - root) root f s = some sF := hC
  replace hpn : s.path = [] := hpn
  replace hok : TjOk N F s f := hok
  replace hp3 : Hp w w3 (cpL ib lb ob ab s sa sc pa pc) := hp3
  repeat (first | refine WC.seq ?_ | refine WC.reg ?_ | refine WL.pure rfl rfl rfl ?_ | refine WL.nil ?_ | refine WC.skip ?_ | refine WC.block ?_ | refine WC.condT rfl ?_ | refine WC.condF rfl ?_ | refine WL.off rfl rfl rfl ?_ | refine WL.off0 rfl rfl ?_ | refine WC.exit ?_ | refine blk_hit ?_ | refine blk_miss rfl ?_ | refine WC.ret ?_)
  refine WC.cond rfl (fun c1 => ?_) (fun c1 => ?_)
  · have hr : root < N := by have := of_decide_eq_true c1; omega
    have step := wrap_succ (i := root) (n := root + 1) (by omega) (by omega)
    rw [show N - root = N - (root + 1) + 1 by omega] at hC
    unfold compRoots at hC
    refine WC.skip ?_
    refine WC.seq ?_
    refine WC.mid (Nat × Tj × Option Addr × Nat × Option Addr × Nat) (fun (f, s, sa, sc, pa, pc) => cpE an cn N ib lb ob ab root s sa sc pa pc)
      (fun (f, s, sa, sc, pa, pc) w' => compRoots (rsN rs) (N - (root + 1)) (root + 1) f s = some sF ∧ s.path = [] ∧ TjOk N F s f ∧ Hp w w' (cpL ib lb ob ab s sa sc pa pc)) ?_ ?_
    · repeat (first | refine WC.seq ?_ | refine WC.reg ?_ | refine WL.pure rfl rfl rfl ?_ | refine WL.nil ?_ | refine WC.skip ?_ | refine WC.block ?_ | refine WC.condT rfl ?_ | refine WC.condF rfl ?_ | refine WL.off rfl rfl rfl ?_ | refine WL.off0 rfl rfl ?_ | refine WC.exit ?_ | refine blk_hit ?_ | refine blk_miss rfl ?_ | refine WC.ret ?_)
      refine WL.ixload rfl (fun _ => rfl) rfl rfl rfl rfl rfl rfl rfl hr rfl rfl (cE_sl hp3 0 rfl) (nd hok.i hr) ?_
      intro q
      repeat (first | refine WC.seq ?_ | refine WC.reg ?_ | refine WL.pure rfl rfl rfl ?_ | refine WL.nil ?_ | refine WC.skip ?_ | refine WC.block ?_ | refine WC.condT rfl ?_ | refine WC.condF rfl ?_ | refine WL.off rfl rfl rfl ?_ | refine WL.off0 rfl rfl ?_ | refine WC.exit ?_ | refine blk_hit ?_ | refine blk_miss rfl ?_ | refine WC.ret ?_)
      refine WC.cond rfl (fun c2 => ?_) (fun c2 => ?_)
      · have c2 : s.index.getD root 0 ≠ 0 := by simpa using c2
        rw [if_pos c2] at hC
        repeat (first | refine WC.seq ?_ | refine WC.reg ?_ | refine WL.pure rfl rfl rfl ?_ | refine WL.nil ?_ | refine WC.skip ?_ | refine WC.block ?_ | refine WC.condT rfl ?_ | refine WC.condF rfl ?_ | refine WL.off rfl rfl rfl ?_ | refine WL.off0 rfl rfl ?_ | refine WC.exit ?_ | refine blk_hit ?_ | refine blk_miss rfl ?_ | refine WC.ret ?_)
        exact ⟨(f, s, sa, sc, pa, pc), ⟨rfl, rfl, rfl, rfl, rfl, rfl, rfl, rfl, rfl, rfl, rfl, rfl, rfl⟩, hC, hpn, hok, hp3⟩
      · have c2 : ¬ s.index.getD root 0 ≠ 0 := by simpa using c2
        rw [if_neg c2] at hC
        cases hR : tjRun (rsN rs) f { s with path := [root] } with
        | none => rw [hR] at hC; cases hC
        | some fs' =>
        obtain ⟨f', s'⟩ := fs'
        rw [hR] at hC
        simp only at hC
        obtain ⟨ix, lw, of0, at0, sk, pth, ct, nm⟩ := s
        simp only at hpn
        subst hpn
        obtain ⟨ki, kl, ko, ka, kp, kk, kc, km, kkl, kpl⟩ := hok
        simp only at ki kl ko ka kp kk kc km kkl kpl
        repeat (first | refine WC.seq ?_ | refine WC.reg ?_ | refine WL.pure rfl rfl rfl ?_ | refine WL.nil ?_ | refine WC.skip ?_ | refine WC.block ?_ | refine WC.condT rfl ?_ | refine WC.condF rfl ?_ | refine WL.off rfl rfl rfl ?_ | refine WL.off0 rfl rfl ?_ | refine WC.exit ?_ | refine blk_hit ?_ | refine blk_miss rfl ?_ | refine WC.ret ?_)
        refine WL.buildS (cs := [.int .i64 (root : Nat)]) rfl rfl rfl rfl rfl rfl rfl rfl rfl (fun b4 w4 h4 => ?_)
        have hp4 := hp3.new h4
        refine WL.append 6 hp4 rfl rfl rfl rfl rfl (by decide) rfl rfl rfl (news := [.int .i64 (root : Nat)]) (Sl.of_obj (hp4.obj 0 rfl) (fun q u hq => by simpa using hq)) rfl (natL_cells [root]) (by show 0 + 1 ≤ maxLen; decide) (by show (0 + 1) * 8 ≤ 140737488355328; decide) ?_
        intro pa2 pc2 w5 hp5 _
        replace hp5 : Hp w w5 (cpL ib lb ob ab ⟨ix, lw, of0, at0, sk, [root], ct, nm⟩ sa sc pa2 pc2) := hp5.tail
        repeat (first | refine WC.seq ?_ | refine WC.reg ?_ | refine WL.pure rfl rfl rfl ?_ | refine WL.nil ?_ | refine WC.skip ?_ | refine WC.block ?_ | refine WC.condT rfl ?_ | refine WC.condF rfl ?_ | refine WL.off rfl rfl rfl ?_ | refine WL.off0 rfl rfl ?_ | refine WC.exit ?_ | refine blk_hit ?_ | refine blk_miss rfl ?_ | refine WC.ret ?_)
        refine WC.loop (Nat × Tj × Option Addr × Nat × Option Addr × Nat) (fun (f, s, sa, sc, pa, pc) => cpE an cn N ib lb ob ab root s sa sc pa pc)
          (fun (f, s, sa, sc, pa, pc) w' => tjRun (rsN rs) f s = some (f', s') ∧ TjOk N F s f ∧ Hp w w' (cpL ib lb ob ab s sa sc pa pc)) (fun (f, _) => f) (f, ⟨ix, lw, of0, at0, sk, [root], ct, nm⟩, sa, sc, pa2, pc2) ⟨rfl, rfl, rfl, rfl, rfl, rfl, rfl, rfl, rfl, rfl, rfl, rfl, rfl⟩
          ⟨hR, ⟨ki, kl, ko, ka, mem_set (fun x hx => by cases hx) hr, kk, kc, km, kkl, by show 1 + f ≤ F + 1; omega⟩, hp5⟩ ?_
        clear hp5 hp4 hp3 hR ki kl ko ka kp kk kc km kkl kpl
        rintro ⟨f, ⟨ix, lw, of0, at0, sk, pth, ct, nm⟩, sa, sc, pa, pc⟩ w6 ⟨hR, hok, hp6⟩
        replace hR : tjRun (rsN rs) f ⟨ix, lw, of0, at0, sk, pth, ct, nm⟩ = some (f', s') := hR
        replace hok : TjOk N F ⟨ix, lw, of0, at0, sk, pth, ct, nm⟩ f := hok
        replace hp6 : Hp w w6 (cpL ib lb ob ab ⟨ix, lw, of0, at0, sk, pth, ct, nm⟩ sa sc pa pc) := hp6
        repeat (first | refine WC.seq ?_ | refine WC.reg ?_ | refine WL.pure rfl rfl rfl ?_ | refine WL.nil ?_ | refine WC.skip ?_ | refine WC.block ?_ | refine WC.condT rfl ?_ | refine WC.condF rfl ?_ | refine WL.off rfl rfl rfl ?_ | refine WL.off0 rfl rfl ?_ | refine WC.exit ?_ | refine blk_hit ?_ | refine blk_miss rfl ?_ | refine WC.ret ?_)
        refine WC.cond rfl (fun c3 => ?_) (fun c3 => ?_)
        · have c3 : 0 < pth.length := by have h : (0 : Int) < ((pth.length : Nat) : Int) := of_decide_eq_true c3; omega
          obtain ⟨v, rest, rfl⟩ : ∃ v rest, pth = v :: rest := by
            cases pth with
            | nil => exact absurd c3 (Nat.lt_irrefl _)
            | cons v rest => exact ⟨v, rest, rfl⟩
          obtain ⟨f0, s2, rfl, hturn, hR2⟩ := tjRun_step hR rfl
          clear hR
          have hv : v < N := hok.p v (by simp)
          have hpl0 : rest.length + 1 + (f0 + 1) ≤ F + 1 := hok.pl
          have e45 : IntKind.i64.wrap (((v :: rest).length : Nat) - 1 : Int) = ((rest.length : Nat) : Int) := by
            have := hok.pl
            simp only [List.length_cons] at this ⊢
            rw [wrap_mid (by omega) (by omega)]; omega
          refine WC.skip ?_
          refine WC.block ?_
          refine WC.seq ?_
          refine WC.reg ?_
          refine WL.pure rfl rfl rfl ?_
          refine WL.pure rfl rfl rfl ?_
          refine WL.pure rfl rfl rfl ?_
          refine WL.pure rfl rfl rfl ?_
          refine WL.known (d := 45) (congrArg (fun z => some (Value.int .i64 z)) e45) ?_
          refine WL.ixload (j := rest.length) rfl (fun _ => rfl) rfl rfl rfl rfl rfl rfl rfl (Nat.lt_succ_self _) rfl rfl (stE_sl hp6 5 rfl) (top_at v rest) ?_
          intro q
          refine WL.pure rfl rfl rfl ?_
          refine WL.nil ?_
          refine WC.seq ?_
          refine WC.mid (Tj × Option Addr × Nat) (fun (s, sa, sc) => (13, .int .i64 (v : Nat)) :: cpE an cn N ib lb ob ab root s sa sc pa pc)
            (fun (s, sa, sc) w' => s = tjEnter ⟨ix, lw, of0, at0, sk, v :: rest, ct, nm⟩ v ∧ TjOk N F s f0 ∧ s.number + (f0 + 1) ≤ F ∧ Hp w w' (cpL ib lb ob ab s sa sc pa pc)) ?_ ?_
          · repeat (first | refine WC.seq ?_ | refine WC.reg ?_ | refine WL.pure rfl rfl rfl ?_ | refine WL.nil ?_ | refine WC.skip ?_ | refine WC.block ?_ | refine WC.condT rfl ?_ | refine WC.condF rfl ?_ | refine WL.off rfl rfl rfl ?_ | refine WL.off0 rfl rfl ?_ | refine WC.exit ?_ | refine blk_hit ?_ | refine blk_miss rfl ?_ | refine WC.ret ?_)
            refine WL.ixload rfl (fun _ => rfl) rfl rfl rfl rfl rfl rfl rfl hv rfl rfl (cE_sl hp6 0 rfl) (nd hok.i hv) ?_
            intro q
            obtain ⟨ki, kl, ko, ka, kp, kk, kc, km, kkl, kpl⟩ := hok
            simp only at ki kl ko ka kp kk kc km kkl kpl
            repeat (first | refine WC.seq ?_ | refine WC.reg ?_ | refine WL.pure rfl rfl rfl ?_ | refine WL.nil ?_ | refine WC.skip ?_ | refine WC.block ?_ | refine WC.condT rfl ?_ | refine WC.condF rfl ?_ | refine WL.off rfl rfl rfl ?_ | refine WL.off0 rfl rfl ?_ | refine WC.exit ?_ | refine blk_hit ?_ | refine blk_miss rfl ?_ | refine WC.ret ?_)
            refine WC.cond rfl (fun c4 => ?_) (fun c4 => ?_)
            · have c4 : ix.getD v 0 = 0 := by simpa using c4
              have stc := wrap_succ (i := ct) (n := ct + 1) (by omega) (by omega)
              refine WC.seq ?_
              refine WC.reg ?_
              refine WL.pure rfl rfl rfl ?_
              refine WL.pure rfl rfl rfl ?_
              refine WL.known (d := 54) (congrArg (fun z => some (Value.int .i64 z)) stc) ?_
              repeat (first | refine WC.seq ?_ | refine WC.reg ?_ | refine WL.pure rfl rfl rfl ?_ | refine WL.nil ?_ | refine WC.skip ?_ | refine WC.block ?_ | refine WC.condT rfl ?_ | refine WC.condF rfl ?_ | refine WL.off rfl rfl rfl ?_ | refine WL.off0 rfl rfl ?_ | refine WC.exit ?_ | refine blk_hit ?_ | refine blk_miss rfl ?_ | refine WC.ret ?_)
              refine WL.ix1 rfl rfl rfl rfl rfl rfl rfl hv ?_
              rw [Nat.zero_add]
              refine WL.store rfl rfl rfl rfl rfl rfl (hp6.obj 0 rfl) (cE_room ki hv) (fun w7 h7 => ?_)
              have hp7 := cE_set hp6 0 rfl rfl h7
              refine WL.ix1 rfl rfl rfl rfl rfl rfl rfl hv ?_
              rw [Nat.zero_add]
              refine WL.store rfl rfl rfl rfl rfl rfl (hp7.obj 1 rfl) (cE_room kl hv) (fun w8 h8 => ?_)
              have hp8 := cE_set hp7 1 rfl rfl h8
              repeat (first | refine WC.seq ?_ | refine WC.reg ?_ | refine WL.pure rfl rfl rfl ?_ | refine WL.nil ?_ | refine WC.skip ?_ | refine WC.block ?_ | refine WC.condT rfl ?_ | refine WC.condF rfl ?_ | refine WL.off rfl rfl rfl ?_ | refine WL.off0 rfl rfl ?_ | refine WC.exit ?_ | refine blk_hit ?_ | refine blk_miss rfl ?_ | refine WC.ret ?_)
              refine WL.buildS (cs := [.int .i64 (v : Nat)]) rfl rfl rfl rfl rfl rfl rfl rfl rfl (fun b9 w9 h9 => ?_)
              have hp9 := hp8.new h9
              refine WL.append 5 hp9 rfl rfl rfl rfl rfl (by decide) rfl rfl rfl (news := [.int .i64 (v : Nat)]) (Sl.of_obj (hp9.obj 0 rfl) (fun q u hq => by simpa using hq)) rfl (natL_cells [v]) (by unfold maxLen; show sk.length + 1 ≤ _; omega) (by show (sk.length + 1) * 8 ≤ _; omega) ?_
              intro sa2 sc2 w10 hp10 _
              repeat (first | refine WC.seq ?_ | refine WC.reg ?_ | refine WL.pure rfl rfl rfl ?_ | refine WL.nil ?_ | refine WC.skip ?_ | refine WC.block ?_ | refine WC.condT rfl ?_ | refine WC.condF rfl ?_ | refine WL.off rfl rfl rfl ?_ | refine WL.off0 rfl rfl ?_ | refine WC.exit ?_ | refine blk_hit ?_ | refine blk_miss rfl ?_ | refine WC.ret ?_)
              refine ⟨(⟨ix.set v (ct + 1), lw.set v (ct + 1), of0, at0, v :: sk, v :: rest, ct + 1, nm⟩, sa2, sc2), ⟨rfl, rfl, rfl, rfl, rfl, rfl, rfl, rfl, rfl, rfl, rfl, rfl, rfl, rfl⟩, ?_, ?_, km, ?_⟩
              · show _ = tjEnter _ _
                unfold tjEnter
                rw [if_pos c4]
              · exact ⟨by simpa using ki, by simpa using kl, ko, ka, kp, mem_set kk hv, by show ct + 1 + f0 ≤ F; omega, by show nm + f0 ≤ F; omega, by show sk.length + 1 + f0 ≤ F; omega, by show (v :: rest).length + f0 ≤ F + 1; omega⟩
              · show Hp w w10 [_, _, _, _, stE sa2 sc2 (v :: sk), _]
                rw [stE_push]
                exact hp10.tail
            · have c4 : ¬ ix.getD v 0 = 0 := by simpa using c4
              repeat (first | refine WC.seq ?_ | refine WC.reg ?_ | refine WL.pure rfl rfl rfl ?_ | refine WL.nil ?_ | refine WC.skip ?_ | refine WC.block ?_ | refine WC.condT rfl ?_ | refine WC.condF rfl ?_ | refine WL.off rfl rfl rfl ?_ | refine WL.off0 rfl rfl ?_ | refine WC.exit ?_ | refine blk_hit ?_ | refine blk_miss rfl ?_ | refine WC.ret ?_)
              refine ⟨(⟨ix, lw, of0, at0, sk, v :: rest, ct, nm⟩, sa, sc), ⟨rfl, rfl, rfl, rfl, rfl, rfl, rfl, rfl, rfl, rfl, rfl, rfl, rfl, rfl⟩, ?_, ?_, km, hp6⟩
              · show _ = tjEnter _ _
                unfold tjEnter
                rw [if_neg c4]
              · exact ⟨ki, kl, ko, ka, kp, kk, by show ct + f0 ≤ F; omega, by show nm + f0 ≤ F; omega, by show sk.length + f0 ≤ F; omega, by show (v :: rest).length + f0 ≤ F + 1; omega⟩
          rintro ⟨s1, sa, sc⟩ e7 w7 hsub ⟨hs1, hok, hnm, hp7⟩
          replace hnm : s1.number + (f0 + 1) ≤ F := hnm
          replace hs1 : s1 = tjEnter ⟨ix, lw, of0, at0, sk, v :: rest, ct, nm⟩ v := hs1
          replace hok : TjOk N F s1 f0 := hok
          replace hp7 : Hp w w7 (cpL ib lb ob ab s1 sa sc pa pc) := hp7
          refine WC.sub hsub ?_
          clear hsub e7 hp6
          rw [← hs1] at hturn
          have hpth : s1.path = v :: rest := by rw [hs1, tjEnter_path]
          clear hs1 e45
          obtain ⟨ix, lw, of0, at0, sk, pth, ct, nm⟩ := s1
          simp only at hpth
          subst hpth
          simp only at hnm
          obtain ⟨ki, kl, ko, ka, kp, kk, kc, km, kkl, kpl⟩ := hok
          simp only at ki kl ko ka kp kk kc km kkl kpl
          have e45 : IntKind.i64.wrap (((v :: rest).length : Nat) - 1 : Int) = ((rest.length : Nat) : Int) := by
            simp only [List.length_cons] at kpl ⊢
            rw [wrap_mid (by omega) (by omega)]; omega
          have hvr : v < rs.length := by omega
          have hrb := hrow _ (List.getElem_mem hvr)
          have hrin := hin _ (List.getElem_mem hvr)
          have hrs := hT.rows _ (List.getElem_mem hvr)
          obtain ⟨ta, to, hta, htc⟩ := hT.tab _ _ (rsV_at hvr)
          unfold tjTurn at hturn
          rw [rsN_at hvr] at hturn
          generalize rs[v] = r at *
          obtain ⟨ra, rc, row⟩ := r
          simp only at hrb hrin hrs htc hturn
          subst hta
          refine WC.seq ?_
          refine WC.seq ?_
          refine WC.regQ (fun w' => Hp w w' (cpL ib lb ob ab ⟨ix, lw, of0, at0, sk, v :: rest, ct, nm⟩ sa sc pa pc)) mixed (by kernel_rfl) (fun w' hw' => hp7.keep hw') ?_
          repeat (first | refine WQ.pure rfl rfl rfl ?_ | refine WQ.off rfl rfl rfl ?_ | refine WQ.nil ?_)
          refine WQ.ixload rfl (fun _ => rfl) rfl rfl rfl rfl rfl rfl rfl hv rfl rfl (fun w' h => Sl.cell (cE_sl h 3 rfl) (nd ka hv)) ?_
          repeat (first | refine WQ.pure rfl rfl rfl ?_ | refine WQ.off rfl rfl rfl ?_ | refine WQ.nil ?_)
          refine WQ.ixload rfl (fun _ => rfl) rfl rfl rfl rfl rfl rfl rfl hv rfl rfl (fun w' h => cell_below h.below htc) ?_
          repeat (first | refine WQ.pure rfl rfl rfl ?_ | refine WQ.off rfl rfl rfl ?_ | refine WQ.nil ?_)
          intro w8 hp8
          clear hp7
          refine WC.cond rfl (fun c5 => ?_) (fun c5 => ?_)
          · have c5 : at0.getD v 0 < row.length := by have h : ((at0.getD v 0 : Nat) : Int) < ((row.length : Nat) : Int) := of_decide_eq_true c5; omega
            rw [if_pos c5] at hturn
            obtain ⟨u, hu⟩ : ∃ u, u = row.getD (at0.getD v 0) 0 := ⟨_, rfl⟩
            rw [← hu] at hturn
            have hu1 : row[at0.getD v 0]? = some u := by rw [hu]; exact getD_some c5
            have huN : u < N := hrin u (List.mem_of_getElem? hu1)
            have hun : (natL row)[at0.getD v 0]? = some (.int .i64 (u : Nat)) := by rw [natL_get c5, hu]
            obtain ⟨rb, ro, rfl, hrcell⟩ := hrs _ _ hun
            have sta := wrap_succ (i := at0.getD v 0) (n := at0.getD v 0 + 1) (by omega) (by omega)
            simp only [Option.some.injEq] at hturn
            repeat (first | refine WC.seq ?_ | refine WC.skip ?_ | refine WC.block ?_)
            refine WC.regQ (fun w' => Hp w w' (cpL ib lb ob ab ⟨ix, lw, of0, at0, sk, v :: rest, ct, nm⟩ sa sc pa pc)) mixed (by kernel_rfl) (fun w' hw' => hp8.keep hw') ?_
            repeat (first | refine WQ.pure rfl rfl rfl ?_ | refine WQ.off rfl rfl rfl ?_ | refine WQ.nil ?_)
            refine WQ.ixload rfl (fun _ => rfl) rfl rfl rfl rfl rfl rfl rfl hv rfl rfl (fun w' h => cell_below h.below htc) ?_
            repeat (first | refine WQ.pure rfl rfl rfl ?_ | refine WQ.off rfl rfl rfl ?_ | refine WQ.nil ?_)
            refine WQ.ixload rfl (fun _ => rfl) rfl rfl rfl rfl rfl rfl rfl hv rfl rfl (fun w' h => Sl.cell (cE_sl h 3 rfl) (nd ka hv)) ?_
            refine WQ.ixload rfl (fun _ => rfl) rfl rfl rfl rfl rfl rfl rfl c5 rfl rfl (fun w' h => cell_below h.below hrcell) ?_
            repeat (first | refine WQ.pure rfl rfl rfl ?_ | refine WQ.off rfl rfl rfl ?_ | refine WQ.nil ?_)
            intro w9 hp9
            clear hp8
            repeat (first | refine WC.seq ?_ | refine WC.reg ?_ | refine WL.pure rfl rfl rfl ?_ | refine WL.nil ?_ | refine WC.skip ?_ | refine WC.block ?_ | refine WC.condT rfl ?_ | refine WC.condF rfl ?_ | refine WL.off rfl rfl rfl ?_ | refine WL.off0 rfl rfl ?_ | refine WC.exit ?_ | refine blk_hit ?_ | refine blk_miss rfl ?_ | refine WC.ret ?_)
            refine WL.ixload rfl (fun _ => rfl) rfl rfl rfl rfl rfl rfl rfl hv rfl rfl (cE_sl hp9 3 rfl) (nd ka hv) ?_
            intro q
            refine WL.pure rfl rfl rfl ?_
            refine WL.known (d := 91) (congrArg (fun z => some (Value.int .i64 z)) sta) ?_
            refine WL.ix1 rfl rfl rfl rfl rfl rfl rfl hv ?_
            rw [Nat.zero_add]
            refine WL.store rfl rfl rfl rfl rfl rfl (hp9.obj 3 rfl) (cE_room ka hv) (fun w10 h10 => ?_)
            have hp10 : Hp w w10 (cpL ib lb ob ab ⟨ix, lw, of0, at0.set v (at0.getD v 0 + 1), sk, v :: rest, ct, nm⟩ sa sc pa pc) := cE_set hp9 3 rfl rfl h10
            repeat (first | refine WC.seq ?_ | refine WC.reg ?_ | refine WL.pure rfl rfl rfl ?_ | refine WL.nil ?_ | refine WC.skip ?_ | refine WC.block ?_ | refine WC.condT rfl ?_ | refine WC.condF rfl ?_ | refine WL.off rfl rfl rfl ?_ | refine WL.off0 rfl rfl ?_ | refine WC.exit ?_ | refine blk_hit ?_ | refine blk_miss rfl ?_ | refine WC.ret ?_)
            refine WL.ixload rfl (fun _ => rfl) rfl rfl rfl rfl rfl rfl rfl huN rfl rfl (cE_sl hp10 0 rfl) (nd ki huN) ?_
            intro q
            repeat (first | refine WC.seq ?_ | refine WC.reg ?_ | refine WL.pure rfl rfl rfl ?_ | refine WL.nil ?_ | refine WC.skip ?_ | refine WC.block ?_ | refine WC.condT rfl ?_ | refine WC.condF rfl ?_ | refine WL.off rfl rfl rfl ?_ | refine WL.off0 rfl rfl ?_ | refine WC.exit ?_ | refine blk_hit ?_ | refine blk_miss rfl ?_ | refine WC.ret ?_)
            unfold tjGo tjNext at hturn
            simp only at hturn
            refine WC.cond rfl (fun c6 => ?_) (fun c6 => ?_)
            · have c6 : ix.getD u 0 = 0 := by simpa using c6
              rw [if_pos c6] at hturn
              subst hturn
              repeat (first | refine WC.seq ?_ | refine WC.reg ?_ | refine WL.pure rfl rfl rfl ?_ | refine WL.nil ?_ | refine WC.skip ?_ | refine WC.block ?_ | refine WC.condT rfl ?_ | refine WC.condF rfl ?_ | refine WL.off rfl rfl rfl ?_ | refine WL.off0 rfl rfl ?_ | refine WC.exit ?_ | refine blk_hit ?_ | refine blk_miss rfl ?_ | refine WC.ret ?_)
              refine WL.buildS (cs := [.int .i64 (u : Nat)]) rfl rfl rfl rfl rfl rfl rfl rfl rfl (fun b11 w11 h11 => ?_)
              have hp11 := hp10.new h11
              refine WL.append 6 hp11 rfl rfl rfl rfl rfl (by decide) rfl rfl rfl (news := [.int .i64 (u : Nat)]) (Sl.of_obj (hp11.obj 0 rfl) (fun q u hq => by simpa using hq)) rfl (natL_cells [u]) (by unfold maxLen; show (v :: rest).length + 1 ≤ _; omega) (by show ((v :: rest).length + 1) * 8 ≤ _; omega) ?_
              intro pa2 pc2 w12 hp12 _
              repeat (first | refine WC.seq ?_ | refine WC.reg ?_ | refine WL.pure rfl rfl rfl ?_ | refine WL.nil ?_ | refine WC.skip ?_ | refine WC.block ?_ | refine WC.condT rfl ?_ | refine WC.condF rfl ?_ | refine WL.off rfl rfl rfl ?_ | refine WL.off0 rfl rfl ?_ | refine WC.exit ?_ | refine blk_hit ?_ | refine blk_miss rfl ?_ | refine WC.ret ?_)
              refine ⟨(f0, ⟨ix, lw, of0, at0.set v (at0.getD v 0 + 1), sk, u :: v :: rest, ct, nm⟩, sa, sc, pa2, pc2), Nat.lt_succ_self f0, ⟨rfl, rfl, rfl, rfl, rfl, rfl, rfl, rfl, rfl, rfl, rfl, rfl, rfl⟩, hR2, ?_, ?_⟩
              · exact ⟨ki, kl, ko, by simpa using ka, mem_set kp huN, kk, kc, km, kkl, by show rest.length + 1 + 1 + f0 ≤ F + 1; omega⟩
              · show Hp w w12 [_, _, _, _, _, stE pa2 pc2 (u :: v :: rest)]
                rw [stE_push]
                exact hp12.tail
            · have c6 : ¬ ix.getD u 0 = 0 := by simpa using c6
              rw [if_neg c6] at hturn
              repeat (first | refine WC.seq ?_ | refine WC.reg ?_ | refine WL.pure rfl rfl rfl ?_ | refine WL.nil ?_ | refine WC.skip ?_ | refine WC.block ?_ | refine WC.condT rfl ?_ | refine WC.condF rfl ?_ | refine WL.off rfl rfl rfl ?_ | refine WL.off0 rfl rfl ?_ | refine WC.exit ?_ | refine blk_hit ?_ | refine blk_miss rfl ?_ | refine WC.ret ?_)
              refine WL.ixload rfl (fun _ => rfl) rfl rfl rfl rfl rfl rfl rfl huN rfl rfl (cE_sl hp10 2 rfl) (nd ko huN) ?_
              intro q
              repeat (first | refine WC.seq ?_ | refine WC.reg ?_ | refine WL.pure rfl rfl rfl ?_ | refine WL.nil ?_ | refine WC.skip ?_ | refine WC.block ?_ | refine WC.condT rfl ?_ | refine WC.condF rfl ?_ | refine WL.off rfl rfl rfl ?_ | refine WL.off0 rfl rfl ?_ | refine WC.exit ?_ | refine blk_hit ?_ | refine blk_miss rfl ?_ | refine WC.ret ?_)
              refine WC.cond rfl (fun c7 => ?_) (fun c7 => ?_)
              · have c7 : of0.getD u 0 = 0 := by simpa using c7
                rw [if_pos c7] at hturn
                subst hturn
                refine WC.regS 12 mixed (by kernel_rfl) rfl rfl (fun w11 hw11 hh11 => ?_)
                have hp11 := hp10.keep hw11
                repeat (first | refine WS.pure rfl rfl rfl ?_ | refine WS.off rfl rfl rfl ?_ | refine WS.nil ?_)
                refine WS.ix1 rfl rfl rfl rfl rfl rfl rfl hv ?_
                refine WS.load rfl rfl rfl rfl rfl (Sl.cell (cE_sl hp11 1 rfl) (nd kl hv)) ?_
                repeat (first | refine WS.pure rfl rfl rfl ?_ | refine WS.off rfl rfl rfl ?_ | refine WS.nil ?_)
                refine WS.ix1 rfl rfl rfl rfl rfl rfl rfl huN ?_
                refine WS.load rfl rfl rfl rfl rfl (Sl.cell (cE_sl hp11 0 rfl) (nd ki huN)) ?_
                repeat (first | refine WS.pure rfl rfl rfl ?_ | refine WS.off rfl rfl rfl ?_ | refine WS.nil ?_)
                refine WS.known (d := 117) (congrArg (fun z => some (Value.int .i64 z)) (cast_min (lw.getD v 0) (ix.getD u 0))) ?_
                refine WS.ix1 rfl rfl rfl rfl rfl rfl rfl hv ?_
                rw [Nat.zero_add]
                repeat (first | refine WS.pure rfl rfl rfl ?_ | refine WS.off rfl rfl rfl ?_ | refine WS.nil ?_)
                refine WL.store rfl rfl rfl rfl rfl rfl (hp11.obj 1 rfl) (cE_room kl hv) (fun w12 h12 => ?_)
                have hp12 : Hp w w12 (cpL ib lb ob ab ⟨ix, lw.set v (min (lw.getD v 0) (ix.getD u 0)), of0, at0.set v (at0.getD v 0 + 1), sk, v :: rest, ct, nm⟩ sa sc pa pc) := cE_set hp11 1 rfl rfl h12
                repeat (first | refine WC.seq ?_ | refine WC.reg ?_ | refine WL.pure rfl rfl rfl ?_ | refine WL.nil ?_ | refine WC.skip ?_ | refine WC.block ?_ | refine WC.condT rfl ?_ | refine WC.condF rfl ?_ | refine WL.off rfl rfl rfl ?_ | refine WL.off0 rfl rfl ?_ | refine WC.exit ?_ | refine blk_hit ?_ | refine blk_miss rfl ?_ | refine WC.ret ?_)
                exact ⟨(f0, ⟨ix, lw.set v (min (lw.getD v 0) (ix.getD u 0)), of0, at0.set v (at0.getD v 0 + 1), sk, v :: rest, ct, nm⟩, sa, sc, pa, pc), Nat.lt_succ_self f0, ⟨rfl, rfl, rfl, rfl, rfl, rfl, rfl, rfl, rfl, rfl, rfl, rfl, rfl⟩, hR2, ⟨ki, by simpa using kl, ko, by simpa using ka, kp, kk, kc, km, kkl, kpl⟩, hp12⟩
              · have c7 : ¬ of0.getD u 0 = 0 := by simpa using c7
                rw [if_neg c7] at hturn
                subst hturn
                repeat (first | refine WC.seq ?_ | refine WC.reg ?_ | refine WL.pure rfl rfl rfl ?_ | refine WL.nil ?_ | refine WC.skip ?_ | refine WC.block ?_ | refine WC.condT rfl ?_ | refine WC.condF rfl ?_ | refine WL.off rfl rfl rfl ?_ | refine WL.off0 rfl rfl ?_ | refine WC.exit ?_ | refine blk_hit ?_ | refine blk_miss rfl ?_ | refine WC.ret ?_)
                exact ⟨(f0, ⟨ix, lw, of0, at0.set v (at0.getD v 0 + 1), sk, v :: rest, ct, nm⟩, sa, sc, pa, pc), Nat.lt_succ_self f0, ⟨rfl, rfl, rfl, rfl, rfl, rfl, rfl, rfl, rfl, rfl, rfl, rfl, rfl⟩, hR2, ⟨ki, kl, ko, by simpa using ka, kp, kk, kc, km, kkl, kpl⟩, hp10⟩
          · have c5 : ¬ at0.getD v 0 < row.length := by have h : ¬ ((at0.getD v 0 : Nat) : Int) < ((row.length : Nat) : Int) := of_decide_eq_false c5; omega
            rw [if_neg c5] at hturn
            have hpc := hp8.capR 5 rfl
            repeat (first | refine WC.seq ?_ | refine WC.reg ?_ | refine WL.pure rfl rfl rfl ?_ | refine WL.nil ?_ | refine WC.skip ?_ | refine WC.block ?_ | refine WC.condT rfl ?_ | refine WC.condF rfl ?_ | refine WL.off rfl rfl rfl ?_ | refine WL.off0 rfl rfl ?_ | refine WC.exit ?_ | refine blk_hit ?_ | refine blk_miss rfl ?_ | refine WC.ret ?_)
            refine WL.known (d := 122) (congrArg (fun z => some (Value.int .i64 z)) e45) ?_
            refine WL.sliceHi (h := rest.length) rfl rfl rfl rfl rfl rfl (by have : rest.length + 1 ≤ pc := hpc; omega) ?_
            have hp9 : Hp w w8 [cE ib ix, cE lb lw, cE ob of0, cE ab at0, stE sa sc sk, stE pa pc rest] := hp8.rowCut 5 rfl (m := rest.length) (Nat.le_succ _) (by rw [top_take]; rfl)
            clear hp8
            refine WL.pure rfl rfl rfl ?_
            refine WL.nil ?_
            refine WC.seq ?_
            refine WC.mid Tj (fun s => (13, .int .i64 (v : Nat)) :: cpE (some ⟨ta, to, none⟩) cn N ib lb ob ab root s sa sc pa pc)
              (fun s w' => s = tjUp ⟨ix, lw, of0, at0, sk, v :: rest, ct, nm⟩ v rest ∧ TjOk N F s f0 ∧ s.number + (f0 + 1) ≤ F ∧ Hp w w' (cpL ib lb ob ab s sa sc pa pc)) ?_ ?_
            · repeat (first | refine WC.seq ?_ | refine WC.reg ?_ | refine WL.pure rfl rfl rfl ?_ | refine WL.nil ?_ | refine WC.skip ?_ | refine WC.block ?_ | refine WC.condT rfl ?_ | refine WC.condF rfl ?_ | refine WL.off rfl rfl rfl ?_ | refine WL.off0 rfl rfl ?_ | refine WC.exit ?_ | refine blk_hit ?_ | refine blk_miss rfl ?_ | refine WC.ret ?_)
              refine WC.cond rfl (fun c6 => ?_) (fun c6 => ?_)
              · obtain ⟨up, rest2, rfl⟩ : ∃ up rest2, rest = up :: rest2 := by
                  cases rest with
                  | nil => have := of_decide_eq_true c6; simp at this
                  | cons up rest2 => exact ⟨up, rest2, rfl⟩
                have hup : up < N := kp up (by simp)
                have e130 : IntKind.i64.wrap (((up :: rest2).length : Nat) - 1 : Int) = ((rest2.length : Nat) : Int) := by
                  simp only [List.length_cons] at kpl ⊢
                  rw [wrap_mid (by omega) (by omega)]; omega
                repeat (first | refine WC.seq ?_ | refine WC.reg ?_ | refine WL.pure rfl rfl rfl ?_ | refine WL.nil ?_ | refine WC.skip ?_ | refine WC.block ?_ | refine WC.condT rfl ?_ | refine WC.condF rfl ?_ | refine WL.off rfl rfl rfl ?_ | refine WL.off0 rfl rfl ?_ | refine WC.exit ?_ | refine blk_hit ?_ | refine blk_miss rfl ?_ | refine WC.ret ?_)
                refine WL.known (d := 130) (congrArg (fun z => some (Value.int .i64 z)) e130) ?_
                refine WL.ixload (j := rest2.length) rfl (fun _ => rfl) rfl rfl rfl rfl rfl rfl rfl (Nat.lt_succ_self _) rfl rfl (stE_sl hp9 5 rfl) (top_at up rest2) ?_
                intro q
                repeat (first | refine WC.seq ?_ | refine WC.reg ?_ | refine WL.pure rfl rfl rfl ?_ | refine WL.nil ?_ | refine WC.skip ?_ | refine WC.block ?_ | refine WC.condT rfl ?_ | refine WC.condF rfl ?_ | refine WL.off rfl rfl rfl ?_ | refine WL.off0 rfl rfl ?_ | refine WC.exit ?_ | refine blk_hit ?_ | refine blk_miss rfl ?_ | refine WC.ret ?_)
                refine WC.regS 12 mixed (by kernel_rfl) rfl rfl (fun w11 hw11 hh11 => ?_)
                have hp11 := hp9.keep hw11
                repeat (first | refine WS.pure rfl rfl rfl ?_ | refine WS.off rfl rfl rfl ?_ | refine WS.nil ?_)
                refine WS.ix1 rfl rfl rfl rfl rfl rfl rfl hup ?_
                refine WS.load rfl rfl rfl rfl rfl (Sl.cell (cE_sl hp11 1 rfl) (nd kl hup)) ?_
                repeat (first | refine WS.pure rfl rfl rfl ?_ | refine WS.off rfl rfl rfl ?_ | refine WS.nil ?_)
                refine WS.ix1 rfl rfl rfl rfl rfl rfl rfl hv ?_
                refine WS.load rfl rfl rfl rfl rfl (Sl.cell (cE_sl hp11 1 rfl) (nd kl hv)) ?_
                repeat (first | refine WS.pure rfl rfl rfl ?_ | refine WS.off rfl rfl rfl ?_ | refine WS.nil ?_)
                refine WS.known (d := 143) (congrArg (fun z => some (Value.int .i64 z)) (cast_min (lw.getD up 0) (lw.getD v 0))) ?_
                refine WS.ix1 rfl rfl rfl rfl rfl rfl rfl hup ?_
                rw [Nat.zero_add]
                repeat (first | refine WS.pure rfl rfl rfl ?_ | refine WS.off rfl rfl rfl ?_ | refine WS.nil ?_)
                refine WL.store rfl rfl rfl rfl rfl rfl (hp11.obj 1 rfl) (cE_room kl hup) (fun w12 h12 => ?_)
                have hp12 := cE_set hp11 1 rfl rfl h12
                repeat (first | refine WC.seq ?_ | refine WC.reg ?_ | refine WL.pure rfl rfl rfl ?_ | refine WL.nil ?_ | refine WC.skip ?_ | refine WC.block ?_ | refine WC.condT rfl ?_ | refine WC.condF rfl ?_ | refine WL.off rfl rfl rfl ?_ | refine WL.off0 rfl rfl ?_ | refine WC.exit ?_ | refine blk_hit ?_ | refine blk_miss rfl ?_ | refine WC.ret ?_)
                exact ⟨⟨ix, lw.set up (min (lw.getD up 0) (lw.getD v 0)), of0, at0, sk, up :: rest2, ct, nm⟩, ⟨rfl, rfl, rfl, rfl, rfl, rfl, rfl, rfl, rfl, rfl, rfl, rfl, rfl, rfl⟩, rfl, ⟨ki, by simpa using kl, ko, ka, fun x hx => kp x (List.mem_cons_of_mem _ hx), kk, kc, km, kkl, by simp only [List.length_cons] at kpl ⊢; omega⟩, hnm, hp12⟩
              · obtain rfl : rest = [] := by
                  cases rest with
                  | nil => rfl
                  | cons up rest2 => have := of_decide_eq_false c6; simp at this
                repeat (first | refine WC.seq ?_ | refine WC.reg ?_ | refine WL.pure rfl rfl rfl ?_ | refine WL.nil ?_ | refine WC.skip ?_ | refine WC.block ?_ | refine WC.condT rfl ?_ | refine WC.condF rfl ?_ | refine WL.off rfl rfl rfl ?_ | refine WL.off0 rfl rfl ?_ | refine WC.exit ?_ | refine blk_hit ?_ | refine blk_miss rfl ?_ | refine WC.ret ?_)
                exact ⟨⟨ix, lw, of0, at0, sk, [], ct, nm⟩, ⟨rfl, rfl, rfl, rfl, rfl, rfl, rfl, rfl, rfl, rfl, rfl, rfl, rfl, rfl⟩, rfl, ⟨ki, kl, ko, ka, fun x hx => (by cases hx), kk, kc, km, kkl, by simp only [List.length_cons, List.length_nil] at kpl ⊢; omega⟩, hnm, hp9⟩
            rintro s3 e9 w9 hsub ⟨hs3, hok, hnm, hp10⟩
            rw [← hs3] at hturn
            refine WC.sub hsub ?_
            clear hsub e9 hs3 hp9 ki kl ko ka kp kk kc km kkl kpl e45 hpc
            obtain ⟨ix, lw, of0, at0, sk, pth, ct, nm⟩ := s3
            obtain ⟨ki, kl, ko, ka, kp, kk, kc, km, kkl, kpl⟩ := hok
            simp only at ki kl ko ka kp kk kc km kkl kpl hnm
            replace hp10 : Hp w w9 (cpL ib lb ob ab ⟨ix, lw, of0, at0, sk, pth, ct, nm⟩ sa sc pa pc) := hp10
            unfold tjDone at hturn
            simp only at hturn
            refine WC.seq ?_
            refine WC.regQ (fun w' => Hp w w' (cpL ib lb ob ab ⟨ix, lw, of0, at0, sk, pth, ct, nm⟩ sa sc pa pc)) mixed (by kernel_rfl) (fun w' hw' => hp10.keep hw') ?_
            repeat (first | refine WQ.pure rfl rfl rfl ?_ | refine WQ.off rfl rfl rfl ?_ | refine WQ.nil ?_)
            refine WQ.ixload rfl (fun _ => rfl) rfl rfl rfl rfl rfl rfl rfl hv rfl rfl (fun w' h => Sl.cell (cE_sl h 1 rfl) (nd kl hv)) ?_
            repeat (first | refine WQ.pure rfl rfl rfl ?_ | refine WQ.off rfl rfl rfl ?_ | refine WQ.nil ?_)
            refine WQ.ixload rfl (fun _ => rfl) rfl rfl rfl rfl rfl rfl rfl hv rfl rfl (fun w' h => Sl.cell (cE_sl h 0 rfl) (nd ki hv)) ?_
            repeat (first | refine WQ.pure rfl rfl rfl ?_ | refine WQ.off rfl rfl rfl ?_ | refine WQ.nil ?_)
            intro w11 hp11
            clear hp10
            refine WC.cond rfl (fun c6 => ?_) (fun c6 => ?_)
            · have c6 : lw.getD v 0 = ix.getD v 0 := Int.ofNat_inj.1 (beq_iff_eq.1 c6)
              rw [if_pos c6] at hturn
              have stn := wrap_succ (i := nm) (n := nm + 1) (by omega) (by omega)
              cases hpop : popM v (nm + 1) sk of0 with
              | none => rw [hpop] at hturn; cases hturn
              | some ko2 =>
              obtain ⟨k2, o2⟩ := ko2
              rw [hpop] at hturn
              simp only [Option.some.injEq] at hturn
              subst hturn
              refine WC.seq ?_
              refine WC.reg ?_
              refine WL.pure rfl rfl rfl ?_
              refine WL.pure rfl rfl rfl ?_
              refine WL.known (d := 155) (congrArg (fun z => some (Value.int .i64 z)) stn) ?_
              repeat (first | refine WC.seq ?_ | refine WC.reg ?_ | refine WL.pure rfl rfl rfl ?_ | refine WL.nil ?_ | refine WC.skip ?_ | refine WC.block ?_ | refine WC.condT rfl ?_ | refine WC.condF rfl ?_ | refine WL.off rfl rfl rfl ?_ | refine WL.off0 rfl rfl ?_ | refine WC.exit ?_ | refine blk_hit ?_ | refine blk_miss rfl ?_ | refine WC.ret ?_)
              refine WC.loop (List Nat × List Nat × Option Addr × Nat) (fun (sk, o, sa, sc) => (13, .int .i64 (v : Nat)) :: cpE (some ⟨ta, to, none⟩) cn N ib lb ob ab root ⟨ix, lw, o, at0, sk, pth, ct, nm + 1⟩ sa sc pa pc)
                (fun (sk, o, sa, sc) w' => popM v (nm + 1) sk o = some (k2, o2) ∧ o.length = N ∧ (∀ x ∈ sk, x < N) ∧ sk.length + f0 ≤ F ∧ Hp w w' (cpL ib lb ob ab ⟨ix, lw, o, at0, sk, pth, ct, nm + 1⟩ sa sc pa pc)) (fun (sk, _) => sk.length) (sk, of0, sa, sc) ⟨rfl, rfl, rfl, rfl, rfl, rfl, rfl, rfl, rfl, rfl, rfl, rfl, rfl, rfl⟩ ⟨hpop, ko, kk, kkl, hp11⟩ ?_
              clear hp11 hpop kk kkl ko
              rintro ⟨sk, o, sa, sc⟩ w12 ⟨hpop, ko, kk, kkl, hp12⟩
              replace hpop : popM v (nm + 1) sk o = some (k2, o2) := hpop
              replace ko : o.length = N := ko
              replace kk : ∀ x ∈ sk, x < N := kk
              replace kkl : sk.length + f0 ≤ F := kkl
              replace hp12 : Hp w w12 (cpL ib lb ob ab ⟨ix, lw, o, at0, sk, pth, ct, nm + 1⟩ sa sc pa pc) := hp12
              repeat (first | refine WC.seq ?_ | refine WC.reg ?_ | refine WL.pure rfl rfl rfl ?_ | refine WL.nil ?_ | refine WC.skip ?_ | refine WC.block ?_ | refine WC.condT rfl ?_ | refine WC.condF rfl ?_ | refine WL.off rfl rfl rfl ?_ | refine WL.off0 rfl rfl ?_ | refine WC.exit ?_ | refine blk_hit ?_ | refine blk_miss rfl ?_ | refine WC.ret ?_)
              refine WL.ixload rfl (fun _ => rfl) rfl rfl rfl rfl rfl rfl rfl hv rfl rfl (cE_sl hp12 2 rfl) (nd ko hv) ?_
              intro q
              repeat (first | refine WC.seq ?_ | refine WC.reg ?_ | refine WL.pure rfl rfl rfl ?_ | refine WL.nil ?_ | refine WC.skip ?_ | refine WC.block ?_ | refine WC.condT rfl ?_ | refine WC.condF rfl ?_ | refine WL.off rfl rfl rfl ?_ | refine WL.off0 rfl rfl ?_ | refine WC.exit ?_ | refine blk_hit ?_ | refine blk_miss rfl ?_ | refine WC.ret ?_)
              refine WC.cond rfl (fun c7 => ?_) (fun c7 => ?_)
              · have d7 : o.getD v 0 = 0 := by simpa using c7
                obtain ⟨x, sk2, rfl⟩ : ∃ x sk2, sk = x :: sk2 := by
                  cases sk with
                  | nil => unfold popM at hpop; rw [if_pos d7] at hpop; cases hpop
                  | cons x sk2 => exact ⟨x, sk2, rfl⟩
                unfold popM at hpop
                rw [if_pos d7] at hpop
                have hxN : x < N := kk x (by simp)
                have hsc := hp12.capR 4 rfl
                have e165 : IntKind.i64.wrap (((x :: sk2).length : Nat) - 1 : Int) = ((sk2.length : Nat) : Int) := by
                  simp only [List.length_cons] at kkl ⊢
                  rw [wrap_mid (by omega) (by omega)]; omega
                repeat (first | refine WC.seq ?_ | refine WC.reg ?_ | refine WL.pure rfl rfl rfl ?_ | refine WL.nil ?_ | refine WC.skip ?_ | refine WC.block ?_ | refine WC.condT rfl ?_ | refine WC.condF rfl ?_ | refine WL.off rfl rfl rfl ?_ | refine WL.off0 rfl rfl ?_ | refine WC.exit ?_ | refine blk_hit ?_ | refine blk_miss rfl ?_ | refine WC.ret ?_)
                refine WL.known (d := 165) (congrArg (fun z => some (Value.int .i64 z)) e165) ?_
                refine WL.ixload (j := sk2.length) rfl (fun _ => rfl) rfl rfl rfl rfl rfl rfl rfl (Nat.lt_succ_self _) rfl rfl (stE_sl hp12 4 rfl) (top_at x sk2) ?_
                intro q
                refine WL.pure rfl rfl rfl ?_
                refine WL.ix1 rfl rfl rfl rfl rfl rfl rfl hxN ?_
                rw [Nat.zero_add]
                refine WL.store rfl rfl rfl rfl rfl rfl (hp12.obj 2 rfl) (cE_room ko hxN) (fun w13 h13 => ?_)
                have hp13 : Hp w w13 (cpL ib lb ob ab ⟨ix, lw, o.set x (nm + 1), at0, x :: sk2, pth, ct, nm + 1⟩ sa sc pa pc) := cE_set hp12 2 rfl rfl h13
                repeat (first | refine WC.seq ?_ | refine WC.reg ?_ | refine WL.pure rfl rfl rfl ?_ | refine WL.nil ?_ | refine WC.skip ?_ | refine WC.block ?_ | refine WC.condT rfl ?_ | refine WC.condF rfl ?_ | refine WL.off rfl rfl rfl ?_ | refine WL.off0 rfl rfl ?_ | refine WC.exit ?_ | refine blk_hit ?_ | refine blk_miss rfl ?_ | refine WC.ret ?_)
                refine WL.known (d := 173) (congrArg (fun z => some (Value.int .i64 z)) e165) ?_
                refine WL.sliceHi (h := sk2.length) rfl rfl rfl rfl rfl rfl (by have : sk2.length + 1 ≤ sc := hsc; omega) ?_
                have hp14 : Hp w w13 (cpL ib lb ob ab ⟨ix, lw, o.set x (nm + 1), at0, sk2, pth, ct, nm + 1⟩ sa sc pa pc) := hp13.rowCut 4 rfl (m := sk2.length) (Nat.le_succ _) (by rw [top_take]; rfl)
                repeat (first | refine WC.seq ?_ | refine WC.reg ?_ | refine WL.pure rfl rfl rfl ?_ | refine WL.nil ?_ | refine WC.skip ?_ | refine WC.block ?_ | refine WC.condT rfl ?_ | refine WC.condF rfl ?_ | refine WL.off rfl rfl rfl ?_ | refine WL.off0 rfl rfl ?_ | refine WC.exit ?_ | refine blk_hit ?_ | refine blk_miss rfl ?_ | refine WC.ret ?_)
                exact ⟨(sk2, o.set x (nm + 1), sa, sc), Nat.lt_succ_self sk2.length, ⟨rfl, rfl, rfl, rfl, rfl, rfl, rfl, rfl, rfl, rfl, rfl, rfl, rfl, rfl⟩, hpop, by simpa using ko, fun y hy => kk y (List.mem_cons_of_mem _ hy), by simp only [List.length_cons] at kkl; omega, hp14⟩
              · have d7 : ¬ o.getD v 0 = 0 := by simpa using c7
                have hpe : (sk, o) = (k2, o2) := by
                  cases sk with
                  | nil => unfold popM at hpop; rw [if_neg d7] at hpop; simpa using hpop
                  | cons x sk2 => unfold popM at hpop; rw [if_neg d7] at hpop; simpa using hpop
                simp only [Prod.mk.injEq] at hpe
                obtain ⟨rfl, rfl⟩ := hpe
                repeat (first | refine WC.seq ?_ | refine WC.reg ?_ | refine WL.pure rfl rfl rfl ?_ | refine WL.nil ?_ | refine WC.skip ?_ | refine WC.block ?_ | refine WC.condT rfl ?_ | refine WC.condF rfl ?_ | refine WL.off rfl rfl rfl ?_ | refine WL.off0 rfl rfl ?_ | refine WC.exit ?_ | refine blk_hit ?_ | refine blk_miss rfl ?_ | refine WC.ret ?_)
                exact ⟨(f0, ⟨ix, lw, o, at0, sk, pth, ct, nm + 1⟩, sa, sc, pa, pc), Nat.lt_succ_self f0, ⟨rfl, rfl, rfl, rfl, rfl, rfl, rfl, rfl, rfl, rfl, rfl, rfl, rfl⟩, hR2, ⟨ki, kl, ko, ka, kp, kk, kc, by show nm + 1 + f0 ≤ F; omega, kkl, kpl⟩, hp12⟩
            · have c6 : ¬ lw.getD v 0 = ix.getD v 0 := fun h => by rw [h] at c6; simp at c6
              rw [if_neg c6] at hturn
              simp only [Option.some.injEq] at hturn
              subst hturn
              repeat (first | refine WC.seq ?_ | refine WC.reg ?_ | refine WL.pure rfl rfl rfl ?_ | refine WL.nil ?_ | refine WC.skip ?_ | refine WC.block ?_ | refine WC.condT rfl ?_ | refine WC.condF rfl ?_ | refine WL.off rfl rfl rfl ?_ | refine WL.off0 rfl rfl ?_ | refine WC.exit ?_ | refine blk_hit ?_ | refine blk_miss rfl ?_ | refine WC.ret ?_)
              exact ⟨(f0, ⟨ix, lw, of0, at0, sk, pth, ct, nm⟩, sa, sc, pa, pc), Nat.lt_succ_self f0, ⟨rfl, rfl, rfl, rfl, rfl, rfl, rfl, rfl, rfl, rfl, rfl, rfl, rfl⟩, hR2, ⟨ki, kl, ko, ka, kp, kk, kc, km, kkl, kpl⟩, hp11⟩
        · have c3 : pth = [] := List.eq_nil_of_length_eq_zero (by have h : ¬ (0 : Int) < ((pth.length : Nat) : Int) := of_decide_eq_false c3; omega)
          subst c3
          rw [tjRun_nil rfl] at hR
          simp only [Option.some.injEq, Prod.mk.injEq] at hR
          obtain ⟨rfl, rfl⟩ := hR
          repeat (first | refine WC.seq ?_ | refine WC.reg ?_ | refine WL.pure rfl rfl rfl ?_ | refine WL.nil ?_ | refine WC.skip ?_ | refine WC.block ?_ | refine WC.condT rfl ?_ | refine WC.condF rfl ?_ | refine WL.off rfl rfl rfl ?_ | refine WL.off0 rfl rfl ?_ | refine WC.exit ?_ | refine blk_hit ?_ | refine blk_miss rfl ?_ | refine WC.ret ?_)
          exact ⟨(f, ⟨ix, lw, of0, at0, sk, [], ct, nm⟩, sa, sc, pa, pc), ⟨rfl, rfl, rfl, rfl, rfl, rfl, rfl, rfl, rfl, rfl, rfl, rfl, rfl⟩, hC, rfl, hok, hp6⟩
    rintro ⟨f, s, sa, sc, pa, pc⟩ e4 w4 hsub ⟨hC, hpn, hok, hp4⟩
    refine WC.sub hsub ?_
    repeat (first | refine WC.seq ?_ | refine WC.reg ?_ | refine WL.pure rfl rfl rfl ?_ | refine WL.nil ?_ | refine WC.skip ?_ | refine WC.block ?_ | refine WC.condT rfl ?_ | refine WC.condF rfl ?_ | refine WL.off rfl rfl rfl ?_ | refine WL.off0 rfl rfl ?_ | refine WC.exit ?_ | refine blk_hit ?_ | refine blk_miss rfl ?_ | refine WC.ret ?_)
    exact ⟨(root + 1, f, s, sa, sc, pa, pc), (by show N - (root + 1) < N - root; omega), ⟨rfl, rfl, rfl, rfl, rfl, rfl, rfl, rfl, rfl, rfl, rfl, congrArg (fun z => some (Value.int .i64 z)) step, rfl⟩, hr, hC, hpn, hok, hp4⟩
  · have hr : root = N := by have := of_decide_eq_false c1; omega
    subst hr
    rw [Nat.sub_self] at hC
    unfold compRoots at hC
    simp only [Option.some.injEq] at hC
    subst hC
    subst hsF
    repeat (first | refine WC.seq ?_ | refine WC.reg ?_ | refine WL.pure rfl rfl rfl ?_ | refine WL.nil ?_ | refine WC.skip ?_ | refine WC.block ?_ | refine WC.condT rfl ?_ | refine WC.condF rfl ?_ | refine WL.off rfl rfl rfl ?_ | refine WL.off0 rfl rfl ?_ | refine WC.exit ?_ | refine blk_hit ?_ | refine blk_miss rfl ?_ | refine WC.ret ?_)
    exact Res.one rfl rfl rfl ⟨ob, rfl, hok.o, hp3.pick [2] (by decide)⟩
end Go.Proofs.YtpbbneclkhfgoaaDoor
end
section
/- ltl, twenty-fourth: way. -/
namespace Go.W
open Go.RowKit
theorem Hp.rowSome {w0 w : World} {L : List Ent} {E s n c : Nat} {a : Option Addr} {xs : List Value} (h : Hp w0 w L) (i : Nat) (hi : nth L i = some (.row E s (.slice a n c) n xs)) (hn : 0 < n) : ∃ b, a = some ⟨b, 0, none⟩ := by
  obtain ⟨_, ⟨_, h0⟩ | ⟨b, _, _, hv, _⟩⟩ := h.at i hi
  · omega
  · simp only [Value.slice.injEq] at hv
    exact ⟨b, hv.1⟩
end Go.W
namespace Go.Ltl
open Go.W
/-- What is known of who was before whom, and of the states still to look at. -/
structure BefOk (N : Nat) (B : Bef) (q : List Nat) : Prop where
  nd : (B.map (·.1)).Nodup
  key : ∀ p ∈ B, p.1 < N
  qb : ∀ x ∈ q, x < N
  len : q.length ≤ B.length
theorem lkB_none {B : Bef} {u : Nat} (h : lkB B u = none) : u ∉ B.map (·.1) := by
  induction B with
  | nil => simp
  | cons p r ih =>
    unfold lkB at h
    split at h
    · cases h
    · rename_i hk
      simp only [List.map_cons, List.mem_cons, not_or]
      exact ⟨hk, ih h⟩
theorem BefOk.small {N : Nat} {B : Bef} {q : List Nat} (h : BefOk N B q) : q.length ≤ N := by
  have h1 := h.nd.length_le_of_subset (l₂ := List.range N) (fun x hx => by
    obtain ⟨p, hp, rfl⟩ := List.mem_map.1 hx
    exact List.mem_range.2 (h.key p hp))
  rw [List.length_map, List.length_range] at h1
  exact Nat.le_trans h.len h1
theorem BefOk.add {N : Nat} {B : Bef} {q : List Nat} (h : BefOk N B q) {u : Nat} {par : Int} (hu : u < N) (hn : lkB B u = none) : BefOk N (B ++ [(u, par)]) (q ++ [u]) := by
  refine ⟨?_, ?_, ?_, by simp [h.len]⟩
  · rw [List.map_append, List.nodup_append]
    refine ⟨h.nd, by simp, ?_⟩
    intro a ha b hb e
    simp only [List.map_cons, List.map_nil, List.mem_singleton] at hb
    subst hb
    subst e
    exact lkB_none hn ha
  · intro p hp
    rcases List.mem_append.1 hp with hp | hp
    · exact h.key p hp
    · rw [List.mem_singleton.1 hp]; exact hu
  · intro x hx
    rcases List.mem_append.1 hx with hx | hx
    · exact h.qb x hx
    · rw [List.mem_singleton.1 hx]; exact hu
theorem BefOk.tail {N : Nat} {B : Bef} {v : Nat} {q : List Nat} (h : BefOk N B (v :: q)) : BefOk N B q := ⟨h.nd, h.key, fun x hx => h.qb x (List.mem_cons_of_mem _ hx), by have := h.len; simp only [List.length_cons] at this; omega⟩
theorem addM_no {may : Nat → Bool} {par : Int} {B : Bef} {q : List Nat} {u : Nat} (h : ¬ ((lkB B u).isNone && may u) = true) : addM may par (B, q) u = (B, q) := by unfold addM; rw [if_neg h]
theorem addM_yes {may : Nat → Bool} {par : Int} {B : Bef} {q : List Nat} {u : Nat} (h : ((lkB B u).isNone && may u) = true) : addM may par (B, q) u = (B ++ [(u, par)], q ++ [u]) := by unfold addM; rw [if_pos h]
theorem backM_ne {B : Bef} : ∀ (f v : Nat) (out l : List Nat), out ≠ [] → backM B f v out = some l → l ≠ [] := by
  intro f
  induction f with
  | zero =>
    intro v out l h1 h
    unfold backM at h
    split at h
    · cases h
    · simp only [Option.some.injEq] at h; rw [← h]; exact h1
  | succ f ih =>
    intro v out l h1 h
    unfold backM at h
    split at h
    · exact ih _ _ _ (List.cons_ne_nil _ _) h
    · simp only [Option.some.injEq] at h; rw [← h]; exact h1
theorem backM_go {B : Bef} {f v : Nat} {out l : List Nat} (h : backM B f v out = some l) (hx : 0 ≤ (lkB B v).getD 0) : ∃ f0, f = f0 + 1 ∧ backM B f0 ((lkB B v).getD 0).toNat (((lkB B v).getD 0).toNat :: out) = some l := by
  cases f with
  | zero => unfold backM at h; rw [if_pos hx] at h; cases h
  | succ f => unfold backM at h; rw [if_pos hx] at h; exact ⟨f, rfl, h⟩
theorem backM_end {B : Bef} {f v : Nat} {out l : List Nat} (h : backM B f v out = some l) (hx : ¬ 0 ≤ (lkB B v).getD 0) : out = l := by
  cases f with
  | zero => unfold backM at h; rw [if_neg hx] at h; simpa using h
  | succ f => unfold backM at h; rw [if_neg hx] at h; simpa using h
end Go.Ltl
namespace Go.Proofs.YtpbbneclkhfgoaaDoor
open Go.W Go.Ltl Go.RowKit
set_option maxRecDepth 100000
attribute [local irreducible] WC WL WQ WS WH

def bV (B : Bef) : List (Int × Value) := B.map fun p => ((p.1 : Int), Value.int .i64 p.2)
theorem lkB_get (B : Bef) (k : Nat) : lkB B k = kGet B k := by
  induction B with
  | nil => rfl
  | cons p r ih => unfold lkB kGet; rw [ih]
theorem bV_get (B : Bef) (k : Nat) : kGet (bV B) (k : Int) = (lkB B k).map (Value.int .i64) := by
  rw [lkB_get]
  exact kGet_map (fun (n : Nat) => (n : Int)) (Value.int .i64) (fun a b h => Int.ofNat_inj.1 h) B k
theorem bV_put {B : Bef} {k : Nat} (x : Int) (h : lkB B k = none) : kPut (bV B) (k : Int) (Value.int .i64 x) = bV (B ++ [(k, x)]) := by
  rw [kPut_none _ _ _ (by rw [bV_get, h]; rfl)]
  simp [bV]
abbrev mE (mb : Nat) (B : Bef) : Ent := .blk mb (mapO iKey (bV B))
section
variable {P : Program} [T : TT P] {ro : Option Nat} {n : Nat} {l0 rest : List Oper} {N : Nor} {Z : Pan} {e : Env} {w : World} {ty : TypeId} {pos : String} {aft : Array Edge} {g : Option (Nat × Bool)}
/-- append of a number to a queue of numbers. -/
theorem WL.appN {d : Nat} {s y : Operand} {t : TypeId} {i : TI} {z : Value} {s0 b0 : Nat} {w0 : World} {A Q : List Ent} {qa : Option Addr} {qc u : Nat} {q : List Nat} {a : Addr} {c : Nat}
    (hg : grd l0 e g = some true) (hd : Nat.blt d n = true) (ht : T.ti t = some ⟨.slice 3, z, s0, b0⟩) (hi : T.ti 3 = some i) (hzs : i.zero.cells.size = 1) (hsz : i.size = 1)
    (hsv : opv e s = some (.slice qa q.length qc)) (hyv : opv e y = some (.slice (some a) 1 c)) (hp : Hp w0 w (A ++ Q)) (hq : Quo 3 (.slice qa q.length qc) (natL q) Q) (hx : w.cell? a = some (.int .i64 (u : Nat))) (hn : q.length ≤ 1000000000) (hb : i.bytes ≤ 16)
    (h : ∀ qa' qc' w' Q', Hp w0 w' (A ++ Q') → Quo 3 (.slice qa' (q ++ [u]).length qc') (natL (q ++ [u])) Q' → Go.W.WL P ro n l0 N Z rest ((d, .slice qa' (q ++ [u]).length qc') :: e) w') :
    Go.W.WL P ro n l0 N Z (⟨some d, .call ⟨.builtin .append, #[s, y], #[t, t]⟩, ty, pos, aft, g⟩ :: rest) e w := by
  refine Go.W.WL.appQ hg hd ht hi hzs hsz hsv hyv hp hq hx rfl (by rw [natL_len]; exact hn) hb ?_
  intro v' w' Q' hp' hq'
  rw [show natL q ++ [Value.int .i64 (u : Nat)] = natL (q ++ [u]) from by simp [natL]] at hq'
  obtain ⟨a', c', rfl, _⟩ := hq'.shape
  rw [natL_len] at hq' ⊢
  exact h a' c' w' Q' hp' hq'
end
/-- What a way is answered by. -/
def WayR (r : Option (List Nat)) (w : World) (u : Value) (w' : World) : Prop := match r with
  | none => u = .slice none 0 0 ∧ Hp w w' []
  | some l => l ≠ [] ∧ ∃ b c, u = .slice (some ⟨b, 0, none⟩) l.length c ∧ Hp w w' [Rna (.slice (some ⟨b, 0, none⟩) l.length c) l.length l]
abbrev wyE (an : Option Addr) (cn N : Nat) (mf : FuncId) (mc : List Value) (ff : FuncId) (fc : List Value) (mb : Nat) (q : List Nat) (qa : Option Addr) (qc : Nat) : Env :=
  [(0, .slice an N cn), (2, .func (.func mf) #[] mc.toArray), (3, .func (.func ff) #[] fc.toArray), (9, .map (some mb)), (10, .slice qa q.length qc)]

theorem way_any (an : Option Addr) (cn N : Nat) (rs : Nrs) (w : World) (hN : rs.length = N) (hT : Tbl w an rs) (hn : N ≤ 65536) (hrow : ∀ x ∈ rs, x.2.2.length ≤ 1048576) (hin : ∀ x ∈ rs, ∀ u ∈ x.2.2, u < N)
    (fa : Option Addr) (fcap : Nat) (start : List Nat) (hS : Sl w fa (natL start)) (hsl : start.length ≤ 1048576) (hst : ∀ u ∈ start, u < N)
    (mf : FuncId) (mc : List Value) (may : Nat → Bool) (hmE : Ents Tryd.prog mf) (hmay : ∀ (v : Nat) w', v < N → Hp w w' [] → Ret Tryd.prog mf (.int .i64 (v : Nat) :: mc) w' fun u w'' => u = .bool (may v) ∧ Hp w' w'' [])
    (ff : FuncId) (fc : List Value) (fits : Nat → Bool) (hfE : Ents Tryd.prog ff) (hfits : ∀ (v : Nat) w', v < N → Hp w w' [] → Ret Tryd.prog ff (.int .i64 (v : Nat) :: fc) w' fun u w'' => u = .bool (fits v) ∧ Hp w' w'' [])
    (F : Nat) (hF : F ≤ 1099511627776) (r : Option (List Nat)) (hM : wayM F (rsN rs) start may fits = some r) :
    Ret Tryd.prog 90 [.slice an N cn, .slice fa start.length fcap, .func (.func mf) #[] mc.toArray, .func (.func ff) #[] fc.toArray] w fun u w' => WayR r w u w' := by
  refine enter Tryd.func90 rfl rfl ⟨rfl, rfl⟩ rfl ?_
  repeat (first | refine WC.seq ?_ | refine WC.reg ?_ | refine WL.pure rfl rfl rfl ?_ | refine WL.nil ?_ | refine WC.skip ?_ | refine WC.block ?_ | refine WC.condT rfl ?_ | refine WC.condF rfl ?_ | refine WL.off rfl rfl rfl ?_ | refine WL.off0 rfl rfl ?_ | refine WC.exit ?_ | refine blk_hit ?_ | refine blk_miss rfl ?_ | refine WC.ret ?_)
  refine WL.makeMap rfl rfl ?_
  intro mb w1 h1
  have hp1 : Hp w w1 ([mE mb []] ++ []) := (Hp.start w).new h1
  repeat (first | refine WC.seq ?_ | refine WC.reg ?_ | refine WL.pure rfl rfl rfl ?_ | refine WL.nil ?_ | refine WC.skip ?_ | refine WC.block ?_ | refine WC.condT rfl ?_ | refine WC.condF rfl ?_ | refine WL.off rfl rfl rfl ?_ | refine WL.off0 rfl rfl ?_ | refine WC.exit ?_ | refine blk_hit ?_ | refine blk_miss rfl ?_ | refine WC.ret ?_)
  refine WC.loop (Nat × Bef × List Nat × Option Addr × Nat × List Ent) (fun (i, B, q, qa, qc, Q) => [(22, .slice fa start.length fcap), (23, .int .i64 (start.length : Nat)), (24, .int .i64 (i : Nat))] ++ wyE an cn N mf mc ff fc mb q qa qc)
    (fun (i, B, q, qa, qc, Q) w' => i ≤ start.length ∧ (start.take i).foldl (addM may (-1)) ([], []) = (B, q) ∧ BefOk N B q ∧ Quo 3 (.slice qa q.length qc) (natL q) Q ∧ Hp w w' ([mE mb B] ++ Q)) (fun (i, _) => start.length - i) (0, [], [], none, 0, []) ⟨rfl, rfl, rfl, rfl, rfl, rfl, rfl, rfl, rfl⟩
    ⟨Nat.zero_le _, rfl, ⟨List.nodup_nil, fun p h => (by cases h), fun p h => (by cases h), Nat.le_refl _⟩, Quo.nil _, hp1⟩ ?_
  clear hp1
  rintro ⟨i, B, q, qa, qc, Q⟩ w2 ⟨hi, hB, hok, hQ, hp2⟩
  replace hi : i ≤ start.length := hi
  replace hB : (start.take i).foldl (addM may (-1)) ([], []) = (B, q) := hB
  replace hok : BefOk N B q := hok
  replace hQ : Quo 3 (.slice qa q.length qc) (natL q) Q := hQ
  replace hp2 : Hp w w2 ([mE mb B] ++ Q) := hp2
  have hqs := hok.small
  repeat (first | refine WC.seq ?_ | refine WC.reg ?_ | refine WL.pure rfl rfl rfl ?_ | refine WL.nil ?_ | refine WC.skip ?_ | refine WC.block ?_ | refine WC.condT rfl ?_ | refine WC.condF rfl ?_ | refine WL.off rfl rfl rfl ?_ | refine WL.off0 rfl rfl ?_ | refine WC.exit ?_ | refine blk_hit ?_ | refine blk_miss rfl ?_ | refine WC.ret ?_)
  refine WC.cond rfl (fun c1 => ?_) (fun c1 => ?_)
  · have hi : i < start.length := by have := of_decide_eq_true c1; omega
    have step := wrap_succ (i := i) (n := i + 1) (by omega) (by omega)
    obtain ⟨u, hu⟩ : ∃ u, u = start[i] := ⟨_, rfl⟩
    have huN : u < N := by rw [hu]; exact hst _ (List.getElem_mem hi)
    have hB' : (start.take (i + 1)).foldl (addM may (-1)) ([], []) = addM may (-1) (B, q) u := by rw [List.take_succ_eq_append_getElem hi, List.foldl_append, hB, ← hu]; rfl
    repeat (first | refine WC.seq ?_ | refine WC.reg ?_ | refine WL.pure rfl rfl rfl ?_ | refine WL.nil ?_ | refine WC.skip ?_ | refine WC.block ?_ | refine WC.condT rfl ?_ | refine WC.condF rfl ?_ | refine WL.off rfl rfl rfl ?_ | refine WL.off0 rfl rfl ?_ | refine WC.exit ?_ | refine blk_hit ?_ | refine blk_miss rfl ?_ | refine WC.ret ?_)
    refine WL.ixload rfl (fun _ => rfl) rfl rfl rfl rfl rfl rfl rfl hi rfl rfl (hS.hp hp2) (natL_at hi) ?_
    intro q0
    rw [← hu]
    repeat (first | refine WC.seq ?_ | refine WC.reg ?_ | refine WL.pure rfl rfl rfl ?_ | refine WL.nil ?_ | refine WC.skip ?_ | refine WC.block ?_ | refine WC.condT rfl ?_ | refine WC.condF rfl ?_ | refine WL.off rfl rfl rfl ?_ | refine WL.off0 rfl rfl ?_ | refine WC.exit ?_ | refine blk_hit ?_ | refine blk_miss rfl ?_ | refine WC.ret ?_)
    refine WL.val rfl rfl rfl (yLookM (k := ((u : Nat) : Int)) (l := bV B) (keyT_int rfl) rfl rfl rfl rfl (hp2.obj 0 rfl)) ?_
    unfold lkM
    rw [bV_get]
    cases hq : lkB B u with
    | none =>
      repeat (first | refine WC.seq ?_ | refine WC.reg ?_ | refine WL.pure rfl rfl rfl ?_ | refine WL.nil ?_ | refine WC.skip ?_ | refine WC.block ?_ | refine WC.condT rfl ?_ | refine WC.condF rfl ?_ | refine WL.off rfl rfl rfl ?_ | refine WL.off0 rfl rfl ?_ | refine WC.exit ?_ | refine blk_hit ?_ | refine blk_miss rfl ?_ | refine WC.ret ?_)
      refine WL.call rfl rfl rfl rfl rfl hmE (hmay u w2 huN hp2.nil') ?_
      rintro _ w3 ⟨rfl, hp3⟩
      replace hp3 := hp2.call hp3.below
      repeat (first | refine WC.seq ?_ | refine WC.reg ?_ | refine WL.pure rfl rfl rfl ?_ | refine WL.nil ?_ | refine WC.skip ?_ | refine WC.block ?_ | refine WC.condT rfl ?_ | refine WC.condF rfl ?_ | refine WL.off rfl rfl rfl ?_ | refine WL.off0 rfl rfl ?_ | refine WC.exit ?_ | refine blk_hit ?_ | refine blk_miss rfl ?_ | refine WC.ret ?_)
      refine WC.cond rfl (fun c2 => ?_) (fun c2 => ?_)
      · rw [addM_yes (by rw [hq, c2]; rfl)] at hB'
        repeat (first | refine WC.seq ?_ | refine WC.reg ?_ | refine WL.pure rfl rfl rfl ?_ | refine WL.nil ?_ | refine WC.skip ?_ | refine WC.block ?_ | refine WC.condT rfl ?_ | refine WC.condF rfl ?_ | refine WL.off rfl rfl rfl ?_ | refine WL.off0 rfl rfl ?_ | refine WC.exit ?_ | refine blk_hit ?_ | refine blk_miss rfl ?_ | refine WC.ret ?_)
        refine WL.skip rfl rfl (yMapSet (k := ((u : Nat) : Int)) (l := bV B) (v := .int .i64 (-1)) (keyT_int rfl) rfl rfl rfl rfl (hp3.obj 0 rfl)) ?_
        have hp4 := hp3.set 0 rfl rfl (setB_put (hp3.obj 0 rfl) (o' := mapO iKey (kPut (bV B) ((u : Nat) : Int) (.int .i64 (-1)))))
        generalize (w3.putObj mb (mapO iKey (kPut (bV B) ((u : Nat) : Int) (.int .i64 (-1))))) = w4 at *
        rw [bV_put (-1) hq] at hp4
        repeat (first | refine WC.seq ?_ | refine WC.reg ?_ | refine WL.pure rfl rfl rfl ?_ | refine WL.nil ?_ | refine WC.skip ?_ | refine WC.block ?_ | refine WC.condT rfl ?_ | refine WC.condF rfl ?_ | refine WL.off rfl rfl rfl ?_ | refine WL.off0 rfl rfl ?_ | refine WC.exit ?_ | refine blk_hit ?_ | refine blk_miss rfl ?_ | refine WC.ret ?_)
        refine WL.buildS (cs := [.int .i64 (u : Nat)]) rfl rfl rfl rfl rfl rfl rfl rfl rfl (fun b5 w5 h5 => ?_)
        have hp5 := hp4.new h5
        refine WL.appN (A := [_, _]) rfl rfl rfl rfl rfl rfl rfl rfl hp5 hQ (cell_of_obj (hp5.obj 0 rfl) rfl) (by omega) (by decide) ?_
        intro qa2 qc2 w6 Q2 hp6 hQ2
        repeat (first | refine WC.seq ?_ | refine WC.reg ?_ | refine WL.pure rfl rfl rfl ?_ | refine WL.nil ?_ | refine WC.skip ?_ | refine WC.block ?_ | refine WC.condT rfl ?_ | refine WC.condF rfl ?_ | refine WL.off rfl rfl rfl ?_ | refine WL.off0 rfl rfl ?_ | refine WC.exit ?_ | refine blk_hit ?_ | refine blk_miss rfl ?_ | refine WC.ret ?_)
        exact ⟨(i + 1, B ++ [(u, -1)], q ++ [u], qa2, qc2, Q2), (by show start.length - (i + 1) < start.length - i; omega), ⟨rfl, rfl, congrArg (fun z => some (Value.int .i64 z)) step, rfl, rfl, rfl, rfl, rfl, rfl⟩, hi, hB', hok.add huN hq, hQ2, hp6.tail⟩
      · rw [addM_no (by rw [hq, c2]; decide)] at hB'
        repeat (first | refine WC.seq ?_ | refine WC.reg ?_ | refine WL.pure rfl rfl rfl ?_ | refine WL.nil ?_ | refine WC.skip ?_ | refine WC.block ?_ | refine WC.condT rfl ?_ | refine WC.condF rfl ?_ | refine WL.off rfl rfl rfl ?_ | refine WL.off0 rfl rfl ?_ | refine WC.exit ?_ | refine blk_hit ?_ | refine blk_miss rfl ?_ | refine WC.ret ?_)
        exact ⟨(i + 1, B, q, qa, qc, Q), (by show start.length - (i + 1) < start.length - i; omega), ⟨rfl, rfl, congrArg (fun z => some (Value.int .i64 z)) step, rfl, rfl, rfl, rfl, rfl, rfl⟩, hi, hB', hok, hQ, hp3⟩
    | some x =>
      rw [addM_no (by rw [hq]; simp)] at hB'
      repeat (first | refine WC.seq ?_ | refine WC.reg ?_ | refine WL.pure rfl rfl rfl ?_ | refine WL.nil ?_ | refine WC.skip ?_ | refine WC.block ?_ | refine WC.condT rfl ?_ | refine WC.condF rfl ?_ | refine WL.off rfl rfl rfl ?_ | refine WL.off0 rfl rfl ?_ | refine WC.exit ?_ | refine blk_hit ?_ | refine blk_miss rfl ?_ | refine WC.ret ?_)
      exact ⟨(i + 1, B, q, qa, qc, Q), (by show start.length - (i + 1) < start.length - i; omega), ⟨rfl, rfl, congrArg (fun z => some (Value.int .i64 z)) step, rfl, rfl, rfl, rfl, rfl, rfl⟩, hi, hB', hok, hQ, hp2⟩
  · have hi : i = start.length := by have := of_decide_eq_false c1; omega
    subst hi
    rw [List.take_length] at hB
    unfold wayM at hM
    rw [hB] at hM
    obtain ⟨FB, hFB⟩ : ∃ FB, FB = F := ⟨_, rfl⟩
    have hFb : FB ≤ 1099511627776 := by omega
    replace hM : wayGo FB (rsN rs) may fits F (B, q) = some r := by rw [hFB]; exact hM
    clear hFB hB
    repeat (first | refine WC.seq ?_ | refine WC.reg ?_ | refine WL.pure rfl rfl rfl ?_ | refine WL.nil ?_ | refine WC.skip ?_ | refine WC.block ?_ | refine WC.condT rfl ?_ | refine WC.condF rfl ?_ | refine WL.off rfl rfl rfl ?_ | refine WL.off0 rfl rfl ?_ | refine WC.exit ?_ | refine blk_hit ?_ | refine blk_miss rfl ?_ | refine WC.ret ?_)
    refine WC.loop (Nat × Bef × List Nat × Option Addr × Nat × List Ent) (fun (f, B, q, qa, qc, Q) => wyE an cn N mf mc ff fc mb q qa qc)
      (fun (f, B, q, qa, qc, Q) w' => wayGo FB (rsN rs) may fits f (B, q) = some r ∧ BefOk N B q ∧ Quo 3 (.slice qa q.length qc) (natL q) Q ∧ Hp w w' ([mE mb B] ++ Q)) (fun (f, _) => f) (F, B, q, qa, qc, Q) ⟨rfl, rfl, rfl, rfl, rfl, rfl⟩ ⟨hM, hok, hQ, hp2⟩ ?_
    clear hM hok hQ hp2 hqs
    rintro ⟨f, B, q, qa, qc, Q⟩ w2 ⟨hM, hok, hQ, hp2⟩
    replace hM : wayGo FB (rsN rs) may fits f (B, q) = some r := hM
    replace hok : BefOk N B q := hok
    replace hQ : Quo 3 (.slice qa q.length qc) (natL q) Q := hQ
    replace hp2 : Hp w w2 ([mE mb B] ++ Q) := hp2
    have hqs := hok.small
    repeat (first | refine WC.seq ?_ | refine WC.reg ?_ | refine WL.pure rfl rfl rfl ?_ | refine WL.nil ?_ | refine WC.skip ?_ | refine WC.block ?_ | refine WC.condT rfl ?_ | refine WC.condF rfl ?_ | refine WL.off rfl rfl rfl ?_ | refine WL.off0 rfl rfl ?_ | refine WC.exit ?_ | refine blk_hit ?_ | refine blk_miss rfl ?_ | refine WC.ret ?_)
    refine WC.cond rfl (fun c2 => ?_) (fun c2 => ?_)
    · have c2 : 0 < q.length := by have h : (0 : Int) < ((q.length : Nat) : Int) := of_decide_eq_true c2; omega
      obtain ⟨v, q, rfl⟩ : ∃ v q2, q = v :: q2 := by
        cases q with
        | nil => exact absurd c2 (Nat.lt_irrefl _)
        | cons v q2 => exact ⟨v, q2, rfl⟩
      have hv : v < N := hok.qb v (by simp)
      obtain ⟨f0, rfl⟩ : ∃ f0, f = f0 + 1 := by
        cases f with
        | zero => unfold wayGo at hM; cases hM
        | succ f0 => exact ⟨f0, rfl⟩
      unfold wayGo at hM
      repeat (first | refine WC.seq ?_ | refine WC.reg ?_ | refine WL.pure rfl rfl rfl ?_ | refine WL.nil ?_ | refine WC.skip ?_ | refine WC.block ?_ | refine WC.condT rfl ?_ | refine WC.condF rfl ?_ | refine WL.off rfl rfl rfl ?_ | refine WL.off0 rfl rfl ?_ | refine WC.exit ?_ | refine blk_hit ?_ | refine blk_miss rfl ?_ | refine WC.ret ?_)
      refine WL.ixload (j := 0) rfl (fun _ => rfl) rfl rfl rfl rfl rfl rfl rfl (Nat.succ_pos _) rfl rfl (hQ.sl hp2) (v := .int .i64 (v : Nat)) rfl ?_
      intro q0
      repeat (first | refine WC.seq ?_ | refine WC.reg ?_ | refine WL.pure rfl rfl rfl ?_ | refine WL.nil ?_ | refine WC.skip ?_ | refine WC.block ?_ | refine WC.condT rfl ?_ | refine WC.condF rfl ?_ | refine WL.off rfl rfl rfl ?_ | refine WL.off0 rfl rfl ?_ | refine WC.exit ?_ | refine blk_hit ?_ | refine blk_miss rfl ?_ | refine WC.ret ?_)
      refine WL.tailQ (x := .int .i64 (v : Nat)) (xs := natL q) rfl rfl rfl rfl rfl rfl rfl hQ ?_
      intro v' hQ'
      obtain ⟨qa2, qc2, rfl, _⟩ := hQ'.shape
      rw [natL_len] at hQ' ⊢
      clear hQ
      repeat (first | refine WC.seq ?_ | refine WC.reg ?_ | refine WL.pure rfl rfl rfl ?_ | refine WL.nil ?_ | refine WC.skip ?_ | refine WC.block ?_ | refine WC.condT rfl ?_ | refine WC.condF rfl ?_ | refine WL.off rfl rfl rfl ?_ | refine WL.off0 rfl rfl ?_ | refine WC.exit ?_ | refine blk_hit ?_ | refine blk_miss rfl ?_ | refine WC.ret ?_)
      refine WL.call rfl rfl rfl rfl rfl hfE (hfits v w2 hv hp2.nil') ?_
      rintro _ w3 ⟨rfl, hp3⟩
      replace hp3 := hp2.call hp3.below
      clear hp2
      repeat (first | refine WC.seq ?_ | refine WC.reg ?_ | refine WL.pure rfl rfl rfl ?_ | refine WL.nil ?_ | refine WC.skip ?_ | refine WC.block ?_ | refine WC.condT rfl ?_ | refine WC.condF rfl ?_ | refine WL.off rfl rfl rfl ?_ | refine WL.off0 rfl rfl ?_ | refine WC.exit ?_ | refine blk_hit ?_ | refine blk_miss rfl ?_ | refine WC.ret ?_)
      refine WC.cond rfl (fun c3 => ?_) (fun c3 => ?_)
      · rw [if_pos c3] at hM
        obtain ⟨l, hbk, hrl⟩ := Option.map_eq_some_iff.1 hM
        subst hrl
        have hne := backM_ne _ _ _ _ (List.cons_ne_nil _ _) hbk
        repeat (first | refine WC.seq ?_ | refine WC.reg ?_ | refine WL.pure rfl rfl rfl ?_ | refine WL.nil ?_ | refine WC.skip ?_ | refine WC.block ?_ | refine WC.condT rfl ?_ | refine WC.condF rfl ?_ | refine WL.off rfl rfl rfl ?_ | refine WL.off0 rfl rfl ?_ | refine WC.exit ?_ | refine blk_hit ?_ | refine blk_miss rfl ?_ | refine WC.ret ?_)
        refine WL.buildS (cs := [.int .i64 (v : Nat)]) rfl rfl rfl rfl rfl rfl rfl rfl rfl (fun b5 w5 h5 => ?_)
        have hp5 : Hp w w5 (Rna (.slice (some ⟨b5, 0, none⟩) [v].length 1) [v].length [v] :: [mE mb B] ++ Q) := Hp.toRow (s := 1) (m := 1) (hp3.new h5) rfl (by unfold maxLen; decide)
        repeat (first | refine WC.seq ?_ | refine WC.reg ?_ | refine WL.pure rfl rfl rfl ?_ | refine WL.nil ?_ | refine WC.skip ?_ | refine WC.block ?_ | refine WC.condT rfl ?_ | refine WC.condF rfl ?_ | refine WL.off rfl rfl rfl ?_ | refine WL.off0 rfl rfl ?_ | refine WC.exit ?_ | refine blk_hit ?_ | refine blk_miss rfl ?_ | refine WC.ret ?_)
        refine WC.loop (Nat × Nat × List Nat × Option Addr × Nat) (fun (g, v, out, oa, oc) => [(9, .map (some mb)), (15, .int .i64 (v : Nat)), (16, .slice oa out.length oc)])
          (fun (g, v, out, oa, oc) w' => backM B g v out = some l ∧ out.length + g = 1 + FB ∧ Hp w w' (Rna (.slice oa out.length oc) out.length out :: [mE mb B] ++ Q)) (fun (g, _) => g) (FB, v, [v], some ⟨b5, 0, none⟩, 1) ⟨rfl, rfl, rfl, rfl⟩ ⟨hbk, rfl, hp5⟩ ?_
        clear hbk hp5
        rintro ⟨g, v, out, oa, oc⟩ w6 ⟨hbk, hgl, hp6⟩
        replace hbk : backM B g v out = some l := hbk
        replace hgl : out.length + g = 1 + FB := hgl
        replace hp6 : Hp w w6 (Rna (.slice oa out.length oc) out.length out :: [mE mb B] ++ Q) := hp6
        have hlk : (kGet (bV B) ((v : Nat) : Int)).getD (Value.int .i64 0) = Value.int .i64 ((lkB B v).getD 0) := by rw [bV_get]; cases lkB B v <;> rfl
        repeat (first | refine WC.seq ?_ | refine WC.reg ?_ | refine WL.pure rfl rfl rfl ?_ | refine WL.nil ?_ | refine WC.skip ?_ | refine WC.block ?_ | refine WC.condT rfl ?_ | refine WC.condF rfl ?_ | refine WL.off rfl rfl rfl ?_ | refine WL.off0 rfl rfl ?_ | refine WC.exit ?_ | refine blk_hit ?_ | refine blk_miss rfl ?_ | refine WC.ret ?_)
        refine WL.val rfl rfl rfl (yLookM (k := ((v : Nat) : Int)) (l := bV B) (keyT_int rfl) rfl rfl rfl rfl (hp6.obj 1 rfl)) ?_
        rw [show lkM (bV B) ((v : Nat) : Int) ti3.zero false = Value.int .i64 ((lkB B v).getD 0) from hlk]
        repeat (first | refine WC.seq ?_ | refine WC.reg ?_ | refine WL.pure rfl rfl rfl ?_ | refine WL.nil ?_ | refine WC.skip ?_ | refine WC.block ?_ | refine WC.condT rfl ?_ | refine WC.condF rfl ?_ | refine WL.off rfl rfl rfl ?_ | refine WL.off0 rfl rfl ?_ | refine WC.exit ?_ | refine blk_hit ?_ | refine blk_miss rfl ?_ | refine WC.ret ?_)
        refine WC.cond rfl (fun c4 => ?_) (fun c4 => ?_)
        · have c4 : 0 ≤ (lkB B v).getD 0 := of_decide_eq_true c4
          obtain ⟨g0, rfl, hbk2⟩ := backM_go hbk c4
          obtain ⟨u, hu⟩ : ∃ u : Nat, u = ((lkB B v).getD 0).toNat := ⟨_, rfl⟩
          have hu2 : (lkB B v).getD 0 = ((u : Nat) : Int) := by omega
          rw [← hu] at hbk2
          repeat (first | refine WC.seq ?_ | refine WC.reg ?_ | refine WL.pure rfl rfl rfl ?_ | refine WL.nil ?_ | refine WC.skip ?_ | refine WC.block ?_ | refine WC.condT rfl ?_ | refine WC.condF rfl ?_ | refine WL.off rfl rfl rfl ?_ | refine WL.off0 rfl rfl ?_ | refine WC.exit ?_ | refine blk_hit ?_ | refine blk_miss rfl ?_ | refine WC.ret ?_)
          refine WL.val rfl rfl rfl (yLookM (k := ((v : Nat) : Int)) (l := bV B) (keyT_int rfl) rfl rfl rfl rfl (hp6.obj 1 rfl)) ?_
          rw [show lkM (bV B) ((v : Nat) : Int) ti3.zero false = Value.int .i64 ((u : Nat) : Int) from by rw [← hu2]; exact hlk]
          repeat (first | refine WC.seq ?_ | refine WC.reg ?_ | refine WL.pure rfl rfl rfl ?_ | refine WL.nil ?_ | refine WC.skip ?_ | refine WC.block ?_ | refine WC.condT rfl ?_ | refine WC.condF rfl ?_ | refine WL.off rfl rfl rfl ?_ | refine WL.off0 rfl rfl ?_ | refine WC.exit ?_ | refine blk_hit ?_ | refine blk_miss rfl ?_ | refine WC.ret ?_)
          refine WL.buildS (cs := [.int .i64 (u : Nat)]) rfl rfl rfl rfl rfl rfl rfl rfl rfl (fun b7 w7 h7 => ?_)
          have hp7 : Hp w w7 (Rna (.slice (some ⟨b7, 0, none⟩) 1 1) 1 [u] :: Rna (.slice oa out.length oc) out.length out :: [mE mb B] ++ Q) := Hp.toRow (s := 1) (m := 1) (hp6.new h7) rfl (by unfold maxLen; decide)
          repeat (first | refine WC.seq ?_ | refine WC.reg ?_ | refine WL.pure rfl rfl rfl ?_ | refine WL.nil ?_ | refine WC.skip ?_ | refine WC.block ?_ | refine WC.condT rfl ?_ | refine WC.condF rfl ?_ | refine WL.off rfl rfl rfl ?_ | refine WL.off0 rfl rfl ?_ | refine WC.exit ?_ | refine blk_hit ?_ | refine blk_miss rfl ?_ | refine WC.ret ?_)
          refine WL.append 0 hp7 rfl rfl rfl rfl rfl (by decide) rfl rfl rfl (news := natL out) (Sl.of_row (hp7.at 1 rfl)) (by rw [natL_len]; exact (Nat.mul_one _).symm) (natL_cells _) (by unfold maxLen; omega) (by show (1 + out.length) * 8 ≤ _; omega) ?_
          intro oa2 oc2 w8 hp8 _
          have hp9 : Hp w w8 (Rna (.slice oa2 (u :: out).length oc2) (u :: out).length (u :: out) :: Rna (.slice oa out.length oc) out.length out :: [mE mb B] ++ Q) := by
            rw [show (u :: out).length = 1 + out.length by rw [List.length_cons]; omega]
            exact hp8
          have e9 : Value.slice oa2 (1 + out.length) oc2 = .slice oa2 (u :: out).length oc2 := by rw [List.length_cons, Nat.add_comm]
          rw [e9]
          repeat (first | refine WC.seq ?_ | refine WC.reg ?_ | refine WL.pure rfl rfl rfl ?_ | refine WL.nil ?_ | refine WC.skip ?_ | refine WC.block ?_ | refine WC.condT rfl ?_ | refine WC.condF rfl ?_ | refine WL.off rfl rfl rfl ?_ | refine WL.off0 rfl rfl ?_ | refine WC.exit ?_ | refine blk_hit ?_ | refine blk_miss rfl ?_ | refine WC.ret ?_)
          exact ⟨(g0, u, u :: out, oa2, oc2), Nat.lt_succ_self g0, ⟨rfl, rfl, rfl, rfl⟩, hbk2, by rw [List.length_cons]; omega, hp9.drop1⟩
        · have c4 : ¬ 0 ≤ (lkB B v).getD 0 := of_decide_eq_false c4
          obtain rfl := backM_end hbk c4
          obtain ⟨b, rfl⟩ := hp6.rowSome 0 rfl (List.length_pos_iff.2 hne)
          repeat (first | refine WC.seq ?_ | refine WC.reg ?_ | refine WL.pure rfl rfl rfl ?_ | refine WL.nil ?_ | refine WC.skip ?_ | refine WC.block ?_ | refine WC.condT rfl ?_ | refine WC.condF rfl ?_ | refine WL.off rfl rfl rfl ?_ | refine WL.off0 rfl rfl ?_ | refine WC.exit ?_ | refine blk_hit ?_ | refine blk_miss rfl ?_ | refine WC.ret ?_)
          exact Res.one rfl rfl rfl ⟨hne, b, oc, rfl, hp6.pick [0] (by decide)⟩
      · rw [if_neg (by rw [c3]; decide)] at hM
        have hvr : v < rs.length := by omega
        have hrb := hrow _ (List.getElem_mem hvr)
        have hrin := hin _ (List.getElem_mem hvr)
        have hrs := hT.rows _ (List.getElem_mem hvr)
        have htab := hT.tab
        have hat := rsV_at hvr
        rw [rsN_at hvr] at hM
        generalize rs[v] = x at *
        obtain ⟨ra, rc, row⟩ := x
        simp only at hrb hrin hrs hM hat
        have hok := hok.tail
        repeat (first | refine WC.seq ?_ | refine WC.reg ?_ | refine WL.pure rfl rfl rfl ?_ | refine WL.nil ?_ | refine WC.skip ?_ | refine WC.block ?_ | refine WC.condT rfl ?_ | refine WC.condF rfl ?_ | refine WL.off rfl rfl rfl ?_ | refine WL.off0 rfl rfl ?_ | refine WC.exit ?_ | refine blk_hit ?_ | refine blk_miss rfl ?_ | refine WC.ret ?_)
        refine WL.ixload rfl (fun _ => rfl) rfl rfl rfl rfl rfl rfl rfl hv rfl rfl (htab.hp hp3) hat ?_
        intro q0
        repeat (first | refine WC.seq ?_ | refine WC.reg ?_ | refine WL.pure rfl rfl rfl ?_ | refine WL.nil ?_ | refine WC.skip ?_ | refine WC.block ?_ | refine WC.condT rfl ?_ | refine WC.condF rfl ?_ | refine WL.off rfl rfl rfl ?_ | refine WL.off0 rfl rfl ?_ | refine WC.exit ?_ | refine blk_hit ?_ | refine blk_miss rfl ?_ | refine WC.ret ?_)
        refine WC.loop (Nat × Bef × List Nat × Option Addr × Nat × List Ent) (fun (i, B, q, qa, qc, Q) => [(15, .int .i64 (v : Nat)), (76, .slice ra row.length rc), (77, .int .i64 (row.length : Nat)), (78, .int .i64 (i : Nat))] ++ wyE an cn N mf mc ff fc mb q qa qc)
          (fun (i, B, q, qa, qc, Q) w' => i ≤ row.length ∧ wayGo FB (rsN rs) may fits f0 ((row.drop i).foldl (addM may v) (B, q)) = some r ∧ BefOk N B q ∧ Quo 3 (.slice qa q.length qc) (natL q) Q ∧ Hp w w' ([mE mb B] ++ Q)) (fun (i, _) => row.length - i) (0, B, q, qa2, qc2, Q) ⟨rfl, rfl, rfl, rfl, rfl, rfl, rfl, rfl, rfl, rfl⟩
          ⟨Nat.zero_le _, hM, hok, hQ', hp3⟩ ?_
        clear hM hok hQ' hp3 hqs
        rintro ⟨i, B, q, qa, qc, Q⟩ w4 ⟨hi, hM, hok, hQ, hp4⟩
        replace hi : i ≤ row.length := hi
        replace hM : wayGo FB (rsN rs) may fits f0 ((row.drop i).foldl (addM may v) (B, q)) = some r := hM
        replace hok : BefOk N B q := hok
        replace hQ : Quo 3 (.slice qa q.length qc) (natL q) Q := hQ
        replace hp4 : Hp w w4 ([mE mb B] ++ Q) := hp4
        have hqs := hok.small
        repeat (first | refine WC.seq ?_ | refine WC.reg ?_ | refine WL.pure rfl rfl rfl ?_ | refine WL.nil ?_ | refine WC.skip ?_ | refine WC.block ?_ | refine WC.condT rfl ?_ | refine WC.condF rfl ?_ | refine WL.off rfl rfl rfl ?_ | refine WL.off0 rfl rfl ?_ | refine WC.exit ?_ | refine blk_hit ?_ | refine blk_miss rfl ?_ | refine WC.ret ?_)
        refine WC.cond rfl (fun c4 => ?_) (fun c4 => ?_)
        · have hi : i < row.length := by have h : ((i : Nat) : Int) < ((row.length : Nat) : Int) := of_decide_eq_true c4; omega
          have step := wrap_succ (i := i) (n := i + 1) (by omega) (by omega)
          obtain ⟨u, hu⟩ : ∃ u, u = row[i] := ⟨_, rfl⟩
          have huN : u < N := by rw [hu]; exact hrin _ (List.getElem_mem hi)
          rw [List.drop_eq_getElem_cons hi, List.foldl_cons, ← hu] at hM
          repeat (first | refine WC.seq ?_ | refine WC.reg ?_ | refine WL.pure rfl rfl rfl ?_ | refine WL.nil ?_ | refine WC.skip ?_ | refine WC.block ?_ | refine WC.condT rfl ?_ | refine WC.condF rfl ?_ | refine WL.off rfl rfl rfl ?_ | refine WL.off0 rfl rfl ?_ | refine WC.exit ?_ | refine blk_hit ?_ | refine blk_miss rfl ?_ | refine WC.ret ?_)
          refine WL.ixload rfl (fun _ => rfl) rfl rfl rfl rfl rfl rfl rfl hi rfl rfl (hrs.hp hp4) (natL_at hi) ?_
          intro q0
          rw [← hu]
          repeat (first | refine WC.seq ?_ | refine WC.reg ?_ | refine WL.pure rfl rfl rfl ?_ | refine WL.nil ?_ | refine WC.skip ?_ | refine WC.block ?_ | refine WC.condT rfl ?_ | refine WC.condF rfl ?_ | refine WL.off rfl rfl rfl ?_ | refine WL.off0 rfl rfl ?_ | refine WC.exit ?_ | refine blk_hit ?_ | refine blk_miss rfl ?_ | refine WC.ret ?_)
          refine WL.val rfl rfl rfl (yLookM (k := ((u : Nat) : Int)) (l := bV B) (keyT_int rfl) rfl rfl rfl rfl (hp4.obj 0 rfl)) ?_
          unfold lkM
          rw [bV_get]
          cases hq : lkB B u with
          | none =>
            repeat (first | refine WC.seq ?_ | refine WC.reg ?_ | refine WL.pure rfl rfl rfl ?_ | refine WL.nil ?_ | refine WC.skip ?_ | refine WC.block ?_ | refine WC.condT rfl ?_ | refine WC.condF rfl ?_ | refine WL.off rfl rfl rfl ?_ | refine WL.off0 rfl rfl ?_ | refine WC.exit ?_ | refine blk_hit ?_ | refine blk_miss rfl ?_ | refine WC.ret ?_)
            refine WL.call rfl rfl rfl rfl rfl hmE (hmay u w4 huN hp4.nil') ?_
            rintro _ w5 ⟨rfl, hp5⟩
            replace hp5 := hp4.call hp5.below
            repeat (first | refine WC.seq ?_ | refine WC.reg ?_ | refine WL.pure rfl rfl rfl ?_ | refine WL.nil ?_ | refine WC.skip ?_ | refine WC.block ?_ | refine WC.condT rfl ?_ | refine WC.condF rfl ?_ | refine WL.off rfl rfl rfl ?_ | refine WL.off0 rfl rfl ?_ | refine WC.exit ?_ | refine blk_hit ?_ | refine blk_miss rfl ?_ | refine WC.ret ?_)
            refine WC.cond rfl (fun c5 => ?_) (fun c5 => ?_)
            · rw [addM_yes (by rw [hq, c5]; rfl)] at hM
              repeat (first | refine WC.seq ?_ | refine WC.reg ?_ | refine WL.pure rfl rfl rfl ?_ | refine WL.nil ?_ | refine WC.skip ?_ | refine WC.block ?_ | refine WC.condT rfl ?_ | refine WC.condF rfl ?_ | refine WL.off rfl rfl rfl ?_ | refine WL.off0 rfl rfl ?_ | refine WC.exit ?_ | refine blk_hit ?_ | refine blk_miss rfl ?_ | refine WC.ret ?_)
              refine WL.skip rfl rfl (yMapSet (k := ((u : Nat) : Int)) (l := bV B) (v := .int .i64 ((v : Nat) : Int)) (keyT_int rfl) rfl rfl rfl rfl (hp5.obj 0 rfl)) ?_
              have hp6 := hp5.set 0 rfl rfl (setB_put (hp5.obj 0 rfl) (o' := mapO iKey (kPut (bV B) ((u : Nat) : Int) (.int .i64 ((v : Nat) : Int)))))
              generalize (w5.putObj mb (mapO iKey (kPut (bV B) ((u : Nat) : Int) (.int .i64 ((v : Nat) : Int))))) = w6 at *
              rw [bV_put ((v : Nat) : Int) hq] at hp6
              repeat (first | refine WC.seq ?_ | refine WC.reg ?_ | refine WL.pure rfl rfl rfl ?_ | refine WL.nil ?_ | refine WC.skip ?_ | refine WC.block ?_ | refine WC.condT rfl ?_ | refine WC.condF rfl ?_ | refine WL.off rfl rfl rfl ?_ | refine WL.off0 rfl rfl ?_ | refine WC.exit ?_ | refine blk_hit ?_ | refine blk_miss rfl ?_ | refine WC.ret ?_)
              refine WL.buildS (cs := [.int .i64 (u : Nat)]) rfl rfl rfl rfl rfl rfl rfl rfl rfl (fun b7 w7 h7 => ?_)
              have hp7 := hp6.new h7
              refine WL.appN (A := [_, _]) rfl rfl rfl rfl rfl rfl rfl rfl hp7 hQ (cell_of_obj (hp7.obj 0 rfl) rfl) (by omega) (by decide) ?_
              intro qa2 qc2 w8 Q2 hp8 hQ2
              repeat (first | refine WC.seq ?_ | refine WC.reg ?_ | refine WL.pure rfl rfl rfl ?_ | refine WL.nil ?_ | refine WC.skip ?_ | refine WC.block ?_ | refine WC.condT rfl ?_ | refine WC.condF rfl ?_ | refine WL.off rfl rfl rfl ?_ | refine WL.off0 rfl rfl ?_ | refine WC.exit ?_ | refine blk_hit ?_ | refine blk_miss rfl ?_ | refine WC.ret ?_)
              exact ⟨(i + 1, B ++ [(u, ((v : Nat) : Int))], q ++ [u], qa2, qc2, Q2), (by show row.length - (i + 1) < row.length - i; omega), ⟨rfl, rfl, rfl, congrArg (fun z => some (Value.int .i64 z)) step, rfl, rfl, rfl, rfl, rfl, rfl⟩, hi, hM, hok.add huN hq, hQ2, hp8.tail⟩
            · rw [addM_no (by rw [hq, c5]; decide)] at hM
              repeat (first | refine WC.seq ?_ | refine WC.reg ?_ | refine WL.pure rfl rfl rfl ?_ | refine WL.nil ?_ | refine WC.skip ?_ | refine WC.block ?_ | refine WC.condT rfl ?_ | refine WC.condF rfl ?_ | refine WL.off rfl rfl rfl ?_ | refine WL.off0 rfl rfl ?_ | refine WC.exit ?_ | refine blk_hit ?_ | refine blk_miss rfl ?_ | refine WC.ret ?_)
              exact ⟨(i + 1, B, q, qa, qc, Q), (by show row.length - (i + 1) < row.length - i; omega), ⟨rfl, rfl, rfl, congrArg (fun z => some (Value.int .i64 z)) step, rfl, rfl, rfl, rfl, rfl, rfl⟩, hi, hM, hok, hQ, hp5⟩
          | some x =>
            rw [addM_no (by rw [hq]; simp)] at hM
            repeat (first | refine WC.seq ?_ | refine WC.reg ?_ | refine WL.pure rfl rfl rfl ?_ | refine WL.nil ?_ | refine WC.skip ?_ | refine WC.block ?_ | refine WC.condT rfl ?_ | refine WC.condF rfl ?_ | refine WL.off rfl rfl rfl ?_ | refine WL.off0 rfl rfl ?_ | refine WC.exit ?_ | refine blk_hit ?_ | refine blk_miss rfl ?_ | refine WC.ret ?_)
            exact ⟨(i + 1, B, q, qa, qc, Q), (by show row.length - (i + 1) < row.length - i; omega), ⟨rfl, rfl, rfl, congrArg (fun z => some (Value.int .i64 z)) step, rfl, rfl, rfl, rfl, rfl, rfl⟩, hi, hM, hok, hQ, hp4⟩
        · have hi : i = row.length := by have h : ¬ ((i : Nat) : Int) < ((row.length : Nat) : Int) := of_decide_eq_false c4; omega
          subst hi
          rw [List.drop_length, List.foldl_nil] at hM
          repeat (first | refine WC.seq ?_ | refine WC.reg ?_ | refine WL.pure rfl rfl rfl ?_ | refine WL.nil ?_ | refine WC.skip ?_ | refine WC.block ?_ | refine WC.condT rfl ?_ | refine WC.condF rfl ?_ | refine WL.off rfl rfl rfl ?_ | refine WL.off0 rfl rfl ?_ | refine WC.exit ?_ | refine blk_hit ?_ | refine blk_miss rfl ?_ | refine WC.ret ?_)
          exact ⟨(f0, B, q, qa, qc, Q), Nat.lt_succ_self f0, ⟨rfl, rfl, rfl, rfl, rfl, rfl⟩, hM, hok, hQ, hp4⟩
    · have c2 : q = [] := List.eq_nil_of_length_eq_zero (by have h : ¬ (0 : Int) < ((q.length : Nat) : Int) := of_decide_eq_false c2; omega)
      subst c2
      have : r = none := by
        cases f with
        | zero => unfold wayGo at hM; simpa using hM.symm
        | succ f => unfold wayGo at hM; simpa using hM.symm
      subst this
      repeat (first | refine WC.seq ?_ | refine WC.reg ?_ | refine WL.pure rfl rfl rfl ?_ | refine WL.nil ?_ | refine WC.skip ?_ | refine WC.block ?_ | refine WC.condT rfl ?_ | refine WC.condF rfl ?_ | refine WL.off rfl rfl rfl ?_ | refine WL.off0 rfl rfl ?_ | refine WC.exit ?_ | refine blk_hit ?_ | refine blk_miss rfl ?_ | refine WC.ret ?_)
      exact Res.one rfl rfl rfl ⟨rfl, hp2.nil'⟩
end Go.Proofs.YtpbbneclkhfgoaaDoor
end
section
/- ltl, twenty-fifth: the other two tests of run. -/
namespace Go.Proofs.YtpbbneclkhfgoaaDoor
open Go.W Go.Ltl Go.RowKit
set_option maxRecDepth 100000
attribute [local irreducible] WC WL WQ WS WH

section
variable {P : Program} [T : TT P] {n : Nat} {l0 rest : List Oper} {C : World → Prop} {M : Env → Prop} {e : Env} {ty : TypeId} {pos : String} {aft : Array Edge} {g : Option (Nat × Bool)}
/-- A lookup of a number, in every world of the class. -/
theorem WQ.lookM {d : Nat} {t kt vt : TypeId} {z : Value} {s0 b0 b : Nat} {iv : TI} {x ix : Operand} {l : List (Int × Value)} {k : Int} {v : Value} (hg : grd l0 e g = some true) (hd : Nat.blt d n = true)
    (hK : KeyT P kt iKey) (ht : T.ti t = some ⟨.map kt vt, z, s0, b0⟩) (hv : T.ti vt = some iv) (hx : opv e x = some (.map (some b))) (hix : opv e ix = some (.int .i64 k)) (hb : ∀ w, C w → w.heap[b]? = some (mapO iKey l)) (hl : (kGet l k).getD iv.zero = v)
    (h : Go.W.WQ P n l0 C M rest ((d, v) :: e)) : Go.W.WQ P n l0 C M (⟨some d, .lookup t x ix false, ty, pos, aft, g⟩ :: rest) e :=
  Go.W.WQ.val hg hd (fun w hw => by rw [← hl]; exact yLookM (k := k) (c := false) hK ht hv hx hix (hb w hw)) h
end
/-- What the test of the stem reads. -/
structure Rd2 (w : World) (N b9 b6 b8 b7 : Nat) (of_ : List Nat) (tb fb ob : Nat) (TL FL : List (Int × Value)) (tn : Nat → Bool) (fr : Nat → Nat) (all : Nat) : Prop where
  h9 : w.cell? ⟨b9, 0, none⟩ = some (.map (some tb))
  hT : w.heap[tb]? = some (mapO iKey TL)
  tn : ∀ c : Nat, (kGet TL (c : Int)).getD (.bool false) = .bool (tn c)
  h6 : w.cell? ⟨b6, 0, none⟩ = some (sN ob N)
  hO : Sl w (some ⟨ob, 0, none⟩) (natL of_)
  hN : of_.length = N
  h8 : w.cell? ⟨b8, 0, none⟩ = some (.map (some fb))
  hF : w.heap[fb]? = some (mapO iKey FL)
  fr : ∀ c : Nat, (kGet FL (c : Int)).getD (.int .i64 0) = .int .i64 (fr c : Nat)
  h7 : w.cell? ⟨b7, 0, none⟩ = some (.int .i64 (all : Nat))
theorem Rd2.below {w w' : World} {N b9 b6 b8 b7 : Nat} {of_ : List Nat} {tb fb ob : Nat} {TL FL : List (Int × Value)} {tn : Nat → Bool} {fr : Nat → Nat} {all : Nat} (h : Rd2 w N b9 b6 b8 b7 of_ tb fb ob TL FL tn fr all) (hb : Below w.heap.size w w') : Rd2 w' N b9 b6 b8 b7 of_ tb fb ob TL FL tn fr all :=
  ⟨cell_below hb h.h9, by rw [hb.block tb (Array.getElem?_eq_some_iff.1 h.hT).1]; exact h.hT, h.tn, cell_below hb h.h6, h.hO.below hb, h.hN, cell_below hb h.h8, by rw [hb.block fb (Array.getElem?_eq_some_iff.1 h.hF).1]; exact h.hF, h.fr, cell_below hb h.h7⟩
theorem run2_any {w : World} {N b9 b6 b8 b7 : Nat} {of_ : List Nat} {tb fb ob : Nat} {TL FL : List (Int × Value)} {tn : Nat → Bool} {fr : Nat → Nat} {all : Nat} (h : Rd2 w N b9 b6 b8 b7 of_ tb fb ob TL FL tn fr all) (v : Nat) (hv : v < N) :
    Ret Tryd.prog 91 [.int .i64 (v : Nat), ptr b9, ptr b6, ptr b8, ptr b7] w fun u w' => u = .bool (tn (of_.getD v 0) && decide (fr (of_.getD v 0) = all)) ∧ Hp w w' [] := by
  refine enter Tryd.func91 rfl rfl ⟨rfl, rfl⟩ rfl ?_
  repeat (first | refine WC.seq ?_ | refine WC.reg ?_ | refine WL.pure rfl rfl rfl ?_ | refine WL.nil ?_ | refine WC.skip ?_ | refine WC.block ?_ | refine WC.condT rfl ?_ | refine WC.condF rfl ?_ | refine WL.off rfl rfl rfl ?_ | refine WL.off0 rfl rfl ?_ | refine WC.exit ?_ | refine blk_hit ?_ | refine blk_miss rfl ?_ | refine WC.ret ?_)
  refine WC.regQ (fun w' => Hp w w' []) mixed (by kernel_rfl) (fun w' hw' => (Hp.start w).keep hw') ?_
  refine WQ.load rfl rfl rfl rfl rfl (fun w' q => cell_below q.below h.h9) ?_
  refine WQ.load rfl rfl rfl rfl rfl (fun w' q => cell_below q.below h.h6) ?_
  repeat (first | refine WQ.pure rfl rfl rfl ?_ | refine WQ.off rfl rfl rfl ?_ | refine WQ.nil ?_)
  refine WQ.ixload rfl (fun _ => rfl) rfl rfl rfl rfl rfl rfl rfl hv rfl rfl (fun w' q => Sl.cell (h.hO.hp q) (nd h.hN hv)) ?_
  refine WQ.lookM (k := ((of_.getD v 0 : Nat) : Int)) rfl rfl (keyT_int rfl) rfl rfl rfl rfl (fun w' q => (h.below q.below).hT) (h.tn _) ?_
  repeat (first | refine WQ.pure rfl rfl rfl ?_ | refine WQ.off rfl rfl rfl ?_ | refine WQ.nil ?_)
  refine WQ.split 13 rfl (fun c1 => ?_) (fun c1 => ?_)
  · rw [c1, Bool.true_and]
    refine WQ.load rfl rfl rfl rfl rfl (fun w' q => cell_below q.below h.h8) ?_
    refine WQ.load rfl rfl rfl rfl rfl (fun w' q => cell_below q.below h.h6) ?_
    repeat (first | refine WQ.pure rfl rfl rfl ?_ | refine WQ.off rfl rfl rfl ?_ | refine WQ.nil ?_)
    refine WQ.ixload rfl (fun _ => rfl) rfl rfl rfl rfl rfl rfl rfl hv rfl rfl (fun w' q => Sl.cell (h.hO.hp q) (nd h.hN hv)) ?_
    refine WQ.lookM (k := ((of_.getD v 0 : Nat) : Int)) rfl rfl (keyT_int rfl) rfl rfl rfl rfl (fun w' q => (h.below q.below).hF) (h.fr _) ?_
    refine WQ.load rfl rfl rfl rfl rfl (fun w' q => cell_below q.below h.h7) ?_
    repeat (first | refine WQ.pure rfl rfl rfl ?_ | refine WQ.off rfl rfl rfl ?_ | refine WQ.nil ?_)
    intro w2 hp2
    repeat (first | refine WC.seq ?_ | refine WC.reg ?_ | refine WL.pure rfl rfl rfl ?_ | refine WL.nil ?_ | refine WC.skip ?_ | refine WC.block ?_ | refine WC.condT rfl ?_ | refine WC.condF rfl ?_ | refine WL.off rfl rfl rfl ?_ | refine WL.off0 rfl rfl ?_ | refine WC.exit ?_ | refine blk_hit ?_ | refine blk_miss rfl ?_ | refine WC.ret ?_)
    refine Res.one rfl rfl rfl ⟨?_, hp2⟩
    congr 1
    rw [Bool.eq_iff_iff, beq_iff_eq, decide_eq_true_iff]
    exact Int.ofNat_inj
  · rw [c1, Bool.false_and]
    repeat (first | refine WQ.pure rfl rfl rfl ?_ | refine WQ.off rfl rfl rfl ?_ | refine WQ.nil ?_)
    intro w2 hp2
    repeat (first | refine WC.seq ?_ | refine WC.reg ?_ | refine WL.pure rfl rfl rfl ?_ | refine WL.nil ?_ | refine WC.skip ?_ | refine WC.block ?_ | refine WC.condT rfl ?_ | refine WC.condF rfl ?_ | refine WL.off rfl rfl rfl ?_ | refine WL.off0 rfl rfl ?_ | refine WC.exit ?_ | refine blk_hit ?_ | refine blk_miss rfl ?_ | refine WC.ret ?_)
    exact Res.one rfl rfl rfl ⟨rfl, hp2⟩
theorem run4_any {w : World} {b1 b21 b7 b18 xb : Nat} {nx mk : Value} {starts : Nat} {lv : Value} {pairs : Nat} {wv tv : Value} {fa : Option Addr} {fcap N : Nat} {fair : List Nat} {seen all home : Nat} (h1 : w.cell? ⟨b1, 0, none⟩ = some (ptr xb))
    (hx : w.heap[xb]? = some (Sxo nx mk starts lv pairs wv tv (.slice fa N fcap))) (hf : Sl w fa (natL fair)) (hN : fair.length = N) (hfb : ∀ x ∈ fair, x < 2 ^ 40) (hsb : seen < 2 ^ 40)
    (h21 : w.cell? ⟨b21, 0, none⟩ = some (.int .i64 (seen : Nat))) (h7 : w.cell? ⟨b7, 0, none⟩ = some (.int .i64 (all : Nat))) (h18 : w.cell? ⟨b18, 0, none⟩ = some (.int .i64 (home : Nat))) (v : Nat) (hv : v < N) :
    Ret Tryd.prog 93 [.int .i64 (v : Nat), ptr b1, ptr b21, ptr b7, ptr b18] w fun u w' => u = .bool (loopFits fair all home seen v) ∧ Hp w w' [] := by
  have hc7 : w.cell? ⟨xb, 7, none⟩ = some (.slice fa N fcap) := cell_of_obj (j := 7) hx rfl
  have hfv : fair.getD v 0 < 2 ^ 40 := by
    have : fair.getD v 0 = fair[v]'(by omega) := by simp [hN, hv]
    rw [this]; exact hfb _ (List.getElem_mem _)
  obtain ⟨fb, fo, rfl, hfc⟩ := hf _ _ (nd hN hv)
  have e1 : bits .andNot .i64 ((fair.getD v 0 : Nat) : Int) ((seen : Nat) : Int) = ((bd (fair.getD v 0) seen : Nat) : Int) := andNot_i64 (by omega) (by omega)
  unfold loopFits
  refine enter Tryd.func93 rfl rfl ⟨rfl, rfl⟩ rfl ?_
  repeat (first | refine WC.seq ?_ | refine WC.reg ?_ | refine WL.pure rfl rfl rfl ?_ | refine WL.nil ?_ | refine WC.skip ?_ | refine WC.block ?_ | refine WC.condT rfl ?_ | refine WC.condF rfl ?_ | refine WL.off rfl rfl rfl ?_ | refine WL.off0 rfl rfl ?_ | refine WC.exit ?_ | refine blk_hit ?_ | refine blk_miss rfl ?_ | refine WC.ret ?_)
  refine WC.regQ (fun w' => Hp w w' []) mixed (by kernel_rfl) (fun w' hw' => (Hp.start w).keep hw') ?_
  refine WQ.load rfl rfl rfl rfl rfl (fun w' q => cell_below q.below h1) ?_
  refine WQ.nilC rfl rfl rfl ?_
  repeat (first | refine WQ.pure rfl rfl rfl ?_ | refine WQ.off rfl rfl rfl ?_ | refine WQ.nil ?_)
  refine WQ.load rfl rfl rfl rfl rfl (fun w' q => cell_below q.below hc7) ?_
  repeat (first | refine WQ.pure rfl rfl rfl ?_ | refine WQ.off rfl rfl rfl ?_ | refine WQ.nil ?_)
  refine WQ.ixload rfl (fun _ => rfl) rfl rfl rfl rfl rfl rfl rfl hv rfl rfl (fun w' q => cell_below q.below hfc) ?_
  refine WQ.load rfl rfl rfl rfl rfl (fun w' q => cell_below q.below h21) ?_
  refine WQ.pure rfl rfl rfl ?_
  refine WQ.known (d := 15) (congrArg (fun z => some (Value.int .i64 z)) e1) ?_
  generalize bd (fair.getD v 0) seen = dif at *
  repeat (first | refine WQ.pure rfl rfl rfl ?_ | refine WQ.off rfl rfl rfl ?_ | refine WQ.nil ?_)
  refine WQ.split 17 rfl (fun c1 => ?_) (fun c1 => ?_)
  · have c1 : dif ≠ 0 := by simpa using c1
    rw [decide_eq_true c1, Bool.true_or]
    repeat (first | refine WQ.pure rfl rfl rfl ?_ | refine WQ.off rfl rfl rfl ?_ | refine WQ.nil ?_)
    intro w2 hp2
    repeat (first | refine WC.seq ?_ | refine WC.reg ?_ | refine WL.pure rfl rfl rfl ?_ | refine WL.nil ?_ | refine WC.skip ?_ | refine WC.block ?_ | refine WC.condT rfl ?_ | refine WC.condF rfl ?_ | refine WL.off rfl rfl rfl ?_ | refine WL.off0 rfl rfl ?_ | refine WC.exit ?_ | refine blk_hit ?_ | refine blk_miss rfl ?_ | refine WC.ret ?_)
    exact Res.one rfl rfl rfl ⟨rfl, hp2⟩
  · have c1 : ¬ dif ≠ 0 := by simpa using c1
    rw [decide_eq_false c1, Bool.false_or]
    refine WQ.load rfl rfl rfl rfl rfl (fun w' q => cell_below q.below h21) ?_
    refine WQ.load rfl rfl rfl rfl rfl (fun w' q => cell_below q.below h7) ?_
    repeat (first | refine WQ.pure rfl rfl rfl ?_ | refine WQ.off rfl rfl rfl ?_ | refine WQ.nil ?_)
    refine WQ.split 21 rfl (fun c2 => ?_) (fun c2 => ?_)
    · have c2 : seen = all := Int.ofNat_inj.1 (beq_iff_eq.1 c2)
      rw [decide_eq_true c2, Bool.true_and]
      repeat (first | refine WQ.pure rfl rfl rfl ?_ | refine WQ.off rfl rfl rfl ?_ | refine WQ.nil ?_)
      refine WQ.load rfl rfl rfl rfl rfl (fun w' q => cell_below q.below h18) ?_
      repeat (first | refine WQ.pure rfl rfl rfl ?_ | refine WQ.off rfl rfl rfl ?_ | refine WQ.nil ?_)
      intro w2 hp2
      repeat (first | refine WC.seq ?_ | refine WC.reg ?_ | refine WL.pure rfl rfl rfl ?_ | refine WL.nil ?_ | refine WC.skip ?_ | refine WC.block ?_ | refine WC.condT rfl ?_ | refine WC.condF rfl ?_ | refine WL.off rfl rfl rfl ?_ | refine WL.off0 rfl rfl ?_ | refine WC.exit ?_ | refine blk_hit ?_ | refine blk_miss rfl ?_ | refine WC.ret ?_)
      refine Res.one rfl rfl rfl ⟨?_, hp2⟩
      congr 1
      rw [Bool.eq_iff_iff, beq_iff_eq, decide_eq_true_iff]
      exact Int.ofNat_inj
    · have c2 : ¬ seen = all := fun h => by rw [h] at c2; simp at c2
      rw [decide_eq_false c2, Bool.false_and]
      repeat (first | refine WQ.pure rfl rfl rfl ?_ | refine WQ.off rfl rfl rfl ?_ | refine WQ.nil ?_)
      intro w2 hp2
      repeat (first | refine WC.seq ?_ | refine WC.reg ?_ | refine WL.pure rfl rfl rfl ?_ | refine WL.nil ?_ | refine WC.skip ?_ | refine WC.block ?_ | refine WC.condT rfl ?_ | refine WC.condF rfl ?_ | refine WL.off rfl rfl rfl ?_ | refine WL.off0 rfl rfl ?_ | refine WC.exit ?_ | refine blk_hit ?_ | refine blk_miss rfl ?_ | refine WC.ret ?_)
      exact Res.one rfl rfl rfl ⟨rfl, hp2⟩
end Go.Proofs.YtpbbneclkhfgoaaDoor
end
