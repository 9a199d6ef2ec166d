/- ltl, twenty-second: graph. -/
import Derived.Test.YtpbbneclkhfgoaaDoorU21
namespace Go.Proofs.YtpbbneclkhfgoaaDoor
open Go.W Go.Ltl Go.RowKit
set_option maxRecDepth 100000
attribute [local irreducible] WC WL WQ WS WH

def rowE (x : Option Addr × Nat × List Nat) : Ent := Rna (byR x) x.2.2.length x.2.2
def byE (B : By) : List Ent := B.map fun p => rowE p.2
theorem rowE_sl {w0 w : World} {L : List Ent} (hp : Hp w0 w L) {x : Option Addr × Nat × List Nat} (hx : rowE x ∈ L) : Sl w x.1 (natL x.2.2) := Sl.of_row (hp.sat _ hx)
theorem byE_sl {w0 w : World} {A C : List Ent} {B : By} (hp : Hp w0 w (A ++ (byE B ++ C))) : ∀ p ∈ B, Sl w p.2.1 (natL p.2.2.2) := fun p h => rowE_sl hp (by
  have : rowE p.2 ∈ byE B := List.mem_map.2 ⟨p, h, rfl⟩
  simp [this])
def byF (pairs : Nat) (want : List Nat) (i : Nat) (k : Int × Int) : List Nat := (List.range i).filter fun u => ((u / pairs : Nat) : Int) = k.1 ∧ ((want.getD u 0 : Nat) : Int) = k.2
theorem byF_len (pairs : Nat) (want : List Nat) (i : Nat) (k : Int × Int) : (byF pairs want i k).length ≤ i := by
  have := List.length_filter_le (fun u => decide (((u / pairs : Nat) : Int) = k.1 ∧ ((want.getD u 0 : Nat) : Int) = k.2)) (List.range i)
  rw [List.length_range] at this
  exact this
theorem byF_succ (pairs : Nat) (want : List Nat) (i : Nat) (k : Int × Int) : byF pairs want (i + 1) k = byF pairs want i k ++ if k = (((i / pairs : Nat) : Int), ((want.getD i 0 : Nat) : Int)) then [i] else [] := by
  unfold byF
  rw [List.range_succ, List.filter_append]
  congr 1
  by_cases h : k = (((i / pairs : Nat) : Int), ((want.getD i 0 : Nat) : Int))
  · subst h; simp
  · rw [if_neg h]
    have : ¬ (((i / pairs : Nat) : Int) = k.1 ∧ ((want.getD i 0 : Nat) : Int) = k.2) := fun h2 => h (Prod.ext h2.1.symm h2.2.symm)
    rw [List.filter_cons_of_neg (by simpa using this)]; rfl
theorem byG_put (B : By) (k q : Int × Int) (x : Option Addr × Nat × List Nat) : byG (kPut B k x) q = if q = k then x.2.2 else byG B q := by
  unfold byG
  rw [kGet_put]
  split <;> rfl
theorem set_nil (R : Nrs) (m : Nat) (x : Option Addr × Nat × List Nat) : (rsV R ++ List.replicate (m + 1) (Value.slice none 0 0)).toArray.setIfInBounds R.length (byR x) = (rsV (R ++ [x]) ++ List.replicate m (Value.slice none 0 0)).toArray := by
  apply Array.ext'
  rw [Array.toList_setIfInBounds, List.toList_toArray, List.toList_toArray]
  have hl : R.length = (rsV R).length := by simp [rsV]
  rw [List.replicate_succ, hl, List.set_append_right _ _ (Nat.le_refl _), Nat.sub_self, List.set_cons_zero]
  simp [rsV, byR]
theorem natL_get {l : List Nat} {i : Nat} (h : i < l.length) : (natL l)[i]? = some (.int .i64 (l.getD i 0 : Nat)) := by rw [natL_at h]; simp [h]

theorem graph_any (xb : Nat) (an : Option Addr) (cn : Nat) (rs : Nrs) (mk : Value) (starts : Nat) (lv : Value) (pairs : Nat) (wa : Option Addr) (wc : Nat) (want : List Nat) (tv fv : Value) (w : World)
    (hx : w.heap[xb]? = some (Sxo (.slice an rs.length cn) mk starts lv pairs (.slice wa want.length wc) tv fv)) (hT : Tbl w an rs) (hW : Sl w wa (natL want))
    (hp0 : 0 < pairs) (hN : want.length = rs.length * pairs) (hrs : ∀ x ∈ rs, x.2.2.length ≤ 16) (hn : rs.length ≤ 16) (hpp : pairs ≤ 4096) (hwb : ∀ x ∈ want, x < 2 ^ 40) :
    Ret Tryd.prog 87 [ptr xb] w fun u w' => ∃ ob R, u = .slice (some ⟨ob, 0, none⟩) R.length R.length ∧ R.length = want.length ∧ rsN R = graphM (rsN rs) pairs want ∧ Hp w w' [] ∧ Tbl w' (some ⟨ob, 0, none⟩) R := by
  have hne : ((pairs : Nat) : Int) ≠ 0 := by omega
  have hNb : want.length ≤ 65536 := by rw [hN]; exact Nat.le_trans (Nat.mul_le_mul hn hpp) (by decide)
  have hxl : xb < w.heap.size := (Array.getElem?_eq_some_iff.1 hx).1
  have hc4 : w.cell? ⟨xb, 4, none⟩ = some (.int .i64 (pairs : Nat)) := cell_of_obj (j := 4) hx rfl
  have hc5 : w.cell? ⟨xb, 5, none⟩ = some (.slice wa want.length wc) := cell_of_obj (j := 5) hx rfl
  refine enter Tryd.func87 rfl rfl ⟨rfl, rfl⟩ rfl ?_
  repeat (first | refine WC.seq ?_ | refine WC.reg ?_ | refine WL.pure rfl rfl rfl ?_ | refine WL.nil ?_ | refine WC.skip ?_ | refine WC.block ?_ | refine WC.condT rfl ?_ | refine WC.condF rfl ?_ | refine WL.off rfl rfl rfl ?_ | refine WL.off0 rfl rfl ?_ | refine WC.exit ?_ | refine blk_hit ?_ | refine blk_miss rfl ?_ | refine WC.ret ?_)
  refine WL.makeMap rfl rfl ?_
  intro mb w1 h1
  have hp1 : Hp w w1 ([] ++ (.blk mb (mapO pKey (byV [])) :: (byE [] ++ []))) := (Hp.start w).new h1
  repeat (first | refine WC.seq ?_ | refine WC.reg ?_ | refine WL.pure rfl rfl rfl ?_ | refine WL.nil ?_ | refine WC.skip ?_ | refine WC.block ?_ | refine WC.condT rfl ?_ | refine WC.condF rfl ?_ | refine WL.off rfl rfl rfl ?_ | refine WL.off0 rfl rfl ?_ | refine WC.exit ?_ | refine blk_hit ?_ | refine blk_miss rfl ?_ | refine WC.ret ?_)
  refine WL.nilC rfl rfl rfl ?_
  repeat (first | refine WC.seq ?_ | refine WC.reg ?_ | refine WL.pure rfl rfl rfl ?_ | refine WL.nil ?_ | refine WC.skip ?_ | refine WC.block ?_ | refine WC.condT rfl ?_ | refine WC.condF rfl ?_ | refine WL.off rfl rfl rfl ?_ | refine WL.off0 rfl rfl ?_ | refine WC.exit ?_ | refine blk_hit ?_ | refine blk_miss rfl ?_ | refine WC.ret ?_)
  refine WL.load rfl rfl rfl rfl rfl (cell_below hp1.below hc5) ?_
  repeat (first | refine WC.seq ?_ | refine WC.reg ?_ | refine WL.pure rfl rfl rfl ?_ | refine WL.nil ?_ | refine WC.skip ?_ | refine WC.block ?_ | refine WC.condT rfl ?_ | refine WC.condF rfl ?_ | refine WL.off rfl rfl rfl ?_ | refine WL.off0 rfl rfl ?_ | refine WC.exit ?_ | refine blk_hit ?_ | refine blk_miss rfl ?_ | refine WC.ret ?_)
  refine WC.loop (Nat × By) (fun (i, _) => [(0, ptr xb), (3, .map (some mb)), (13, .slice wa want.length wc), (14, .int .i64 (want.length : Nat)), (15, .int .i64 (i : Nat))])
    (fun (i, B) w' => i ≤ want.length ∧ (∀ k, byG B k = byF pairs want i k) ∧ Hp w w' (.blk mb (mapO pKey (byV B)) :: (byE B ++ []))) (fun (i, _) => want.length - i) (0, []) ⟨rfl, rfl, rfl, rfl, rfl, rfl⟩ ⟨Nat.zero_le _, fun k => rfl, hp1⟩ ?_
  clear hp1
  rintro ⟨i, B⟩ w2 ⟨hi, hG, hp2⟩
  replace hi : i ≤ want.length := hi
  replace hG : ∀ k, byG B k = byF pairs want i k := hG
  replace hp2 : Hp w w2 (.blk mb (mapO pKey (byV B)) :: (byE B ++ [])) := hp2
  repeat (first | refine WC.seq ?_ | refine WC.reg ?_ | refine WL.pure rfl rfl rfl ?_ | refine WL.nil ?_ | refine WC.skip ?_ | refine WC.block ?_ | refine WC.condT rfl ?_ | refine WC.condF rfl ?_ | refine WL.off rfl rfl rfl ?_ | refine WL.off0 rfl rfl ?_ | refine WC.exit ?_ | refine blk_hit ?_ | refine blk_miss rfl ?_ | refine WC.ret ?_)
  refine WC.cond rfl (fun c1 => ?_) (fun c1 => ?_)
  · have hi : i < want.length := by have := of_decide_eq_true c1; omega
    have step := wrap_succ (i := i) (n := i + 1) (by omega) (by omega)
    have e1 := wrap_div (a := i) (b := pairs) (by omega)
    have e0 : want.getD i 0 = want[i] := by simp [hi]
    obtain ⟨wt, hwt⟩ : ∃ wt, wt = want.getD i 0 := ⟨_, rfl⟩
    have hwtb : wt < 2 ^ 40 := by rw [hwt, e0]; exact hwb _ (List.getElem_mem hi)
    repeat (first | refine WC.seq ?_ | refine WC.reg ?_ | refine WL.pure rfl rfl rfl ?_ | refine WL.nil ?_ | refine WC.skip ?_ | refine WC.block ?_ | refine WC.condT rfl ?_ | refine WC.condF rfl ?_ | refine WL.off rfl rfl rfl ?_ | refine WL.off0 rfl rfl ?_ | refine WC.exit ?_ | refine blk_hit ?_ | refine blk_miss rfl ?_ | refine WC.ret ?_)
    refine WL.ixload rfl (fun _ => rfl) rfl rfl rfl rfl rfl rfl rfl hi rfl rfl (hW.hp hp2) (natL_get hi) ?_
    intro q
    rw [← hwt]
    repeat (first | refine WC.seq ?_ | refine WC.reg ?_ | refine WL.pure rfl rfl rfl ?_ | refine WL.nil ?_ | refine WC.skip ?_ | refine WC.block ?_ | refine WC.condT rfl ?_ | refine WC.condF rfl ?_ | refine WL.off rfl rfl rfl ?_ | refine WL.off0 rfl rfl ?_ | refine WC.exit ?_ | refine blk_hit ?_ | refine blk_miss rfl ?_ | refine WC.ret ?_)
    refine WL.nilC rfl rfl rfl ?_
    repeat (first | refine WC.seq ?_ | refine WC.reg ?_ | refine WL.pure rfl rfl rfl ?_ | refine WL.nil ?_ | refine WC.skip ?_ | refine WC.block ?_ | refine WC.condT rfl ?_ | refine WC.condF rfl ?_ | refine WL.off rfl rfl rfl ?_ | refine WL.off0 rfl rfl ?_ | refine WC.exit ?_ | refine blk_hit ?_ | refine blk_miss rfl ?_ | refine WC.ret ?_)
    refine WL.load rfl rfl rfl rfl rfl (cell_below hp2.below hc4) ?_
    refine WL.quo rfl rfl rfl rfl hne ?_
    refine WL.known (d := 25) (congrArg (fun z => some (Value.int .i64 z)) e1) ?_
    refine WL.pure rfl rfl rfl ?_
    refine WL.buildA (cs := [.int .i64 (i / pairs : Nat), .int .i64 (wt : Nat)]) rfl rfl rfl rfl rfl rfl ?_
    refine WL.alloc rfl rfl rfl (fun b6 w3 h3 => ?_)
    have hp3 := hp2.new h3
    refine WL.storeN rfl rfl rfl rfl rfl (by simp [Value.oneCell']) (hp3.obj 0 rfl) (Nat.le_refl _) rfl (fun w4 h4 => ?_)
    have hp4 : Hp w w4 (.blk b6 (.cells #[.int .i64 (i / pairs : Nat), .int .i64 (wt : Nat)] 79 (0, 0)) :: .blk mb (mapO pKey (byV B)) :: (byE B ++ [])) := hp3.set 0 rfl rfl h4
    repeat (first | refine WC.seq ?_ | refine WC.reg ?_ | refine WL.pure rfl rfl rfl ?_ | refine WL.nil ?_ | refine WC.skip ?_ | refine WC.block ?_ | refine WC.condT rfl ?_ | refine WC.condF rfl ?_ | refine WL.off rfl rfl rfl ?_ | refine WL.off0 rfl rfl ?_ | refine WC.exit ?_ | refine blk_hit ?_ | refine blk_miss rfl ?_ | refine WC.ret ?_)
    refine WL.loadN rfl rfl rfl rfl rfl (cs := [.int .i64 (i / pairs : Nat), .int .i64 (wt : Nat)]) rfl (fun q v hq => cell_of_obj (hp4.obj 0 rfl) (by rw [Nat.zero_add]; simpa using hq)) ?_
    repeat (first | refine WC.seq ?_ | refine WC.reg ?_ | refine WL.pure rfl rfl rfl ?_ | refine WL.nil ?_ | refine WC.skip ?_ | refine WC.block ?_ | refine WC.condT rfl ?_ | refine WC.condF rfl ?_ | refine WL.off rfl rfl rfl ?_ | refine WL.off0 rfl rfl ?_ | refine WC.exit ?_ | refine blk_hit ?_ | refine blk_miss rfl ?_ | refine WC.ret ?_)
    refine WL.buildS (cs := [.int .i64 (i : Nat)]) rfl rfl rfl rfl rfl rfl rfl rfl rfl (fun b7 w5 h5 => ?_)
    have hp5 := hp4.new h5
    obtain ⟨k, hk⟩ : ∃ k : Int × Int, k = (((i / pairs : Nat) : Int), ((wt : Nat) : Int)) := ⟨_, rfl⟩
    have hkv : Value.agg #[.int .i64 (i / pairs : Nat), .int .i64 (wt : Nat)] = pKey k := by rw [hk]; rfl
    refine WL.val rfl rfl rfl (yMapEnt (k := k) (l := byV B) (keyT_pair rfl rfl) rfl rfl rfl (congrArg some hkv) (hp5.obj 2 rfl)) ?_
    have hp6 := hp5.set 2 rfl rfl (setB_put (hp5.obj 2 rfl) (o' := mapO pKey (kTouch (byV B) k ti22.zero)))
    generalize (w5.putObj mb (mapO pKey (kTouch (byV B) k ti22.zero))) = w6 at *
    have htch : kTouch (byV B) k ti22.zero = byV (kTouch B k (none, 0, [])) := kTouch_map (g := id) byR (fun _ _ h => h) B k (none, 0, [])
    obtain ⟨x, hxx⟩ : ∃ x, x = (kGet B k).getD (none, 0, []) := ⟨_, rfl⟩
    have hgx : byG B k = x.2.2 := by rw [hxx]; unfold byG; cases kGet B k <;> rfl
    have hgv : (kGet (byV B) k).getD ti22.zero = byR x := by rw [byV_get, hxx]; cases kGet B k <;> rfl
    have hpos : kPos (byV B) k = kPos B k := kPos_map (g := id) byR (fun _ _ h => h) B k
    have hxl2 : x.2.2.length ≤ 65536 := by rw [← hgx, hG]; exact Nat.le_trans (byF_len _ _ _ _) (by omega)
    rw [htch] at hp6
    rw [hgv, hpos]
    have hat := kTouch_get B k (none, 0, [])
    rw [← hxx] at hat
    have hput := kTouch_put B k (none, 0, [])
    obtain ⟨xa, xc, xl⟩ := x
    replace hxl2 : xl.length ≤ 65536 := hxl2
    generalize hB' : kTouch B k (none, 0, []) = B' at *
    have hp7 : Hp w w6 (.blk b7 (.cells #[.int .i64 (i : Nat)] 3 (0, 0)) :: .blk b6 (.cells #[.int .i64 (i / pairs : Nat), .int .i64 (wt : Nat)] 79 (0, 0)) :: .blk mb (mapO pKey (byV B')) :: (byE B' ++ [])) := by
      subst hB'
      unfold kTouch at hp6 ⊢
      split at hp6
      · rename_i h; rw [if_pos h]; exact hp6
      · rename_i h; rw [if_neg h]
        unfold byE
        rw [List.map_append]
        have := Hp.rot [rowE (none, 0, [])] (.blk b7 (.cells #[.int .i64 (i : Nat)] 3 (0, 0)) :: .blk b6 (.cells #[.int .i64 (i / pairs : Nat), .int .i64 (wt : Nat)] 79 (0, 0)) :: .blk mb (mapO pKey (byV (B ++ [(k, (none, 0, []))]))) :: byE B) [] (hp6.nilrow 3 1)
        simpa [byE] using this
    have hnth : nth (byE B' ++ []) (kPos B k) = some (rowE (xa, xc, xl)) := by
      rw [nth_eq, List.append_nil, byE, List.getElem?_map, hat]; rfl
    repeat (first | refine WC.seq ?_ | refine WC.reg ?_ | refine WL.pure rfl rfl rfl ?_ | refine WL.nil ?_ | refine WC.skip ?_ | refine WC.block ?_ | refine WC.condT rfl ?_ | refine WC.condF rfl ?_ | refine WL.off rfl rfl rfl ?_ | refine WL.off0 rfl rfl ?_ | refine WC.exit ?_ | refine blk_hit ?_ | refine blk_miss rfl ?_ | refine WC.ret ?_)
    refine WL.append (kPos B k + 3) hp7 rfl rfl rfl rfl rfl (by decide) rfl rfl hnth (news := [.int .i64 (i : Nat)]) (Sl.of_obj (hp7.obj 0 rfl) (fun q u hq => by simpa using hq)) rfl (natL_cells [i]) (by unfold maxLen; show xl.length + 1 ≤ _; omega) (by show (xl.length + 1) * 8 ≤ _; omega) ?_
    intro ra rc w7 hp8 _
    obtain ⟨y, hy⟩ : ∃ y : Option Addr × Nat × List Nat, y = (ra, rc, xl ++ [i]) := ⟨_, rfl⟩
    have hyr : byR y = .slice ra (xl.length + 1) rc := by rw [hy]; unfold byR; rw [List.length_append]; rfl
    have hp9 : Hp w w7 (.blk b7 (.cells #[.int .i64 (i : Nat)] 3 (0, 0)) :: .blk b6 (.cells #[.int .i64 (i / pairs : Nat), .int .i64 (wt : Nat)] 79 (0, 0)) :: .blk mb (mapO pKey (byV B')) :: (byE (kPut B k y) ++ [])) := by
      rw [← hput y]
      have e9 : byE (B'.set (kPos B k) (k, y)) ++ [] = (byE B' ++ []).set (kPos B k) (rowE y) := by
        rw [List.append_nil, List.append_nil]; unfold byE; rw [List.map_set]
      rw [e9]
      have e10 : rowE y = .row 3 1 (.slice ra (xl.length + 1) rc) (xl.length + 1) (natL xl ++ [.int .i64 (i : Nat)]) := by
        unfold rowE; rw [hyr, hy]; simp [Rna, natL]
      rw [e10]
      exact hp8
    repeat (first | refine WC.seq ?_ | refine WC.reg ?_ | refine WL.pure rfl rfl rfl ?_ | refine WL.nil ?_ | refine WC.skip ?_ | refine WC.block ?_ | refine WC.condT rfl ?_ | refine WC.condF rfl ?_ | refine WL.off rfl rfl rfl ?_ | refine WL.off0 rfl rfl ?_ | refine WC.exit ?_ | refine blk_hit ?_ | refine blk_miss rfl ?_ | refine WC.ret ?_)
    refine WL.skip rfl rfl (yEntSt (k := k) (l := byV B) (v := byR y) (zz := ti22.zero) (kv := pKey) rfl (congrArg (fun z => some (Value.int .i64 (z : Nat))) hpos.symm) (congrArg some hyr.symm) (by rw [htch]; exact hp9.obj 2 rfl)) ?_
    have hp10 := hp9.set 2 rfl rfl (setB_put (hp9.obj 2 rfl) (o' := mapO pKey (kPut (byV B) k (byR y))))
    generalize (w7.putObj mb (mapO pKey (kPut (byV B) k (byR y)))) = w8 at *
    rw [show kPut (byV B) k (byR y) = byV (kPut B k y) from kPut_map (g := id) byR (fun _ _ h => h) B k y] at hp10
    repeat (first | refine WC.seq ?_ | refine WC.reg ?_ | refine WL.pure rfl rfl rfl ?_ | refine WL.nil ?_ | refine WC.skip ?_ | refine WC.block ?_ | refine WC.condT rfl ?_ | refine WC.condF rfl ?_ | refine WL.off rfl rfl rfl ?_ | refine WL.off0 rfl rfl ?_ | refine WC.exit ?_ | refine blk_hit ?_ | refine blk_miss rfl ?_ | refine WC.ret ?_)
    refine ⟨(i + 1, kPut B k y), (by show want.length - (i + 1) < want.length - i; omega), ⟨rfl, rfl, rfl, rfl, congrArg (fun z => some (Value.int .i64 z)) step, rfl⟩, hi, ?_, hp10.tail.tail⟩
    intro q
    rw [byG_put, byF_succ, ← hwt, ← hk, ← hG]
    by_cases hq : q = k
    · rw [if_pos hq, if_pos hq, hq, hgx, hy]
    · rw [if_neg hq, if_neg hq, List.append_nil]
  · have hi : i = want.length := by have := of_decide_eq_false c1; omega
    subst hi
    repeat (first | refine WC.seq ?_ | refine WC.reg ?_ | refine WL.pure rfl rfl rfl ?_ | refine WL.nil ?_ | refine WC.skip ?_ | refine WC.block ?_ | refine WC.condT rfl ?_ | refine WC.condF rfl ?_ | refine WL.off rfl rfl rfl ?_ | refine WL.off0 rfl rfl ?_ | refine WC.exit ?_ | refine blk_hit ?_ | refine blk_miss rfl ?_ | refine WC.ret ?_)
    refine WL.nilC rfl rfl rfl ?_
    repeat (first | refine WC.seq ?_ | refine WC.reg ?_ | refine WL.pure rfl rfl rfl ?_ | refine WL.nil ?_ | refine WC.skip ?_ | refine WC.block ?_ | refine WC.condT rfl ?_ | refine WC.condF rfl ?_ | refine WL.off rfl rfl rfl ?_ | refine WL.off0 rfl rfl ?_ | refine WC.exit ?_ | refine blk_hit ?_ | refine blk_miss rfl ?_ | refine WC.ret ?_)
    refine WL.load rfl rfl rfl rfl rfl (cell_below hp2.below hc5) ?_
    repeat (first | refine WC.seq ?_ | refine WC.reg ?_ | refine WL.pure rfl rfl rfl ?_ | refine WL.nil ?_ | refine WC.skip ?_ | refine WC.block ?_ | refine WC.condT rfl ?_ | refine WC.condF rfl ?_ | refine WL.off rfl rfl rfl ?_ | refine WL.off0 rfl rfl ?_ | refine WC.exit ?_ | refine blk_hit ?_ | refine blk_miss rfl ?_ | refine WC.ret ?_)
    refine WL.make (m := want.length) rfl rfl rfl rfl rfl rfl rfl rfl (by show 24 * want.length ≤ _; omega) (by unfold maxLen; omega) (fun ob w3 h3 => ?_)
    have hp3 := hp2.new h3
    repeat (first | refine WC.seq ?_ | refine WC.reg ?_ | refine WL.pure rfl rfl rfl ?_ | refine WL.nil ?_ | refine WC.skip ?_ | refine WC.block ?_ | refine WC.condT rfl ?_ | refine WC.condF rfl ?_ | refine WL.off rfl rfl rfl ?_ | refine WL.off0 rfl rfl ?_ | refine WC.exit ?_ | refine blk_hit ?_ | refine blk_miss rfl ?_ | refine WC.ret ?_)
    refine WC.loop (Nat × Nrs) (fun (j, _) => [(0, ptr xb), (3, .map (some mb)), (7, .slice (some ⟨ob, 0, none⟩) want.length want.length), (44, .int .i64 (want.length : Nat)), (45, .int .i64 (j : Nat))])
      (fun (j, R) w' => j ≤ want.length ∧ R.length = j ∧ rsN R = (graphM (rsN rs) pairs want).take j ∧ Hp w w' (.blk ob (.cells (rsV R ++ List.replicate (want.length - j) (Value.slice none 0 0)).toArray 22 (0, 0)) :: .blk mb (mapO pKey (byV B)) :: (R.reverse.map rowE ++ (byE B ++ [])))) (fun (j, _) => want.length - j) (0, []) ⟨rfl, rfl, rfl, rfl, rfl, rfl⟩ ⟨Nat.zero_le _, rfl, rfl, hp3⟩ ?_
    clear hp3 hp2
    rintro ⟨j, R⟩ w4 ⟨hj, hRl, hRn, hp4⟩
    replace hj : j ≤ want.length := hj
    replace hRl : R.length = j := hRl
    replace hRn : rsN R = (graphM (rsN rs) pairs want).take j := hRn
    replace hp4 : Hp w w4 (.blk ob (.cells (rsV R ++ List.replicate (want.length - j) (Value.slice none 0 0)).toArray 22 (0, 0)) :: .blk mb (mapO pKey (byV B)) :: (R.reverse.map rowE ++ (byE B ++ []))) := hp4
    repeat (first | refine WC.seq ?_ | refine WC.reg ?_ | refine WL.pure rfl rfl rfl ?_ | refine WL.nil ?_ | refine WC.skip ?_ | refine WC.block ?_ | refine WC.condT rfl ?_ | refine WC.condF rfl ?_ | refine WL.off rfl rfl rfl ?_ | refine WL.off0 rfl rfl ?_ | refine WC.exit ?_ | refine blk_hit ?_ | refine blk_miss rfl ?_ | refine WC.ret ?_)
    refine WC.cond rfl (fun c2 => ?_) (fun c2 => ?_)
    · have hj : j < want.length := by have := of_decide_eq_true c2; omega
      have step := wrap_succ (i := j) (n := j + 1) (by omega) (by omega)
      repeat (first | refine WC.seq ?_ | refine WC.reg ?_ | refine WL.pure rfl rfl rfl ?_ | refine WL.nil ?_ | refine WC.skip ?_ | refine WC.block ?_ | refine WC.condT rfl ?_ | refine WC.condF rfl ?_ | refine WL.off rfl rfl rfl ?_ | refine WL.off0 rfl rfl ?_ | refine WC.exit ?_ | refine blk_hit ?_ | refine blk_miss rfl ?_ | refine WC.ret ?_)
      refine WL.call rfl rfl rfl rfl rfl ent103 (next_any xb an cn rs mk starts lv pairs _ tv fv mb B w4 j (by rw [hp4.below.block xb hxl]; exact hx) (hT.hp hp4) (hp4.obj 1 rfl) (byE_sl (A := .blk ob (.cells (rsV R ++ List.replicate (want.length - j) (Value.slice none 0 0)).toArray 22 (0, 0)) :: .blk mb (mapO pKey (byV B)) :: R.reverse.map rowE) hp4) hp0 (by omega) hrs (fun k => by rw [hG]; exact Nat.le_trans (byF_len _ _ _ _) hNb) hn hpp) ?_
      rintro _ w5 ⟨ra, rc, rfl, hp5⟩
      have hp6 := hp4.comb hp5
      obtain ⟨out, hout⟩ : ∃ out, out = nxF B (j % pairs) ((rsN rs).getD (j / pairs) []) := ⟨_, rfl⟩
      simp only [← hout] at hp6 ⊢
      have hsz : j < (rsV R ++ List.replicate (want.length - j) (Value.slice none 0 0)).toArray.size := by
        simp [rsV]; omega
      repeat (first | refine WC.seq ?_ | refine WC.reg ?_ | refine WL.pure rfl rfl rfl ?_ | refine WL.nil ?_ | refine WC.skip ?_ | refine WC.block ?_ | refine WC.condT rfl ?_ | refine WC.condF rfl ?_ | refine WL.off rfl rfl rfl ?_ | refine WL.off0 rfl rfl ?_ | refine WC.exit ?_ | refine blk_hit ?_ | refine blk_miss rfl ?_ | refine WC.ret ?_)
      refine WL.ix1 rfl rfl rfl rfl rfl rfl rfl hj ?_
      rw [Nat.zero_add]
      refine WL.store rfl rfl rfl rfl rfl rfl (hp6.obj 1 rfl) hsz (fun w6 h6 => ?_)
      have hp7 := hp6.set 1 rfl rfl h6
      have e7 : (rsV R ++ List.replicate (want.length - j) (Value.slice none 0 0)).toArray.setIfInBounds j (.slice ra out.length rc) = (rsV (R ++ [(ra, rc, out)]) ++ List.replicate (want.length - (j + 1)) (Value.slice none 0 0)).toArray := by
        have := set_nil R (want.length - (j + 1)) (ra, rc, out)
        rw [show want.length - (j + 1) + 1 = want.length - j by omega, hRl] at this
        exact this
      rw [e7] at hp7
      repeat (first | refine WC.seq ?_ | refine WC.reg ?_ | refine WL.pure rfl rfl rfl ?_ | refine WL.nil ?_ | refine WC.skip ?_ | refine WC.block ?_ | refine WC.condT rfl ?_ | refine WC.condF rfl ?_ | refine WL.off rfl rfl rfl ?_ | refine WL.off0 rfl rfl ?_ | refine WC.exit ?_ | refine blk_hit ?_ | refine blk_miss rfl ?_ | refine WC.ret ?_)
      refine ⟨(j + 1, R ++ [(ra, rc, out)]), (by show want.length - (j + 1) < want.length - j; omega), ⟨rfl, rfl, rfl, rfl, congrArg (fun z => some (Value.int .i64 z)) step, rfl⟩, hj, by simp [hRl], ?_, ?_⟩
      · have hgl : (graphM (rsN rs) pairs want).length = want.length := by simp [graphM]
        show rsN (R ++ [(ra, rc, out)]) = (graphM (rsN rs) pairs want).take (j + 1)
        rw [List.take_succ_eq_append_getElem (by rw [hgl]; exact hj), ← hRn]
        unfold rsN
        rw [List.map_append]
        congr 1
        simp only [List.map_cons, List.map_nil, graphM, List.getElem_map, List.getElem_range, hout, nxF]
        congr 1
        show List.flatMap _ ((rsN rs).getD (j / pairs) []) = List.flatMap _ ((rsN rs).getD (j / pairs) [])
        congr 1
        funext t
        rw [hG, byF]
        congr 1
        funext u
        exact decide_eq_decide.2 (and_congr Int.ofNat_inj Int.ofNat_inj)
      · show Hp w w6 (.blk ob (.cells (rsV (R ++ [(ra, rc, out)]) ++ List.replicate (want.length - (j + 1)) (Value.slice none 0 0)).toArray 22 (0, 0)) :: .blk mb (mapO pKey (byV B)) :: ((R ++ [(ra, rc, out)]).reverse.map rowE ++ (byE B ++ [])))
        rw [List.reverse_append, List.reverse_singleton, List.singleton_append, List.map_cons]
        exact Hp.rot [rowE (ra, rc, out)] [_, _] _ hp7
    · have hj : j = want.length := by have := of_decide_eq_false c2; omega
      subst hj
      rw [Nat.sub_self, List.replicate_zero, List.append_nil] at hp4
      have hgl : (graphM (rsN rs) pairs want).length = want.length := by simp [graphM]
      repeat (first | refine WC.seq ?_ | refine WC.reg ?_ | refine WL.pure rfl rfl rfl ?_ | refine WL.nil ?_ | refine WC.skip ?_ | refine WC.block ?_ | refine WC.condT rfl ?_ | refine WC.condF rfl ?_ | refine WL.off rfl rfl rfl ?_ | refine WL.off0 rfl rfl ?_ | refine WC.exit ?_ | refine blk_hit ?_ | refine blk_miss rfl ?_ | refine WC.ret ?_)
      refine Res.one rfl rfl rfl ⟨ob, R, by rw [hRl], hRl, by rw [hRn, List.take_of_length_le (by rw [hgl]; omega)], hp4.nil', Sl.of_obj (hp4.obj 0 rfl) (fun i u h => by simpa using h), fun x hx => rowE_sl hp4 ?_⟩
      have : rowE x ∈ R.reverse.map rowE := List.mem_map.2 ⟨x, List.mem_reverse.2 hx, rfl⟩
      simp only [List.mem_cons, List.mem_append]
      exact .inr (.inr (.inl this))
end Go.Proofs.YtpbbneclkhfgoaaDoor
