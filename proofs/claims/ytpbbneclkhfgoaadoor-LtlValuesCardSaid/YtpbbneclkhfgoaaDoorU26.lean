/- ltl, twenty-sixth: run. -/
import Derived.Test.YtpbbneclkhfgoaaDoorU25
import Derived.Test.YtpbbneclkhfgoaaDoorYh
namespace Go.Proofs.YtpbbneclkhfgoaaDoor
open Go.W Go.Ltl Go.RowKit
set_option maxRecDepth 100000
attribute [local irreducible] WC WL WQ WS WH

theorem states2_any (xb : Nat) (nx mk : Value) (starts : Nat) (lv : Value) (pairs : Nat) (wv tv fv : Value) (hp0 : 0 < pairs) (a : Option Addr) (c : Nat) (l : List Nat) (hl : l.length ≤ 4398046511104) (hb : ∀ x ∈ l, x < 9223372036854775808) (w : World)
    (hx : w.heap[xb]? = some (Sxo nx mk starts lv pairs wv tv fv)) (hs : Sl w a (natL l)) :
    Ret Tryd.prog 94 [ptr xb, .slice a l.length c] w fun v w' => ∃ ra rc, v = .slice ra l.length rc ∧ Hp w w' [Rna (.slice ra l.length rc) l.length (l.map (· / pairs))] := by
  have hne : ((pairs : Nat) : Int) ≠ 0 := by omega
  refine enter Tryd.func94 rfl rfl ⟨rfl, rfl⟩ rfl ?_
  have hpc : w.cell? ⟨xb, 0 + 4, none⟩ = some (.int .i64 (pairs : Nat)) := cell_of_obj hx rfl
  repeat (first | refine WC.seq ?_ | refine WC.reg ?_ | refine WL.pure rfl rfl rfl ?_ | refine WL.nil ?_ | refine WC.skip ?_ | refine WC.block ?_ | refine WC.condT rfl ?_ | refine WC.condF rfl ?_ | refine WL.off rfl rfl rfl ?_ | refine WL.off0 rfl rfl ?_ | refine WC.exit ?_ | refine blk_hit ?_ | refine blk_miss rfl ?_ | refine WC.ret ?_)
  refine WC.loop (Nat × Option Addr × Nat) (fun (i, ra, rc) => [(0, ptr xb), (5, .slice ra i rc), (8, .slice a l.length c), (9, .int .i64 (l.length : Nat)), (10, .int .i64 (i : Nat))])
    (fun (i, ra, rc) w' => i ≤ l.length ∧ Hp w w' [Rna (.slice ra i rc) i ((l.take i).map (· / pairs))]) (fun (i, _, _) => l.length - i) (0, none, 0) ⟨rfl, rfl, rfl, rfl, rfl, rfl⟩ ⟨Nat.zero_le _, (Hp.start w).nilrow _ _⟩ ?_
  rintro ⟨i, ra, rc⟩ w1 ⟨hi, hp1⟩
  replace hi : i ≤ l.length := hi
  replace hp1 : Hp w w1 [Rna (.slice ra i rc) i ((l.take i).map (· / pairs))] := hp1
  repeat (first | refine WC.seq ?_ | refine WC.reg ?_ | refine WL.pure rfl rfl rfl ?_ | refine WL.nil ?_ | refine WC.skip ?_ | refine WC.block ?_ | refine WC.condT rfl ?_ | refine WC.condF rfl ?_ | refine WL.off rfl rfl rfl ?_ | refine WL.off0 rfl rfl ?_ | refine WC.exit ?_ | refine blk_hit ?_ | refine blk_miss rfl ?_ | refine WC.ret ?_)
  refine WC.cond rfl (fun h1 => ?_) (fun h1 => ?_)
  · have hi : i < l.length := by have := of_decide_eq_true h1; omega
    have step := wrap_succ (i := i) (n := i + 1) (by omega) (by omega)
    repeat (first | refine WC.seq ?_ | refine WC.reg ?_ | refine WL.pure rfl rfl rfl ?_ | refine WL.nil ?_ | refine WC.skip ?_ | refine WC.block ?_ | refine WC.condT rfl ?_ | refine WC.condF rfl ?_ | refine WL.off rfl rfl rfl ?_ | refine WL.off0 rfl rfl ?_ | refine WC.exit ?_ | refine blk_hit ?_ | refine blk_miss rfl ?_ | refine WC.ret ?_)
    refine WL.ixload rfl (fun _ => rfl) rfl rfl rfl rfl rfl rfl rfl hi rfl rfl (hs.hp hp1) (natL_at hi) ?_
    intro q
    repeat (first | refine WC.seq ?_ | refine WC.reg ?_ | refine WL.pure rfl rfl rfl ?_ | refine WL.nil ?_ | refine WC.skip ?_ | refine WC.block ?_ | refine WC.condT rfl ?_ | refine WC.condF rfl ?_ | refine WL.off rfl rfl rfl ?_ | refine WL.off0 rfl rfl ?_ | refine WC.exit ?_ | refine blk_hit ?_ | refine blk_miss rfl ?_ | refine WC.ret ?_)
    refine WL.nilC rfl rfl rfl ?_
    repeat (first | refine WC.seq ?_ | refine WC.reg ?_ | refine WL.pure rfl rfl rfl ?_ | refine WL.nil ?_ | refine WC.skip ?_ | refine WC.block ?_ | refine WC.condT rfl ?_ | refine WC.condF rfl ?_ | refine WL.off rfl rfl rfl ?_ | refine WL.off0 rfl rfl ?_ | refine WC.exit ?_ | refine blk_hit ?_ | refine blk_miss rfl ?_ | refine WC.ret ?_)
    refine WL.load rfl rfl rfl rfl rfl (cell_below hp1.below hpc) ?_
    refine WL.quo rfl rfl rfl rfl hne ?_
    refine WL.known (d := 20) (congrArg (fun z => some (Value.int .i64 z)) (wrap_div (hb _ (List.getElem_mem hi)))) ?_
    refine WL.buildS (cs := [.int .i64 (l[i] / pairs : Nat)]) rfl rfl rfl rfl rfl rfl rfl rfl rfl (fun b2 w2 h2 => ?_)
    have hp2 := hp1.new h2
    refine WL.append 1 hp2 rfl rfl rfl rfl rfl (by decide) rfl rfl rfl (news := [.int .i64 (l[i] / pairs : Nat)]) (Sl.of_obj (hp2.obj 0 rfl) (fun q u hq => by simpa using hq)) rfl (natL_cells [l[i] / pairs]) (by unfold maxLen; omega) (by show (i + 1) * 8 ≤ _; omega) ?_
    intro ra2 rc2 w3 hp3 hg3
    repeat (first | refine WC.seq ?_ | refine WC.reg ?_ | refine WL.pure rfl rfl rfl ?_ | refine WL.nil ?_ | refine WC.skip ?_ | refine WC.block ?_ | refine WC.condT rfl ?_ | refine WC.condF rfl ?_ | refine WL.off rfl rfl rfl ?_ | refine WL.off0 rfl rfl ?_ | refine WC.exit ?_ | refine blk_hit ?_ | refine blk_miss rfl ?_ | refine WC.ret ?_)
    refine ⟨(i + 1, ra2, rc2), (by show l.length - (i + 1) < l.length - i; omega), ⟨rfl, rfl, rfl, rfl, congrArg (fun z => some (Value.int .i64 z)) step, rfl⟩, hi, ?_⟩
    have e1 : natL ((l.take (i + 1)).map (· / pairs)) = natL ((l.take i).map (· / pairs)) ++ [.int .i64 (l[i] / pairs : Nat)] := by
      rw [List.take_succ_eq_append_getElem hi]
      unfold natL
      rw [List.map_append, List.map_append]
      rfl
    show Hp w w3 [Rna (.slice ra2 (i + 1) rc2) (i + 1) ((l.take (i + 1)).map (· / pairs))]
    unfold Rna
    rw [e1]
    exact hp3.tail
  · have hi : i = l.length := by have := of_decide_eq_false h1; omega
    subst hi
    rw [List.take_length] at hp1
    repeat (first | refine WC.seq ?_ | refine WC.reg ?_ | refine WL.pure rfl rfl rfl ?_ | refine WL.nil ?_ | refine WC.skip ?_ | refine WC.block ?_ | refine WC.condT rfl ?_ | refine WC.condF rfl ?_ | refine WL.off rfl rfl rfl ?_ | refine WL.off0 rfl rfl ?_ | refine WC.exit ?_ | refine blk_hit ?_ | refine blk_miss rfl ?_ | refine WC.ret ?_)
    exact Res.one rfl rfl rfl ⟨ra, rc, rfl, hp1⟩
theorem last_at {l : List Nat} (h : l ≠ []) : (natL l)[l.length - 1]? = some (.int .i64 (l.getLastD 0 : Nat)) := by
  unfold natL
  rw [List.getElem?_map, ← List.getLast?_eq_getElem?, List.getLastD_eq_getLast?]
  cases hq : l.getLast? with
  | none => exact absurd (List.getLast?_eq_none_iff.1 hq) h
  | some x => rfl
theorem last_mem {l : List Nat} (h : l ≠ []) : l.getLastD 0 ∈ l := by
  rw [List.getLastD_eq_getLast?, List.getLast?_eq_some_getLast h]
  exact List.getLast_mem h
theorem bl_get {l : List Bool} {i : Nat} (h : i < l.length) : (bl l)[i]? = some (.bool (l.getD i false)) := by simp [bl, h]
theorem kPut_spec {V : Type} {l : List (Int × Value)} {z : Value} {mkV : V → Value} {f : Nat → V} (h : ∀ c : Nat, (kGet l (c : Int)).getD z = mkV (f c)) (k : Nat) (x : V) : ∀ c : Nat, (kGet (kPut l (k : Int) (mkV x)) (c : Int)).getD z = mkV (if c = k then x else f c) := by
  intro c
  rw [kGet_put]
  by_cases hc : c = k
  · rw [if_pos (by omega), if_pos hc]; rfl
  · rw [if_neg (by omega), if_neg hc]; exact h c
/-- What a run is answered by. -/
def RunR (pairs : Nat) (r : Option (List Nat × List Nat)) (w : World) (u : Value) (w' : World) : Prop := match r with
  | none => u = .tuple #[.slice none 0 0, .slice none 0 0, .bool false] ∧ Hp w w' []
  | some (stem, loop) => ∃ sa sc pa pc, u = .tuple #[.slice sa stem.length sc, .slice pa loop.length pc, .bool true] ∧ Hp w w' [Rna (.slice pa loop.length pc) loop.length (loop.map (· / pairs)), Rna (.slice sa stem.length sc) stem.length (stem.map (· / pairs))]
abbrev rnE (b1 ob b6 b7 b8 b9 N : Nat) : Env := [(1, ptr b1), (5, sN ob N), (6, ptr b6), (7, ptr b7), (8, ptr b8), (9, ptr b9)]
abbrev rnL (b9 b8 b7 b6 tb fb cb N all : Nat) (TL FL : List (Int × Value)) (of_ : List Nat) : List Ent :=
  [.blk b9 (.cells #[.map (some tb)] 148 (0, 0)), .blk b8 (.cells #[.map (some fb)] 147 (0, 0)), .blk tb (mapO iKey TL), .blk fb (mapO iKey FL), .blk b7 (.cells #[.int .i64 (all : Nat)] 3 (0, 0)), .blk b6 (.cells #[sN cb N] 22 (0, 0)), cE cb of_]

theorem run_any (xb : Nat) (an : Option Addr) (cn : Nat) (rs : Nrs) (mk : Value) (starts : Nat) (la : Option Addr) (nl lc : Nat) (pairs N : Nat) (wa : Option Addr) (wc : Nat) (want : List Nat) (ta : Option Addr) (tc : Nat) (truth : List Bool) (fa : Option Addr) (fcap : Nat) (fair : List Nat) (w : World)
    (hx : w.heap[xb]? = some (Sxo (.slice an rs.length cn) mk starts (.slice la nl lc) pairs (.slice wa N wc) (.slice ta N tc) (.slice fa N fcap))) (hT : Tbl w an rs) (hW : Sl w wa (natL want)) (hTr : Sl w ta (bl truth)) (hFr : Sl w fa (natL fair))
    (hp0 : 0 < pairs) (hwl : want.length = N) (htl : truth.length = N) (hfl : fair.length = N) (hN : N = rs.length * pairs) (hrs : ∀ x ∈ rs, x.2.2.length ≤ 16) (hn : rs.length ≤ 16) (hpp : pairs ≤ 4096) (hpl : pairs = 2 ^ nl)
    (hwb : ∀ x ∈ want, x < 2 ^ 40) (hfb : ∀ x ∈ fair, x < 2 ^ 40) (hss : starts ≤ rs.length) (F G : Nat) (hF : F ≤ 8589934592) (hG : G ≤ 1048576) (r : Option (List Nat × List Nat))
    (hM : runM F G (graphM (rsN rs) pairs want) pairs starts nl truth fair = some r) :
    Ret Tryd.prog 61 [ptr xb] w fun u w' => RunR pairs r w u w' := by
  have hNb : N ≤ 65536 := by rw [hN]; exact Nat.le_trans (Nat.mul_le_mul hn hpp) (by decide)
  have hps : pairs * starts ≤ N := by rw [hN, Nat.mul_comm]; exact Nat.mul_le_mul_right _ hss
  have hnl : nl ≤ 12 := by
    rcases Nat.lt_or_ge 12 nl with h | h
    · have := Nat.pow_le_pow_right (n := 2) (by decide) h
      have h13 : 2 ^ (12 + 1) = 8192 := by decide
      rw [hpl] at hpp
      omega
    · exact h
  refine enter Tryd.func61 rfl rfl ⟨rfl, rfl⟩ rfl ?_
  repeat (first | refine WC.seq ?_ | refine WC.reg ?_ | refine WL.pure rfl rfl rfl ?_ | refine WL.nil ?_ | refine WC.skip ?_ | refine WC.block ?_ | refine WC.condT rfl ?_ | refine WC.condF rfl ?_ | refine WL.off rfl rfl rfl ?_ | refine WL.off0 rfl rfl ?_ | refine WC.exit ?_ | refine blk_hit ?_ | refine blk_miss rfl ?_ | refine WC.ret ?_)
  refine WL.box rfl rfl rfl (fun b1 w1 h1 => ?_)
  have hp1 : Hp w w1 [.blk b1 (.cells #[ptr xb] 111 (0, 0))] := (Hp.start w).new h1
  have hxl : xb < w.heap.size := (Array.getElem?_eq_some_iff.1 hx).1
  repeat (first | refine WC.seq ?_ | refine WC.reg ?_ | refine WL.pure rfl rfl rfl ?_ | refine WL.nil ?_ | refine WC.skip ?_ | refine WC.block ?_ | refine WC.condT rfl ?_ | refine WC.condF rfl ?_ | refine WL.off rfl rfl rfl ?_ | refine WL.off0 rfl rfl ?_ | refine WC.exit ?_ | refine blk_hit ?_ | refine blk_miss rfl ?_ | refine WC.ret ?_)
  refine WL.loadB rfl rfl rfl rfl rfl (hp1.obj 0 rfl) (j := 0) rfl ?_
  refine WL.call rfl rfl rfl rfl rfl ent87 (graph_any xb an cn rs mk starts _ pairs wa wc want _ _ w1 (by rw [hp1.below.block xb hxl, hwl]; exact hx) (hT.hp hp1) (hW.hp hp1) hp0 (by rw [hwl]; exact hN) hrs hn hpp hwb) ?_
  rintro _ w2 ⟨ob, R, rfl, hRl, hRn, hp2, hTR⟩
  rw [hwl] at hRl
  have hpW := hp1.call hp2.below
  have hbW := hpW.below
  have hx2 : w2.heap[xb]? = some (Sxo (.slice an rs.length cn) mk starts (.slice la nl lc) pairs (.slice wa N wc) (.slice ta N tc) (.slice fa N fcap)) := by rw [hbW.block xb hxl]; exact hx
  have hTr2 := hTr.hp hpW
  have hFr2 := hFr.hp hpW
  have hc1 : w2.cell? ⟨b1, 0, none⟩ = some (ptr xb) := cell_of_obj (hpW.obj 0 rfl) rfl
  have hc3 : w2.cell? ⟨xb, 3, none⟩ = some (.slice la nl lc) := cell_of_obj (j := 3) hx2 rfl
  have hc2 : w2.cell? ⟨xb, 2, none⟩ = some (.int .i64 (starts : Nat)) := cell_of_obj (j := 2) hx2 rfl
  have hc4 : w2.cell? ⟨xb, 4, none⟩ = some (.int .i64 (pairs : Nat)) := cell_of_obj (j := 4) hx2 rfl
  have hc6 : w2.cell? ⟨xb, 6, none⟩ = some (.slice ta N tc) := cell_of_obj (j := 6) hx2 rfl
  have hc7 : w2.cell? ⟨xb, 7, none⟩ = some (.slice fa N fcap) := cell_of_obj (j := 7) hx2 rfl
  clear hp2 hp1 h1 hT hW hTr hFr
  rw [hRl]
  have hrow2 : ∀ x ∈ R, (∀ u ∈ x.2.2, u < N) ∧ x.2.2.length ≤ 1048576 := by
    intro x hxR
    have h1 : x.2.2 ∈ graphM (rsN rs) pairs want := by rw [← hRn]; exact List.mem_map.2 ⟨x, hxR, rfl⟩
    have h2 := graph_row (fun r hr => by
      obtain ⟨y, hy, rfl⟩ := List.mem_map.1 hr
      exact hrs y hy) h1
    rw [hwl] at h2
    exact ⟨h2.1, by omega⟩
  rw [← hRn] at hM
  clear hRn
  have hrin : ∀ x ∈ R, ∀ u ∈ x.2.2, u < N := fun x h => (hrow2 x h).1
  have hrlen : ∀ x ∈ R, x.2.2.length ≤ 1048576 := fun x h => (hrow2 x h).2
  have hnext : ∀ v, ∀ u ∈ (rsN R).getD v [], u < N := by
    intro v u hu
    rcases Nat.lt_or_ge v R.length with h | h
    · rw [rsN_at h] at hu
      exact hrin _ (List.getElem_mem h) u hu
    · rw [List.getD_eq_getElem?_getD, List.getElem?_eq_none (by rw [rsN_len]; exact h)] at hu
      cases hu
  unfold runM at hM
  cases hcm : compM F (rsN R) with
  | none => rw [hcm] at hM; cases hM
  | some of_ =>
  rw [hcm] at hM
  simp only at hM
  repeat (first | refine WC.seq ?_ | refine WC.reg ?_ | refine WL.pure rfl rfl rfl ?_ | refine WL.nil ?_ | refine WC.skip ?_ | refine WC.block ?_ | refine WC.condT rfl ?_ | refine WC.condF rfl ?_ | refine WL.off rfl rfl rfl ?_ | refine WL.off0 rfl rfl ?_ | refine WC.exit ?_ | refine blk_hit ?_ | refine blk_miss rfl ?_ | refine WC.ret ?_)
  refine WL.call rfl rfl rfl rfl rfl ent88 (components_any (some ⟨ob, 0, none⟩) N N R w2 hRl hTR hNb hrlen hrin F hF of_ hcm) ?_
  rintro _ w3 ⟨cb, rfl, hofl, hp3⟩
  refine WL.alloc rfl rfl rfl (fun b6 w4 h4 => ?_)
  have hp4 := hp3.new h4
  refine WL.store rfl rfl rfl rfl rfl rfl (hp4.obj 0 rfl) (Nat.lt_succ_self 0) (fun w5 h5 => ?_)
  have hp5 : Hp w2 w5 [.blk b6 (.cells #[sN cb N] 22 (0, 0)), cE cb of_] := hp4.set 0 rfl rfl h5
  clear hp4 hp3
  have e35 : shl .i64 1 nl = ((2 ^ nl : Nat) : Int) := shl_one (by omega)
  obtain ⟨all, hall⟩ : ∃ all, all = 2 ^ nl - 1 := ⟨_, rfl⟩
  have hallb : all < 2 ^ 40 := by rw [hall, ← hpl]; omega
  have hpos : 0 < 2 ^ nl := Nat.two_pow_pos nl
  have e36 : IntKind.i64.wrap (((2 ^ nl : Nat) : Int) - 1) = ((all : Nat) : Int) := by rw [hall, ← hpl, wrap_mid (by omega) (by omega)]; omega
  rw [← hall] at hM
  repeat (first | refine WC.seq ?_ | refine WC.reg ?_ | refine WL.pure rfl rfl rfl ?_ | refine WL.nil ?_ | refine WC.skip ?_ | refine WC.block ?_ | refine WC.condT rfl ?_ | refine WC.condF rfl ?_ | refine WL.off rfl rfl rfl ?_ | refine WL.off0 rfl rfl ?_ | refine WC.exit ?_ | refine blk_hit ?_ | refine blk_miss rfl ?_ | refine WC.ret ?_)
  refine WL.load rfl rfl rfl rfl rfl (cell_below hp5.below hc1) ?_
  refine WL.nilC rfl rfl rfl ?_
  repeat (first | refine WC.seq ?_ | refine WC.reg ?_ | refine WL.pure rfl rfl rfl ?_ | refine WL.nil ?_ | refine WC.skip ?_ | refine WC.block ?_ | refine WC.condT rfl ?_ | refine WC.condF rfl ?_ | refine WL.off rfl rfl rfl ?_ | refine WL.off0 rfl rfl ?_ | refine WC.exit ?_ | refine blk_hit ?_ | refine blk_miss rfl ?_ | refine WC.ret ?_)
  refine WL.load rfl rfl rfl rfl rfl (cell_below hp5.below hc3) ?_
  refine WL.pure rfl rfl rfl ?_
  refine WL.pure rfl rfl rfl ?_
  refine WL.known (d := 35) (congrArg (fun z => some (Value.int .i64 z)) e35) ?_
  refine WL.pure rfl rfl rfl ?_
  refine WL.known (d := 36) (congrArg (fun z => some (Value.int .i64 z)) e36) ?_
  refine WL.alloc rfl rfl rfl (fun b7 w6 h6 => ?_)
  have hp6 := hp5.new h6
  refine WL.store rfl rfl rfl rfl rfl rfl (hp6.obj 0 rfl) (Nat.lt_succ_self 0) (fun w7 h7 => ?_)
  have hp7 : Hp w2 w7 [.blk b7 (.cells #[.int .i64 (all : Nat)] 3 (0, 0)), .blk b6 (.cells #[sN cb N] 22 (0, 0)), cE cb of_] := hp6.set 0 rfl rfl h7
  clear hp6 hp5
  repeat (first | refine WC.seq ?_ | refine WC.reg ?_ | refine WL.pure rfl rfl rfl ?_ | refine WL.nil ?_ | refine WC.skip ?_ | refine WC.block ?_ | refine WC.condT rfl ?_ | refine WC.condF rfl ?_ | refine WL.off rfl rfl rfl ?_ | refine WL.off0 rfl rfl ?_ | refine WC.exit ?_ | refine blk_hit ?_ | refine blk_miss rfl ?_ | refine WC.ret ?_)
  refine WL.makeMap rfl rfl ?_
  intro fb w8 h8
  have hp8 := hp7.new h8
  refine WL.makeMap rfl rfl ?_
  intro tb w9 h9
  have hp9 := hp8.new h9
  refine WL.alloc rfl rfl rfl (fun b8 w10 h10 => ?_)
  have hp10 := hp9.new h10
  refine WL.alloc rfl rfl rfl (fun b9 w11 h11 => ?_)
  have hp11 := hp10.new h11
  refine WL.store rfl rfl rfl rfl rfl rfl (hp11.obj 1 rfl) (Nat.lt_succ_self 0) (fun w12 h12 => ?_)
  have hp12 := hp11.set 1 rfl rfl h12
  refine WL.store rfl rfl rfl rfl rfl rfl (hp12.obj 0 rfl) (Nat.lt_succ_self 0) (fun w13 h13 => ?_)
  have hp13 : Hp w2 w13 (rnL b9 b8 b7 b6 tb fb cb N all [] [] of_) := hp12.set 0 rfl rfl h13
  clear hp12 hp11 hp10 hp9 hp8 hp7
  repeat (first | refine WC.seq ?_ | refine WC.reg ?_ | refine WL.pure rfl rfl rfl ?_ | refine WL.nil ?_ | refine WC.skip ?_ | refine WC.block ?_ | refine WC.condT rfl ?_ | refine WC.condF rfl ?_ | refine WL.off rfl rfl rfl ?_ | refine WL.off0 rfl rfl ?_ | refine WC.exit ?_ | refine blk_hit ?_ | refine blk_miss rfl ?_ | refine WC.ret ?_)
  refine WC.loop (Nat × List (Int × Value) × List (Int × Value)) (fun (m, TL, FL) => [(39, sN ob N), (40, .int .i64 (N : Nat)), (41, .int .i64 (m : Nat))] ++ rnE b1 ob b6 b7 b8 b9 N)
    (fun (m, TL, FL) w' => m ≤ N ∧ (∀ c : Nat, (kGet TL (c : Int)).getD (.bool false) = .bool (turnC of_ (rsN R) m c)) ∧ (∀ c : Nat, (kGet FL (c : Int)).getD (.int .i64 0) = .int .i64 (fairC of_ fair m c : Nat)) ∧ Hp w2 w' (rnL b9 b8 b7 b6 tb fb cb N all TL FL of_)) (fun (m, _) => N - m) (0, [], []) ⟨rfl, rfl, rfl, rfl, rfl, rfl, rfl, rfl, rfl, rfl⟩ ⟨Nat.zero_le _, fun c => rfl, fun c => rfl, hp13⟩ ?_
  clear hp13
  rintro ⟨m, TL, FL⟩ w14 ⟨hm, hTL, hFL, hp14⟩
  replace hm : m ≤ N := hm
  replace hTL : ∀ c : Nat, (kGet TL (c : Int)).getD (.bool false) = .bool (turnC of_ (rsN R) m c) := hTL
  replace hFL : ∀ c : Nat, (kGet FL (c : Int)).getD (.int .i64 0) = .int .i64 (fairC of_ fair m c : Nat) := hFL
  replace hp14 : Hp w2 w14 (rnL b9 b8 b7 b6 tb fb cb N all TL FL of_) := hp14
  repeat (first | refine WC.seq ?_ | refine WC.reg ?_ | refine WL.pure rfl rfl rfl ?_ | refine WL.nil ?_ | refine WC.skip ?_ | refine WC.block ?_ | refine WC.condT rfl ?_ | refine WC.condF rfl ?_ | refine WL.off rfl rfl rfl ?_ | refine WL.off0 rfl rfl ?_ | refine WC.exit ?_ | refine blk_hit ?_ | refine blk_miss rfl ?_ | refine WC.ret ?_)
  refine WC.cond rfl (fun c1 => ?_) (fun c1 => ?_)
  · have hm : m < N := by have h : ((m : Nat) : Int) < ((N : Nat) : Int) := of_decide_eq_true c1; omega
    have step := wrap_succ (i := m) (n := m + 1) (by omega) (by omega)
    have hmR : m < R.length := by omega
    have hmin := hrin _ (List.getElem_mem hmR)
    have hmlen := hrlen _ (List.getElem_mem hmR)
    have hmsl := hTR.rows _ (List.getElem_mem hmR)
    have hmat := rsV_at hmR
    have hmN := rsN_at hmR
    have htab := hTR.tab
    generalize R[m] = x at *
    obtain ⟨ra, rc, row⟩ := x
    simp only at hmin hmlen hmsl hmat hmN
    have hfv := getD_lt40 hfb m
    have hfc := fairC_lt (of_ := of_) hfb (of_.getD m 0) m
    have eor : bits .or .i64 ((fairC of_ fair m (of_.getD m 0) : Nat) : Int) ((fair.getD m 0 : Nat) : Int) = ((fairC of_ fair m (of_.getD m 0) ||| fair.getD m 0 : Nat) : Int) := or_i64 (by omega) (by omega)
    repeat (first | refine WC.seq ?_ | refine WC.reg ?_ | refine WL.pure rfl rfl rfl ?_ | refine WL.nil ?_ | refine WC.skip ?_ | refine WC.block ?_ | refine WC.condT rfl ?_ | refine WC.condF rfl ?_ | refine WL.off rfl rfl rfl ?_ | refine WL.off0 rfl rfl ?_ | refine WC.exit ?_ | refine blk_hit ?_ | refine blk_miss rfl ?_ | refine WC.ret ?_)
    refine WL.ixload rfl (fun _ => rfl) rfl rfl rfl rfl rfl rfl rfl hm rfl rfl (htab.hp hp14) hmat ?_
    intro q
    repeat (first | refine WC.seq ?_ | refine WC.reg ?_ | refine WL.pure rfl rfl rfl ?_ | refine WL.nil ?_ | refine WC.skip ?_ | refine WC.block ?_ | refine WC.condT rfl ?_ | refine WC.condF rfl ?_ | refine WL.off rfl rfl rfl ?_ | refine WL.off0 rfl rfl ?_ | refine WC.exit ?_ | refine blk_hit ?_ | refine blk_miss rfl ?_ | refine WC.ret ?_)
    refine WC.mid (List (Int × Value)) (fun FL => [(10, .int .i64 (m : Nat)), (11, .slice ra row.length rc), (39, sN ob N), (40, .int .i64 (N : Nat)), (41, .int .i64 (m : Nat))] ++ rnE b1 ob b6 b7 b8 b9 N)
      (fun FL w' => (∀ c : Nat, (kGet FL (c : Int)).getD (.int .i64 0) = .int .i64 (fairC of_ fair (m + 1) c : Nat)) ∧ Hp w2 w' (rnL b9 b8 b7 b6 tb fb cb N all TL FL of_)) ?_ ?_
    · refine WC.regS 14 mixed (by kernel_rfl) rfl rfl (fun w15 hw15 hh15 => ?_)
      have hp15 := hp14.keep hw15
      refine WS.loadB rfl rfl rfl rfl rfl (hp15.obj 1 rfl) (j := 0) rfl ?_
      refine WS.loadB rfl rfl rfl rfl rfl (hp15.obj 5 rfl) (j := 0) rfl ?_
      repeat (first | refine WS.pure rfl rfl rfl ?_ | refine WS.off rfl rfl rfl ?_ | refine WS.nil ?_)
      refine WS.ix1 rfl rfl rfl rfl rfl rfl rfl hm ?_
      refine WS.load rfl rfl rfl rfl rfl (Sl.cell (cE_sl hp15 6 rfl) (nd hofl hm)) ?_
      refine WS.val rfl rfl (yLookM (k := ((of_.getD m 0 : Nat) : Int)) (l := FL) (c := false) (keyT_int rfl) rfl rfl rfl rfl (hp15.obj 3 rfl)) ?_
      rw [show lkM FL ((of_.getD m 0 : Nat) : Int) ti3.zero false = Value.int .i64 (fairC of_ fair m (of_.getD m 0) : Nat) from hFL _]
      refine WS.load rfl rfl rfl rfl rfl (cell_below hp15.below hc1) ?_
      refine WS.val rfl rfl (yNil rfl) ?_
      repeat (first | refine WS.pure rfl rfl rfl ?_ | refine WS.off rfl rfl rfl ?_ | refine WS.nil ?_)
      refine WS.load rfl rfl rfl rfl rfl (cell_below hp15.below hc7) ?_
      repeat (first | refine WS.pure rfl rfl rfl ?_ | refine WS.off rfl rfl rfl ?_ | refine WS.nil ?_)
      obtain ⟨fb2, fo2, hfae, hfcell⟩ := hFr2 _ _ (nd hfl hm)
      subst hfae
      refine WS.ix1 rfl rfl rfl rfl rfl rfl rfl hm ?_
      refine WS.load rfl rfl rfl rfl rfl (cell_below hp15.below hfcell) ?_
      refine WS.pure rfl rfl rfl ?_
      refine WS.known (d := 59) (congrArg (fun z => some (Value.int .i64 z)) eor) ?_
      repeat (first | refine WS.pure rfl rfl rfl ?_ | refine WS.off rfl rfl rfl ?_ | refine WS.nil ?_)
      refine WL.skip rfl rfl (yMapSet (k := ((of_.getD m 0 : Nat) : Int)) (l := FL) (v := .int .i64 (fairC of_ fair m (of_.getD m 0) ||| fair.getD m 0 : Nat)) (keyT_int rfl) rfl rfl rfl rfl (hp15.obj 3 rfl)) ?_
      have hp16 := hp15.set 3 rfl rfl (setB_put (hp15.obj 3 rfl) (o' := mapO iKey (kPut FL ((of_.getD m 0 : Nat) : Int) (.int .i64 (fairC of_ fair m (of_.getD m 0) ||| fair.getD m 0 : Nat)))))
      refine WL.nil ⟨kPut FL ((of_.getD m 0 : Nat) : Int) (.int .i64 (fairC of_ fair m (of_.getD m 0) ||| fair.getD m 0 : Nat)), ⟨rfl, rfl, rfl, rfl, rfl, rfl, rfl, rfl, rfl, rfl, rfl, rfl⟩, ?_, hp16⟩
      intro c
      have := kPut_spec (mkV := fun (n : Nat) => Value.int .i64 (n : Nat)) hFL (of_.getD m 0) (fairC of_ fair m (of_.getD m 0) ||| fair.getD m 0) c
      rw [this]
      show Value.int .i64 _ = Value.int .i64 ((fairC of_ fair (m + 1) c : Nat) : Int)
      congr 2
      conv => rhs; unfold fairC
      by_cases hc : c = of_.getD m 0
      · rw [if_pos hc, if_pos hc.symm, hc]
      · rw [if_neg hc, if_neg (fun h => hc h.symm)]
    rintro FL e15 w15 hsub ⟨hFL, hp15⟩
    refine WC.sub hsub ?_
    clear hsub e15 hp14
    replace hp15 : Hp w2 w15 (rnL b9 b8 b7 b6 tb fb cb N all TL FL of_) := hp15
    repeat (first | refine WC.seq ?_ | refine WC.reg ?_ | refine WL.pure rfl rfl rfl ?_ | refine WL.nil ?_ | refine WC.skip ?_ | refine WC.block ?_ | refine WC.condT rfl ?_ | refine WC.condF rfl ?_ | refine WL.off rfl rfl rfl ?_ | refine WL.off0 rfl rfl ?_ | refine WC.exit ?_ | refine blk_hit ?_ | refine blk_miss rfl ?_ | refine WC.ret ?_)
    refine WC.loop (Nat × List (Int × Value)) (fun (j, TL) => [(10, .int .i64 (m : Nat)), (39, sN ob N), (40, .int .i64 (N : Nat)), (41, .int .i64 (m : Nat)), (60, .slice ra row.length rc), (61, .int .i64 (row.length : Nat)), (62, .int .i64 (j : Nat))] ++ rnE b1 ob b6 b7 b8 b9 N)
      (fun (j, TL) w' => j ≤ row.length ∧ (∀ c : Nat, (kGet TL (c : Int)).getD (.bool false) = .bool (turnP of_ (rsN R) m j c)) ∧ Hp w2 w' (rnL b9 b8 b7 b6 tb fb cb N all TL FL of_)) (fun (j, _) => row.length - j) (0, TL) ⟨rfl, rfl, rfl, rfl, rfl, rfl, rfl, rfl, rfl, rfl, rfl, rfl, rfl, rfl⟩ ⟨Nat.zero_le _, fun c => by rw [hTL, turnP_zero], hp15⟩ ?_
    clear hp15 hTL
    rintro ⟨j, TL⟩ w16 ⟨hj, hTL, hp16⟩
    replace hj : j ≤ row.length := hj
    replace hTL : ∀ c : Nat, (kGet TL (c : Int)).getD (.bool false) = .bool (turnP of_ (rsN R) m j c) := hTL
    replace hp16 : Hp w2 w16 (rnL b9 b8 b7 b6 tb fb cb N all TL FL of_) := hp16
    repeat (first | refine WC.seq ?_ | refine WC.reg ?_ | refine WL.pure rfl rfl rfl ?_ | refine WL.nil ?_ | refine WC.skip ?_ | refine WC.block ?_ | refine WC.condT rfl ?_ | refine WC.condF rfl ?_ | refine WL.off rfl rfl rfl ?_ | refine WL.off0 rfl rfl ?_ | refine WC.exit ?_ | refine blk_hit ?_ | refine blk_miss rfl ?_ | refine WC.ret ?_)
    refine WC.cond rfl (fun c2 => ?_) (fun c2 => ?_)
    · have hj : j < row.length := by have h : ((j : Nat) : Int) < ((row.length : Nat) : Int) := of_decide_eq_true c2; omega
      have stepj := wrap_succ (i := j) (n := j + 1) (by omega) (by omega)
      obtain ⟨u, hu⟩ : ∃ u, u = row[j] := ⟨_, rfl⟩
      have huN : u < N := by rw [hu]; exact hmin _ (List.getElem_mem hj)
      have htp : ∀ c, turnP of_ (rsN R) m (j + 1) c = if c = of_.getD m 0 then turnP of_ (rsN R) m j (of_.getD m 0) || decide (of_.getD u 0 = of_.getD m 0) else turnP of_ (rsN R) m j c := by
        intro c
        rw [turnP_succ of_ (rsN R) m j c u (by rw [hmN, hu]; simp [hj])]
        by_cases hc : c = of_.getD m 0
        · rw [if_pos hc, if_pos hc, hc]
        · rw [if_neg hc, if_neg hc]
      have hTLm := hTL (of_.getD m 0)
      generalize turnP of_ (rsN R) m j (of_.getD m 0) = tq at *
      repeat (first | refine WC.seq ?_ | refine WC.reg ?_ | refine WL.pure rfl rfl rfl ?_ | refine WL.nil ?_ | refine WC.skip ?_ | refine WC.block ?_ | refine WC.condT rfl ?_ | refine WC.condF rfl ?_ | refine WL.off rfl rfl rfl ?_ | refine WL.off0 rfl rfl ?_ | refine WC.exit ?_ | refine blk_hit ?_ | refine blk_miss rfl ?_ | refine WC.ret ?_)
      refine WL.ixload rfl (fun _ => rfl) rfl rfl rfl rfl rfl rfl rfl hj rfl rfl (hmsl.hp hp16) (natL_at hj) ?_
      intro q2
      rw [← hu]
      repeat (first | refine WC.seq ?_ | refine WC.reg ?_ | refine WL.pure rfl rfl rfl ?_ | refine WL.nil ?_ | refine WC.skip ?_ | refine WC.block ?_ | refine WC.condT rfl ?_ | refine WC.condF rfl ?_ | refine WL.off rfl rfl rfl ?_ | refine WL.off0 rfl rfl ?_ | refine WC.exit ?_ | refine blk_hit ?_ | refine blk_miss rfl ?_ | refine WC.ret ?_)
      refine WC.mid (List (Int × Value)) (fun TL => [(10, .int .i64 (m : Nat)), (39, sN ob N), (40, .int .i64 (N : Nat)), (41, .int .i64 (m : Nat)), (60, .slice ra row.length rc), (61, .int .i64 (row.length : Nat)), (62, .int .i64 (j : Nat))] ++ rnE b1 ob b6 b7 b8 b9 N)
        (fun TL w' => (∀ c : Nat, (kGet TL (c : Int)).getD (.bool false) = .bool (turnP of_ (rsN R) m (j + 1) c)) ∧ Hp w2 w' (rnL b9 b8 b7 b6 tb fb cb N all TL FL of_)) ?_ ?_
      · have fin : ∀ (b : Bool) (w17 : World), b = (tq || decide (of_.getD u 0 = of_.getD m 0)) → Hp w2 w17 (rnL b9 b8 b7 b6 tb fb cb N all TL FL of_) → (∀ c : Nat, (kGet (kPut TL ((of_.getD m 0 : Nat) : Int) (.bool b)) (c : Int)).getD (.bool false) = .bool (turnP of_ (rsN R) m (j + 1) c)) := by
          intro b w17 hb hp17 c
          rw [kPut_spec (mkV := Value.bool) hTL (of_.getD m 0) b c, htp]
          by_cases hc : c = of_.getD m 0
          · rw [if_pos hc, if_pos hc, hb]
          · rw [if_neg hc, if_neg hc]
        refine WC.regS 22 mixed (by kernel_rfl) rfl rfl (fun w17 hw17 hh17 => ?_)
        have hp17 := hp16.keep hw17
        refine WS.loadB rfl rfl rfl rfl rfl (hp17.obj 0 rfl) (j := 0) rfl ?_
        refine WS.loadB rfl rfl rfl rfl rfl (hp17.obj 5 rfl) (j := 0) rfl ?_
        repeat (first | refine WS.pure rfl rfl rfl ?_ | refine WS.off rfl rfl rfl ?_ | refine WS.nil ?_)
        refine WS.ix1 rfl rfl rfl rfl rfl rfl rfl hm ?_
        refine WS.load rfl rfl rfl rfl rfl (Sl.cell (cE_sl hp17 6 rfl) (nd hofl hm)) ?_
        refine WS.loadB rfl rfl rfl rfl rfl (hp17.obj 0 rfl) (j := 0) rfl ?_
        refine WS.loadB rfl rfl rfl rfl rfl (hp17.obj 5 rfl) (j := 0) rfl ?_
        repeat (first | refine WS.pure rfl rfl rfl ?_ | refine WS.off rfl rfl rfl ?_ | refine WS.nil ?_)
        refine WS.ix1 rfl rfl rfl rfl rfl rfl rfl hm ?_
        refine WS.load rfl rfl rfl rfl rfl (Sl.cell (cE_sl hp17 6 rfl) (nd hofl hm)) ?_
        refine WS.val rfl rfl (yLookM (k := ((of_.getD m 0 : Nat) : Int)) (l := TL) (c := false) (keyT_int rfl) rfl rfl rfl rfl (hp17.obj 2 rfl)) ?_
        rw [show lkM TL ((of_.getD m 0 : Nat) : Int) ti4.zero false = Value.bool tq from hTLm]
        refine WS.pure rfl rfl rfl ?_
        refine WS.split 77 rfl (fun c3 => ?_) (fun c3 => ?_)
        · rw [c3, Bool.true_or] at fin
          repeat (first | refine WS.pure rfl rfl rfl ?_ | refine WS.off rfl rfl rfl ?_ | refine WS.nil ?_)
          refine WL.skip rfl rfl (yMapSet (k := ((of_.getD m 0 : Nat) : Int)) (l := TL) (v := .bool true) (keyT_int rfl) rfl rfl rfl rfl (hp17.obj 2 rfl)) ?_
          have hp18 := hp17.set 2 rfl rfl (setB_put (hp17.obj 2 rfl) (o' := mapO iKey (kPut TL ((of_.getD m 0 : Nat) : Int) (.bool true))))
          exact WL.nil ⟨kPut TL ((of_.getD m 0 : Nat) : Int) (.bool true), ⟨rfl, rfl, rfl, rfl, rfl, rfl, rfl, rfl, rfl, rfl, rfl, rfl, rfl, rfl⟩, fin true w17 rfl hp17, hp18⟩
        · rw [c3, Bool.false_or] at fin
          refine WS.loadB rfl rfl rfl rfl rfl (hp17.obj 5 rfl) (j := 0) rfl ?_
          repeat (first | refine WS.pure rfl rfl rfl ?_ | refine WS.off rfl rfl rfl ?_ | refine WS.nil ?_)
          refine WS.ix1 rfl rfl rfl rfl rfl rfl rfl huN ?_
          refine WS.load rfl rfl rfl rfl rfl (Sl.cell (cE_sl hp17 6 rfl) (nd hofl huN)) ?_
          refine WS.loadB rfl rfl rfl rfl rfl (hp17.obj 5 rfl) (j := 0) rfl ?_
          repeat (first | refine WS.pure rfl rfl rfl ?_ | refine WS.off rfl rfl rfl ?_ | refine WS.nil ?_)
          refine WS.ix1 rfl rfl rfl rfl rfl rfl rfl hm ?_
          refine WS.load rfl rfl rfl rfl rfl (Sl.cell (cE_sl hp17 6 rfl) (nd hofl hm)) ?_
          repeat (first | refine WS.pure rfl rfl rfl ?_ | refine WS.off rfl rfl rfl ?_ | refine WS.nil ?_)
          have ed : (((of_.getD u 0 : Nat) : Int) == ((of_.getD m 0 : Nat) : Int)) = decide (of_.getD u 0 = of_.getD m 0) := by
            rw [Bool.eq_iff_iff, beq_iff_eq, decide_eq_true_iff]; exact Int.ofNat_inj
          refine WL.skip rfl rfl (yMapSet (k := ((of_.getD m 0 : Nat) : Int)) (l := TL) (v := .bool (((of_.getD u 0 : Nat) : Int) == ((of_.getD m 0 : Nat) : Int))) (keyT_int rfl) rfl rfl rfl rfl (hp17.obj 2 rfl)) ?_
          have hp18 := hp17.set 2 rfl rfl (setB_put (hp17.obj 2 rfl) (o' := mapO iKey (kPut TL ((of_.getD m 0 : Nat) : Int) (.bool (((of_.getD u 0 : Nat) : Int) == ((of_.getD m 0 : Nat) : Int))))))
          exact WL.nil ⟨kPut TL ((of_.getD m 0 : Nat) : Int) (.bool (((of_.getD u 0 : Nat) : Int) == ((of_.getD m 0 : Nat) : Int))), ⟨rfl, rfl, rfl, rfl, rfl, rfl, rfl, rfl, rfl, rfl, rfl, rfl, rfl, rfl⟩, fin _ w17 ed hp17, hp18⟩
      · rintro TL e17 w17 hsub ⟨hTL, hp17⟩
        refine WC.sub hsub ?_
        repeat (first | refine WC.seq ?_ | refine WC.reg ?_ | refine WL.pure rfl rfl rfl ?_ | refine WL.nil ?_ | refine WC.skip ?_ | refine WC.block ?_ | refine WC.condT rfl ?_ | refine WC.condF rfl ?_ | refine WL.off rfl rfl rfl ?_ | refine WL.off0 rfl rfl ?_ | refine WC.exit ?_ | refine blk_hit ?_ | refine blk_miss rfl ?_ | refine WC.ret ?_)
        exact ⟨(j + 1, TL), (by show row.length - (j + 1) < row.length - j; omega), ⟨rfl, rfl, rfl, rfl, rfl, rfl, congrArg (fun z => some (Value.int .i64 z)) stepj, rfl, rfl, rfl, rfl, rfl, rfl, rfl⟩, hj, hTL, hp17⟩
    · have hj : j = row.length := by have h : ¬ ((j : Nat) : Int) < ((row.length : Nat) : Int) := of_decide_eq_false c2; omega
      subst hj
      repeat (first | refine WC.seq ?_ | refine WC.reg ?_ | refine WL.pure rfl rfl rfl ?_ | refine WL.nil ?_ | refine WC.skip ?_ | refine WC.block ?_ | refine WC.condT rfl ?_ | refine WC.condF rfl ?_ | refine WL.off rfl rfl rfl ?_ | refine WL.off0 rfl rfl ?_ | refine WC.exit ?_ | refine blk_hit ?_ | refine blk_miss rfl ?_ | refine WC.ret ?_)
      exact ⟨(m + 1, TL, FL), (by show N - (m + 1) < N - m; omega), ⟨rfl, rfl, congrArg (fun z => some (Value.int .i64 z)) step, rfl, rfl, rfl, rfl, rfl, rfl, rfl⟩, hm, fun c => by rw [hTL, turnP_all]; rw [hmN]; exact Nat.le_refl _, hFL, hp16⟩
  · have hm : m = N := by have h : ¬ ((m : Nat) : Int) < ((N : Nat) : Int) := of_decide_eq_false c1; omega
    subst hm
    obtain ⟨N, hNN⟩ : ∃ N, N = m := ⟨_, rfl⟩
    have hNR : (rsN R).length = m := by rw [rsN_len]; exact hRl
    have e98 : IntKind.i64.wrap (((pairs : Nat) : Int) * ((starts : Nat) : Int)) = ((pairs * starts : Nat) : Int) := by
      rw [Int.natCast_mul, wrap_mid (by rw [← Int.natCast_mul]; omega) (by rw [← Int.natCast_mul]; omega)]
    have hbg : ∀ i, ((List.range (i + 1)).filter fun v => truth.getD v false) = ((List.range i).filter fun v => truth.getD v false) ++ if truth.getD i false = true then [i] else [] := by
      intro i
      rw [List.range_succ, List.filter_append]
      congr 1
      rw [List.filter_cons]
      rfl
    have hbl : ∀ i, ((List.range i).filter fun v => truth.getD v false).length ≤ i := by
      intro i
      have := List.length_filter_le (fun v => truth.getD v false) (List.range i)
      rwa [List.length_range] at this
    repeat (first | refine WC.seq ?_ | refine WC.reg ?_ | refine WL.pure rfl rfl rfl ?_ | refine WL.nil ?_ | refine WC.skip ?_ | refine WC.block ?_ | refine WC.condT rfl ?_ | refine WC.condF rfl ?_ | refine WL.off rfl rfl rfl ?_ | refine WL.off0 rfl rfl ?_ | refine WC.exit ?_ | refine blk_hit ?_ | refine blk_miss rfl ?_ | refine WC.ret ?_)
    refine WC.regQ (fun w' => Hp w2 w' (rnL b9 b8 b7 b6 tb fb cb m all TL FL of_)) mixed (by kernel_rfl) (fun w' hw' => hp14.keep hw') ?_
    refine WQ.load rfl rfl rfl rfl rfl (fun w' h => cell_below h.below hc1) ?_
    refine WQ.nilC rfl rfl rfl ?_
    repeat (first | refine WQ.pure rfl rfl rfl ?_ | refine WQ.off rfl rfl rfl ?_ | refine WQ.nil ?_)
    refine WQ.load rfl rfl rfl rfl rfl (fun w' h => cell_below h.below hc4) ?_
    refine WQ.load rfl rfl rfl rfl rfl (fun w' h => cell_below h.below hc1) ?_
    refine WQ.nilC rfl rfl rfl ?_
    repeat (first | refine WQ.pure rfl rfl rfl ?_ | refine WQ.off rfl rfl rfl ?_ | refine WQ.nil ?_)
    refine WQ.load rfl rfl rfl rfl rfl (fun w' h => cell_below h.below hc2) ?_
    refine WQ.pure rfl rfl rfl ?_
    refine WQ.known (d := 98) (congrArg (fun z => some (Value.int .i64 z)) e98) ?_
    repeat (first | refine WQ.pure rfl rfl rfl ?_ | refine WQ.off rfl rfl rfl ?_ | refine WQ.nil ?_)
    intro w15 hp15
    clear hp14
    repeat (first | refine WC.seq ?_ | refine WC.reg ?_ | refine WL.pure rfl rfl rfl ?_ | refine WL.nil ?_ | refine WC.skip ?_ | refine WC.block ?_ | refine WC.condT rfl ?_ | refine WC.condF rfl ?_ | refine WL.off rfl rfl rfl ?_ | refine WL.off0 rfl rfl ?_ | refine WC.exit ?_ | refine blk_hit ?_ | refine blk_miss rfl ?_ | refine WC.ret ?_)
    refine WC.loop (Nat × Option Addr × Nat) (fun (i, ba, bc) => [(14, .slice ba ((List.range i).filter fun v => truth.getD v false).length bc), (98, .int .i64 (pairs * starts : Nat)), (99, .int .i64 (i : Nat))] ++ rnE b1 ob b6 b7 b8 b9 m)
      (fun (i, ba, bc) w' => i ≤ pairs * starts ∧ Hp w2 w' (Rna (.slice ba ((List.range i).filter fun v => truth.getD v false).length bc) ((List.range i).filter fun v => truth.getD v false).length ((List.range i).filter fun v => truth.getD v false) :: rnL b9 b8 b7 b6 tb fb cb m all TL FL of_)) (fun (i, _) => pairs * starts - i) (0, none, 0) ⟨rfl, rfl, rfl, rfl, rfl, rfl, rfl, rfl, rfl, rfl⟩ ⟨Nat.zero_le _, hp15.nilrow _ _⟩ ?_
    clear hp15
    rintro ⟨i, ba, bc⟩ w16 ⟨hi, hp16⟩
    replace hi : i ≤ pairs * starts := hi
    have hbi := hbl i
    have hbgi := hbg i
    obtain ⟨bg, hbgq⟩ : ∃ bg, bg = (List.range i).filter fun v => truth.getD v false := ⟨_, rfl⟩
    replace hp16 : Hp w2 w16 (Rna (.slice ba bg.length bc) bg.length bg :: rnL b9 b8 b7 b6 tb fb cb m all TL FL of_) := by rw [hbgq]; exact hp16
    simp only [← hbgq] at hbi hbgi ⊢
    repeat (first | refine WC.seq ?_ | refine WC.reg ?_ | refine WL.pure rfl rfl rfl ?_ | refine WL.nil ?_ | refine WC.skip ?_ | refine WC.block ?_ | refine WC.condT rfl ?_ | refine WC.condF rfl ?_ | refine WL.off rfl rfl rfl ?_ | refine WL.off0 rfl rfl ?_ | refine WC.exit ?_ | refine blk_hit ?_ | refine blk_miss rfl ?_ | refine WC.ret ?_)
    refine WC.cond rfl (fun c2 => ?_) (fun c2 => ?_)
    · have hi : i < pairs * starts := by have h : ((i : Nat) : Int) < ((pairs * starts : Nat) : Int) := of_decide_eq_true c2; omega
      have hiN : i < m := by omega
      have step := wrap_succ (i := i) (n := i + 1) (by omega) (by omega)
      repeat (first | refine WC.seq ?_ | refine WC.reg ?_ | refine WL.pure rfl rfl rfl ?_ | refine WL.nil ?_ | refine WC.skip ?_ | refine WC.block ?_ | refine WC.condT rfl ?_ | refine WC.condF rfl ?_ | refine WL.off rfl rfl rfl ?_ | refine WL.off0 rfl rfl ?_ | refine WC.exit ?_ | refine blk_hit ?_ | refine blk_miss rfl ?_ | refine WC.ret ?_)
      refine WL.load rfl rfl rfl rfl rfl (cell_below hp16.below hc1) ?_
      refine WL.nilC rfl rfl rfl ?_
      repeat (first | refine WC.seq ?_ | refine WC.reg ?_ | refine WL.pure rfl rfl rfl ?_ | refine WL.nil ?_ | refine WC.skip ?_ | refine WC.block ?_ | refine WC.condT rfl ?_ | refine WC.condF rfl ?_ | refine WL.off rfl rfl rfl ?_ | refine WL.off0 rfl rfl ?_ | refine WC.exit ?_ | refine blk_hit ?_ | refine blk_miss rfl ?_ | refine WC.ret ?_)
      refine WL.load rfl rfl rfl rfl rfl (cell_below hp16.below hc6) ?_
      repeat (first | refine WC.seq ?_ | refine WC.reg ?_ | refine WL.pure rfl rfl rfl ?_ | refine WL.nil ?_ | refine WC.skip ?_ | refine WC.block ?_ | refine WC.condT rfl ?_ | refine WC.condF rfl ?_ | refine WL.off rfl rfl rfl ?_ | refine WL.off0 rfl rfl ?_ | refine WC.exit ?_ | refine blk_hit ?_ | refine blk_miss rfl ?_ | refine WC.ret ?_)
      refine WL.ixload rfl (fun _ => rfl) rfl rfl rfl rfl rfl rfl rfl hiN rfl rfl (hTr2.hp hp16) (bl_get (by omega)) ?_
      intro q
      repeat (first | refine WC.seq ?_ | refine WC.reg ?_ | refine WL.pure rfl rfl rfl ?_ | refine WL.nil ?_ | refine WC.skip ?_ | refine WC.block ?_ | refine WC.condT rfl ?_ | refine WC.condF rfl ?_ | refine WL.off rfl rfl rfl ?_ | refine WL.off0 rfl rfl ?_ | refine WC.exit ?_ | refine blk_hit ?_ | refine blk_miss rfl ?_ | refine WC.ret ?_)
      refine WC.cond rfl (fun c3 => ?_) (fun c3 => ?_)
      · rw [if_pos c3] at hbgi
        repeat (first | refine WC.seq ?_ | refine WC.reg ?_ | refine WL.pure rfl rfl rfl ?_ | refine WL.nil ?_ | refine WC.skip ?_ | refine WC.block ?_ | refine WC.condT rfl ?_ | refine WC.condF rfl ?_ | refine WL.off rfl rfl rfl ?_ | refine WL.off0 rfl rfl ?_ | refine WC.exit ?_ | refine blk_hit ?_ | refine blk_miss rfl ?_ | refine WC.ret ?_)
        refine WL.buildS (cs := [.int .i64 (i : Nat)]) rfl rfl rfl rfl rfl rfl rfl rfl rfl (fun b17 w17 h17 => ?_)
        have hp17 := hp16.new h17
        refine WL.append 1 hp17 rfl rfl rfl rfl rfl (by decide) rfl rfl rfl (news := [.int .i64 (i : Nat)]) (Sl.of_obj (hp17.obj 0 rfl) (fun q u hq => by simpa using hq)) rfl (natL_cells [i]) (by unfold maxLen; omega) (by show (bg.length + 1) * 8 ≤ _; omega) ?_
        intro ba2 bc2 w18 hp18 _
        repeat (first | refine WC.seq ?_ | refine WC.reg ?_ | refine WL.pure rfl rfl rfl ?_ | refine WL.nil ?_ | refine WC.skip ?_ | refine WC.block ?_ | refine WC.condT rfl ?_ | refine WC.condF rfl ?_ | refine WL.off rfl rfl rfl ?_ | refine WL.off0 rfl rfl ?_ | refine WC.exit ?_ | refine blk_hit ?_ | refine blk_miss rfl ?_ | refine WC.ret ?_)
        refine ⟨(i + 1, ba2, bc2), (by show pairs * starts - (i + 1) < pairs * starts - i; omega), ?_, hi, ?_⟩
        · show Sub ([(14, .slice ba2 ((List.range (i + 1)).filter fun v => truth.getD v false).length bc2), (98, .int .i64 (pairs * starts : Nat)), (99, .int .i64 (i + 1 : Nat))] ++ rnE b1 ob b6 b7 b8 b9 m) _
          rw [hbgi, List.length_append]
          exact ⟨rfl, rfl, congrArg (fun z => some (Value.int .i64 z)) step, rfl, rfl, rfl, rfl, rfl, rfl, rfl⟩
        · show Hp w2 w18 (Rna (.slice ba2 ((List.range (i + 1)).filter fun v => truth.getD v false).length bc2) ((List.range (i + 1)).filter fun v => truth.getD v false).length ((List.range (i + 1)).filter fun v => truth.getD v false) :: rnL b9 b8 b7 b6 tb fb cb m all TL FL of_)
          rw [hbgi, List.length_append]
          unfold Rna
          rw [show natL (bg ++ [i]) = natL bg ++ [.int .i64 (i : Nat)] from by simp [natL]]
          exact hp18.tail
      · rw [if_neg (by rw [c3]; decide), List.append_nil] at hbgi
        repeat (first | refine WC.seq ?_ | refine WC.reg ?_ | refine WL.pure rfl rfl rfl ?_ | refine WL.nil ?_ | refine WC.skip ?_ | refine WC.block ?_ | refine WC.condT rfl ?_ | refine WC.condF rfl ?_ | refine WL.off rfl rfl rfl ?_ | refine WL.off0 rfl rfl ?_ | refine WC.exit ?_ | refine blk_hit ?_ | refine blk_miss rfl ?_ | refine WC.ret ?_)
        refine ⟨(i + 1, ba, bc), (by show pairs * starts - (i + 1) < pairs * starts - i; omega), ?_, hi, ?_⟩
        · show Sub ([(14, .slice ba ((List.range (i + 1)).filter fun v => truth.getD v false).length bc), (98, .int .i64 (pairs * starts : Nat)), (99, .int .i64 (i + 1 : Nat))] ++ rnE b1 ob b6 b7 b8 b9 m) _
          rw [hbgi]
          exact ⟨rfl, rfl, congrArg (fun z => some (Value.int .i64 z)) step, rfl, rfl, rfl, rfl, rfl, rfl, rfl⟩
        · show Hp w2 w16 (Rna (.slice ba ((List.range (i + 1)).filter fun v => truth.getD v false).length bc) ((List.range (i + 1)).filter fun v => truth.getD v false).length ((List.range (i + 1)).filter fun v => truth.getD v false) :: rnL b9 b8 b7 b6 tb fb cb m all TL FL of_)
          rw [hbgi]
          exact hp16
    · have hi : i = pairs * starts := by have h : ¬ ((i : Nat) : Int) < ((pairs * starts : Nat) : Int) := of_decide_eq_false c2; omega
      subst hi
      have hbgM : bg = beginM pairs starts truth := hbgq
      have hbgN : ∀ u ∈ bg, u < m := fun u hu => by
        rw [hbgq] at hu
        have := List.mem_range.1 (List.mem_filter.1 hu).1
        omega
      rw [← hbgM] at hM
      have hrd : Rd2 w16 m b9 b6 b8 b7 of_ tb fb cb TL FL (turnC of_ (rsN R) m) (fairC of_ fair m) all :=
        ⟨cell_of_obj (hp16.obj 1 rfl) rfl, hp16.obj 3 rfl, hTL, cell_of_obj (hp16.obj 6 rfl) rfl, cE_sl hp16 7 rfl, hofl, cell_of_obj (hp16.obj 2 rfl) rfl, hp16.obj 4 rfl, hFL, cell_of_obj (hp16.obj 5 rfl) rfl⟩
      cases hway : wayM G (rsN R) bg (fun _ => true) (stemFits of_ fair (rsN R) all) with
      | none => rw [hway] at hM; cases hM
      | some rw1 =>
      rw [hway] at hM
      repeat (first | refine WC.seq ?_ | refine WC.reg ?_ | refine WL.pure rfl rfl rfl ?_ | refine WL.nil ?_ | refine WC.skip ?_ | refine WC.block ?_ | refine WC.condT rfl ?_ | refine WC.condF rfl ?_ | refine WL.off rfl rfl rfl ?_ | refine WL.off0 rfl rfl ?_ | refine WC.exit ?_ | refine blk_hit ?_ | refine blk_miss rfl ?_ | refine WC.ret ?_)
      refine WL.call rfl rfl rfl rfl rfl ent90 (way_any (some ⟨ob, 0, none⟩) m m R w16 hRl (hTR.hp hp16) hNb hrlen hrin ba bc bg (Sl.of_row (hp16.at 0 rfl)) (by omega) hbgN
        89 [] (fun _ => true) ent89 (fun v w' _ _ => Ret.mono (run1_any v w') (by rintro _ _ ⟨rfl, rfl⟩; exact ⟨rfl, Hp.start _⟩))
        91 [ptr b9, ptr b6, ptr b8, ptr b7] (stemFits of_ fair (rsN R) all) ent91 (fun v w' hv hp' => by unfold stemFits; rw [hNR]; exact run2_any (hrd.below hp'.below) v hv) G (by omega) rw1 hway) ?_
      rintro uu w17 hwr
      cases rw1 with
      | none =>
        obtain ⟨rfl, hp17⟩ := hwr
        simp only [Option.some.injEq] at hM
        subst hM
        repeat (first | refine WC.seq ?_ | refine WC.reg ?_ | refine WL.pure rfl rfl rfl ?_ | refine WL.nil ?_ | refine WC.skip ?_ | refine WC.block ?_ | refine WC.condT rfl ?_ | refine WC.condF rfl ?_ | refine WL.off rfl rfl rfl ?_ | refine WL.off0 rfl rfl ?_ | refine WC.exit ?_ | refine blk_hit ?_ | refine blk_miss rfl ?_ | refine WC.ret ?_)
        refine WL.eqNil rfl rfl rfl rfl ?_
        repeat (first | refine WC.seq ?_ | refine WC.reg ?_ | refine WL.pure rfl rfl rfl ?_ | refine WL.nil ?_ | refine WC.skip ?_ | refine WC.block ?_ | refine WC.condT rfl ?_ | refine WC.condF rfl ?_ | refine WL.off rfl rfl rfl ?_ | refine WL.off0 rfl rfl ?_ | refine WC.exit ?_ | refine blk_hit ?_ | refine blk_miss rfl ?_ | refine WC.ret ?_)
        exact Res.three rfl rfl rfl rfl rfl ⟨rfl, (hpW.call (hp16.call hp17.below).below).nil'⟩
      | some stem =>
        obtain ⟨hsne, sb, sc, rfl, hp17⟩ := hwr
        have hp17 := hp16.comb hp17
        replace hp17 : Hp w2 w17 (Rna (.slice (some ⟨sb, 0, none⟩) stem.length sc) stem.length stem :: rnL b9 b8 b7 b6 tb fb cb m all TL FL of_) := hp17.pick [0, 2, 3, 4, 5, 6, 7, 8] (by decide)
        clear hp16 hrd
        have hsb := wayM_bd hnext hbgN hway
        have hslp : 0 < stem.length := List.length_pos_iff.2 hsne
        obtain ⟨home, hhome⟩ : ∃ home, home = stem.getLastD 0 := ⟨_, rfl⟩
        have hhN : home < m := by rw [hhome]; exact hsb.1 _ (last_mem hsne)
        have hlast := last_at hsne
        simp only [← hhome] at hM
        rw [← hhome] at hlast
        have e124 : IntKind.i64.wrap (((stem.length : Nat) : Int) - 1) = ((stem.length - 1 : Nat) : Int) := by rw [wrap_mid (by omega) (by omega)]; omega
        repeat (first | refine WC.seq ?_ | refine WC.reg ?_ | refine WL.pure rfl rfl rfl ?_ | refine WL.nil ?_ | refine WC.skip ?_ | refine WC.block ?_ | refine WC.condT rfl ?_ | refine WC.condF rfl ?_ | refine WL.off rfl rfl rfl ?_ | refine WL.off0 rfl rfl ?_ | refine WC.exit ?_ | refine blk_hit ?_ | refine blk_miss rfl ?_ | refine WC.ret ?_)
        refine WL.eqNil rfl rfl rfl rfl ?_
        repeat (first | refine WC.seq ?_ | refine WC.reg ?_ | refine WL.pure rfl rfl rfl ?_ | refine WL.nil ?_ | refine WC.skip ?_ | refine WC.block ?_ | refine WC.condT rfl ?_ | refine WC.condF rfl ?_ | refine WL.off rfl rfl rfl ?_ | refine WL.off0 rfl rfl ?_ | refine WC.exit ?_ | refine blk_hit ?_ | refine blk_miss rfl ?_ | refine WC.ret ?_)
        refine WL.known (d := 124) (congrArg (fun z => some (Value.int .i64 z)) e124) ?_
        refine WL.ixload (j := stem.length - 1) rfl (fun _ => rfl) rfl rfl rfl rfl rfl rfl rfl (by omega) rfl rfl (Sl.of_row (hp17.at 0 rfl)) hlast ?_
        intro q
        refine WL.alloc rfl rfl rfl (fun b18 w18 h18 => ?_)
        have hp18 := hp17.new h18
        refine WL.store rfl rfl rfl rfl rfl rfl (hp18.obj 0 rfl) (Nat.lt_succ_self 0) (fun w19 h19 => ?_)
        have hp19 : Hp w2 w19 (.blk b18 (.cells #[.int .i64 (home : Nat)] 3 (0, 0)) :: Rna (.slice (some ⟨sb, 0, none⟩) stem.length sc) stem.length stem :: rnL b9 b8 b7 b6 tb fb cb m all TL FL of_) := hp18.set 0 rfl rfl h19
        clear hp18 hp17
        obtain ⟨fbb, foo, hfae, hfcell⟩ := hFr2 _ _ (nd hfl hhN)
        repeat (first | refine WC.seq ?_ | refine WC.reg ?_ | refine WL.pure rfl rfl rfl ?_ | refine WL.nil ?_ | refine WC.skip ?_ | refine WC.block ?_ | refine WC.condT rfl ?_ | refine WC.condF rfl ?_ | refine WL.off rfl rfl rfl ?_ | refine WL.off0 rfl rfl ?_ | refine WC.exit ?_ | refine blk_hit ?_ | refine blk_miss rfl ?_ | refine WC.ret ?_)
        refine WC.mid Nat (fun b21 => [(17, .slice (some ⟨sb, 0, none⟩) stem.length sc), (18, ptr b18), (19, .func (.func 92) #[] #[ptr b6, ptr b18]), (20, .slice none 0 0), (21, ptr b21)] ++ rnE b1 ob b6 b7 b8 b9 m)
          (fun b21 w' => Hp w2 w' (.blk b21 (.cells #[.int .i64 (fair.getD home 0 : Nat)] 3 (0, 0)) :: .blk b18 (.cells #[.int .i64 (home : Nat)] 3 (0, 0)) :: Rna (.slice (some ⟨sb, 0, none⟩) stem.length sc) stem.length stem :: rnL b9 b8 b7 b6 tb fb cb m all TL FL of_)) ?_ ?_
        · subst hfae
          refine WC.regH (fun w' => Hp w2 w' [.blk b18 (.cells #[.int .i64 (home : Nat)] 3 (0, 0))]) mixed (by kernel_rfl) (fun w20 hw20 hh20 => ?_)
          have hp20 := hp19.keep hw20
          have hS := hp20.pick [0] (by decide)
          refine WH.load 0 (by kernel_rfl) rfl (by kernel_rfl) rfl rfl rfl rfl rfl (fun w' h => cell_below h.below hc1) hS ?_
          refine WH.nilC 1 (by kernel_rfl) rfl (by kernel_rfl) rfl rfl rfl hS ?_
          refine WH.pure 2 (by kernel_rfl) rfl (by kernel_rfl) rfl rfl rfl (hS) ?_
          refine WH.load 3 (by kernel_rfl) rfl (by kernel_rfl) rfl rfl rfl rfl rfl (fun w' h => cell_below h.below hc7) hS ?_
          refine WH.load 4 (by kernel_rfl) rfl (by kernel_rfl) rfl rfl rfl rfl rfl (fun w' h => cell_of_obj (h.obj 0 rfl) (j := 0) rfl) hS ?_
          refine WH.ix1 5 (by kernel_rfl) rfl (by kernel_rfl) rfl rfl rfl rfl rfl rfl rfl hhN hS ?_
          refine WH.load 6 (by kernel_rfl) rfl (by kernel_rfl) rfl rfl rfl rfl rfl (fun w' h => cell_below h.below hfcell) hS ?_
          refine WH.one 7 rfl (by kernel_rfl) ?_
          refine WL.alloc rfl rfl rfl (fun b21 w21 h21 => ?_)
          have hp21 := hp20.new h21
          refine WL.nil ⟨hp21.pick [1] (by decide), ?_⟩
          refine WH.one 8 rfl (by kernel_rfl) ?_
          refine WL.store rfl rfl rfl rfl rfl rfl (hp21.obj 0 rfl) (Nat.lt_succ_self 0) (fun w22 h22 => ?_)
          have hp22 := hp21.set 0 rfl rfl h22
          refine WL.nil ⟨hp22.pick [1] (by decide), ?_⟩
          refine WH.done (by kernel_rfl) ?_
          exact ⟨b21, ⟨rfl, rfl, rfl, rfl, rfl, rfl, rfl, rfl, rfl, rfl, rfl, rfl⟩, hp22⟩
        rintro b21 e20 w20 hsub hp20
        refine WC.sub hsub ?_
        clear hsub e20 hp19 h18 h19
        replace hp20 : Hp w2 w20 (.blk b21 (.cells #[.int .i64 (fair.getD home 0 : Nat)] 3 (0, 0)) :: .blk b18 (.cells #[.int .i64 (home : Nat)] 3 (0, 0)) :: Rna (.slice (some ⟨sb, 0, none⟩) stem.length sc) stem.length stem :: rnL b9 b8 b7 b6 tb fb cb m all TL FL of_) := hp20
        cases hlp : loopM G (rsN R) of_ fair all home G home (fair.getD home 0) [] with
        | none => rw [hlp] at hM; cases hM
        | some loop =>
        rw [hlp] at hM
        simp only [Option.some.injEq] at hM
        subst hM
        have hGG : G * (1 + G) ≤ 1048576 * 1048577 := Nat.mul_le_mul hG (by omega)
        have eg : ∀ v (h : v < of_.length), of_[v] = of_.getD v 0 := fun v h => by simp [h]
        have hp21 := (hp20.nilrow 3 1).swap
        clear hp20
        repeat (first | refine WC.seq ?_ | refine WC.reg ?_ | refine WL.pure rfl rfl rfl ?_ | refine WL.nil ?_ | refine WC.skip ?_ | refine WC.block ?_ | refine WC.condT rfl ?_ | refine WC.condF rfl ?_ | refine WL.off rfl rfl rfl ?_ | refine WL.off0 rfl rfl ?_ | refine WC.exit ?_ | refine blk_hit ?_ | refine blk_miss rfl ?_ | refine WC.ret ?_)
        refine WL.loadB rfl rfl rfl rfl rfl (hp21.obj 2 rfl) (j := 0) rfl ?_
        repeat (first | refine WC.seq ?_ | refine WC.reg ?_ | refine WL.pure rfl rfl rfl ?_ | refine WL.nil ?_ | refine WC.skip ?_ | refine WC.block ?_ | refine WC.condT rfl ?_ | refine WC.condF rfl ?_ | refine WL.off rfl rfl rfl ?_ | refine WL.off0 rfl rfl ?_ | refine WC.exit ?_ | refine blk_hit ?_ | refine blk_miss rfl ?_ | refine WC.ret ?_)
        refine WC.loop (Nat × Nat × Nat × List Nat × Option Addr × Nat) (fun (f, at_, seen, acc, pa, pc) => [(17, .slice (some ⟨sb, 0, none⟩) stem.length sc), (18, ptr b18), (19, .func (.func 92) #[] #[ptr b6, ptr b18]), (20, .slice pa acc.length pc), (21, ptr b21), (22, .int .i64 (at_ : Nat))] ++ rnE b1 ob b6 b7 b8 b9 m)
          (fun (f, at_, seen, acc, pa, pc) w' => loopM G (rsN R) of_ fair all home f at_ seen acc = some loop ∧ at_ < m ∧ seen < 2 ^ 40 ∧ acc.length + f * (1 + G) ≤ G * (1 + G) ∧ (∀ x ∈ acc, x < m) ∧
            Hp w2 w' (.blk b21 (.cells #[.int .i64 (seen : Nat)] 3 (0, 0)) :: Rna (.slice pa acc.length pc) acc.length acc :: .blk b18 (.cells #[.int .i64 (home : Nat)] 3 (0, 0)) :: Rna (.slice (some ⟨sb, 0, none⟩) stem.length sc) stem.length stem :: rnL b9 b8 b7 b6 tb fb cb m all TL FL of_)) (fun (f, _) => f)
          (G, home, fair.getD home 0, [], none, 0) ⟨rfl, rfl, rfl, rfl, rfl, rfl, rfl, rfl, rfl, rfl, rfl, rfl, rfl⟩ ⟨hlp, hhN, getD_lt40 hfb home, by simp, fun x hx => (by cases hx), hp21⟩ ?_
        clear hp21 hlp hfcell hfae fbb foo
        rintro ⟨f, at_, seen, acc, pa, pc⟩ w21 ⟨hlp, hatN, hsn, hacl, haccN, hp21⟩
        replace hlp : loopM G (rsN R) of_ fair all home f at_ seen acc = some loop := hlp
        replace hatN : at_ < m := hatN
        replace hsn : seen < 2 ^ 40 := hsn
        replace hacl : acc.length + f * (1 + G) ≤ G * (1 + G) := hacl
        replace haccN : ∀ x ∈ acc, x < m := haccN
        replace hp21 : Hp w2 w21 (.blk b21 (.cells #[.int .i64 (seen : Nat)] 3 (0, 0)) :: Rna (.slice pa acc.length pc) acc.length acc :: .blk b18 (.cells #[.int .i64 (home : Nat)] 3 (0, 0)) :: Rna (.slice (some ⟨sb, 0, none⟩) stem.length sc) stem.length stem :: rnL b9 b8 b7 b6 tb fb cb m all TL FL of_) := hp21
        obtain ⟨f0, rfl⟩ : ∃ f0, f = f0 + 1 := by
          cases f with
          | zero => unfold loopM at hlp; cases hlp
          | succ f0 => exact ⟨f0, rfl⟩
        unfold loopM at hlp
        have hatR : at_ < R.length := by omega
        have hrin1 := hrin _ (List.getElem_mem hatR)
        have hrlen1 := hrlen _ (List.getElem_mem hatR)
        have hrsl := hTR.rows _ (List.getElem_mem hatR)
        have hrat := rsV_at hatR
        rw [rsN_at hatR] at hlp
        have htab := hTR.tab
        generalize R[at_] = x at *
        obtain ⟨ra, rc, row⟩ := x
        simp only at hrin1 hrlen1 hrsl hrat hlp
        cases hway2 : wayM G (rsN R) row (fun v => decide (of_.getD v 0 = of_.getD home 0)) (loopFits fair all home seen) with
        | none => rw [hway2] at hlp; cases hlp
        | some pp =>
        cases pp with
        | none => rw [hway2] at hlp; cases hlp
        | some part =>
        rw [hway2] at hlp
        simp only at hlp
        have hpb := wayM_bd hnext hrin1 hway2
        rw [Nat.add_mul, Nat.one_mul] at hacl
        repeat (first | refine WC.seq ?_ | refine WC.reg ?_ | refine WL.pure rfl rfl rfl ?_ | refine WL.nil ?_ | refine WC.skip ?_ | refine WC.block ?_ | refine WC.condT rfl ?_ | refine WC.condF rfl ?_ | refine WL.off rfl rfl rfl ?_ | refine WL.off0 rfl rfl ?_ | refine WC.exit ?_ | refine blk_hit ?_ | refine blk_miss rfl ?_ | refine WC.ret ?_)
        refine WL.ixload rfl (fun _ => rfl) rfl rfl rfl rfl rfl rfl rfl hatN rfl rfl (htab.hp hp21) hrat ?_
        intro q
        repeat (first | refine WC.seq ?_ | refine WC.reg ?_ | refine WL.pure rfl rfl rfl ?_ | refine WL.nil ?_ | refine WC.skip ?_ | refine WC.block ?_ | refine WC.condT rfl ?_ | refine WC.condF rfl ?_ | refine WL.off rfl rfl rfl ?_ | refine WL.off0 rfl rfl ?_ | refine WC.exit ?_ | refine blk_hit ?_ | refine blk_miss rfl ?_ | refine WC.ret ?_)
        refine WL.call rfl rfl rfl rfl rfl ent90 (way_any (some ⟨ob, 0, none⟩) m m R w21 hRl (hTR.hp hp21) hNb hrlen hrin ra rc row (hrsl.hp hp21) hrlen1 hrin1
          92 [ptr b6, ptr b18] (fun v => decide (of_.getD v 0 = of_.getD home 0)) ent92
          (fun v w' hv hp' => Ret.mono (run3_any home (cell_below hp'.below (cell_of_obj (hp21.obj 9 rfl) (j := 0) rfl)) (cell_below hp'.below (cell_of_obj (hp21.obj 2 rfl) (j := 0) rfl)) hofl.symm (fun i h => Sl.cell ((cE_sl hp21 10 rfl).hp hp') (natL_at h)) v (by omega) (by omega)) (by rintro _ _ ⟨rfl, h⟩; exact ⟨by rw [eg, eg], h⟩))
          93 [ptr b1, ptr b21, ptr b7, ptr b18] (loopFits fair all home seen) ent93
          (fun v w' hv hp' => run4_any (cell_below hp'.below (cell_below hp21.below hc1)) (by rw [hp'.below.block xb (Nat.lt_of_lt_of_le (Array.getElem?_eq_some_iff.1 hx2).1 hp21.below.size), hp21.below.block xb (Array.getElem?_eq_some_iff.1 hx2).1]; exact hx2) ((hFr2.hp hp21).hp hp') hfl hfb hsn (cell_below hp'.below (cell_of_obj (hp21.obj 0 rfl) (j := 0) rfl)) (cell_below hp'.below (cell_of_obj (hp21.obj 8 rfl) (j := 0) rfl)) (cell_below hp'.below (cell_of_obj (hp21.obj 2 rfl) (j := 0) rfl)) v hv) G (by omega) (some part) hway2) ?_
        rintro uu w22 ⟨hpne, qb, qc, rfl, hp22⟩
        have hp23 := hp21.comb hp22
        clear hp22 hp21
        have hplp : 0 < part.length := List.length_pos_iff.2 hpne
        have hplast := last_at hpne
        have hatM := last_mem hpne
        have e150 : IntKind.i64.wrap (((part.length : Nat) : Int) - 1) = ((part.length - 1 : Nat) : Int) := by rw [wrap_mid (by omega) (by omega)]; omega
        repeat (first | refine WC.seq ?_ | refine WC.reg ?_ | refine WL.pure rfl rfl rfl ?_ | refine WL.nil ?_ | refine WC.skip ?_ | refine WC.block ?_ | refine WC.condT rfl ?_ | refine WC.condF rfl ?_ | refine WL.off rfl rfl rfl ?_ | refine WL.off0 rfl rfl ?_ | refine WC.exit ?_ | refine blk_hit ?_ | refine blk_miss rfl ?_ | refine WC.ret ?_)
        refine WL.append 2 hp23 rfl rfl rfl rfl rfl (by decide) rfl rfl rfl (news := natL part) (Sl.of_row (hp23.at 0 rfl)) (by rw [natL_len]; exact (Nat.mul_one _).symm) (natL_cells _) (by unfold maxLen; omega) (by show (acc.length + part.length) * 8 ≤ _; omega) ?_
        intro pa2 pc2 w23 hp24 _
        have eal : acc.length + part.length = (acc ++ part).length := by rw [List.length_append]
        rw [eal] at hp24 ⊢
        replace hp24 : Hp w2 w23 (Rna (.slice (some ⟨qb, 0, none⟩) part.length qc) part.length part :: .blk b21 (.cells #[.int .i64 (seen : Nat)] 3 (0, 0)) :: Rna (.slice pa2 (acc ++ part).length pc2) (acc ++ part).length (acc ++ part) :: .blk b18 (.cells #[.int .i64 (home : Nat)] 3 (0, 0)) :: Rna (.slice (some ⟨sb, 0, none⟩) stem.length sc) stem.length stem :: rnL b9 b8 b7 b6 tb fb cb m all TL FL of_) := by
          unfold Rna at hp24 ⊢
          rw [show natL (acc ++ part) = natL acc ++ natL part from List.map_append]
          exact hp24
        clear hp23
        repeat (first | refine WC.seq ?_ | refine WC.reg ?_ | refine WL.pure rfl rfl rfl ?_ | refine WL.nil ?_ | refine WC.skip ?_ | refine WC.block ?_ | refine WC.condT rfl ?_ | refine WC.condF rfl ?_ | refine WL.off rfl rfl rfl ?_ | refine WL.off0 rfl rfl ?_ | refine WC.exit ?_ | refine blk_hit ?_ | refine blk_miss rfl ?_ | refine WC.ret ?_)
        refine WL.known (d := 150) (congrArg (fun z => some (Value.int .i64 z)) e150) ?_
        refine WL.ixload (j := part.length - 1) rfl (fun _ => rfl) rfl rfl rfl rfl rfl rfl rfl (by omega) rfl rfl (Sl.of_row (hp24.at 0 rfl)) hplast ?_
        intro q
        obtain ⟨at2, hat2⟩ : ∃ at2, at2 = part.getLastD 0 := ⟨_, rfl⟩
        rw [← hat2] at hatM
        simp only [← hat2] at hlp ⊢
        have hat2N : at2 < m := hpb.1 _ hatM
        repeat (first | refine WC.seq ?_ | refine WC.reg ?_ | refine WL.pure rfl rfl rfl ?_ | refine WL.nil ?_ | refine WC.skip ?_ | refine WC.block ?_ | refine WC.condT rfl ?_ | refine WC.condF rfl ?_ | refine WL.off rfl rfl rfl ?_ | refine WL.off0 rfl rfl ?_ | refine WC.exit ?_ | refine blk_hit ?_ | refine blk_miss rfl ?_ | refine WC.ret ?_)
        refine WC.loop (Nat × Nat) (fun (i, sn) => [(17, .slice (some ⟨sb, 0, none⟩) stem.length sc), (18, ptr b18), (19, .func (.func 92) #[] #[ptr b6, ptr b18]), (20, .slice pa2 (acc ++ part).length pc2), (21, ptr b21), (22, .int .i64 (at2 : Nat)), (153, .slice (some ⟨qb, 0, none⟩) part.length qc), (154, .int .i64 (part.length : Nat)), (155, .int .i64 (i : Nat))] ++ rnE b1 ob b6 b7 b8 b9 m)
          (fun (i, sn) w' => i ≤ part.length ∧ seenM fair seen (part.take i) = sn ∧ Hp w2 w' (Rna (.slice (some ⟨qb, 0, none⟩) part.length qc) part.length part :: .blk b21 (.cells #[.int .i64 (sn : Nat)] 3 (0, 0)) :: Rna (.slice pa2 (acc ++ part).length pc2) (acc ++ part).length (acc ++ part) :: .blk b18 (.cells #[.int .i64 (home : Nat)] 3 (0, 0)) :: Rna (.slice (some ⟨sb, 0, none⟩) stem.length sc) stem.length stem :: rnL b9 b8 b7 b6 tb fb cb m all TL FL of_)) (fun (i, _) => part.length - i)
          (0, seen) ⟨rfl, rfl, rfl, rfl, rfl, rfl, rfl, rfl, rfl, rfl, rfl, rfl, rfl, rfl, rfl, rfl⟩ ⟨Nat.zero_le _, rfl, hp24⟩ ?_
        clear hp24
        rintro ⟨i, sn⟩ w24 ⟨hi, hsnq, hp24⟩
        replace hi : i ≤ part.length := hi
        replace hsnq : seenM fair seen (part.take i) = sn := hsnq
        replace hp24 : Hp w2 w24 (Rna (.slice (some ⟨qb, 0, none⟩) part.length qc) part.length part :: .blk b21 (.cells #[.int .i64 (sn : Nat)] 3 (0, 0)) :: Rna (.slice pa2 (acc ++ part).length pc2) (acc ++ part).length (acc ++ part) :: .blk b18 (.cells #[.int .i64 (home : Nat)] 3 (0, 0)) :: Rna (.slice (some ⟨sb, 0, none⟩) stem.length sc) stem.length stem :: rnL b9 b8 b7 b6 tb fb cb m all TL FL of_) := hp24
        have hsnb : sn < 2 ^ 40 := by rw [← hsnq]; exact seenM_lt hfb _ _ hsn
        repeat (first | refine WC.seq ?_ | refine WC.reg ?_ | refine WL.pure rfl rfl rfl ?_ | refine WL.nil ?_ | refine WC.skip ?_ | refine WC.block ?_ | refine WC.condT rfl ?_ | refine WC.condF rfl ?_ | refine WL.off rfl rfl rfl ?_ | refine WL.off0 rfl rfl ?_ | refine WC.exit ?_ | refine blk_hit ?_ | refine blk_miss rfl ?_ | refine WC.ret ?_)
        refine WC.cond rfl (fun c3 => ?_) (fun c3 => ?_)
        · have hi : i < part.length := by have h : ((i : Nat) : Int) < ((part.length : Nat) : Int) := of_decide_eq_true c3; omega
          have step := wrap_succ (i := i) (n := i + 1) (by omega) (by omega)
          obtain ⟨v, hv⟩ : ∃ v, v = part[i] := ⟨_, rfl⟩
          have hvN : v < m := by rw [hv]; exact hpb.1 _ (List.getElem_mem hi)
          have hfv := getD_lt40 hfb v
          have eor : bits .or .i64 ((sn : Nat) : Int) ((fair.getD v 0 : Nat) : Int) = ((sn ||| fair.getD v 0 : Nat) : Int) := or_i64 (by omega) (by omega)
          have hsn2 : seenM fair seen (part.take (i + 1)) = sn ||| fair.getD v 0 := by
            rw [← hsnq, List.take_succ_eq_append_getElem hi, ← hv]
            unfold seenM
            rw [List.foldl_append]; rfl
          obtain ⟨fbb, foo, hfae, hfcell⟩ := hFr2 _ _ (nd hfl hvN)
          repeat (first | refine WC.seq ?_ | refine WC.reg ?_ | refine WL.pure rfl rfl rfl ?_ | refine WL.nil ?_ | refine WC.skip ?_ | refine WC.block ?_ | refine WC.condT rfl ?_ | refine WC.condF rfl ?_ | refine WL.off rfl rfl rfl ?_ | refine WL.off0 rfl rfl ?_ | refine WC.exit ?_ | refine blk_hit ?_ | refine blk_miss rfl ?_ | refine WC.ret ?_)
          refine WL.ixload rfl (fun _ => rfl) rfl rfl rfl rfl rfl rfl rfl hi rfl rfl (Sl.of_row (hp24.at 0 rfl)) (natL_at hi) ?_
          intro q
          rw [← hv]
          repeat (first | refine WC.seq ?_ | refine WC.reg ?_ | refine WL.pure rfl rfl rfl ?_ | refine WL.nil ?_ | refine WC.skip ?_ | refine WC.block ?_ | refine WC.condT rfl ?_ | refine WC.condF rfl ?_ | refine WL.off rfl rfl rfl ?_ | refine WL.off0 rfl rfl ?_ | refine WC.exit ?_ | refine blk_hit ?_ | refine blk_miss rfl ?_ | refine WC.ret ?_)
          subst hfae
          refine WC.regS 9 mixed (by kernel_rfl) rfl rfl (fun w25 hw25 hh25 => ?_)
          have hp25 := hp24.keep hw25
          refine WS.loadB rfl rfl rfl rfl rfl (hp25.obj 1 rfl) (j := 0) rfl ?_
          refine WS.load rfl rfl rfl rfl rfl (cell_below hp25.below hc1) ?_
          refine WS.val rfl rfl (yNil rfl) ?_
          repeat (first | refine WS.pure rfl rfl rfl ?_ | refine WS.off rfl rfl rfl ?_ | refine WS.nil ?_)
          refine WS.load rfl rfl rfl rfl rfl (cell_below hp25.below hc7) ?_
          repeat (first | refine WS.pure rfl rfl rfl ?_ | refine WS.off rfl rfl rfl ?_ | refine WS.nil ?_)
          refine WS.ix1 rfl rfl rfl rfl rfl rfl rfl hvN ?_
          refine WS.load rfl rfl rfl rfl rfl (cell_below hp25.below hfcell) ?_
          refine WS.pure rfl rfl rfl ?_
          refine WS.known (d := 167) (congrArg (fun z => some (Value.int .i64 z)) eor) ?_
          repeat (first | refine WS.pure rfl rfl rfl ?_ | refine WS.off rfl rfl rfl ?_ | refine WS.nil ?_)
          refine WL.store rfl rfl rfl rfl rfl rfl (hp25.obj 1 rfl) (Nat.lt_succ_self 0) (fun w26 h26 => ?_)
          have hp26 := hp25.set 1 rfl rfl h26
          repeat (first | refine WC.seq ?_ | refine WC.reg ?_ | refine WL.pure rfl rfl rfl ?_ | refine WL.nil ?_ | refine WC.skip ?_ | refine WC.block ?_ | refine WC.condT rfl ?_ | refine WC.condF rfl ?_ | refine WL.off rfl rfl rfl ?_ | refine WL.off0 rfl rfl ?_ | refine WC.exit ?_ | refine blk_hit ?_ | refine blk_miss rfl ?_ | refine WC.ret ?_)
          exact ⟨(i + 1, sn ||| fair.getD v 0), (by show part.length - (i + 1) < part.length - i; omega), ⟨rfl, rfl, rfl, rfl, rfl, rfl, rfl, rfl, congrArg (fun z => some (Value.int .i64 z)) step, rfl, rfl, rfl, rfl, rfl, rfl, rfl⟩, hi, hsn2, hp26⟩
        · have hi : i = part.length := by have h : ¬ ((i : Nat) : Int) < ((part.length : Nat) : Int) := of_decide_eq_false c3; omega
          subst hi
          rw [List.take_length] at hsnq
          rw [hsnq] at hlp
          repeat (first | refine WC.seq ?_ | refine WC.reg ?_ | refine WL.pure rfl rfl rfl ?_ | refine WL.nil ?_ | refine WC.skip ?_ | refine WC.block ?_ | refine WC.condT rfl ?_ | refine WC.condF rfl ?_ | refine WL.off rfl rfl rfl ?_ | refine WL.off0 rfl rfl ?_ | refine WC.exit ?_ | refine blk_hit ?_ | refine blk_miss rfl ?_ | refine WC.ret ?_)
          refine WL.loadB rfl rfl rfl rfl rfl (hp24.obj 1 rfl) (j := 0) rfl ?_
          refine WL.loadB rfl rfl rfl rfl rfl (hp24.obj 9 rfl) (j := 0) rfl ?_
          refine WL.pure rfl rfl rfl ?_
          refine WL.pure rfl rfl rfl ?_
          have more : ∀ w25, ¬ (sn = all ∧ at2 = home) → Hp w2 w25 (Rna (.slice (some ⟨qb, 0, none⟩) part.length qc) part.length part :: .blk b21 (.cells #[.int .i64 (sn : Nat)] 3 (0, 0)) :: Rna (.slice pa2 (acc ++ part).length pc2) (acc ++ part).length (acc ++ part) :: .blk b18 (.cells #[.int .i64 (home : Nat)] 3 (0, 0)) :: Rna (.slice (some ⟨sb, 0, none⟩) stem.length sc) stem.length stem :: rnL b9 b8 b7 b6 tb fb cb m all TL FL of_) →
              loopM G (rsN R) of_ fair all home f0 at2 sn (acc ++ part) = some loop ∧ at2 < m ∧ sn < 2 ^ 40 ∧ (acc ++ part).length + f0 * (1 + G) ≤ G * (1 + G) ∧ (∀ x ∈ acc ++ part, x < m) ∧ Hp w2 w25 (.blk b21 (.cells #[.int .i64 (sn : Nat)] 3 (0, 0)) :: Rna (.slice pa2 (acc ++ part).length pc2) (acc ++ part).length (acc ++ part) :: .blk b18 (.cells #[.int .i64 (home : Nat)] 3 (0, 0)) :: Rna (.slice (some ⟨sb, 0, none⟩) stem.length sc) stem.length stem :: rnL b9 b8 b7 b6 tb fb cb m all TL FL of_) := by
            intro w25 hno hp25
            rw [if_neg hno] at hlp
            refine ⟨hlp, hat2N, hsnb, by rw [List.length_append]; omega, fun x hx => ?_, hp25.tail⟩
            rcases List.mem_append.1 hx with h | h
            · exact haccN x h
            · exact hpb.1 x h
          refine WL.split 172 rfl (fun c4 => ?_) (fun c4 => ?_)
          · have c4 : sn = all := Int.ofNat_inj.1 (beq_iff_eq.1 c4)
            repeat (first | refine WC.seq ?_ | refine WC.reg ?_ | refine WL.pure rfl rfl rfl ?_ | refine WL.nil ?_ | refine WC.skip ?_ | refine WC.block ?_ | refine WC.condT rfl ?_ | refine WC.condF rfl ?_ | refine WL.off rfl rfl rfl ?_ | refine WL.off0 rfl rfl ?_ | refine WC.exit ?_ | refine blk_hit ?_ | refine blk_miss rfl ?_ | refine WC.ret ?_)
            refine WL.loadB rfl rfl rfl rfl rfl (hp24.obj 3 rfl) (j := 0) rfl ?_
            repeat (first | refine WC.seq ?_ | refine WC.reg ?_ | refine WL.pure rfl rfl rfl ?_ | refine WL.nil ?_ | refine WC.skip ?_ | refine WC.block ?_ | refine WC.condT rfl ?_ | refine WC.condF rfl ?_ | refine WL.off rfl rfl rfl ?_ | refine WL.off0 rfl rfl ?_ | refine WC.exit ?_ | refine blk_hit ?_ | refine blk_miss rfl ?_ | refine WC.ret ?_)
            refine WC.cond rfl (fun c5 => ?_) (fun c5 => ?_)
            · have c5 : at2 = home := Int.ofNat_inj.1 (beq_iff_eq.1 c5)
              rw [if_pos ⟨c4, c5⟩] at hlp
              simp only [Option.some.injEq] at hlp
              have hlN : ∀ x ∈ loop, x < m := fun x hx => by
                rw [← hlp] at hx
                rcases List.mem_append.1 hx with h | h
                · exact haccN x h
                · exact hpb.1 x h
              rw [hlp] at hp24
              have hll : loop.length ≤ 1048576 * 1048577 := by
                have := congrArg List.length hlp
                rw [List.length_append] at this
                omega
              rw [hlp]
              clear hlp more hsnq
              repeat (first | refine WC.seq ?_ | refine WC.reg ?_ | refine WL.pure rfl rfl rfl ?_ | refine WL.nil ?_ | refine WC.skip ?_ | refine WC.block ?_ | refine WC.condT rfl ?_ | refine WC.condF rfl ?_ | refine WL.off rfl rfl rfl ?_ | refine WL.off0 rfl rfl ?_ | refine WC.exit ?_ | refine blk_hit ?_ | refine blk_miss rfl ?_ | refine WC.ret ?_)
              refine WC.regH (fun w' => Hp w24 w' []) mixed (by kernel_rfl) (fun w25 hw25 hh25 => ?_)
              have hp25 := hp24.keep hw25
              have hS : Hp w24 w25 [] := (Hp.start w24).keep hw25
              have hxw : ∀ w', Hp w2 w' [] → w'.heap[xb]? = some (Sxo (.slice an rs.length cn) mk starts (.slice la nl lc) pairs (.slice wa m wc) (.slice ta m tc) (.slice fa m fcap)) := fun w' h => by rw [h.below.block xb (Array.getElem?_eq_some_iff.1 hx2).1]; exact hx2
              refine WH.load 0 (by kernel_rfl) rfl (by kernel_rfl) rfl rfl rfl rfl rfl (fun w' h => cell_below h.below (cell_below hp24.below hc1)) hS ?_
              refine WH.pure 1 (by kernel_rfl) rfl (by kernel_rfl) rfl rfl rfl (hS) ?_
              refine WH.load 3 (by kernel_rfl) rfl (by kernel_rfl) rfl rfl rfl rfl rfl (fun w' h => cell_below h.below (cell_below hp24.below hc1)) hS ?_
              refine WH.pure 4 (by kernel_rfl) rfl (by kernel_rfl) rfl rfl rfl (hS) ?_
              refine WH.one 2 rfl (by kernel_rfl) ?_
              refine WL.call rfl rfl rfl rfl rfl ent94 (states2_any xb _ _ _ _ pairs _ _ _ hp0 (some ⟨sb, 0, none⟩) sc stem (by omega) (fun x hx => by have := hsb.1 x hx; omega) w25 (hxw w25 hp25.nil') (Sl.of_row (hp25.at 4 rfl))) ?_
              rintro _ w26 ⟨ra1, rc1, rfl, hp26⟩
              have hp27 := hp25.comb hp26
              have hS2 := hS.call hp26.below
              refine WL.nil ⟨hS2, ?_⟩
              refine WH.one 5 rfl (by kernel_rfl) ?_
              refine WL.call rfl rfl rfl rfl rfl ent94 (states2_any xb _ _ _ _ pairs _ _ _ hp0 pa2 pc2 loop (by omega) (fun x hx => by have := hlN x hx; omega) w26 (hxw w26 hp27.nil') (Sl.of_row (hp27.at 3 rfl))) ?_
              rintro _ w28 ⟨ra2, rc2, rfl, hp28⟩
              have hp29 := hp27.comb hp28
              have hS3 := hS2.call hp28.below
              refine WL.nil ⟨hS3, ?_⟩
              refine WH.pure 6 (by kernel_rfl) rfl (by kernel_rfl) rfl rfl rfl (hS3) ?_
              refine WH.pure 7 (by kernel_rfl) rfl (by kernel_rfl) rfl rfl rfl (hS3) ?_
              refine WH.pure 8 (by kernel_rfl) rfl (by kernel_rfl) rfl rfl rfl (hS3) ?_
              refine WH.done (by kernel_rfl) ?_
              repeat (first | refine WC.seq ?_ | refine WC.reg ?_ | refine WL.pure rfl rfl rfl ?_ | refine WL.nil ?_ | refine WC.skip ?_ | refine WC.block ?_ | refine WC.condT rfl ?_ | refine WC.condF rfl ?_ | refine WL.off rfl rfl rfl ?_ | refine WL.off0 rfl rfl ?_ | refine WC.exit ?_ | refine blk_hit ?_ | refine blk_miss rfl ?_ | refine WC.ret ?_)
              refine Res.three rfl rfl rfl rfl rfl ⟨ra1, rc1, ra2, rc2, rfl, ?_⟩
              exact (hpW.comb (hp29.pick [0, 1] (by decide))).pick [0, 1] (by decide)
            · have c5 : ¬ at2 = home := fun h => by rw [h] at c5; simp at c5
              repeat (first | refine WC.seq ?_ | refine WC.reg ?_ | refine WL.pure rfl rfl rfl ?_ | refine WL.nil ?_ | refine WC.skip ?_ | refine WC.block ?_ | refine WC.condT rfl ?_ | refine WC.condF rfl ?_ | refine WL.off rfl rfl rfl ?_ | refine WL.off0 rfl rfl ?_ | refine WC.exit ?_ | refine blk_hit ?_ | refine blk_miss rfl ?_ | refine WC.ret ?_)
              exact ⟨(f0, at2, sn, acc ++ part, pa2, pc2), Nat.lt_succ_self f0, ⟨rfl, rfl, rfl, rfl, rfl, rfl, rfl, rfl, rfl, rfl, rfl, rfl, rfl⟩, more w24 (fun h => c5 h.2) hp24⟩
          · have c4 : ¬ sn = all := fun h => by rw [h] at c4; simp at c4
            repeat (first | refine WC.seq ?_ | refine WC.reg ?_ | refine WL.pure rfl rfl rfl ?_ | refine WL.nil ?_ | refine WC.skip ?_ | refine WC.block ?_ | refine WC.condT rfl ?_ | refine WC.condF rfl ?_ | refine WL.off rfl rfl rfl ?_ | refine WL.off0 rfl rfl ?_ | refine WC.exit ?_ | refine blk_hit ?_ | refine blk_miss rfl ?_ | refine WC.ret ?_)
            exact ⟨(f0, at2, sn, acc ++ part, pa2, pc2), Nat.lt_succ_self f0, ⟨rfl, rfl, rfl, rfl, rfl, rfl, rfl, rfl, rfl, rfl, rfl, rfl, rfl⟩, more w24 (fun h => c4 h.1) hp24⟩
end Go.Proofs.YtpbbneclkhfgoaaDoor
