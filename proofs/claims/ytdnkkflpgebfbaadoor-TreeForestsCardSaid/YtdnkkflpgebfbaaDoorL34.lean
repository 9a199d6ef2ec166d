/- The walks of 'bags', 'isRight' and 'Check'. -/
import Derived.Test.YtdnkkflpgebfbaaDoorL33
namespace Go.Proofs.YtdnkkflpgebfbaaDoor
open Go.W Go.Tree
set_option maxRecDepth 100000
attribute [local irreducible] WC WL WQ WS WH

abbrev BagI := Option Addr × Nat × List Int
def bagVI (b : BagI) : Value := .slice b.1 b.2.2.length b.2.1
/-- The memory of a list of bags, to be read. -/
def BagsAt (w : World) (a : Option Addr) (bl : List BagI) : Prop := Sl w a (bl.map bagVI) ∧ ∀ b ∈ bl, Sl w b.1 (zs b.2.2)
theorem BagsAt.below {w w' : World} {a : Option Addr} {bl : List BagI} (h : BagsAt w a bl) (hb : RowKit.Below w.heap.size w w') : BagsAt w' a bl := ⟨h.1.below hb, fun b hbm => (h.2 b hbm).below hb⟩
theorem BagsAt.hp {w0 w : World} {L : List Ent} {a : Option Addr} {bl : List BagI} (h : BagsAt w0 a bl) (hp : Hp w0 w L) : BagsAt w a bl := h.below hp.below
theorem bagVI_at {bl : List BagI} {i : Nat} (h : i < bl.length) : (bl.map bagVI)[i]? = some (bagVI bl[i]) := by simp [h]

def okAt (n : Nat) (b : List Int) (i : Nat) : Bool := decide (0 ≤ b.getD i 0) && decide (b.getD i 0 < n) && (i == 0 || decide (b.getD (i - 1) 0 < b.getD i 0))
def okTo (n : Nat) (b : List Int) (i : Nat) : Bool := (List.range i).all (okAt n b)
theorem okTo_succ (n : Nat) (b : List Int) (i : Nat) : okTo n b (i + 1) = (okTo n b i && okAt n b i) := by simp [okTo, List.range_succ]
theorem okTo_mono {n : Nat} {b : List Int} {i : Nat} (h : okAt n b i = false) : ∀ j, i < j → okTo n b j = false := by
  intro j hj
  cases hq : okTo n b j with
  | false => rfl
  | true =>
    rw [okTo, List.all_eq_true] at hq
    have := hq i (by simpa using hj)
    rw [h] at this; cases this
def bagB (n : Nat) (b : List Int) : Bool := okTo n b b.length
def setTo (b : List Int) (i : Nat) : Nat := (b.take i).foldl (fun s v => s ||| 2 ^ v.toNat) 0
theorem setTo_succ {b : List Int} {i : Nat} (h : i < b.length) : setTo b (i + 1) = setTo b i ||| 2 ^ (b.getD i 0).toNat := by
  rw [setTo, List.take_succ_eq_append_getElem h, List.foldl_append, setTo, List.getD_eq_getElem?_getD, List.getElem?_eq_getElem h]
  rfl
def setAll (b : List Int) : Nat := setTo b b.length
theorem setTo_lt {n : Nat} {b : List Int} : ∀ i, i ≤ b.length → okTo n b i = true → setTo b i < 2 ^ n := by
  intro i
  induction i with
  | zero => intro _ _; simp [setTo]; exact Nat.two_pow_pos n
  | succ i ih =>
    intro hi h
    rw [okTo_succ, Bool.and_eq_true] at h
    rw [setTo_succ (by omega)]
    have h2 := h.2
    simp only [okAt, Bool.and_eq_true, decide_eq_true_eq] at h2
    exact Nat.or_lt_two_pow (ih (by omega) h.1) (Nat.pow_lt_pow_right (by decide) (by omega))
def setsV (n : Nat) (bs : List (List Int)) : Option (List Nat) := if bs.all (bagB n) = true then some (bs.map setAll) else none

def BagsIs (w : World) (n : Nat) (bs : List (List Int)) (v : Value) (w' : World) : Prop := match setsV n bs with
  | none => Hp w w' [] ∧ v = .tuple #[.slice none 0 0, .bool false]
  | some ss => ∃ a c, Hp w w' [.row 76 1 (.slice a ss.length c) ss.length (ints ss)] ∧ v = .tuple #[.slice a ss.length c, .bool true]

theorem bags_any (ga la : Option Addr) (gc lc n : Nat) (hn : n ≤ 14) (bl : List BagI) (hbl : bl.length ≤ 1000) (hsm : ∀ b ∈ bl, b.2.2.length ≤ 4611686018427387904) (w : World) (hA : BagsAt w la bl) :
    Ret Tryd.prog 61 [.slice ga n gc, .slice la bl.length lc] w (BagsIs w n (bl.map (·.2.2))) := by
  have hp14 : 2 ^ n ≤ 2 ^ 14 := Nat.pow_le_pow_right (by decide) hn
  refine enter Tryd.func61 rfl rfl ⟨rfl, rfl⟩ rfl ?_
  repeat (first | refine WC.seq ?_ | refine WC.reg ?_ | refine WL.pure rfl rfl rfl ?_ | refine WL.nil ?_ | refine WC.skip ?_ | refine WC.block ?_ | refine WC.condT rfl ?_ | refine WC.condF rfl ?_ | refine WL.off rfl rfl rfl ?_ | refine WL.off0 rfl rfl ?_ | refine WC.exit ?_ | refine blk_hit ?_ | refine blk_miss rfl ?_ | refine WC.ret ?_)
  have hp0 := (Hp.start w).nilrow 76 1
  refine WC.loop (Nat × Option Addr × Nat) (fun (k, a, c) => [(0, .slice ga n gc), (6, .slice a k c), (12, .slice la bl.length lc), (13, .int .i64 (bl.length : Nat)), (14, .int .i64 (k : Nat))])
    (fun (k, a, c) w' => k ≤ bl.length ∧ ((bl.take k).map (·.2.2)).all (bagB n) = true ∧ Hp w w' [.row 76 1 (.slice a k c) k (ints (((bl.take k).map (·.2.2)).map setAll))]) (fun (k, _) => bl.length - k) (0, none, 0)
    ⟨rfl, rfl, rfl, rfl, rfl, rfl⟩ ⟨Nat.zero_le _, rfl, hp0⟩ ?_
  rintro ⟨k, a, c⟩ w1 ⟨hk, hall, hp1⟩
  repeat (first | refine WC.seq ?_ | refine WC.reg ?_ | refine WL.pure rfl rfl rfl ?_ | refine WL.nil ?_ | refine WC.skip ?_ | refine WC.block ?_ | refine WC.condT rfl ?_ | refine WC.condF rfl ?_ | refine WL.off rfl rfl rfl ?_ | refine WL.off0 rfl rfl ?_ | refine WC.exit ?_ | refine blk_hit ?_ | refine blk_miss rfl ?_ | refine WC.ret ?_)
  refine WC.cond rfl (fun hq => ?_) (fun hq => ?_)
  · have hk : k < bl.length := by have := of_decide_eq_true hq; omega
    have step : IntKind.i64.wrap ((k : Int) + 1) = ((k + 1 : Nat) : Int) := by rw [wrap_i64_in (by omega) (by omega)]; omega
    have hmem : bl[k] ∈ bl := List.getElem_mem hk
    have hts : bl.take (k + 1) = bl.take k ++ [bl[k]] := List.take_succ_eq_append_getElem hk
    have hvk := bagVI_at hk
    generalize hb : bl[k] = b at *
    have hbl2 := hsm b hmem
    repeat (first | refine WC.seq ?_ | refine WC.reg ?_ | refine WL.pure rfl rfl rfl ?_ | refine WL.nil ?_ | refine WC.skip ?_ | refine WC.block ?_ | refine WC.condT rfl ?_ | refine WC.condF rfl ?_ | refine WL.off rfl rfl rfl ?_ | refine WL.off0 rfl rfl ?_ | refine WC.exit ?_ | refine blk_hit ?_ | refine blk_miss rfl ?_ | refine WC.ret ?_)
    refine WL.ixload rfl (fun _ => rfl) rfl rfl rfl rfl rfl rfl rfl hk rfl rfl (hA.hp hp1).1 hvk ?_
    intro p
    repeat (first | refine WC.seq ?_ | refine WC.reg ?_ | refine WL.pure rfl rfl rfl ?_ | refine WL.nil ?_ | refine WC.skip ?_ | refine WC.block ?_ | refine WC.condT rfl ?_ | refine WC.condF rfl ?_ | refine WL.off rfl rfl rfl ?_ | refine WL.off0 rfl rfl ?_ | refine WC.exit ?_ | refine blk_hit ?_ | refine blk_miss rfl ?_ | refine WC.ret ?_)
    refine WC.loop Nat (fun i => [(0, .slice ga n gc), (6, .slice a k c), (12, .slice la bl.length lc), (13, .int .i64 (bl.length : Nat)), (14, .int .i64 (k : Nat)), (8, .slice b.1 b.2.2.length b.2.1), (18, .slice b.1 b.2.2.length b.2.1), (19, .int .i64 (b.2.2.length : Nat)), (20, .int .i64 (i : Nat)), (9, .int .i64 (setTo b.2.2 i : Nat))])
      (fun i w' => i ≤ b.2.2.length ∧ okTo n b.2.2 i = true ∧ Hp w w' [.row 76 1 (.slice a k c) k (ints (((bl.take k).map (·.2.2)).map setAll))]) (fun i => b.2.2.length - i) 0
      ⟨rfl, rfl, rfl, rfl, rfl, rfl, rfl, rfl, rfl, rfl, rfl⟩ ⟨Nat.zero_le _, rfl, hp1⟩ ?_
    rintro i w2 ⟨hi, hok, hp2⟩
    repeat (first | refine WC.seq ?_ | refine WC.reg ?_ | refine WL.pure rfl rfl rfl ?_ | refine WL.nil ?_ | refine WC.skip ?_ | refine WC.block ?_ | refine WC.condT rfl ?_ | refine WC.condF rfl ?_ | refine WL.off rfl rfl rfl ?_ | refine WL.off0 rfl rfl ?_ | refine WC.exit ?_ | refine blk_hit ?_ | refine blk_miss rfl ?_ | refine WC.ret ?_)
    refine WC.cond rfl (fun hq2 => ?_) (fun hq2 => ?_)
    · have hi : i < b.2.2.length := by have := of_decide_eq_true hq2; omega
      have step2 : IntKind.i64.wrap ((i : Int) + 1) = ((i + 1 : Nat) : Int) := by rw [wrap_i64_in (by omega) (by omega)]; omega
      have sB := (hA.hp hp2).2 b hmem
      have hos := okTo_succ n b.2.2 i
      have hss := setTo_succ hi
      have hlt := setTo_lt (n := n) i (by omega) hok
      have bad : okAt n b.2.2 i = false → BagsIs w n (bl.map (·.2.2)) (.tuple #[.slice none 0 0, .bool false]) w2 := by
        intro h
        have : setsV n (bl.map (·.2.2)) = none := by
          rw [setsV, if_neg]
          intro hal
          rw [List.all_eq_true] at hal
          have := hal b.2.2 (List.mem_map.2 ⟨b, hmem, rfl⟩)
          rw [bagB, okTo_mono h _ hi] at this
          cases this
        rw [BagsIs, this]
        exact ⟨hp2.nil', rfl⟩
      generalize hxv : b.2.2.getD i 0 = x at *
      have hget : (zs b.2.2)[i]? = some (.int .i64 x) := by rw [zs_get hi, hxv]
      repeat (first | refine WC.seq ?_ | refine WC.reg ?_ | refine WL.pure rfl rfl rfl ?_ | refine WL.nil ?_ | refine WC.skip ?_ | refine WC.block ?_ | refine WC.condT rfl ?_ | refine WC.condF rfl ?_ | refine WL.off rfl rfl rfl ?_ | refine WL.off0 rfl rfl ?_ | refine WC.exit ?_ | refine blk_hit ?_ | refine blk_miss rfl ?_ | refine WC.ret ?_)
      refine WL.ixload rfl (fun _ => rfl) rfl rfl rfl rfl rfl rfl rfl hi rfl rfl sB hget ?_
      intro p2
      repeat (first | refine WC.seq ?_ | refine WC.reg ?_ | refine WL.pure rfl rfl rfl ?_ | refine WL.nil ?_ | refine WC.skip ?_ | refine WC.block ?_ | refine WC.condT rfl ?_ | refine WC.condF rfl ?_ | refine WL.off rfl rfl rfl ?_ | refine WL.off0 rfl rfl ?_ | refine WC.exit ?_ | refine blk_hit ?_ | refine blk_miss rfl ?_ | refine WC.ret ?_)
      refine WL.split 27 rfl (fun h1 => ?_) (fun h1 => ?_)
      · have h1 : x < 0 := of_decide_eq_true h1
        repeat (first | refine WC.seq ?_ | refine WC.reg ?_ | refine WL.pure rfl rfl rfl ?_ | refine WL.nil ?_ | refine WC.skip ?_ | refine WC.block ?_ | refine WC.condT rfl ?_ | refine WC.condF rfl ?_ | refine WL.off rfl rfl rfl ?_ | refine WL.off0 rfl rfl ?_ | refine WC.exit ?_ | refine blk_hit ?_ | refine blk_miss rfl ?_ | refine WC.ret ?_)
        refine Res.two rfl rfl rfl rfl (bad ?_)
        rw [okAt, hxv, decide_eq_false (by omega)]; rfl
      have h1 : ¬ x < 0 := of_decide_eq_false h1
      repeat (first | refine WC.seq ?_ | refine WC.reg ?_ | refine WL.pure rfl rfl rfl ?_ | refine WL.nil ?_ | refine WC.skip ?_ | refine WC.block ?_ | refine WC.condT rfl ?_ | refine WC.condF rfl ?_ | refine WL.off rfl rfl rfl ?_ | refine WL.off0 rfl rfl ?_ | refine WC.exit ?_ | refine blk_hit ?_ | refine blk_miss rfl ?_ | refine WC.ret ?_)
      refine WL.split 33 rfl (fun h2 => ?_) (fun h2 => ?_)
      · have h2 : (n : Int) ≤ x := of_decide_eq_true h2
        repeat (first | refine WC.seq ?_ | refine WC.reg ?_ | refine WL.pure rfl rfl rfl ?_ | refine WL.nil ?_ | refine WC.skip ?_ | refine WC.block ?_ | refine WC.condT rfl ?_ | refine WC.condF rfl ?_ | refine WL.off rfl rfl rfl ?_ | refine WL.off0 rfl rfl ?_ | refine WC.exit ?_ | refine blk_hit ?_ | refine blk_miss rfl ?_ | refine WC.ret ?_)
        refine Res.two rfl rfl rfl rfl (bad ?_)
        rw [okAt, hxv, decide_eq_false (show ¬ x < n by omega), Bool.and_false]; rfl
      have h2 : ¬ (n : Int) ≤ x := of_decide_eq_false h2
      obtain ⟨u, rfl⟩ := Int.eq_ofNat_of_zero_le (show 0 ≤ x by omega)
      have hu : u < n := by omega
      have esh : shl .i64 1 u = ((2 ^ u : Nat) : Int) := shl_one (by omega)
      have h2u : 2 ^ u < 2 ^ n := Nat.pow_lt_pow_right (by decide) hu
      have eor : bits .or .i64 ((setTo b.2.2 i : Nat) : Int) ((2 ^ u : Nat) : Int) = ((setTo b.2.2 i ||| 2 ^ u : Nat) : Int) := or_i64 (by omega) (by omega)
      have hss : setTo b.2.2 (i + 1) = setTo b.2.2 i ||| 2 ^ u := hss
      have hgood : okAt n b.2.2 i = true → ∀ w3, Hp w w3 [.row 76 1 (.slice a k c) k (ints (((bl.take k).map (·.2.2)).map setAll))] → okTo n b.2.2 (i + 1) = true := fun h _ _ => by rw [hos, hok, h]; rfl
      repeat (first | refine WC.seq ?_ | refine WC.reg ?_ | refine WL.pure rfl rfl rfl ?_ | refine WL.nil ?_ | refine WC.skip ?_ | refine WC.block ?_ | refine WC.condT rfl ?_ | refine WC.condF rfl ?_ | refine WL.off rfl rfl rfl ?_ | refine WL.off0 rfl rfl ?_ | refine WC.exit ?_ | refine blk_hit ?_ | refine blk_miss rfl ?_ | refine WC.ret ?_)
      refine WL.split 36 rfl (fun h3 => ?_) (fun h3 => ?_)
      · have h3 : 0 < i := by have := of_decide_eq_true h3; omega
        have ei : IntKind.i64.wrap ((i : Int) - 1) = ((i - 1 : Nat) : Int) := by rw [wrap_i64_in (by omega) (by omega)]; omega
        repeat (first | refine WC.seq ?_ | refine WC.reg ?_ | refine WL.pure rfl rfl rfl ?_ | refine WL.nil ?_ | refine WC.skip ?_ | refine WC.block ?_ | refine WC.condT rfl ?_ | refine WC.condF rfl ?_ | refine WL.off rfl rfl rfl ?_ | refine WL.off0 rfl rfl ?_ | refine WC.exit ?_ | refine blk_hit ?_ | refine blk_miss rfl ?_ | refine WC.ret ?_)
        refine WL.known (d := 39) (congrArg (fun z => some (Value.int .i64 z)) ei) ?_
        refine WL.ixload rfl (fun _ => rfl) rfl rfl rfl rfl rfl rfl rfl (j := i - 1) (by omega) rfl rfl sB (zs_get (by omega)) ?_
        intro p3
        repeat (first | refine WC.seq ?_ | refine WC.reg ?_ | refine WL.pure rfl rfl rfl ?_ | refine WL.nil ?_ | refine WC.skip ?_ | refine WC.block ?_ | refine WC.condT rfl ?_ | refine WC.condF rfl ?_ | refine WL.off rfl rfl rfl ?_ | refine WL.off0 rfl rfl ?_ | refine WC.exit ?_ | refine blk_hit ?_ | refine blk_miss rfl ?_ | refine WC.ret ?_)
        refine WC.cond rfl (fun h4 => ?_) (fun h4 => ?_)
        · have h4 : (u : Int) ≤ b.2.2.getD (i - 1) 0 := of_decide_eq_true h4
          repeat (first | refine WC.seq ?_ | refine WC.reg ?_ | refine WL.pure rfl rfl rfl ?_ | refine WL.nil ?_ | refine WC.skip ?_ | refine WC.block ?_ | refine WC.condT rfl ?_ | refine WC.condF rfl ?_ | refine WL.off rfl rfl rfl ?_ | refine WL.off0 rfl rfl ?_ | refine WC.exit ?_ | refine blk_hit ?_ | refine blk_miss rfl ?_ | refine WC.ret ?_)
          refine Res.two rfl rfl rfl rfl (bad ?_)
          rw [okAt, hxv, decide_eq_false (show ¬ b.2.2.getD (i - 1) 0 < (u : Int) by omega), beq_eq_false_iff_ne.2 (show i ≠ 0 by omega)]; simp
        · have h4 : ¬ (u : Int) ≤ b.2.2.getD (i - 1) 0 := of_decide_eq_false h4
          have hoa : okAt n b.2.2 i = true := by
            rw [okAt, hxv, decide_eq_true (show b.2.2.getD (i - 1) 0 < (u : Int) by omega), decide_eq_true (show (0 : Int) ≤ u by omega), decide_eq_true (show (u : Int) < n by omega)]; simp
          repeat (first | refine WC.seq ?_ | refine WC.reg ?_ | refine WL.pure rfl rfl rfl ?_ | refine WL.nil ?_ | refine WC.skip ?_ | refine WC.block ?_ | refine WC.condT rfl ?_ | refine WC.condF rfl ?_ | refine WL.off rfl rfl rfl ?_ | refine WL.off0 rfl rfl ?_ | refine WC.exit ?_ | refine blk_hit ?_ | refine blk_miss rfl ?_ | refine WC.ret ?_)
          exact ⟨i + 1, by show b.2.2.length - (i + 1) < b.2.2.length - i; omega, ⟨rfl, rfl, rfl, rfl, rfl, rfl, rfl, rfl, congrArg (fun z => some (Value.int .i64 z)) step2, by rw [hss, ← eor, ← esh]; rfl, rfl⟩, hi, hgood hoa _ hp2, hp2⟩
      · have h3 : i = 0 := by have := of_decide_eq_false h3; omega
        have hoa : okAt n b.2.2 i = true := by
          rw [okAt, hxv, decide_eq_true (show (0 : Int) ≤ u by omega), decide_eq_true (show (u : Int) < n by omega), h3]; rfl
        repeat (first | refine WC.seq ?_ | refine WC.reg ?_ | refine WL.pure rfl rfl rfl ?_ | refine WL.nil ?_ | refine WC.skip ?_ | refine WC.block ?_ | refine WC.condT rfl ?_ | refine WC.condF rfl ?_ | refine WL.off rfl rfl rfl ?_ | refine WL.off0 rfl rfl ?_ | refine WC.exit ?_ | refine blk_hit ?_ | refine blk_miss rfl ?_ | refine WC.ret ?_)
        exact ⟨i + 1, by show b.2.2.length - (i + 1) < b.2.2.length - i; omega, ⟨rfl, rfl, rfl, rfl, rfl, rfl, rfl, rfl, congrArg (fun z => some (Value.int .i64 z)) step2, by rw [hss, ← eor, ← esh]; rfl, rfl⟩, hi, hgood hoa _ hp2, hp2⟩
    · have hi : i = b.2.2.length := by have := of_decide_eq_false hq2; omega
      subst hi
      have hlk : (((bl.take k).map (·.2.2)).map setAll).length = k := by simp; omega
      repeat (first | refine WC.seq ?_ | refine WC.reg ?_ | refine WL.pure rfl rfl rfl ?_ | refine WL.nil ?_ | refine WC.skip ?_ | refine WC.block ?_ | refine WC.condT rfl ?_ | refine WC.condF rfl ?_ | refine WL.off rfl rfl rfl ?_ | refine WL.off0 rfl rfl ?_ | refine WC.exit ?_ | refine blk_hit ?_ | refine blk_miss rfl ?_ | refine WC.ret ?_)
      refine WL.buildS (cs := [.int .i64 (setAll b.2.2 : Nat)]) rfl rfl rfl rfl rfl rfl rfl rfl rfl ?_
      intro bs w3 hbs
      have hp3 := hp2.new hbs
      refine WL.append 1 hp3 rfl rfl rfl rfl rfl Nat.zero_lt_one rfl rfl rfl (news := [.int .i64 (setAll b.2.2 : Nat)]) (Sl.of_obj (hp3.obj 0 rfl) (fun q u hq => by simpa using hq)) rfl (Cells.cons rfl Cells.nil) (by unfold maxLen; omega) (by show (k + 1) * 8 ≤ _; omega) ?_
      intro a' c' w4 hp4 hg4
      have hx4 : ints (((bl.take k).map (·.2.2)).map setAll) ++ [Value.int .i64 (setAll b.2.2 : Nat)] = ints (((bl.take (k + 1)).map (·.2.2)).map setAll) := by rw [hts]; simp [ints]
      rw [hx4] at hp4
      repeat (first | refine WC.seq ?_ | refine WC.reg ?_ | refine WL.pure rfl rfl rfl ?_ | refine WL.nil ?_ | refine WC.skip ?_ | refine WC.block ?_ | refine WC.condT rfl ?_ | refine WC.condF rfl ?_ | refine WL.off rfl rfl rfl ?_ | refine WL.off0 rfl rfl ?_ | refine WC.exit ?_ | refine blk_hit ?_ | refine blk_miss rfl ?_ | refine WC.ret ?_)
      exact ⟨(k + 1, a', c'), by show bl.length - (k + 1) < bl.length - k; omega, ⟨rfl, rfl, rfl, rfl, congrArg (fun z => some (Value.int .i64 z)) step, rfl⟩, hk, by rw [hts, List.map_append, List.all_append, hall]; simpa [bagB] using hok, hp4.tail⟩
  · have hk : k = bl.length := by have := of_decide_eq_false hq; omega
    subst hk
    rw [List.take_length] at hall hp1
    have hl : ((bl.map (·.2.2)).map setAll).length = bl.length := by simp
    repeat (first | refine WC.seq ?_ | refine WC.reg ?_ | refine WL.pure rfl rfl rfl ?_ | refine WL.nil ?_ | refine WC.skip ?_ | refine WC.block ?_ | refine WC.condT rfl ?_ | refine WC.condF rfl ?_ | refine WL.off rfl rfl rfl ?_ | refine WL.off0 rfl rfl ?_ | refine WC.exit ?_ | refine blk_hit ?_ | refine blk_miss rfl ?_ | refine WC.ret ?_)
    refine Res.two rfl rfl rfl rfl ?_
    rw [BagsIs, setsV, if_pos hall]
    exact ⟨a, c, by rw [hl]; exact hp1, by rw [hl]⟩
end Go.Proofs.YtdnkkflpgebfbaaDoor
