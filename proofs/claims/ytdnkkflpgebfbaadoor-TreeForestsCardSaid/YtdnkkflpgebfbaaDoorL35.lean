/- The walks of 'isRight' and 'Check'. -/
import Derived.Test.YtdnkkflpgebfbaaDoorL34
namespace Go.Proofs.YtdnkkflpgebfbaaDoor
open Go.W Go.Tree
set_option maxRecDepth 100000
attribute [local irreducible] WC WL WQ WS WH

def cntS (ss : List Nat) (v j : Nat) : Nat := (ss.take j).countP fun x => x.testBit v
def covS (ss : List Nat) (v j : Nat) : Nat := (ss.take j).foldl (fun s x => if x.testBit v = true then s ||| x else s) 0
def lkB (ss : List Nat) (v : Nat) (l : Ed) : Bool := (ss.getD l.1.toNat 0).testBit v && (ss.getD l.2.toNat 0).testBit v
def cntK (ss : List Nat) (ls : List Ed) (v k : Nat) : Nat := (ls.take k).countP (lkB ss v)
def rightAt (g ss : List Nat) (ls : List Ed) (v : Nat) : Bool := cntS ss v ss.length == cntK ss ls v ls.length + 1 && bd (g.getD v 0) (covS ss v ss.length) == 0
def isRightB (g ss : List Nat) (ls : List Ed) : Bool := (List.range g.length).all (rightAt g ss ls)
theorem cntS_succ {ss : List Nat} {v j : Nat} (hj : j < ss.length) : cntS ss v (j + 1) = cntS ss v j + (if (ss.getD j 0).testBit v = true then 1 else 0) := by
  rw [cntS, List.take_succ_eq_append_getElem hj, List.countP_append, cntS, List.getD_eq_getElem?_getD, List.getElem?_eq_getElem hj]
  simp [List.countP_cons]
theorem covS_succ {ss : List Nat} {v j : Nat} (hj : j < ss.length) : covS ss v (j + 1) = if (ss.getD j 0).testBit v = true then covS ss v j ||| ss.getD j 0 else covS ss v j := by
  rw [covS, List.take_succ_eq_append_getElem hj, List.foldl_append, covS, List.getD_eq_getElem?_getD, List.getElem?_eq_getElem hj]
  rfl
theorem cntK_succ {ss : List Nat} {ls : List Ed} {v k : Nat} (hk : k < ls.length) : cntK ss ls v (k + 1) = cntK ss ls v k + (if lkB ss v ls[k] = true then 1 else 0) := by
  rw [cntK, List.take_succ_eq_append_getElem hk, List.countP_append, cntK]
  simp [List.countP_cons]
theorem cntS_le (ss : List Nat) (v j : Nat) : cntS ss v j ≤ ss.length := Nat.le_trans List.countP_le_length (by rw [List.length_take]; omega)
theorem cntK_le (ss : List Nat) (ls : List Ed) (v k : Nat) : cntK ss ls v k ≤ ls.length := Nat.le_trans List.countP_le_length (by rw [List.length_take]; omega)
theorem covS_lt {ss : List Nat} (h : ∀ x ∈ ss, x < 16384) (v : Nat) : ∀ j, covS ss v j < 16384 := by
  intro j
  unfold covS
  have : ∀ (l : List Nat) (s : Nat), (∀ x ∈ l, x < 16384) → s < 16384 → l.foldl (fun s x => if x.testBit v = true then s ||| x else s) s < 16384 := by
    intro l
    induction l with
    | nil => intro s _ hs; exact hs
    | cons x l ih =>
      intro s hl hs
      refine ih _ (fun y hy => hl y (by simp [hy])) ?_
      show (if x.testBit v = true then s ||| x else s) < 16384
      split
      · exact Nat.or_lt_two_pow (n := 14) hs (hl x (by simp))
      · exact hs
  exact this _ _ (fun x hx => h x (List.mem_of_mem_take hx)) (by decide)
theorem getD_lt {ss : List Nat} (h : ∀ x ∈ ss, x < 16384) (j : Nat) : ss.getD j 0 < 16384 := by
  rw [List.getD_eq_getElem?_getD]
  cases hx : ss[j]? with
  | none => exact (by decide : (0 : Nat) < 16384)
  | some y => exact h y (List.mem_of_getElem? hx)

theorem isRight_any (ga sa la : Option Addr) (gc sc lc : Nat) (g ss : List Nat) (ls : List Ed) (hg : Gr g) (hss : ∀ x ∈ ss, x < 16384) (hsl : ss.length ≤ 1000) (hll : ls.length ≤ 1000)
    (hr : ∀ l ∈ ls, 0 ≤ l.1 ∧ l.1 < ss.length ∧ 0 ≤ l.2 ∧ l.2 < ss.length) (w : World) (hG : Sl w ga (ints g)) (hS : Sl w sa (ints ss)) (hL : Sl w la (prs ls)) :
    Ret Tryd.prog 62 [.slice ga g.length gc, .slice sa ss.length sc, .slice la ls.length lc] w fun v w' => Hp w w' [] ∧ v = .bool (isRightB g ss ls) := by
  have hn := hg.len
  refine enter Tryd.func62 rfl rfl ⟨rfl, rfl⟩ rfl ?_
  repeat (first | refine WC.seq ?_ | refine WC.reg ?_ | refine WL.pure rfl rfl rfl ?_ | refine WL.nil ?_ | refine WC.skip ?_ | refine WC.block ?_ | refine WC.condT rfl ?_ | refine WC.condF rfl ?_ | refine WL.off rfl rfl rfl ?_ | refine WL.off0 rfl rfl ?_ | refine WC.exit ?_ | refine blk_hit ?_ | refine blk_miss rfl ?_ | refine WC.ret ?_)
  refine WC.loop Nat (fun v => [(0, .slice ga g.length gc), (1, .slice sa ss.length sc), (2, .slice la ls.length lc), (15, .int .i64 (g.length : Nat)), (16, .int .i64 (v : Nat))])
    (fun v w' => v ≤ g.length ∧ (∀ u, u < v → rightAt g ss ls u = true) ∧ Hp w w' []) (fun v => g.length - v) 0 ⟨rfl, rfl, rfl, rfl, rfl, rfl⟩ ⟨Nat.zero_le _, fun u hu => absurd hu (by omega), Hp.start w⟩ ?_
  rintro v w1 ⟨hv, hok, hp1⟩
  repeat (first | refine WC.seq ?_ | refine WC.reg ?_ | refine WL.pure rfl rfl rfl ?_ | refine WL.nil ?_ | refine WC.skip ?_ | refine WC.block ?_ | refine WC.condT rfl ?_ | refine WC.condF rfl ?_ | refine WL.off rfl rfl rfl ?_ | refine WL.off0 rfl rfl ?_ | refine WC.exit ?_ | refine blk_hit ?_ | refine blk_miss rfl ?_ | refine WC.ret ?_)
  refine WC.cond rfl (fun hq => ?_) (fun hq => ?_)
  · have hv : v < g.length := by have := of_decide_eq_true hq; omega
    have step : IntKind.i64.wrap ((v : Int) + 1) = ((v + 1 : Nat) : Int) := by rw [wrap_i64_in (by omega) (by omega)]; omega
    repeat (first | refine WC.seq ?_ | refine WC.reg ?_ | refine WL.pure rfl rfl rfl ?_ | refine WL.nil ?_ | refine WC.skip ?_ | refine WC.block ?_ | refine WC.condT rfl ?_ | refine WC.condF rfl ?_ | refine WL.off rfl rfl rfl ?_ | refine WL.off0 rfl rfl ?_ | refine WC.exit ?_ | refine blk_hit ?_ | refine blk_miss rfl ?_ | refine WC.ret ?_)
    refine WC.loop Nat (fun j => [(0, .slice ga g.length gc), (1, .slice sa ss.length sc), (2, .slice la ls.length lc), (15, .int .i64 (g.length : Nat)), (16, .int .i64 (v : Nat)), (7, .int .i64 (v : Nat)), (8, .int .i64 (cntS ss v j : Nat)), (9, .int .i64 (covS ss v j : Nat)), (19, .slice sa ss.length sc), (20, .int .i64 (ss.length : Nat)), (21, .int .i64 (j : Nat))])
      (fun j w' => j ≤ ss.length ∧ Hp w w' []) (fun j => ss.length - j) 0 ⟨rfl, rfl, rfl, rfl, rfl, rfl, rfl, rfl, rfl, rfl, rfl, rfl⟩ ⟨Nat.zero_le _, hp1⟩ ?_
    rintro j w2 ⟨hj, hp2⟩
    repeat (first | refine WC.seq ?_ | refine WC.reg ?_ | refine WL.pure rfl rfl rfl ?_ | refine WL.nil ?_ | refine WC.skip ?_ | refine WC.block ?_ | refine WC.condT rfl ?_ | refine WC.condF rfl ?_ | refine WL.off rfl rfl rfl ?_ | refine WL.off0 rfl rfl ?_ | refine WC.exit ?_ | refine blk_hit ?_ | refine blk_miss rfl ?_ | refine WC.ret ?_)
    refine WC.cond rfl (fun hq2 => ?_) (fun hq2 => ?_)
    · have hj : j < ss.length := by have := of_decide_eq_true hq2; omega
      have step2 : IntKind.i64.wrap ((j : Int) + 1) = ((j + 1 : Nat) : Int) := by rw [wrap_i64_in (by omega) (by omega)]; omega
      have c1 := cntS_succ (v := v) hj
      have c2 := covS_succ (v := v) hj
      have c3 := cntS_le ss v j
      have c4 := covS_lt hss v j
      have c5 := getD_lt hss j
      repeat (first | refine WC.seq ?_ | refine WC.reg ?_ | refine WL.pure rfl rfl rfl ?_ | refine WL.nil ?_ | refine WC.skip ?_ | refine WC.block ?_ | refine WC.condT rfl ?_ | refine WC.condF rfl ?_ | refine WL.off rfl rfl rfl ?_ | refine WL.off0 rfl rfl ?_ | refine WC.exit ?_ | refine blk_hit ?_ | refine blk_miss rfl ?_ | refine WC.ret ?_)
      refine WL.ixload rfl (fun _ => rfl) rfl rfl rfl rfl rfl rfl rfl hj rfl rfl (hS.hp hp2) (ints_at hj) ?_
      intro p
      repeat (first | refine WC.seq ?_ | refine WC.reg ?_ | refine WL.pure rfl rfl rfl ?_ | refine WL.nil ?_ | refine WC.skip ?_ | refine WC.block ?_ | refine WC.condT rfl ?_ | refine WC.condF rfl ?_ | refine WL.off rfl rfl rfl ?_ | refine WL.off0 rfl rfl ?_ | refine WC.exit ?_ | refine blk_hit ?_ | refine blk_miss rfl ?_ | refine WC.ret ?_)
      refine WL.callP rfl rfl rfl rfl rfl ent44 (has_any _ v (by omega) _) ?_
      repeat (first | refine WC.seq ?_ | refine WC.reg ?_ | refine WL.pure rfl rfl rfl ?_ | refine WL.nil ?_ | refine WC.skip ?_ | refine WC.block ?_ | refine WC.condT rfl ?_ | refine WC.condF rfl ?_ | refine WL.off rfl rfl rfl ?_ | refine WL.off0 rfl rfl ?_ | refine WC.exit ?_ | refine blk_hit ?_ | refine blk_miss rfl ?_ | refine WC.ret ?_)
      refine WC.cond rfl (fun hb => ?_) (fun hb => ?_)
      · rw [if_pos hb] at c1 c2
        have e1 : IntKind.i64.wrap (((cntS ss v j : Nat) : Int) + 1) = ((cntS ss v (j + 1) : Nat) : Int) := by rw [c1, wrap_i64_in (by omega) (by omega)]; omega
        have e2 : bits .or .i64 ((covS ss v j : Nat) : Int) ((ss.getD j 0 : Nat) : Int) = ((covS ss v (j + 1) : Nat) : Int) := by rw [c2]; exact or_i64 (by omega) (by omega)
        repeat (first | refine WC.seq ?_ | refine WC.reg ?_ | refine WL.pure rfl rfl rfl ?_ | refine WL.nil ?_ | refine WC.skip ?_ | refine WC.block ?_ | refine WC.condT rfl ?_ | refine WC.condF rfl ?_ | refine WL.off rfl rfl rfl ?_ | refine WL.off0 rfl rfl ?_ | refine WC.exit ?_ | refine blk_hit ?_ | refine blk_miss rfl ?_ | refine WC.ret ?_)
        exact ⟨j + 1, by show ss.length - (j + 1) < ss.length - j; omega, ⟨rfl, rfl, rfl, rfl, rfl, rfl, congrArg (fun z => some (Value.int .i64 z)) e1, congrArg (fun z => some (Value.int .i64 z)) e2, rfl, rfl, congrArg (fun z => some (Value.int .i64 z)) step2, rfl⟩, hj, hp2⟩
      · rw [if_neg (by rw [hb]; decide)] at c1 c2
        repeat (first | refine WC.seq ?_ | refine WC.reg ?_ | refine WL.pure rfl rfl rfl ?_ | refine WL.nil ?_ | refine WC.skip ?_ | refine WC.block ?_ | refine WC.condT rfl ?_ | refine WC.condF rfl ?_ | refine WL.off rfl rfl rfl ?_ | refine WL.off0 rfl rfl ?_ | refine WC.exit ?_ | refine blk_hit ?_ | refine blk_miss rfl ?_ | refine WC.ret ?_)
        exact ⟨j + 1, by show ss.length - (j + 1) < ss.length - j; omega, ⟨rfl, rfl, rfl, rfl, rfl, rfl, by rw [c1]; rfl, by rw [c2]; rfl, rfl, rfl, congrArg (fun z => some (Value.int .i64 z)) step2, rfl⟩, hj, hp2⟩
    have hj : j = ss.length := by have := of_decide_eq_false hq2; omega
    subst hj
    have c3 := cntS_le ss v ss.length
    repeat (first | refine WC.seq ?_ | refine WC.reg ?_ | refine WL.pure rfl rfl rfl ?_ | refine WL.nil ?_ | refine WC.skip ?_ | refine WC.block ?_ | refine WC.condT rfl ?_ | refine WC.condF rfl ?_ | refine WL.off rfl rfl rfl ?_ | refine WL.off0 rfl rfl ?_ | refine WC.exit ?_ | refine blk_hit ?_ | refine blk_miss rfl ?_ | refine WC.ret ?_)
    refine WC.loop Nat (fun k => [(0, .slice ga g.length gc), (1, .slice sa ss.length sc), (2, .slice la ls.length lc), (15, .int .i64 (g.length : Nat)), (16, .int .i64 (v : Nat)), (7, .int .i64 (v : Nat)), (8, .int .i64 ((cntS ss v ss.length : Nat) - (cntK ss ls v k : Nat))), (9, .int .i64 (covS ss v ss.length : Nat)), (34, .slice la ls.length lc), (35, .int .i64 (ls.length : Nat)), (36, .int .i64 (k : Nat))])
      (fun k w' => k ≤ ls.length ∧ Hp w w' []) (fun k => ls.length - k) 0 ⟨rfl, rfl, rfl, rfl, rfl, rfl, congrArg (fun z => some (Value.int .i64 z)) (Int.sub_zero _).symm, rfl, rfl, rfl, rfl, rfl⟩ ⟨Nat.zero_le _, hp2⟩ ?_
    rintro k w3 ⟨hk, hp3⟩
    have c6 := cntK_le ss ls v k
    repeat (first | refine WC.seq ?_ | refine WC.reg ?_ | refine WL.pure rfl rfl rfl ?_ | refine WL.nil ?_ | refine WC.skip ?_ | refine WC.block ?_ | refine WC.condT rfl ?_ | refine WC.condF rfl ?_ | refine WL.off rfl rfl rfl ?_ | refine WL.off0 rfl rfl ?_ | refine WC.exit ?_ | refine blk_hit ?_ | refine blk_miss rfl ?_ | refine WC.ret ?_)
    refine WC.cond rfl (fun hq3 => ?_) (fun hq3 => ?_)
    · have hk : k < ls.length := by have := of_decide_eq_true hq3; omega
      have step3 : IntKind.i64.wrap ((k : Int) + 1) = ((k + 1 : Nat) : Int) := by rw [wrap_i64_in (by omega) (by omega)]; omega
      have c1 := cntK_succ (ss := ss) (v := v) hk
      obtain ⟨r1, r2, r3, r4⟩ := hr _ (List.getElem_mem hk)
      have hpr := prs_at ls k hk
      generalize hlk : ls[k] = l at *
      obtain ⟨x, y⟩ := l
      obtain ⟨a, rfl⟩ := Int.eq_ofNat_of_zero_le r1
      obtain ⟨b, rfl⟩ := Int.eq_ofNat_of_zero_le r3
      have ha : a < ss.length := by simp only at r2; omega
      have hb : b < ss.length := by simp only at r4; omega
      have g1 := getD_lt hss a
      have g2 := getD_lt hss b
      have e1 : IntKind.i64.wrap (((cntS ss v ss.length : Nat) : Int) - ((cntK ss ls v k : Nat) : Int) - 1) = ((cntS ss v ss.length : Nat) : Int) - ((cntK ss ls v k + 1 : Nat) : Int) := by rw [IntKind.wrap_i64]; omega
      repeat (first | refine WC.seq ?_ | refine WC.reg ?_ | refine WL.pure rfl rfl rfl ?_ | refine WL.nil ?_ | refine WC.skip ?_ | refine WC.block ?_ | refine WC.condT rfl ?_ | refine WC.condF rfl ?_ | refine WL.off rfl rfl rfl ?_ | refine WL.off0 rfl rfl ?_ | refine WC.exit ?_ | refine blk_hit ?_ | refine blk_miss rfl ?_ | refine WC.ret ?_)
      refine WL.ixloadN (cs' := pr ((a : Int), (b : Int))) rfl (fun _ => rfl) rfl rfl rfl rfl rfl rfl rfl rfl hk rfl rfl (hL.hp hp3) rfl hpr ?_
      intro p
      refine WL.var rfl rfl rfl (fun _ => rfl) rfl rfl (show ∀ u ∈ pr ((a : Int), (b : Int)), u.oneCell' = true from Cells.cons rfl (Cells.cons rfl Cells.nil)) ?_
      intro b8 w4 hb8
      have hp4 := hp3.new hb8
      repeat (first | refine WC.seq ?_ | refine WC.reg ?_ | refine WL.pure rfl rfl rfl ?_ | refine WL.nil ?_ | refine WC.skip ?_ | refine WC.block ?_ | refine WC.condT rfl ?_ | refine WC.condF rfl ?_ | refine WL.off rfl rfl rfl ?_ | refine WL.off0 rfl rfl ?_ | refine WC.exit ?_ | refine blk_hit ?_ | refine blk_miss rfl ?_ | refine WC.ret ?_)
      refine WL.load rfl rfl rfl rfl rfl (show w4.cell? ⟨b8, 0 + 0 * 1, none⟩ = _ from cell_of_obj (hp4.obj 0 rfl) rfl) ?_
      refine WL.ixload rfl (fun _ => rfl) rfl rfl rfl rfl rfl rfl rfl ha rfl rfl (hS.hp hp4) (ints_at ha) ?_
      intro p2
      repeat (first | refine WC.seq ?_ | refine WC.reg ?_ | refine WL.pure rfl rfl rfl ?_ | refine WL.nil ?_ | refine WC.skip ?_ | refine WC.block ?_ | refine WC.condT rfl ?_ | refine WC.condF rfl ?_ | refine WL.off rfl rfl rfl ?_ | refine WL.off0 rfl rfl ?_ | refine WC.exit ?_ | refine blk_hit ?_ | refine blk_miss rfl ?_ | refine WC.ret ?_)
      refine WL.callP rfl rfl rfl rfl rfl ent44 (has_any _ v (by omega) _) ?_
      refine WL.pure rfl rfl rfl ?_
      refine WL.split 47 rfl (fun h1 => ?_) (fun h1 => ?_)
      · repeat (first | refine WC.seq ?_ | refine WC.reg ?_ | refine WL.pure rfl rfl rfl ?_ | refine WL.nil ?_ | refine WC.skip ?_ | refine WC.block ?_ | refine WC.condT rfl ?_ | refine WC.condF rfl ?_ | refine WL.off rfl rfl rfl ?_ | refine WL.off0 rfl rfl ?_ | refine WC.exit ?_ | refine blk_hit ?_ | refine blk_miss rfl ?_ | refine WC.ret ?_)
        refine WL.load rfl rfl rfl rfl rfl (show w4.cell? ⟨b8, 0 + 1 * 1, none⟩ = _ from cell_of_obj (hp4.obj 0 rfl) rfl) ?_
        refine WL.ixload rfl (fun _ => rfl) rfl rfl rfl rfl rfl rfl rfl hb rfl rfl (hS.hp hp4) (ints_at hb) ?_
        intro p3
        repeat (first | refine WC.seq ?_ | refine WC.reg ?_ | refine WL.pure rfl rfl rfl ?_ | refine WL.nil ?_ | refine WC.skip ?_ | refine WC.block ?_ | refine WC.condT rfl ?_ | refine WC.condF rfl ?_ | refine WL.off rfl rfl rfl ?_ | refine WL.off0 rfl rfl ?_ | refine WC.exit ?_ | refine blk_hit ?_ | refine blk_miss rfl ?_ | refine WC.ret ?_)
        refine WL.callP rfl rfl rfl rfl rfl ent44 (has_any _ v (by omega) _) ?_
        repeat (first | refine WC.seq ?_ | refine WC.reg ?_ | refine WL.pure rfl rfl rfl ?_ | refine WL.nil ?_ | refine WC.skip ?_ | refine WC.block ?_ | refine WC.condT rfl ?_ | refine WC.condF rfl ?_ | refine WL.off rfl rfl rfl ?_ | refine WL.off0 rfl rfl ?_ | refine WC.exit ?_ | refine blk_hit ?_ | refine blk_miss rfl ?_ | refine WC.ret ?_)
        refine WC.cond rfl (fun h2 => ?_) (fun h2 => ?_)
        · rw [if_pos (by simp only [lkB, Int.toNat_natCast, h1, h2, Bool.and_self])] at c1
          repeat (first | refine WC.seq ?_ | refine WC.reg ?_ | refine WL.pure rfl rfl rfl ?_ | refine WL.nil ?_ | refine WC.skip ?_ | refine WC.block ?_ | refine WC.condT rfl ?_ | refine WC.condF rfl ?_ | refine WL.off rfl rfl rfl ?_ | refine WL.off0 rfl rfl ?_ | refine WC.exit ?_ | refine blk_hit ?_ | refine blk_miss rfl ?_ | refine WC.ret ?_)
          exact ⟨k + 1, by show ls.length - (k + 1) < ls.length - k; omega, ⟨rfl, rfl, rfl, rfl, rfl, rfl, by rw [c1]; exact congrArg (fun z => some (Value.int .i64 z)) e1, rfl, rfl, rfl, congrArg (fun z => some (Value.int .i64 z)) step3, rfl⟩, hk, hp4.tail⟩
        · rw [if_neg (by simp only [lkB, Int.toNat_natCast, h1, h2, Bool.and_false]; decide)] at c1
          repeat (first | refine WC.seq ?_ | refine WC.reg ?_ | refine WL.pure rfl rfl rfl ?_ | refine WL.nil ?_ | refine WC.skip ?_ | refine WC.block ?_ | refine WC.condT rfl ?_ | refine WC.condF rfl ?_ | refine WL.off rfl rfl rfl ?_ | refine WL.off0 rfl rfl ?_ | refine WC.exit ?_ | refine blk_hit ?_ | refine blk_miss rfl ?_ | refine WC.ret ?_)
          exact ⟨k + 1, by show ls.length - (k + 1) < ls.length - k; omega, ⟨rfl, rfl, rfl, rfl, rfl, rfl, by rw [c1]; rfl, rfl, rfl, rfl, congrArg (fun z => some (Value.int .i64 z)) step3, rfl⟩, hk, hp4.tail⟩
      · rw [if_neg (by simp only [lkB, Int.toNat_natCast, h1, Bool.false_and]; decide)] at c1
        repeat (first | refine WC.seq ?_ | refine WC.reg ?_ | refine WL.pure rfl rfl rfl ?_ | refine WL.nil ?_ | refine WC.skip ?_ | refine WC.block ?_ | refine WC.condT rfl ?_ | refine WC.condF rfl ?_ | refine WL.off rfl rfl rfl ?_ | refine WL.off0 rfl rfl ?_ | refine WC.exit ?_ | refine blk_hit ?_ | refine blk_miss rfl ?_ | refine WC.ret ?_)
        exact ⟨k + 1, by show ls.length - (k + 1) < ls.length - k; omega, ⟨rfl, rfl, rfl, rfl, rfl, rfl, by rw [c1]; rfl, rfl, rfl, rfl, congrArg (fun z => some (Value.int .i64 z)) step3, rfl⟩, hk, hp4.tail⟩
    have hk : k = ls.length := by have := of_decide_eq_false hq3; omega
    subst hk
    have bad : rightAt g ss ls v = false → isRightB g ss ls = false := by
      intro h
      cases hx : isRightB g ss ls with
      | false => rfl
      | true =>
        rw [isRightB, List.all_eq_true] at hx
        have := hx v (by simpa using hv)
        rw [h] at this; cases this
    have hgv := lt_pow16 hn (hg.lt v)
    have hcv := covS_lt hss v ss.length
    have ebd : bits .andNot .i64 ((g.getD v 0 : Nat) : Int) ((covS ss v ss.length : Nat) : Int) = ((bd (g.getD v 0) (covS ss v ss.length) : Nat) : Int) := andNot_i64 (by omega) (by omega)
    repeat (first | refine WC.seq ?_ | refine WC.reg ?_ | refine WL.pure rfl rfl rfl ?_ | refine WL.nil ?_ | refine WC.skip ?_ | refine WC.block ?_ | refine WC.condT rfl ?_ | refine WC.condF rfl ?_ | refine WL.off rfl rfl rfl ?_ | refine WL.off0 rfl rfl ?_ | refine WC.exit ?_ | refine blk_hit ?_ | refine blk_miss rfl ?_ | refine WC.ret ?_)
    refine WL.split 61 rfl (fun h1 => ?_) (fun h1 => ?_)
    · have h1 : cntS ss v ss.length ≠ cntK ss ls v ls.length + 1 := by simp at h1; omega
      repeat (first | refine WC.seq ?_ | refine WC.reg ?_ | refine WL.pure rfl rfl rfl ?_ | refine WL.nil ?_ | refine WC.skip ?_ | refine WC.block ?_ | refine WC.condT rfl ?_ | refine WC.condF rfl ?_ | refine WL.off rfl rfl rfl ?_ | refine WL.off0 rfl rfl ?_ | refine WC.exit ?_ | refine blk_hit ?_ | refine blk_miss rfl ?_ | refine WC.ret ?_)
      refine Res.one rfl rfl rfl ⟨hp3, ?_⟩
      rw [bad (by rw [rightAt, beq_eq_false_iff_ne.2 h1]; rfl)]
    · have h1 : cntS ss v ss.length = cntK ss ls v ls.length + 1 := by simp at h1; omega
      repeat (first | refine WC.seq ?_ | refine WC.reg ?_ | refine WL.pure rfl rfl rfl ?_ | refine WL.nil ?_ | refine WC.skip ?_ | refine WC.block ?_ | refine WC.condT rfl ?_ | refine WC.condF rfl ?_ | refine WL.off rfl rfl rfl ?_ | refine WL.off0 rfl rfl ?_ | refine WC.exit ?_ | refine blk_hit ?_ | refine blk_miss rfl ?_ | refine WC.ret ?_)
      refine WL.ixload rfl (fun _ => rfl) rfl rfl rfl rfl rfl rfl rfl hv rfl rfl (hG.hp hp3) (ints_at hv) ?_
      intro p
      repeat (first | refine WC.seq ?_ | refine WC.reg ?_ | refine WL.pure rfl rfl rfl ?_ | refine WL.nil ?_ | refine WC.skip ?_ | refine WC.block ?_ | refine WC.condT rfl ?_ | refine WC.condF rfl ?_ | refine WL.off rfl rfl rfl ?_ | refine WL.off0 rfl rfl ?_ | refine WC.exit ?_ | refine blk_hit ?_ | refine blk_miss rfl ?_ | refine WC.ret ?_)
      refine WC.cond rfl (fun h2 => ?_) (fun h2 => ?_)
      · rw [ebd] at h2
        have h2 : bd (g.getD v 0) (covS ss v ss.length) ≠ 0 := by intro h; rw [h] at h2; simp at h2
        repeat (first | refine WC.seq ?_ | refine WC.reg ?_ | refine WL.pure rfl rfl rfl ?_ | refine WL.nil ?_ | refine WC.skip ?_ | refine WC.block ?_ | refine WC.condT rfl ?_ | refine WC.condF rfl ?_ | refine WL.off rfl rfl rfl ?_ | refine WL.off0 rfl rfl ?_ | refine WC.exit ?_ | refine blk_hit ?_ | refine blk_miss rfl ?_ | refine WC.ret ?_)
        refine Res.one rfl rfl rfl ⟨hp3, ?_⟩
        rw [bad (by rw [rightAt, beq_eq_false_iff_ne.2 h2, Bool.and_false])]
      · rw [ebd] at h2
        have h2 : bd (g.getD v 0) (covS ss v ss.length) = 0 := by
          cases hx : bd (g.getD v 0) (covS ss v ss.length) with
          | zero => rfl
          | succ q => rw [hx] at h2; simp at h2; omega
        repeat (first | refine WC.seq ?_ | refine WC.reg ?_ | refine WL.pure rfl rfl rfl ?_ | refine WL.nil ?_ | refine WC.skip ?_ | refine WC.block ?_ | refine WC.condT rfl ?_ | refine WC.condF rfl ?_ | refine WL.off rfl rfl rfl ?_ | refine WL.off0 rfl rfl ?_ | refine WC.exit ?_ | refine blk_hit ?_ | refine blk_miss rfl ?_ | refine WC.ret ?_)
        refine ⟨v + 1, by show g.length - (v + 1) < g.length - v; omega, ⟨rfl, rfl, rfl, rfl, congrArg (fun z => some (Value.int .i64 z)) step, rfl⟩, hv, fun u hu => ?_, hp3⟩
        by_cases huv : u = v
        · rw [huv, rightAt, h1, h2]; simp
        · exact hok u (by omega)
  · have hv : v = g.length := by have := of_decide_eq_false hq; omega
    subst hv
    repeat (first | refine WC.seq ?_ | refine WC.reg ?_ | refine WL.pure rfl rfl rfl ?_ | refine WL.nil ?_ | refine WC.skip ?_ | refine WC.block ?_ | refine WC.condT rfl ?_ | refine WC.condF rfl ?_ | refine WL.off rfl rfl rfl ?_ | refine WL.off0 rfl rfl ?_ | refine WC.exit ?_ | refine blk_hit ?_ | refine blk_miss rfl ?_ | refine WC.ret ?_)
    refine Res.one rfl rfl rfl ⟨hp1, ?_⟩
    have : isRightB g ss ls = true := by
      rw [isRightB, List.all_eq_true]
      intro u hu
      exact hok u (by simpa using hu)
    rw [this]

theorem ufB_rng {N : Nat} : ∀ (L : List Ed) (f : Nat → Nat), ufB N f L = true → ∀ l ∈ L, 0 ≤ l.1 ∧ l.1 < N ∧ 0 ≤ l.2 ∧ l.2 < N := by
  intro L
  induction L with
  | nil => intro f _ l hl; cases hl
  | cons l L ih =>
    intro f h x hx
    rw [ufB, Bool.and_eq_true] at h
    rcases List.mem_cons.1 hx with rfl | hx
    · have h1 := h.1
      simp [badL] at h1
      omega
    · exact ih _ h.2 x hx
theorem isTreeB_rng {N : Nat} {L : List Ed} (h : isTreeB N L = true) : ∀ l ∈ L, 0 ≤ l.1 ∧ l.1 < N ∧ 0 ≤ l.2 ∧ l.2 < N := by
  rw [isTreeB, Bool.and_eq_true] at h
  exact ufB_rng L id h.2
def wdS (ss : List Nat) (k : Nat) : Int := (ss.take k).foldl (fun m x => max m ((pc x : Int) - 1)) (-1)
theorem wdS_succ {ss : List Nat} {k : Nat} (hk : k < ss.length) : wdS ss (k + 1) = max (wdS ss k) ((pc (ss.getD k 0) : Int) - 1) := by
  rw [wdS, List.take_succ_eq_append_getElem hk, List.foldl_append, wdS, List.getD_eq_getElem?_getD, List.getElem?_eq_getElem hk]
  rfl
/-- What 'Check' finds: the width, or none. -/
def chkO (g : List Nat) (bs : List (List Int)) (ls : List Ed) : Option Int :=
  if bs.length < 1 ∨ 64 < bs.length ∨ isTreeB bs.length ls = false then none
  else match setsV g.length bs with
    | none => none
    | some ss => if isRightB g ss ls = true then some (wdS ss ss.length) else none
def chkV (n : Int) (es : List Ed) (bs : List (List Int)) (ls : List Ed) : Value := match mkG n es with
  | none => .tuple #[.int .i64 0, .int .i64 2]
  | some g => match chkO g bs ls with
    | none => .tuple #[.int .i64 0, .int .i64 10]
    | some k => .tuple #[.int .i64 k, .int .i64 0]
theorem setsV_small {n : Nat} (hn : n ≤ 14) {bs : List (List Int)} {ss : List Nat} (h : setsV n bs = some ss) : ss.length = bs.length ∧ ∀ x ∈ ss, x < 16384 := by
  unfold setsV at h
  split at h
  · rename_i hal
    simp only [Option.some.injEq] at h
    subst h
    refine ⟨by simp, fun x hx => ?_⟩
    obtain ⟨b, hb, rfl⟩ := List.mem_map.1 hx
    rw [List.all_eq_true] at hal
    exact Nat.lt_of_lt_of_le (setTo_lt b.length (Nat.le_refl _) (hal b hb)) (Nat.pow_le_pow_right (by decide) hn)
  · cases h

theorem Check_any (ea ba la : Option Addr) (ec bc lc : Nat) (n : Int) (es : List Ed) (bl : List BagI) (ls : List Ed) (w : World) (hs : Sl w ea (prs es)) (hlen : es.length ≤ 4611686018427387904) (hA : BagsAt w ba bl)
    (hsm : ∀ b ∈ bl, b.2.2.length ≤ 4611686018427387904) (hbl : bl.length ≤ 1000) (hL : Sl w la (prs ls)) :
    Ret Tryd.prog 34 [.int .i64 n, .slice ea es.length ec, .agg #[.slice ba bl.length bc, .slice la ls.length lc]] w fun v w' => Hp w w' [] ∧ v = chkV n es (bl.map (·.2.2)) ls := by
  have hbm : (bl.map (·.2.2)).length = bl.length := by simp
  refine enter Tryd.func34 rfl rfl ⟨rfl, rfl⟩ rfl ?_
  repeat (first | refine WC.seq ?_ | refine WC.reg ?_ | refine WL.pure rfl rfl rfl ?_ | refine WL.nil ?_ | refine WC.skip ?_ | refine WC.block ?_ | refine WC.condT rfl ?_ | refine WC.condF rfl ?_ | refine WL.off rfl rfl rfl ?_ | refine WL.off0 rfl rfl ?_ | refine WC.exit ?_ | refine blk_hit ?_ | refine blk_miss rfl ?_ | refine WC.ret ?_)
  refine WL.box rfl rfl rfl ?_
  intro b5 w1 hb5
  have hp1 := (Hp.start w).new hb5
  repeat (first | refine WC.seq ?_ | refine WC.reg ?_ | refine WL.pure rfl rfl rfl ?_ | refine WL.nil ?_ | refine WC.skip ?_ | refine WC.block ?_ | refine WC.condT rfl ?_ | refine WC.condF rfl ?_ | refine WL.off rfl rfl rfl ?_ | refine WL.off0 rfl rfl ?_ | refine WC.exit ?_ | refine blk_hit ?_ | refine blk_miss rfl ?_ | refine WC.ret ?_)
  refine WL.call rfl rfl rfl rfl rfl ent38 (newGraph_any ea ec n es w1 (hs.hp hp1) hlen) ?_
  intro v2 w2 hG
  cases hmk : mkG n es with
  | none =>
    obtain ⟨hp2, rfl⟩ := graph_none hG hmk
    have hp2 := hp1.call hp2.below
    repeat (first | refine WC.seq ?_ | refine WC.reg ?_ | refine WL.pure rfl rfl rfl ?_ | refine WL.nil ?_ | refine WC.skip ?_ | refine WC.block ?_ | refine WC.condT rfl ?_ | refine WC.condF rfl ?_ | refine WL.off rfl rfl rfl ?_ | refine WL.off0 rfl rfl ?_ | refine WC.exit ?_ | refine blk_hit ?_ | refine blk_miss rfl ?_ | refine WC.ret ?_)
    exact Res.two rfl rfl rfl rfl ⟨hp2.nil', by rw [chkV, hmk]⟩
  | some g =>
    obtain ⟨hg, _, _, _, _⟩ := mkG_gr hmk
    have hn := hg.len
    obtain ⟨bg, hp2, rfl⟩ := graph_hp hG hmk
    have hp2 := hp1.comb hp2
    have bad : chkO g (bl.map (·.2.2)) ls = none → ∀ w', Hp w w' [] → Hp w w' [] ∧ .tuple #[.int .i64 0, .int .i64 10] = chkV n es (bl.map (·.2.2)) ls := fun h w' hp => ⟨hp, by simp only [chkV, hmk, h]⟩
    repeat (first | refine WC.seq ?_ | refine WC.reg ?_ | refine WL.pure rfl rfl rfl ?_ | refine WL.nil ?_ | refine WC.skip ?_ | refine WC.block ?_ | refine WC.condT rfl ?_ | refine WC.condF rfl ?_ | refine WL.off rfl rfl rfl ?_ | refine WL.off0 rfl rfl ?_ | refine WC.exit ?_ | refine blk_hit ?_ | refine blk_miss rfl ?_ | refine WC.ret ?_)
    refine WL.loadB rfl rfl rfl rfl rfl (hp2.obj 1 rfl) rfl ?_
    repeat (first | refine WC.seq ?_ | refine WC.reg ?_ | refine WL.pure rfl rfl rfl ?_ | refine WL.nil ?_ | refine WC.skip ?_ | refine WC.block ?_ | refine WC.condT rfl ?_ | refine WC.condF rfl ?_ | refine WL.off rfl rfl rfl ?_ | refine WL.off0 rfl rfl ?_ | refine WC.exit ?_ | refine blk_hit ?_ | refine blk_miss rfl ?_ | refine WC.ret ?_)
    refine WL.split 26 rfl (fun h1 => ?_) (fun h1 => ?_)
    · have h1 : bl.length < 1 := by have := of_decide_eq_true h1; omega
      repeat (first | refine WC.seq ?_ | refine WC.reg ?_ | refine WL.pure rfl rfl rfl ?_ | refine WL.nil ?_ | refine WC.skip ?_ | refine WC.block ?_ | refine WC.condT rfl ?_ | refine WC.condF rfl ?_ | refine WL.off rfl rfl rfl ?_ | refine WL.off0 rfl rfl ?_ | refine WC.exit ?_ | refine blk_hit ?_ | refine blk_miss rfl ?_ | refine WC.ret ?_)
      exact Res.two rfl rfl rfl rfl (bad (by rw [chkO, if_pos (.inl (by rw [hbm]; exact h1))]) _ hp2.nil')
    have h1 : ¬ bl.length < 1 := by have := of_decide_eq_false h1; omega
    repeat (first | refine WC.seq ?_ | refine WC.reg ?_ | refine WL.pure rfl rfl rfl ?_ | refine WL.nil ?_ | refine WC.skip ?_ | refine WC.block ?_ | refine WC.condT rfl ?_ | refine WC.condF rfl ?_ | refine WL.off rfl rfl rfl ?_ | refine WL.off0 rfl rfl ?_ | refine WC.exit ?_ | refine blk_hit ?_ | refine blk_miss rfl ?_ | refine WC.ret ?_)
    refine WL.loadB rfl rfl rfl rfl rfl (hp2.obj 1 rfl) rfl ?_
    repeat (first | refine WC.seq ?_ | refine WC.reg ?_ | refine WL.pure rfl rfl rfl ?_ | refine WL.nil ?_ | refine WC.skip ?_ | refine WC.block ?_ | refine WC.condT rfl ?_ | refine WC.condF rfl ?_ | refine WL.off rfl rfl rfl ?_ | refine WL.off0 rfl rfl ?_ | refine WC.exit ?_ | refine blk_hit ?_ | refine blk_miss rfl ?_ | refine WC.ret ?_)
    refine WL.split 32 rfl (fun h2 => ?_) (fun h2 => ?_)
    · have h2 : 64 < bl.length := by have := of_decide_eq_true h2; omega
      repeat (first | refine WC.seq ?_ | refine WC.reg ?_ | refine WL.pure rfl rfl rfl ?_ | refine WL.nil ?_ | refine WC.skip ?_ | refine WC.block ?_ | refine WC.condT rfl ?_ | refine WC.condF rfl ?_ | refine WL.off rfl rfl rfl ?_ | refine WL.off0 rfl rfl ?_ | refine WC.exit ?_ | refine blk_hit ?_ | refine blk_miss rfl ?_ | refine WC.ret ?_)
      exact Res.two rfl rfl rfl rfl (bad (by rw [chkO, if_pos (.inr (.inl (by rw [hbm]; exact h2)))]) _ hp2.nil')
    have h2 : ¬ 64 < bl.length := by have := of_decide_eq_false h2; omega
    repeat (first | refine WC.seq ?_ | refine WC.reg ?_ | refine WL.pure rfl rfl rfl ?_ | refine WL.nil ?_ | refine WC.skip ?_ | refine WC.block ?_ | refine WC.condT rfl ?_ | refine WC.condF rfl ?_ | refine WL.off rfl rfl rfl ?_ | refine WL.off0 rfl rfl ?_ | refine WC.exit ?_ | refine blk_hit ?_ | refine blk_miss rfl ?_ | refine WC.ret ?_)
    refine WL.loadB rfl rfl rfl rfl rfl (hp2.obj 1 rfl) rfl ?_
    repeat (first | refine WC.seq ?_ | refine WC.reg ?_ | refine WL.pure rfl rfl rfl ?_ | refine WL.nil ?_ | refine WC.skip ?_ | refine WC.block ?_ | refine WC.condT rfl ?_ | refine WC.condF rfl ?_ | refine WL.off rfl rfl rfl ?_ | refine WL.off0 rfl rfl ?_ | refine WC.exit ?_ | refine blk_hit ?_ | refine blk_miss rfl ?_ | refine WC.ret ?_)
    refine WL.loadB rfl rfl rfl rfl rfl (hp2.obj 1 rfl) rfl ?_
    refine WL.call rfl rfl rfl rfl rfl ent60 (isTree_any la lc bl.length ls (by omega) (by omega) w2 (hL.hp hp2)) ?_
    rintro _ w3 ⟨hp3, rfl⟩
    have hp3 := hp2.call hp3.below
    cases hT : isTreeB bl.length ls with
    | false =>
      repeat (first | refine WC.seq ?_ | refine WC.reg ?_ | refine WL.pure rfl rfl rfl ?_ | refine WL.nil ?_ | refine WC.skip ?_ | refine WC.block ?_ | refine WC.condT rfl ?_ | refine WC.condF rfl ?_ | refine WL.off rfl rfl rfl ?_ | refine WL.off0 rfl rfl ?_ | refine WC.exit ?_ | refine blk_hit ?_ | refine blk_miss rfl ?_ | refine WC.ret ?_)
      exact Res.two rfl rfl rfl rfl (bad (by rw [chkO, if_pos (.inr (.inr (by rw [hbm]; exact hT)))]) _ hp3.nil')
    | true =>
      have hrng := isTreeB_rng hT
      have hll : ls.length ≤ 1000 := by
        rw [isTreeB, Bool.and_eq_true] at hT
        have := hT.1
        simp at this
        omega
      repeat (first | refine WC.seq ?_ | refine WC.reg ?_ | refine WL.pure rfl rfl rfl ?_ | refine WL.nil ?_ | refine WC.skip ?_ | refine WC.block ?_ | refine WC.condT rfl ?_ | refine WC.condF rfl ?_ | refine WL.off rfl rfl rfl ?_ | refine WL.off0 rfl rfl ?_ | refine WC.exit ?_ | refine blk_hit ?_ | refine blk_miss rfl ?_ | refine WC.ret ?_)
      refine WL.loadB rfl rfl rfl rfl rfl (hp3.obj 1 rfl) rfl ?_
      refine WL.call rfl rfl rfl rfl rfl ent61 (bags_any _ ba _ bc g.length hn bl (by omega) hsm w3 (hA.hp hp3)) ?_
      intro v4 w4 hB
      unfold BagsIs at hB
      have hco : chkO g (bl.map (·.2.2)) ls = match setsV g.length (bl.map (·.2.2)) with
          | none => none
          | some ss => if isRightB g ss ls = true then some (wdS ss ss.length) else none := by
        rw [chkO, if_neg]
        rw [hbm, hT]
        rintro (h | h | h)
        · exact h1 h
        · exact h2 h
        · cases h
      cases hS : setsV g.length (bl.map (·.2.2)) with
      | none =>
        rw [hS] at hB hco
        obtain ⟨hp4, rfl⟩ := hB
        have hp4 := hp3.call hp4.below
        repeat (first | refine WC.seq ?_ | refine WC.reg ?_ | refine WL.pure rfl rfl rfl ?_ | refine WL.nil ?_ | refine WC.skip ?_ | refine WC.block ?_ | refine WC.condT rfl ?_ | refine WC.condF rfl ?_ | refine WL.off rfl rfl rfl ?_ | refine WL.off0 rfl rfl ?_ | refine WC.exit ?_ | refine blk_hit ?_ | refine blk_miss rfl ?_ | refine WC.ret ?_)
        exact Res.two rfl rfl rfl rfl (bad hco _ hp4.nil')
      | some ss =>
        rw [hS] at hB hco
        obtain ⟨a4, c4, hp4, rfl⟩ := hB
        have hp4 := hp3.comb hp4
        obtain ⟨hsl, hss⟩ := setsV_small hn hS
        rw [hbm] at hsl
        have hco : chkO g (bl.map (·.2.2)) ls = if isRightB g ss ls = true then some (wdS ss ss.length) else none := hco
        repeat (first | refine WC.seq ?_ | refine WC.reg ?_ | refine WL.pure rfl rfl rfl ?_ | refine WL.nil ?_ | refine WC.skip ?_ | refine WC.block ?_ | refine WC.condT rfl ?_ | refine WC.condF rfl ?_ | refine WL.off rfl rfl rfl ?_ | refine WL.off0 rfl rfl ?_ | refine WC.exit ?_ | refine blk_hit ?_ | refine blk_miss rfl ?_ | refine WC.ret ?_)
        refine WL.loadB rfl rfl rfl rfl rfl (hp4.obj 2 rfl) rfl ?_
        refine WL.call rfl rfl rfl rfl rfl ent62 (isRight_any _ a4 la _ c4 lc g ss ls hg hss (by omega) hll (fun l hl => by rw [hsl]; exact hrng l hl) w4 (Sl.of_obj (hp4.obj 1 rfl) (fun i u h => by simpa using h)) (Sl.of_row (hp4.at 0 rfl)) (hL.hp hp4)) ?_
        rintro _ w5 ⟨hp5, rfl⟩
        have hp5 := hp4.call hp5.below
        cases hR : isRightB g ss ls with
        | false =>
          rw [hR] at hco
          repeat (first | refine WC.seq ?_ | refine WC.reg ?_ | refine WL.pure rfl rfl rfl ?_ | refine WL.nil ?_ | refine WC.skip ?_ | refine WC.block ?_ | refine WC.condT rfl ?_ | refine WC.condF rfl ?_ | refine WL.off rfl rfl rfl ?_ | refine WL.off0 rfl rfl ?_ | refine WC.exit ?_ | refine blk_hit ?_ | refine blk_miss rfl ?_ | refine WC.ret ?_)
          exact Res.two rfl rfl rfl rfl (bad hco _ hp5.nil')
        | true =>
          rw [hR, if_pos rfl] at hco
          have hval : chkV n es (bl.map (·.2.2)) ls = .tuple #[.int .i64 (wdS ss ss.length), .int .i64 0] := by simp only [chkV, hmk, hco]
          repeat (first | refine WC.seq ?_ | refine WC.reg ?_ | refine WL.pure rfl rfl rfl ?_ | refine WL.nil ?_ | refine WC.skip ?_ | refine WC.block ?_ | refine WC.condT rfl ?_ | refine WC.condF rfl ?_ | refine WL.off rfl rfl rfl ?_ | refine WL.off0 rfl rfl ?_ | refine WC.exit ?_ | refine blk_hit ?_ | refine blk_miss rfl ?_ | refine WC.ret ?_)
          refine WC.loop Nat (fun k => [(11, .int .i64 (wdS ss k)), (58, .slice a4 ss.length c4), (59, .int .i64 (ss.length : Nat)), (60, .int .i64 (k : Nat))])
            (fun k w' => k ≤ ss.length ∧ Hp w w' (.row 76 1 (.slice a4 ss.length c4) ss.length (ints ss) :: [])) (fun k => ss.length - k) 0 ⟨rfl, rfl, rfl, rfl, rfl⟩ ⟨Nat.zero_le _, hp5.pick [0] (by decide)⟩ ?_
          rintro k w6 ⟨hk, hp6⟩
          repeat (first | refine WC.seq ?_ | refine WC.reg ?_ | refine WL.pure rfl rfl rfl ?_ | refine WL.nil ?_ | refine WC.skip ?_ | refine WC.block ?_ | refine WC.condT rfl ?_ | refine WC.condF rfl ?_ | refine WL.off rfl rfl rfl ?_ | refine WL.off0 rfl rfl ?_ | refine WC.exit ?_ | refine blk_hit ?_ | refine blk_miss rfl ?_ | refine WC.ret ?_)
          refine WC.cond rfl (fun hq => ?_) (fun hq => ?_)
          · have hk : k < ss.length := by have := of_decide_eq_true hq; omega
            have step : IntKind.i64.wrap ((k : Int) + 1) = ((k + 1 : Nat) : Int) := by rw [wrap_i64_in (by omega) (by omega)]; omega
            have hx := getD_lt hss k
            have hpc : pc (ss.getD k 0) ≤ 16 := by rw [pc_card]; exact card_le (by decide) (Nat.lt_trans hx (by decide))
            have ew : IntKind.i64.wrap ((pc (ss.getD k 0) : Int) - 1) = (pc (ss.getD k 0) : Int) - 1 := by rw [IntKind.wrap_i64]; omega
            have e1 : max (wdS ss k) (IntKind.i64.wrap ((pc (ss.getD k 0) : Int) - 1)) = wdS ss (k + 1) := by rw [wdS_succ hk, ew]
            repeat (first | refine WC.seq ?_ | refine WC.reg ?_ | refine WL.pure rfl rfl rfl ?_ | refine WL.nil ?_ | refine WC.skip ?_ | refine WC.block ?_ | refine WC.condT rfl ?_ | refine WC.condF rfl ?_ | refine WL.off rfl rfl rfl ?_ | refine WL.off0 rfl rfl ?_ | refine WC.exit ?_ | refine blk_hit ?_ | refine blk_miss rfl ?_ | refine WC.ret ?_)
            refine WL.ixload rfl (fun _ => rfl) rfl rfl rfl rfl rfl rfl rfl hk rfl rfl (Sl.of_row (hp6.at 0 rfl)) (ints_at hk) ?_
            intro p
            repeat (first | refine WC.seq ?_ | refine WC.reg ?_ | refine WL.pure rfl rfl rfl ?_ | refine WL.nil ?_ | refine WC.skip ?_ | refine WC.block ?_ | refine WC.condT rfl ?_ | refine WC.condF rfl ?_ | refine WL.off rfl rfl rfl ?_ | refine WL.off0 rfl rfl ?_ | refine WC.exit ?_ | refine blk_hit ?_ | refine blk_miss rfl ?_ | refine WC.ret ?_)
            refine WL.callP rfl rfl rfl rfl rfl ent41 (size_any _ hx _) ?_
            repeat (first | refine WC.seq ?_ | refine WC.reg ?_ | refine WL.pure rfl rfl rfl ?_ | refine WL.nil ?_ | refine WC.skip ?_ | refine WC.block ?_ | refine WC.condT rfl ?_ | refine WC.condF rfl ?_ | refine WL.off rfl rfl rfl ?_ | refine WL.off0 rfl rfl ?_ | refine WC.exit ?_ | refine blk_hit ?_ | refine blk_miss rfl ?_ | refine WC.ret ?_)
            exact ⟨k + 1, by show ss.length - (k + 1) < ss.length - k; omega, ⟨congrArg (fun z => some (Value.int .i64 z)) e1, rfl, rfl, congrArg (fun z => some (Value.int .i64 z)) step, rfl⟩, hk, hp6⟩
          · have hk : k = ss.length := by have := of_decide_eq_false hq; omega
            subst hk
            repeat (first | refine WC.seq ?_ | refine WC.reg ?_ | refine WL.pure rfl rfl rfl ?_ | refine WL.nil ?_ | refine WC.skip ?_ | refine WC.block ?_ | refine WC.condT rfl ?_ | refine WC.condF rfl ?_ | refine WL.off rfl rfl rfl ?_ | refine WL.off0 rfl rfl ?_ | refine WC.exit ?_ | refine blk_hit ?_ | refine blk_miss rfl ?_ | refine WC.ret ?_)
            exact Res.two rfl rfl rfl rfl ⟨hp6.nil', hval.symm⟩
end Go.Proofs.YtdnkkflpgebfbaaDoor
