/- ltl, ninth: the values of a formula on a lasso. -/
import Derived.Test.YtpbbneclkhfgoaaDoorU8
import Derived.Test.YtpbbneclkhfgoaaDoorYb
namespace Go.W
def bl (l : List Bool) : List Value := l.map Value.bool
theorem bl_len (l : List Bool) : (bl l).length = l.length := by simp [bl]
theorem bl_at {l : List Bool} {i : Nat} (h : i < l.length) : (bl l)[i]? = some (.bool (l.getD i false)) := by simp [bl, h]
theorem bl_set (l : List Bool) (i : Nat) (x : Bool) : (bl l).toArray.setIfInBounds i (.bool x) = (bl (l.set i x)).toArray := by simp [bl, List.map_set]
end Go.W
namespace Go.Proofs.YtpbbneclkhfgoaaDoor
open Go.W Go.Ltl Go.RowKit
set_option maxRecDepth 100000
attribute [local irreducible] WC WL WQ WS WH

/-- A block of bools. -/
abbrev Lb (b : Nat) (l : List Bool) : Ent := .blk b (.cells (bl l).toArray 4 (0, 0))
theorem lb_obj {w0 w : World} {L : List Ent} {b : Nat} {l : List Bool} {i : Nat} (hp : Hp w0 w (Lb b l :: L)) (h : i < l.length) : w.cell? ⟨b, 0 + i, none⟩ = some (.bool (l.getD i false)) := by
  rw [Nat.zero_add]
  exact cell_of_obj (hp.obj 0 rfl) (by rw [List.getElem?_toArray]; exact bl_at h)
theorem holds_any (s : Str) (hs : s ∈ atomsL) (m : Int) (h0 : 0 ≤ m) (h1 : m ≤ 15) (w : World) :
    Ret Tryd.prog 76 [st s, .int .i64 m] w fun v w' => v = .bool (holdsM s m) ∧ w' = w := by
  refine enter Tryd.func76 rfl rfl ⟨rfl, rfl⟩ rfl ?_
  have hm : m = 0 ∨ m = 1 ∨ m = 2 ∨ m = 3 ∨ m = 4 ∨ m = 5 ∨ m = 6 ∨ m = 7 ∨ m = 8 ∨ m = 9 ∨ m = 10 ∨ m = 11 ∨ m = 12 ∨ m = 13 ∨ m = 14 ∨ m = 15 := by omega
  have hs2 : s = wTrue ∨ s = wFalse ∨ s = [112, 48] ∨ s = [112, 49] ∨ s = [112, 50] ∨ s = [112, 51] := by simpa [atomsL] using hs
  rcases hs2 with rfl | rfl | hs2
  · repeat (first | refine WC.seq ?_ | refine WC.reg ?_ | refine WL.pure rfl rfl rfl ?_ | refine WL.nil ?_ | refine WC.skip ?_ | refine WC.block ?_ | refine WC.condT rfl ?_ | refine WC.condF rfl ?_ | refine WL.off rfl rfl rfl ?_ | refine WL.off0 rfl rfl ?_ | refine WC.exit ?_ | refine blk_hit ?_ | refine blk_miss rfl ?_ | refine WC.ret ?_)
    refine WL.sCmp (a := wTrue) (b := wTrue) rfl rfl rfl rfl rfl ?_
    repeat (first | refine WC.seq ?_ | refine WC.reg ?_ | refine WL.pure rfl rfl rfl ?_ | refine WL.nil ?_ | refine WC.skip ?_ | refine WC.block ?_ | refine WC.condT rfl ?_ | refine WC.condF rfl ?_ | refine WL.off rfl rfl rfl ?_ | refine WL.off0 rfl rfl ?_ | refine WC.exit ?_ | refine blk_hit ?_ | refine blk_miss rfl ?_ | refine WC.ret ?_)
    exact Res.one rfl rfl rfl ⟨rfl, rfl⟩
  · repeat (first | refine WC.seq ?_ | refine WC.reg ?_ | refine WL.pure rfl rfl rfl ?_ | refine WL.nil ?_ | refine WC.skip ?_ | refine WC.block ?_ | refine WC.condT rfl ?_ | refine WC.condF rfl ?_ | refine WL.off rfl rfl rfl ?_ | refine WL.off0 rfl rfl ?_ | refine WC.exit ?_ | refine blk_hit ?_ | refine blk_miss rfl ?_ | refine WC.ret ?_)
    refine WL.sCmp (a := wFalse) (b := wTrue) rfl rfl rfl rfl rfl ?_
    repeat (first | refine WC.seq ?_ | refine WC.reg ?_ | refine WL.pure rfl rfl rfl ?_ | refine WL.nil ?_ | refine WC.skip ?_ | refine WC.block ?_ | refine WC.condT rfl ?_ | refine WC.condF rfl ?_ | refine WL.off rfl rfl rfl ?_ | refine WL.off0 rfl rfl ?_ | refine WC.exit ?_ | refine blk_hit ?_ | refine blk_miss rfl ?_ | refine WC.ret ?_)
    refine WL.sCmp (a := wFalse) (b := wFalse) rfl rfl rfl rfl rfl ?_
    repeat (first | refine WC.seq ?_ | refine WC.reg ?_ | refine WL.pure rfl rfl rfl ?_ | refine WL.nil ?_ | refine WC.skip ?_ | refine WC.block ?_ | refine WC.condT rfl ?_ | refine WC.condF rfl ?_ | refine WL.off rfl rfl rfl ?_ | refine WL.off0 rfl rfl ?_ | refine WC.exit ?_ | refine blk_hit ?_ | refine blk_miss rfl ?_ | refine WC.ret ?_)
    exact Res.one rfl rfl rfl ⟨rfl, rfl⟩
  · rcases hs2 with rfl | rfl | rfl | rfl
    all_goals
      repeat (first | refine WC.seq ?_ | refine WC.reg ?_ | refine WL.pure rfl rfl rfl ?_ | refine WL.nil ?_ | refine WC.skip ?_ | refine WC.block ?_ | refine WC.condT rfl ?_ | refine WC.condF rfl ?_ | refine WL.off rfl rfl rfl ?_ | refine WL.off0 rfl rfl ?_ | refine WC.exit ?_ | refine blk_hit ?_ | refine blk_miss rfl ?_ | refine WC.ret ?_)
      refine WL.sCmp (b := wTrue) rfl rfl rfl rfl rfl ?_
      repeat (first | refine WC.seq ?_ | refine WC.reg ?_ | refine WL.pure rfl rfl rfl ?_ | refine WL.nil ?_ | refine WC.skip ?_ | refine WC.block ?_ | refine WC.condT rfl ?_ | refine WC.condF rfl ?_ | refine WL.off rfl rfl rfl ?_ | refine WL.off0 rfl rfl ?_ | refine WC.exit ?_ | refine blk_hit ?_ | refine blk_miss rfl ?_ | refine WC.ret ?_)
      refine WL.sCmp (b := wFalse) rfl rfl rfl rfl rfl ?_
      repeat (first | refine WC.seq ?_ | refine WC.reg ?_ | refine WL.pure rfl rfl rfl ?_ | refine WL.nil ?_ | refine WC.skip ?_ | refine WC.block ?_ | refine WC.condT rfl ?_ | refine WC.condF rfl ?_ | refine WL.off rfl rfl rfl ?_ | refine WL.off0 rfl rfl ?_ | refine WC.exit ?_ | refine blk_hit ?_ | refine blk_miss rfl ?_ | refine WC.ret ?_)
      refine WL.sAt (m := 1) rfl rfl rfl rfl rfl (by decide) ?_
      repeat (first | refine WC.seq ?_ | refine WC.reg ?_ | refine WL.pure rfl rfl rfl ?_ | refine WL.nil ?_ | refine WC.skip ?_ | refine WC.block ?_ | refine WC.condT rfl ?_ | refine WC.condF rfl ?_ | refine WL.off rfl rfl rfl ?_ | refine WL.off0 rfl rfl ?_ | refine WC.exit ?_ | refine blk_hit ?_ | refine blk_miss rfl ?_ | refine WC.ret ?_)
      refine Res.one rfl rfl rfl ⟨?_, rfl⟩
      rcases hm with rfl | rfl | rfl | rfl | rfl | rfl | rfl | rfl | rfl | rfl | rfl | rfl | rfl | rfl | rfl | rfl <;> kernel_rfl
/-- A lasso as a value. -/
abbrev lsV (a : Option Addr) (n c lp : Nat) : Value := .agg #[.slice a n c, .int .i64 (lp : Nat)]
theorem after_any (a : Option Addr) (n c lp i : Nat) (hn : n ≤ 1000000) (hi : i < n) (w : World) :
    Ret Tryd.prog 77 [lsV a n c lp, .int .i64 (i : Nat)] w fun v w' => v = .int .i64 (aft n lp i : Nat) ∧ Hp w w' [] := by
  have step := wrap_succ (i := i) (n := i + 1) (by omega) (by omega)
  refine enter Tryd.func77 rfl rfl ⟨rfl, rfl⟩ rfl ?_
  repeat (first | refine WC.seq ?_ | refine WC.reg ?_ | refine WL.pure rfl rfl rfl ?_ | refine WL.nil ?_ | refine WC.skip ?_ | refine WC.block ?_ | refine WC.condT rfl ?_ | refine WC.condF rfl ?_ | refine WL.off rfl rfl rfl ?_ | refine WL.off0 rfl rfl ?_ | refine WC.exit ?_ | refine blk_hit ?_ | refine blk_miss rfl ?_ | refine WC.ret ?_)
  refine WL.box rfl rfl rfl (fun b w1 h1 => ?_)
  have hp1 : Hp w w1 [.blk b (.cells #[.slice a n c, .int .i64 (lp : Nat)] 83 (0, 0))] := (Hp.start w).new h1
  repeat (first | refine WC.seq ?_ | refine WC.reg ?_ | refine WL.pure rfl rfl rfl ?_ | refine WL.nil ?_ | refine WC.skip ?_ | refine WC.block ?_ | refine WC.condT rfl ?_ | refine WC.condF rfl ?_ | refine WL.off rfl rfl rfl ?_ | refine WL.off0 rfl rfl ?_ | refine WC.exit ?_ | refine blk_hit ?_ | refine blk_miss rfl ?_ | refine WC.ret ?_)
  refine WL.known (d := 6) (congrArg (fun z => some (Value.int .i64 z)) step) ?_
  refine WL.loadB rfl rfl rfl rfl rfl (hp1.obj 0 rfl) (j := 0) rfl ?_
  repeat (first | refine WC.seq ?_ | refine WC.reg ?_ | refine WL.pure rfl rfl rfl ?_ | refine WL.nil ?_ | refine WC.skip ?_ | refine WC.block ?_ | refine WC.condT rfl ?_ | refine WC.condF rfl ?_ | refine WL.off rfl rfl rfl ?_ | refine WL.off0 rfl rfl ?_ | refine WC.exit ?_ | refine blk_hit ?_ | refine blk_miss rfl ?_ | refine WC.ret ?_)
  refine WC.cond rfl (fun h2 => ?_) (fun h2 => ?_)
  · have h2 : i + 1 < n := by have := of_decide_eq_true h2; omega
    repeat (first | refine WC.seq ?_ | refine WC.reg ?_ | refine WL.pure rfl rfl rfl ?_ | refine WL.nil ?_ | refine WC.skip ?_ | refine WC.block ?_ | refine WC.condT rfl ?_ | refine WC.condF rfl ?_ | refine WL.off rfl rfl rfl ?_ | refine WL.off0 rfl rfl ?_ | refine WC.exit ?_ | refine blk_hit ?_ | refine blk_miss rfl ?_ | refine WC.ret ?_)
    refine Res.one rfl rfl rfl ⟨?_, hp1.nil'⟩
    unfold aft
    rw [if_pos h2, step]
  · have h2 : ¬ i + 1 < n := by have := of_decide_eq_false h2; omega
    repeat (first | refine WC.seq ?_ | refine WC.reg ?_ | refine WL.pure rfl rfl rfl ?_ | refine WL.nil ?_ | refine WC.skip ?_ | refine WC.block ?_ | refine WC.condT rfl ?_ | refine WC.condF rfl ?_ | refine WL.off rfl rfl rfl ?_ | refine WL.off0 rfl rfl ?_ | refine WC.exit ?_ | refine blk_hit ?_ | refine blk_miss rfl ?_ | refine WC.ret ?_)
    refine WL.loadB rfl rfl rfl rfl rfl (hp1.obj 0 rfl) (j := 1) rfl ?_
    repeat (first | refine WC.seq ?_ | refine WC.reg ?_ | refine WL.pure rfl rfl rfl ?_ | refine WL.nil ?_ | refine WC.skip ?_ | refine WC.block ?_ | refine WC.condT rfl ?_ | refine WC.condF rfl ?_ | refine WL.off rfl rfl rfl ?_ | refine WL.off0 rfl rfl ?_ | refine WC.exit ?_ | refine blk_hit ?_ | refine blk_miss rfl ?_ | refine WC.ret ?_)
    refine Res.one rfl rfl rfl ⟨?_, hp1.nil'⟩
    unfold aft
    rw [if_neg h2]
theorem aft_lt {n lp i : Nat} (hl : lp < n) : aft n lp i < n := by unfold aft; split <;> omega
theorem fill_set {α : Type} (F : Nat → α) (y : α) (n i : Nat) (h : i < n) : ((List.range i).map F ++ List.replicate (n - i) y).set i (F i) = (List.range (i + 1)).map F ++ List.replicate (n - (i + 1)) y := by
  rw [show n - i = (n - (i + 1)) + 1 from by omega, List.replicate_succ, List.set_append_right _ _ (by simp), List.range_succ, List.map_append]
  simp
theorem fill_len {α : Type} (F : Nat → α) (y : α) (n i : Nat) (h : i ≤ n) : ((List.range i).map F ++ List.replicate (n - i) y).length = n := by
  rw [List.length_append, List.length_map, List.length_range, List.length_replicate]; omega
def itM (last : Bool) (F : Nat → Bool → Bool) (n lp : Nat) : Nat → List Bool
  | 0 => List.replicate n last
  | p + 1 => passM F n lp n (itM last F n lp p)
theorem itM_len (last : Bool) (F : Nat → Bool → Bool) (n lp : Nat) : ∀ p, (itM last F n lp p).length = n := by
  intro p
  cases p with
  | zero => exact List.length_replicate
  | succ p => rw [itM, passM_len, itM_len last F n lp p]
abbrev Lx (b : Nat) (a : Option Addr) (n c lp : Nat) : Ent := .blk b (.cells #[.slice a n c, .int .i64 (lp : Nat)] 83 (0, 0))
theorem repeat_any (a : Option Addr) (n c lp : Nat) (hn : n ≤ 1000000) (hlp : lp < n) (last : Bool) {fc : FuncId} {fi ca : List Value} (hE : Ents Tryd.prog fc) (F : Nat → Bool → Bool) (w : World)
    (hF : ∀ (i : Nat) (x : Bool) (w' : World), i < n → Hp w w' [] → Ret Tryd.prog fc (fi ++ [.int .i64 (i : Nat), .bool x] ++ ca) w' fun v w'' => v = .bool (F i x) ∧ w'' = w') :
    Ret Tryd.prog 78 [lsV a n c lp, .bool last, .func (.func fc) fi.toArray ca.toArray] w fun v w' => ∃ b, v = .slice (some ⟨b, 0, none⟩) n n ∧ Hp w w' [Lb b (repM last F n lp)] := by
  refine enter Tryd.func78 rfl rfl ⟨rfl, rfl⟩ rfl ?_
  repeat (first | refine WC.seq ?_ | refine WC.reg ?_ | refine WL.pure rfl rfl rfl ?_ | refine WL.nil ?_ | refine WC.skip ?_ | refine WC.block ?_ | refine WC.condT rfl ?_ | refine WC.condF rfl ?_ | refine WL.off rfl rfl rfl ?_ | refine WL.off0 rfl rfl ?_ | refine WC.exit ?_ | refine blk_hit ?_ | refine blk_miss rfl ?_ | refine WC.ret ?_)
  refine WL.box rfl rfl rfl (fun bx w1 h1 => ?_)
  have hp1 : Hp w w1 [Lx bx a n c lp] := (Hp.start w).new h1
  repeat (first | refine WC.seq ?_ | refine WC.reg ?_ | refine WL.pure rfl rfl rfl ?_ | refine WL.nil ?_ | refine WC.skip ?_ | refine WC.block ?_ | refine WC.condT rfl ?_ | refine WC.condF rfl ?_ | refine WL.off rfl rfl rfl ?_ | refine WL.off0 rfl rfl ?_ | refine WC.exit ?_ | refine blk_hit ?_ | refine blk_miss rfl ?_ | refine WC.ret ?_)
  refine WL.loadB rfl rfl rfl rfl rfl (hp1.obj 0 rfl) (j := 0) rfl ?_
  repeat (first | refine WC.seq ?_ | refine WC.reg ?_ | refine WL.pure rfl rfl rfl ?_ | refine WL.nil ?_ | refine WC.skip ?_ | refine WC.block ?_ | refine WC.condT rfl ?_ | refine WC.condF rfl ?_ | refine WL.off rfl rfl rfl ?_ | refine WL.off0 rfl rfl ?_ | refine WC.exit ?_ | refine blk_hit ?_ | refine blk_miss rfl ?_ | refine WC.ret ?_)
  refine WL.make rfl rfl rfl rfl rfl rfl rfl rfl (by show 1 * n ≤ _; omega) (by unfold maxLen; omega) ?_
  intro ob w2 hob
  have hp2 : Hp w w2 [Lb ob (List.replicate n false), Lx bx a n c lp] := by
    have := hp1.new hob
    unfold Lb bl
    rw [List.map_replicate]
    exact this
  repeat (first | refine WC.seq ?_ | refine WC.reg ?_ | refine WL.pure rfl rfl rfl ?_ | refine WL.nil ?_ | refine WC.skip ?_ | refine WC.block ?_ | refine WC.condT rfl ?_ | refine WC.condF rfl ?_ | refine WL.off rfl rfl rfl ?_ | refine WL.off0 rfl rfl ?_ | refine WC.exit ?_ | refine blk_hit ?_ | refine blk_miss rfl ?_ | refine WC.ret ?_)
  refine WC.loop Nat (fun i => [(1, .bool last), (2, .func (.func fc) fi.toArray ca.toArray), (3, ptr bx), (7, .slice (some ⟨ob, 0, none⟩) n n), (15, .int .i64 (n : Nat)), (16, .int .i64 (i : Nat))])
    (fun i w' => i ≤ n ∧ Hp w w' [Lb ob ((List.range i).map (fun _ => last) ++ List.replicate (n - i) false), Lx bx a n c lp]) (fun i => n - i) 0 ⟨rfl, rfl, rfl, rfl, rfl, rfl, rfl⟩ ⟨Nat.zero_le _, hp2⟩ ?_
  clear hp2
  rintro i w3 ⟨hi, hp3⟩
  repeat (first | refine WC.seq ?_ | refine WC.reg ?_ | refine WL.pure rfl rfl rfl ?_ | refine WL.nil ?_ | refine WC.skip ?_ | refine WC.block ?_ | refine WC.condT rfl ?_ | refine WC.condF rfl ?_ | refine WL.off rfl rfl rfl ?_ | refine WL.off0 rfl rfl ?_ | refine WC.exit ?_ | refine blk_hit ?_ | refine blk_miss rfl ?_ | refine WC.ret ?_)
  refine WC.cond rfl (fun h2 => ?_) (fun h2 => ?_)
  · have hi : i < n := by have := of_decide_eq_true h2; omega
    have step := wrap_succ (i := i) (n := i + 1) (by omega) (by omega)
    repeat (first | refine WC.seq ?_ | refine WC.reg ?_ | refine WL.pure rfl rfl rfl ?_ | refine WL.nil ?_ | refine WC.skip ?_ | refine WC.block ?_ | refine WC.condT rfl ?_ | refine WC.condF rfl ?_ | refine WL.off rfl rfl rfl ?_ | refine WL.off0 rfl rfl ?_ | refine WC.exit ?_ | refine blk_hit ?_ | refine blk_miss rfl ?_ | refine WC.ret ?_)
    refine WL.ix1 rfl rfl rfl rfl rfl rfl rfl hi ?_
    refine WL.store rfl rfl rfl rfl rfl rfl (hp3.obj 0 rfl) (by rw [List.size_toArray, bl_len, fill_len _ _ _ _ (by omega)]; omega) (fun w4 h4 => ?_)
    rw [Nat.zero_add, bl_set, fill_set (fun _ => last) false n i hi] at h4
    have hp4 := hp3.set 0 rfl rfl h4
    repeat (first | refine WC.seq ?_ | refine WC.reg ?_ | refine WL.pure rfl rfl rfl ?_ | refine WL.nil ?_ | refine WC.skip ?_ | refine WC.block ?_ | refine WC.condT rfl ?_ | refine WC.condF rfl ?_ | refine WL.off rfl rfl rfl ?_ | refine WL.off0 rfl rfl ?_ | refine WC.exit ?_ | refine blk_hit ?_ | refine blk_miss rfl ?_ | refine WC.ret ?_)
    exact ⟨i + 1, (by omega), ⟨rfl, rfl, rfl, rfl, rfl, congrArg (fun z => some (Value.int .i64 z)) step, rfl⟩, hi, hp4⟩
  · have hi : i = n := by have := of_decide_eq_false h2; omega
    subst hi
    have hp3 : Hp w w3 [Lb ob (itM last F i lp 0), Lx bx a i c lp] := by
      have e1 : (List.range i).map (fun _ => last) ++ List.replicate (i - i) false = itM last F i lp 0 := by
        rw [Nat.sub_self, List.replicate_zero, List.append_nil, itM, List.map_const', List.length_range]
      rw [← e1]
      exact hp3
    repeat (first | refine WC.seq ?_ | refine WC.reg ?_ | refine WL.pure rfl rfl rfl ?_ | refine WL.nil ?_ | refine WC.skip ?_ | refine WC.block ?_ | refine WC.condT rfl ?_ | refine WC.condF rfl ?_ | refine WL.off rfl rfl rfl ?_ | refine WL.off0 rfl rfl ?_ | refine WC.exit ?_ | refine blk_hit ?_ | refine blk_miss rfl ?_ | refine WC.ret ?_)
    refine WC.loop Nat (fun p => [(2, .func (.func fc) fi.toArray ca.toArray), (3, ptr bx), (7, .slice (some ⟨ob, 0, none⟩) i i), (24, .int .i64 (p : Nat))])
      (fun p w' => p ≤ 2 ∧ Hp w w' [Lb ob (itM last F i lp p), Lx bx a i c lp]) (fun p => 2 - p) 0 ⟨rfl, rfl, rfl, rfl, rfl⟩ ⟨Nat.zero_le _, hp3⟩ ?_
    clear hp3 h2
    rintro p w3 ⟨hp2, hp3⟩
    repeat (first | refine WC.seq ?_ | refine WC.reg ?_ | refine WL.pure rfl rfl rfl ?_ | refine WL.nil ?_ | refine WC.skip ?_ | refine WC.block ?_ | refine WC.condT rfl ?_ | refine WC.condF rfl ?_ | refine WL.off rfl rfl rfl ?_ | refine WL.off0 rfl rfl ?_ | refine WC.exit ?_ | refine blk_hit ?_ | refine blk_miss rfl ?_ | refine WC.ret ?_)
    refine WC.cond rfl (fun h2 => ?_) (fun h2 => ?_)
    · have hp2 : p < 2 := by have := of_decide_eq_true h2; omega
      have step := wrap_succ (i := p) (n := p + 1) (by omega) (by omega)
      have e1 : IntKind.i64.wrap (((i : Nat) : Int) - 1) = ((i : Nat) : Int) - 1 := wrap_mid (by omega) (by omega)
      repeat (first | refine WC.seq ?_ | refine WC.reg ?_ | refine WL.pure rfl rfl rfl ?_ | refine WL.nil ?_ | refine WC.skip ?_ | refine WC.block ?_ | refine WC.condT rfl ?_ | refine WC.condF rfl ?_ | refine WL.off rfl rfl rfl ?_ | refine WL.off0 rfl rfl ?_ | refine WC.exit ?_ | refine blk_hit ?_ | refine blk_miss rfl ?_ | refine WC.ret ?_)
      refine WC.loop (Nat × List Bool) (fun (j, _) => [(2, .func (.func fc) fi.toArray ca.toArray), (3, ptr bx), (7, .slice (some ⟨ob, 0, none⟩) i i), (9, .int .i64 ((j : Nat) - 1)), (24, .int .i64 (p : Nat))])
        (fun (j, out) w' => j ≤ i ∧ out.length = i ∧ passM F i lp j out = itM last F i lp (p + 1) ∧ Hp w w' [Lb ob out, Lx bx a i c lp]) (fun (j, _) => j) (i, itM last F i lp p) ⟨rfl, rfl, rfl, congrArg (fun z => some (Value.int .i64 z)) e1, rfl, rfl⟩
        ⟨Nat.le_refl _, itM_len _ _ _ _ _, rfl, hp3⟩ ?_
      clear hp3 h2
      rintro ⟨j, out⟩ w3 ⟨hj, hol, hps, hp3⟩
      replace hp3 : Hp w w3 [Lb ob out, Lx bx a i c lp] := hp3
      replace hps : passM F i lp j out = itM last F i lp (p + 1) := hps
      replace hol : out.length = i := hol
      replace hj : j ≤ i := hj
      repeat (first | refine WC.seq ?_ | refine WC.reg ?_ | refine WL.pure rfl rfl rfl ?_ | refine WL.nil ?_ | refine WC.skip ?_ | refine WC.block ?_ | refine WC.condT rfl ?_ | refine WC.condF rfl ?_ | refine WL.off rfl rfl rfl ?_ | refine WL.off0 rfl rfl ?_ | refine WC.exit ?_ | refine blk_hit ?_ | refine blk_miss rfl ?_ | refine WC.ret ?_)
      refine WC.cond rfl (fun h2 => ?_) (fun h2 => ?_)
      · have hj0 : 0 < j := by have := of_decide_eq_true h2; omega
        obtain ⟨k, rfl⟩ : ∃ k, j = k + 1 := ⟨j - 1, by omega⟩
        have hk : k < i := hj
        have e2 : (((k + 1 : Nat) : Int) - 1) = ((k : Nat) : Int) := by omega
        have e3 : IntKind.i64.wrap (((k : Nat) : Int) - 1) = ((k : Nat) : Int) - 1 := wrap_mid (by omega) (by omega)
        refine WC.known (d := 9) (congrArg (fun z => some (Value.int .i64 z)) e2) ?_
        repeat (first | refine WC.seq ?_ | refine WC.reg ?_ | refine WL.pure rfl rfl rfl ?_ | refine WL.nil ?_ | refine WC.skip ?_ | refine WC.block ?_ | refine WC.condT rfl ?_ | refine WC.condF rfl ?_ | refine WL.off rfl rfl rfl ?_ | refine WL.off0 rfl rfl ?_ | refine WC.exit ?_ | refine blk_hit ?_ | refine blk_miss rfl ?_ | refine WC.ret ?_)
        refine WL.loadN rfl rfl rfl rfl rfl (cs := [.slice a i c, .int .i64 (lp : Nat)]) rfl (fun q v hq => cell_of_obj (hp3.obj 1 rfl) (by rw [Nat.zero_add]; simpa using hq)) ?_
        repeat (first | refine WC.seq ?_ | refine WC.reg ?_ | refine WL.pure rfl rfl rfl ?_ | refine WL.nil ?_ | refine WC.skip ?_ | refine WC.block ?_ | refine WC.condT rfl ?_ | refine WC.condF rfl ?_ | refine WL.off rfl rfl rfl ?_ | refine WL.off0 rfl rfl ?_ | refine WC.exit ?_ | refine blk_hit ?_ | refine blk_miss rfl ?_ | refine WC.ret ?_)
        refine WL.call rfl rfl rfl rfl rfl ent77 (after_any a i c lp k hn hk w3) ?_
        rintro v w4 ⟨rfl, hp4⟩
        have hp5 : Hp w w4 [Lb ob out, Lx bx a i c lp] := hp3.comb hp4
        have ha := aft_lt (i := k) hlp
        refine WL.ix1 rfl rfl rfl rfl rfl rfl rfl ha ?_
        refine WL.load rfl rfl rfl rfl rfl (lb_obj hp5 (by omega)) ?_
        refine WL.call rfl rfl rfl rfl rfl hE (hF k _ w4 hk hp5.nil') ?_
        rintro v w5 ⟨rfl, rfl⟩
        refine WL.ix1 rfl rfl rfl rfl rfl rfl rfl hk ?_
        refine WL.store rfl rfl rfl rfl rfl rfl (hp5.obj 0 rfl) (by rw [List.size_toArray, bl_len]; omega) (fun w6 h6 => ?_)
        rw [Nat.zero_add, bl_set] at h6
        have hp6 := hp5.set 0 rfl rfl h6
        repeat (first | refine WC.seq ?_ | refine WC.reg ?_ | refine WL.pure rfl rfl rfl ?_ | refine WL.nil ?_ | refine WC.skip ?_ | refine WC.block ?_ | refine WC.condT rfl ?_ | refine WC.condF rfl ?_ | refine WL.off rfl rfl rfl ?_ | refine WL.off0 rfl rfl ?_ | refine WC.exit ?_ | refine blk_hit ?_ | refine blk_miss rfl ?_ | refine WC.ret ?_)
        exact ⟨(k, _), (by show k < k + 1; omega), ⟨rfl, rfl, rfl, congrArg (fun z => some (Value.int .i64 z)) e3, rfl, rfl⟩, (by omega), (by rw [List.length_set]; exact hol), (by rw [← hps]; rfl), hp6⟩
      · have hj0 : j = 0 := by have := of_decide_eq_false h2; omega
        subst hj0
        have hps : out = itM last F i lp (p + 1) := hps
        rw [hps] at hp3
        repeat (first | refine WC.seq ?_ | refine WC.reg ?_ | refine WL.pure rfl rfl rfl ?_ | refine WL.nil ?_ | refine WC.skip ?_ | refine WC.block ?_ | refine WC.condT rfl ?_ | refine WC.condF rfl ?_ | refine WL.off rfl rfl rfl ?_ | refine WL.off0 rfl rfl ?_ | refine WC.exit ?_ | refine blk_hit ?_ | refine blk_miss rfl ?_ | refine WC.ret ?_)
        exact ⟨p + 1, (by omega), ⟨rfl, rfl, rfl, congrArg (fun z => some (Value.int .i64 z)) step, rfl⟩, hp2, hp3⟩
    · have hp2 : p = 2 := by have := of_decide_eq_false h2; omega
      subst hp2
      repeat (first | refine WC.seq ?_ | refine WC.reg ?_ | refine WL.pure rfl rfl rfl ?_ | refine WL.nil ?_ | refine WC.skip ?_ | refine WC.block ?_ | refine WC.condT rfl ?_ | refine WC.condF rfl ?_ | refine WL.off rfl rfl rfl ?_ | refine WL.off0 rfl rfl ?_ | refine WC.exit ?_ | refine blk_hit ?_ | refine blk_miss rfl ?_ | refine WC.ret ?_)
      exact Res.one rfl rfl rfl ⟨ob, rfl, hp3.pick [0] (by decide)⟩
end Go.Proofs.YtpbbneclkhfgoaaDoor
