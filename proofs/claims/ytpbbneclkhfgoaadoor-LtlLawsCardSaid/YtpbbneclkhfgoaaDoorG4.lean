/- Texts on the way to LtlLaws, one behind the other: U9 U10 U11 U12 U13 U14 U15 U16 U17. -/
import Derived.Test.YtpbbneclkhfgoaaDoorG3
section
/- ltl, ninth: the values of a formula on a lasso. -/
namespace Go.W
def bl (l : List Bool) : List Value := l.map Value.bool
theorem bl_len (l : List Bool) : (bl l).length = l.length := by simp [bl]
theorem bl_at {l : List Bool} {i : Nat} (h : i < l.length) : (bl l)[i]? = some (.bool (l.getD i false)) := by simp [bl, h]
theorem bl_set (l : List Bool) (i : Nat) (x : Bool) : (bl l).toArray.setIfInBounds i (.bool x) = (bl (l.set i x)).toArray := by simp [bl, List.map_set]
end Go.W
namespace Go.Proofs.YtpbbneclkhfgoaaDoor
open Go.W Go.Ltl Go.RowKit
set_option maxRecDepth 100000
attribute [local irreducible] WC WL WQ WS WH

/-- A block of bools. -/
abbrev Lb (b : Nat) (l : List Bool) : Ent := .blk b (.cells (bl l).toArray 4 (0, 0))
theorem lb_obj {w0 w : World} {L : List Ent} {b : Nat} {l : List Bool} {i : Nat} (hp : Hp w0 w (Lb b l :: L)) (h : i < l.length) : w.cell? ⟨b, 0 + i, none⟩ = some (.bool (l.getD i false)) := by
  rw [Nat.zero_add]
  exact cell_of_obj (hp.obj 0 rfl) (by rw [List.getElem?_toArray]; exact bl_at h)
theorem holds_any (s : Str) (hs : s ∈ atomsL) (m : Int) (h0 : 0 ≤ m) (h1 : m ≤ 15) (w : World) :
    Ret Tryd.prog 76 [st s, .int .i64 m] w fun v w' => v = .bool (holdsM s m) ∧ w' = w := by
  refine enter Tryd.func76 rfl rfl ⟨rfl, rfl⟩ rfl ?_
  have hm : m = 0 ∨ m = 1 ∨ m = 2 ∨ m = 3 ∨ m = 4 ∨ m = 5 ∨ m = 6 ∨ m = 7 ∨ m = 8 ∨ m = 9 ∨ m = 10 ∨ m = 11 ∨ m = 12 ∨ m = 13 ∨ m = 14 ∨ m = 15 := by omega
  have hs2 : s = wTrue ∨ s = wFalse ∨ s = [112, 48] ∨ s = [112, 49] ∨ s = [112, 50] ∨ s = [112, 51] := by simpa [atomsL] using hs
  rcases hs2 with rfl | rfl | hs2
  · repeat (first | refine zA ?_ | refine zB ?_ | refine zC rfl rfl rfl ?_ | refine zD ?_ | refine zE ?_ | refine zF ?_ | refine zG rfl ?_ | refine zH rfl ?_ | refine zI rfl rfl rfl ?_ | refine zJ rfl rfl ?_ | refine zK ?_ | refine zL ?_ | refine zM rfl ?_ | refine zN ?_)
    refine WL.sCmp (a := wTrue) (b := wTrue) rfl rfl rfl rfl rfl ?_
    repeat (first | refine zA ?_ | refine zB ?_ | refine zC rfl rfl rfl ?_ | refine zD ?_ | refine zE ?_ | refine zF ?_ | refine zG rfl ?_ | refine zH rfl ?_ | refine zI rfl rfl rfl ?_ | refine zJ rfl rfl ?_ | refine zK ?_ | refine zL ?_ | refine zM rfl ?_ | refine zN ?_)
    exact Res.one rfl rfl rfl ⟨rfl, rfl⟩
  · repeat (first | refine zA ?_ | refine zB ?_ | refine zC rfl rfl rfl ?_ | refine zD ?_ | refine zE ?_ | refine zF ?_ | refine zG rfl ?_ | refine zH rfl ?_ | refine zI rfl rfl rfl ?_ | refine zJ rfl rfl ?_ | refine zK ?_ | refine zL ?_ | refine zM rfl ?_ | refine zN ?_)
    refine WL.sCmp (a := wFalse) (b := wTrue) rfl rfl rfl rfl rfl ?_
    repeat (first | refine zA ?_ | refine zB ?_ | refine zC rfl rfl rfl ?_ | refine zD ?_ | refine zE ?_ | refine zF ?_ | refine zG rfl ?_ | refine zH rfl ?_ | refine zI rfl rfl rfl ?_ | refine zJ rfl rfl ?_ | refine zK ?_ | refine zL ?_ | refine zM rfl ?_ | refine zN ?_)
    refine WL.sCmp (a := wFalse) (b := wFalse) rfl rfl rfl rfl rfl ?_
    repeat (first | refine zA ?_ | refine zB ?_ | refine zC rfl rfl rfl ?_ | refine zD ?_ | refine zE ?_ | refine zF ?_ | refine zG rfl ?_ | refine zH rfl ?_ | refine zI rfl rfl rfl ?_ | refine zJ rfl rfl ?_ | refine zK ?_ | refine zL ?_ | refine zM rfl ?_ | refine zN ?_)
    exact Res.one rfl rfl rfl ⟨rfl, rfl⟩
  · rcases hs2 with rfl | rfl | rfl | rfl
    all_goals
      repeat (first | refine zA ?_ | refine zB ?_ | refine zC rfl rfl rfl ?_ | refine zD ?_ | refine zE ?_ | refine zF ?_ | refine zG rfl ?_ | refine zH rfl ?_ | refine zI rfl rfl rfl ?_ | refine zJ rfl rfl ?_ | refine zK ?_ | refine zL ?_ | refine zM rfl ?_ | refine zN ?_)
      refine WL.sCmp (b := wTrue) rfl rfl rfl rfl rfl ?_
      repeat (first | refine zA ?_ | refine zB ?_ | refine zC rfl rfl rfl ?_ | refine zD ?_ | refine zE ?_ | refine zF ?_ | refine zG rfl ?_ | refine zH rfl ?_ | refine zI rfl rfl rfl ?_ | refine zJ rfl rfl ?_ | refine zK ?_ | refine zL ?_ | refine zM rfl ?_ | refine zN ?_)
      refine WL.sCmp (b := wFalse) rfl rfl rfl rfl rfl ?_
      repeat (first | refine zA ?_ | refine zB ?_ | refine zC rfl rfl rfl ?_ | refine zD ?_ | refine zE ?_ | refine zF ?_ | refine zG rfl ?_ | refine zH rfl ?_ | refine zI rfl rfl rfl ?_ | refine zJ rfl rfl ?_ | refine zK ?_ | refine zL ?_ | refine zM rfl ?_ | refine zN ?_)
      refine WL.sAt (m := 1) rfl rfl rfl rfl rfl (by decide) ?_
      repeat (first | refine zA ?_ | refine zB ?_ | refine zC rfl rfl rfl ?_ | refine zD ?_ | refine zE ?_ | refine zF ?_ | refine zG rfl ?_ | refine zH rfl ?_ | refine zI rfl rfl rfl ?_ | refine zJ rfl rfl ?_ | refine zK ?_ | refine zL ?_ | refine zM rfl ?_ | refine zN ?_)
      refine Res.one rfl rfl rfl ⟨?_, rfl⟩
      rcases hm with rfl | rfl | rfl | rfl | rfl | rfl | rfl | rfl | rfl | rfl | rfl | rfl | rfl | rfl | rfl | rfl <;> kernel_rfl
/-- A lasso as a value. -/
abbrev lsV (a : Option Addr) (n c lp : Nat) : Value := .agg #[.slice a n c, .int .i64 (lp : Nat)]
theorem after_any (a : Option Addr) (n c lp i : Nat) (hn : n ≤ 1000000) (hi : i < n) (w : World) :
    Ret Tryd.prog 77 [lsV a n c lp, .int .i64 (i : Nat)] w fun v w' => v = .int .i64 (aft n lp i : Nat) ∧ Hp w w' [] := by
  have step := wrap_succ (i := i) (n := i + 1) (by omega) (by omega)
  refine enter Tryd.func77 rfl rfl ⟨rfl, rfl⟩ rfl ?_
  repeat (first | refine zA ?_ | refine zB ?_ | refine zC rfl rfl rfl ?_ | refine zD ?_ | refine zE ?_ | refine zF ?_ | refine zG rfl ?_ | refine zH rfl ?_ | refine zI rfl rfl rfl ?_ | refine zJ rfl rfl ?_ | refine zK ?_ | refine zL ?_ | refine zM rfl ?_ | refine zN ?_)
  refine WL.box rfl rfl rfl (fun b w1 h1 => ?_)
  have hp1 : Hp w w1 [.blk b (.cells #[.slice a n c, .int .i64 (lp : Nat)] 83 (0, 0))] := (Hp.start w).new h1
  repeat (first | refine zA ?_ | refine zB ?_ | refine zC rfl rfl rfl ?_ | refine zD ?_ | refine zE ?_ | refine zF ?_ | refine zG rfl ?_ | refine zH rfl ?_ | refine zI rfl rfl rfl ?_ | refine zJ rfl rfl ?_ | refine zK ?_ | refine zL ?_ | refine zM rfl ?_ | refine zN ?_)
  refine WL.known (d := 6) (congrArg (fun z => some (Value.int .i64 z)) step) ?_
  refine WL.loadB rfl rfl rfl rfl rfl (hp1.obj 0 rfl) (j := 0) rfl ?_
  repeat (first | refine zA ?_ | refine zB ?_ | refine zC rfl rfl rfl ?_ | refine zD ?_ | refine zE ?_ | refine zF ?_ | refine zG rfl ?_ | refine zH rfl ?_ | refine zI rfl rfl rfl ?_ | refine zJ rfl rfl ?_ | refine zK ?_ | refine zL ?_ | refine zM rfl ?_ | refine zN ?_)
  refine WC.cond rfl (fun h2 => ?_) (fun h2 => ?_)
  · have h2 : i + 1 < n := by have := of_decide_eq_true h2; omega
    repeat (first | refine zA ?_ | refine zB ?_ | refine zC rfl rfl rfl ?_ | refine zD ?_ | refine zE ?_ | refine zF ?_ | refine zG rfl ?_ | refine zH rfl ?_ | refine zI rfl rfl rfl ?_ | refine zJ rfl rfl ?_ | refine zK ?_ | refine zL ?_ | refine zM rfl ?_ | refine zN ?_)
    refine Res.one rfl rfl rfl ⟨?_, hp1.nil'⟩
    unfold aft
    rw [if_pos h2, step]
  · have h2 : ¬ i + 1 < n := by have := of_decide_eq_false h2; omega
    repeat (first | refine zA ?_ | refine zB ?_ | refine zC rfl rfl rfl ?_ | refine zD ?_ | refine zE ?_ | refine zF ?_ | refine zG rfl ?_ | refine zH rfl ?_ | refine zI rfl rfl rfl ?_ | refine zJ rfl rfl ?_ | refine zK ?_ | refine zL ?_ | refine zM rfl ?_ | refine zN ?_)
    refine WL.loadB rfl rfl rfl rfl rfl (hp1.obj 0 rfl) (j := 1) rfl ?_
    repeat (first | refine zA ?_ | refine zB ?_ | refine zC rfl rfl rfl ?_ | refine zD ?_ | refine zE ?_ | refine zF ?_ | refine zG rfl ?_ | refine zH rfl ?_ | refine zI rfl rfl rfl ?_ | refine zJ rfl rfl ?_ | refine zK ?_ | refine zL ?_ | refine zM rfl ?_ | refine zN ?_)
    refine Res.one rfl rfl rfl ⟨?_, hp1.nil'⟩
    unfold aft
    rw [if_neg h2]
theorem aft_lt {n lp i : Nat} (hl : lp < n) : aft n lp i < n := by unfold aft; split <;> omega
theorem fill_set {α : Type} (F : Nat → α) (y : α) (n i : Nat) (h : i < n) : ((List.range i).map F ++ List.replicate (n - i) y).set i (F i) = (List.range (i + 1)).map F ++ List.replicate (n - (i + 1)) y := by
  rw [show n - i = (n - (i + 1)) + 1 from by omega, List.replicate_succ, List.set_append_right _ _ (by simp), List.range_succ, List.map_append]
  simp
theorem fill_len {α : Type} (F : Nat → α) (y : α) (n i : Nat) (h : i ≤ n) : ((List.range i).map F ++ List.replicate (n - i) y).length = n := by
  rw [List.length_append, List.length_map, List.length_range, List.length_replicate]; omega
def itM (last : Bool) (F : Nat → Bool → Bool) (n lp : Nat) : Nat → List Bool
  | 0 => List.replicate n last
  | p + 1 => passM F n lp n (itM last F n lp p)
theorem itM_len (last : Bool) (F : Nat → Bool → Bool) (n lp : Nat) : ∀ p, (itM last F n lp p).length = n := by
  intro p
  cases p with
  | zero => exact List.length_replicate
  | succ p => rw [itM, passM_len, itM_len last F n lp p]
abbrev Lx (b : Nat) (a : Option Addr) (n c lp : Nat) : Ent := .blk b (.cells #[.slice a n c, .int .i64 (lp : Nat)] 83 (0, 0))
theorem repeat_any (a : Option Addr) (n c lp : Nat) (hn : n ≤ 1000000) (hlp : lp < n) (last : Bool) {fc : FuncId} {fi ca : List Value} (hE : Ents Tryd.prog fc) (F : Nat → Bool → Bool) (w : World)
    (hF : ∀ (i : Nat) (x : Bool) (w' : World), i < n → Hp w w' [] → Ret Tryd.prog fc (fi ++ [.int .i64 (i : Nat), .bool x] ++ ca) w' fun v w'' => v = .bool (F i x) ∧ w'' = w') :
    Ret Tryd.prog 78 [lsV a n c lp, .bool last, .func (.func fc) fi.toArray ca.toArray] w fun v w' => ∃ b, v = .slice (some ⟨b, 0, none⟩) n n ∧ Hp w w' [Lb b (repM last F n lp)] := by
  refine enter Tryd.func78 rfl rfl ⟨rfl, rfl⟩ rfl ?_
  repeat (first | refine zA ?_ | refine zB ?_ | refine zC rfl rfl rfl ?_ | refine zD ?_ | refine zE ?_ | refine zF ?_ | refine zG rfl ?_ | refine zH rfl ?_ | refine zI rfl rfl rfl ?_ | refine zJ rfl rfl ?_ | refine zK ?_ | refine zL ?_ | refine zM rfl ?_ | refine zN ?_)
  refine WL.box rfl rfl rfl (fun bx w1 h1 => ?_)
  have hp1 : Hp w w1 [Lx bx a n c lp] := (Hp.start w).new h1
  repeat (first | refine zA ?_ | refine zB ?_ | refine zC rfl rfl rfl ?_ | refine zD ?_ | refine zE ?_ | refine zF ?_ | refine zG rfl ?_ | refine zH rfl ?_ | refine zI rfl rfl rfl ?_ | refine zJ rfl rfl ?_ | refine zK ?_ | refine zL ?_ | refine zM rfl ?_ | refine zN ?_)
  refine WL.loadB rfl rfl rfl rfl rfl (hp1.obj 0 rfl) (j := 0) rfl ?_
  repeat (first | refine zA ?_ | refine zB ?_ | refine zC rfl rfl rfl ?_ | refine zD ?_ | refine zE ?_ | refine zF ?_ | refine zG rfl ?_ | refine zH rfl ?_ | refine zI rfl rfl rfl ?_ | refine zJ rfl rfl ?_ | refine zK ?_ | refine zL ?_ | refine zM rfl ?_ | refine zN ?_)
  refine WL.make rfl rfl rfl rfl rfl rfl rfl rfl (by show 1 * n ≤ _; omega) (by unfold maxLen; omega) ?_
  intro ob w2 hob
  have hp2 : Hp w w2 [Lb ob (List.replicate n false), Lx bx a n c lp] := by
    have := hp1.new hob
    unfold Lb bl
    rw [List.map_replicate]
    exact this
  repeat (first | refine zA ?_ | refine zB ?_ | refine zC rfl rfl rfl ?_ | refine zD ?_ | refine zE ?_ | refine zF ?_ | refine zG rfl ?_ | refine zH rfl ?_ | refine zI rfl rfl rfl ?_ | refine zJ rfl rfl ?_ | refine zK ?_ | refine zL ?_ | refine zM rfl ?_ | refine zN ?_)
  refine WC.loop Nat (fun i => [(1, .bool last), (2, .func (.func fc) fi.toArray ca.toArray), (3, ptr bx), (7, .slice (some ⟨ob, 0, none⟩) n n), (15, .int .i64 (n : Nat)), (16, .int .i64 (i : Nat))])
    (fun i w' => i ≤ n ∧ Hp w w' [Lb ob ((List.range i).map (fun _ => last) ++ List.replicate (n - i) false), Lx bx a n c lp]) (fun i => n - i) 0 ⟨rfl, rfl, rfl, rfl, rfl, rfl, rfl⟩ ⟨Nat.zero_le _, hp2⟩ ?_
  clear hp2
  rintro i w3 ⟨hi, hp3⟩
  repeat (first | refine zA ?_ | refine zB ?_ | refine zC rfl rfl rfl ?_ | refine zD ?_ | refine zE ?_ | refine zF ?_ | refine zG rfl ?_ | refine zH rfl ?_ | refine zI rfl rfl rfl ?_ | refine zJ rfl rfl ?_ | refine zK ?_ | refine zL ?_ | refine zM rfl ?_ | refine zN ?_)
  refine WC.cond rfl (fun h2 => ?_) (fun h2 => ?_)
  · have hi : i < n := by have := of_decide_eq_true h2; omega
    have step := wrap_succ (i := i) (n := i + 1) (by omega) (by omega)
    repeat (first | refine zA ?_ | refine zB ?_ | refine zC rfl rfl rfl ?_ | refine zD ?_ | refine zE ?_ | refine zF ?_ | refine zG rfl ?_ | refine zH rfl ?_ | refine zI rfl rfl rfl ?_ | refine zJ rfl rfl ?_ | refine zK ?_ | refine zL ?_ | refine zM rfl ?_ | refine zN ?_)
    refine WL.ix1 rfl rfl rfl rfl rfl rfl rfl hi ?_
    refine WL.store rfl rfl rfl rfl rfl rfl (hp3.obj 0 rfl) (by rw [List.size_toArray, bl_len, fill_len _ _ _ _ (by omega)]; omega) (fun w4 h4 => ?_)
    rw [Nat.zero_add, bl_set, fill_set (fun _ => last) false n i hi] at h4
    have hp4 := hp3.set 0 rfl rfl h4
    repeat (first | refine zA ?_ | refine zB ?_ | refine zC rfl rfl rfl ?_ | refine zD ?_ | refine zE ?_ | refine zF ?_ | refine zG rfl ?_ | refine zH rfl ?_ | refine zI rfl rfl rfl ?_ | refine zJ rfl rfl ?_ | refine zK ?_ | refine zL ?_ | refine zM rfl ?_ | refine zN ?_)
    exact ⟨i + 1, (by omega), ⟨rfl, rfl, rfl, rfl, rfl, congrArg (fun z => some (Value.int .i64 z)) step, rfl⟩, hi, hp4⟩
  · have hi : i = n := by have := of_decide_eq_false h2; omega
    subst hi
    have hp3 : Hp w w3 [Lb ob (itM last F i lp 0), Lx bx a i c lp] := by
      have e1 : (List.range i).map (fun _ => last) ++ List.replicate (i - i) false = itM last F i lp 0 := by
        rw [Nat.sub_self, List.replicate_zero, List.append_nil, itM, List.map_const', List.length_range]
      rw [← e1]
      exact hp3
    repeat (first | refine zA ?_ | refine zB ?_ | refine zC rfl rfl rfl ?_ | refine zD ?_ | refine zE ?_ | refine zF ?_ | refine zG rfl ?_ | refine zH rfl ?_ | refine zI rfl rfl rfl ?_ | refine zJ rfl rfl ?_ | refine zK ?_ | refine zL ?_ | refine zM rfl ?_ | refine zN ?_)
    refine WC.loop Nat (fun p => [(2, .func (.func fc) fi.toArray ca.toArray), (3, ptr bx), (7, .slice (some ⟨ob, 0, none⟩) i i), (24, .int .i64 (p : Nat))])
      (fun p w' => p ≤ 2 ∧ Hp w w' [Lb ob (itM last F i lp p), Lx bx a i c lp]) (fun p => 2 - p) 0 ⟨rfl, rfl, rfl, rfl, rfl⟩ ⟨Nat.zero_le _, hp3⟩ ?_
    clear hp3 h2
    rintro p w3 ⟨hp2, hp3⟩
    repeat (first | refine zA ?_ | refine zB ?_ | refine zC rfl rfl rfl ?_ | refine zD ?_ | refine zE ?_ | refine zF ?_ | refine zG rfl ?_ | refine zH rfl ?_ | refine zI rfl rfl rfl ?_ | refine zJ rfl rfl ?_ | refine zK ?_ | refine zL ?_ | refine zM rfl ?_ | refine zN ?_)
    refine WC.cond rfl (fun h2 => ?_) (fun h2 => ?_)
    · have hp2 : p < 2 := by have := of_decide_eq_true h2; omega
      have step := wrap_succ (i := p) (n := p + 1) (by omega) (by omega)
      have e1 : IntKind.i64.wrap (((i : Nat) : Int) - 1) = ((i : Nat) : Int) - 1 := wrap_mid (by omega) (by omega)
      repeat (first | refine zA ?_ | refine zB ?_ | refine zC rfl rfl rfl ?_ | refine zD ?_ | refine zE ?_ | refine zF ?_ | refine zG rfl ?_ | refine zH rfl ?_ | refine zI rfl rfl rfl ?_ | refine zJ rfl rfl ?_ | refine zK ?_ | refine zL ?_ | refine zM rfl ?_ | refine zN ?_)
      refine WC.loop (Nat × List Bool) (fun (j, _) => [(2, .func (.func fc) fi.toArray ca.toArray), (3, ptr bx), (7, .slice (some ⟨ob, 0, none⟩) i i), (9, .int .i64 ((j : Nat) - 1)), (24, .int .i64 (p : Nat))])
        (fun (j, out) w' => j ≤ i ∧ out.length = i ∧ passM F i lp j out = itM last F i lp (p + 1) ∧ Hp w w' [Lb ob out, Lx bx a i c lp]) (fun (j, _) => j) (i, itM last F i lp p) ⟨rfl, rfl, rfl, congrArg (fun z => some (Value.int .i64 z)) e1, rfl, rfl⟩
        ⟨Nat.le_refl _, itM_len _ _ _ _ _, rfl, hp3⟩ ?_
      clear hp3 h2
      rintro ⟨j, out⟩ w3 ⟨hj, hol, hps, hp3⟩
      replace hp3 : Hp w w3 [Lb ob out, Lx bx a i c lp] := hp3
      replace hps : passM F i lp j out = itM last F i lp (p + 1) := hps
      replace hol : out.length = i := hol
      replace hj : j ≤ i := hj
      repeat (first | refine zA ?_ | refine zB ?_ | refine zC rfl rfl rfl ?_ | refine zD ?_ | refine zE ?_ | refine zF ?_ | refine zG rfl ?_ | refine zH rfl ?_ | refine zI rfl rfl rfl ?_ | refine zJ rfl rfl ?_ | refine zK ?_ | refine zL ?_ | refine zM rfl ?_ | refine zN ?_)
      refine WC.cond rfl (fun h2 => ?_) (fun h2 => ?_)
      · have hj0 : 0 < j := by have := of_decide_eq_true h2; omega
        obtain ⟨k, rfl⟩ : ∃ k, j = k + 1 := ⟨j - 1, by omega⟩
        have hk : k < i := hj
        have e2 : (((k + 1 : Nat) : Int) - 1) = ((k : Nat) : Int) := by omega
        have e3 : IntKind.i64.wrap (((k : Nat) : Int) - 1) = ((k : Nat) : Int) - 1 := wrap_mid (by omega) (by omega)
        refine WC.known (d := 9) (congrArg (fun z => some (Value.int .i64 z)) e2) ?_
        repeat (first | refine zA ?_ | refine zB ?_ | refine zC rfl rfl rfl ?_ | refine zD ?_ | refine zE ?_ | refine zF ?_ | refine zG rfl ?_ | refine zH rfl ?_ | refine zI rfl rfl rfl ?_ | refine zJ rfl rfl ?_ | refine zK ?_ | refine zL ?_ | refine zM rfl ?_ | refine zN ?_)
        refine WL.loadN rfl rfl rfl rfl rfl (cs := [.slice a i c, .int .i64 (lp : Nat)]) rfl (fun q v hq => cell_of_obj (hp3.obj 1 rfl) (by rw [Nat.zero_add]; simpa using hq)) ?_
        repeat (first | refine zA ?_ | refine zB ?_ | refine zC rfl rfl rfl ?_ | refine zD ?_ | refine zE ?_ | refine zF ?_ | refine zG rfl ?_ | refine zH rfl ?_ | refine zI rfl rfl rfl ?_ | refine zJ rfl rfl ?_ | refine zK ?_ | refine zL ?_ | refine zM rfl ?_ | refine zN ?_)
        refine WL.call rfl rfl rfl rfl rfl ent77 (after_any a i c lp k hn hk w3) ?_
        rintro v w4 ⟨rfl, hp4⟩
        have hp5 : Hp w w4 [Lb ob out, Lx bx a i c lp] := hp3.comb hp4
        have ha := aft_lt (i := k) hlp
        refine WL.ix1 rfl rfl rfl rfl rfl rfl rfl ha ?_
        refine WL.load rfl rfl rfl rfl rfl (lb_obj hp5 (by omega)) ?_
        refine WL.call rfl rfl rfl rfl rfl hE (hF k _ w4 hk hp5.nil') ?_
        rintro v w5 ⟨rfl, rfl⟩
        refine WL.ix1 rfl rfl rfl rfl rfl rfl rfl hk ?_
        refine WL.store rfl rfl rfl rfl rfl rfl (hp5.obj 0 rfl) (by rw [List.size_toArray, bl_len]; omega) (fun w6 h6 => ?_)
        rw [Nat.zero_add, bl_set] at h6
        have hp6 := hp5.set 0 rfl rfl h6
        repeat (first | refine zA ?_ | refine zB ?_ | refine zC rfl rfl rfl ?_ | refine zD ?_ | refine zE ?_ | refine zF ?_ | refine zG rfl ?_ | refine zH rfl ?_ | refine zI rfl rfl rfl ?_ | refine zJ rfl rfl ?_ | refine zK ?_ | refine zL ?_ | refine zM rfl ?_ | refine zN ?_)
        exact ⟨(k, _), (by show k < k + 1; omega), ⟨rfl, rfl, rfl, congrArg (fun z => some (Value.int .i64 z)) e3, rfl, rfl⟩, (by omega), (by rw [List.length_set]; exact hol), (by rw [← hps]; rfl), hp6⟩
      · have hj0 : j = 0 := by have := of_decide_eq_false h2; omega
        subst hj0
        have hps : out = itM last F i lp (p + 1) := hps
        rw [hps] at hp3
        repeat (first | refine zA ?_ | refine zB ?_ | refine zC rfl rfl rfl ?_ | refine zD ?_ | refine zE ?_ | refine zF ?_ | refine zG rfl ?_ | refine zH rfl ?_ | refine zI rfl rfl rfl ?_ | refine zJ rfl rfl ?_ | refine zK ?_ | refine zL ?_ | refine zM rfl ?_ | refine zN ?_)
        exact ⟨p + 1, (by omega), ⟨rfl, rfl, rfl, congrArg (fun z => some (Value.int .i64 z)) step, rfl⟩, hp2, hp3⟩
    · have hp2 : p = 2 := by have := of_decide_eq_false h2; omega
      subst hp2
      repeat (first | refine zA ?_ | refine zB ?_ | refine zC rfl rfl rfl ?_ | refine zD ?_ | refine zE ?_ | refine zF ?_ | refine zG rfl ?_ | refine zH rfl ?_ | refine zI rfl rfl rfl ?_ | refine zJ rfl rfl ?_ | refine zK ?_ | refine zL ?_ | refine zM rfl ?_ | refine zN ?_)
      exact Res.one rfl rfl rfl ⟨ob, rfl, hp3.pick [0] (by decide)⟩
end Go.Proofs.YtpbbneclkhfgoaaDoor
end
section
/- ltl, tenth: the small functions of values. -/
set_option linter.unusedSectionVars false
namespace Go.W
section
variable {P : Program} [T : TT P] {n : Nat} {l0 : List Oper} {S : World → Prop} {N : Nor} {Z : Pan} {e : Env} {w : World} {fuel : Nat} {listed : Array Bool}
theorem WH.many (is : List Nat) (hr : Region.ready .any l0.toArray listed = is) (hne : is ≠ [])
    (h : ∀ i ∈ is, ∃ o, nth l0 i = some o ∧ WL P none n l0 (fun e' w' => S w' ∧ WH P n l0 S N Z fuel (listed.setIfInBounds i true) e' w') Z [o] e w) : WH P n l0 S N Z (fuel + 1) listed e w := by
  intro a ka
  refine ⟨fun h0 => absurd (hr.symm.trans h0) hne, fun j hj => ?_⟩
  rw [hr] at hj
  obtain ⟨o, ho, hw⟩ := h j hj
  exact WH.at_ j ho hw a ka
theorem WH.ixS {d : Nat} {t ty E : TypeId} {pos : String} {aft : Array Edge} {g : Option (Nat × Bool)} {ti : TI} {x ix : Operand} {b o len cap j : Nat} {k : IntKind} {z : Value} {s b2 : Nat} (i : Nat) (hs : Region.noSelect l0.toArray = true) (hi : nth l0 i = some ⟨some d, .indexAddr t x ix, ty, pos, aft, g⟩)
    (hB : takeB l0.toArray listed i = true) (hg : grd l0 e g = some true) (hd : Nat.blt d n = true) (ht : T.ti t = some ⟨.slice E, z, s, b2⟩) (hE : T.ti E = some ti)
    (hx : opv e x = some (.slice (some ⟨b, o, none⟩) len cap)) (hix : opv e ix = some (.int k (j : Nat))) (hj : j < len) (hS : S w)
    (h : WH P n l0 S N Z fuel (listed.setIfInBounds i true) ((d, .pointer (some ⟨b, o + j * ti.size, none⟩)) :: e) w) : WH P n l0 S N Z (fuel + 1) listed e w := by
  refine WH.take i hs hi hB hg hd (fun w _ => ?_) hS h
  have hu : P.underlying t = some (.slice E) := (T.ok t _ ht).k
  intro ρ hρ d' pos' aft' g'
  have hsz := (T.ok E ti hE).sizeOf w
  have c1 : (0 : Int) ≤ (j : Int) ∧ (j : Int) < (len : Int) := ⟨by omega, by omega⟩
  simp only [execOp, hρ _ _ hx, hρ _ _ hix, Instr.indexAt, asIntOf, Sem.run_bind, Sem.run_pure, Result.andThen_ok, run_underlying hu]
  rw [if_pos c1]
  simp [hsz, Addr.add_lit]
theorem WH.ix1 {d : Nat} {t ty E : TypeId} {pos : String} {aft : Array Edge} {g : Option (Nat × Bool)} {ti : TI} {x ix : Operand} {b o len cap j : Nat} {k : IntKind} {z : Value} {s b2 : Nat} (i : Nat) (hs : Region.noSelect l0.toArray = true) (hi : nth l0 i = some ⟨some d, .indexAddr t x ix, ty, pos, aft, g⟩)
    (hB : takeB l0.toArray listed i = true) (hg : grd l0 e g = some true) (hd : Nat.blt d n = true) (ht : T.ti t = some ⟨.slice E, z, s, b2⟩) (hE : T.ti E = some ti) (h1 : ti.size = 1)
    (hx : opv e x = some (.slice (some ⟨b, o, none⟩) len cap)) (hix : opv e ix = some (.int k (j : Nat))) (hj : j < len) (hS : S w)
    (h : WH P n l0 S N Z fuel (listed.setIfInBounds i true) ((d, .pointer (some ⟨b, o + j, none⟩)) :: e) w) : WH P n l0 S N Z (fuel + 1) listed e w :=
  WH.ixS i hs hi hB hg hd ht hE hx hix hj hS (by rw [h1, Nat.mul_one]; exact h)
end
end Go.W
namespace Go.Proofs.YtpbbneclkhfgoaaDoor
open Go.W Go.Ltl Go.RowKit
set_option maxRecDepth 100000
attribute [local irreducible] WC WL WQ WS WH

/-- Where a list of bools is kept. -/
abbrev Va (b : Nat) (v : Value) : Ent := .blk b (.cells #[v] 90 (0, 0))
/-- A list of bools that is read. -/
structure Bo (w : World) (va ab n : Nat) (a : List Bool) : Prop where
  var : w.cell? ⟨va, 0, none⟩ = some (.slice (some ⟨ab, 0, none⟩) n n)
  at_ : ∀ i, i < n → w.cell? ⟨ab, 0 + i, none⟩ = some (.bool (a.getD i false))
theorem Bo.below {w w' : World} {va ab n : Nat} {a : List Bool} (h : Bo w va ab n a) (hb : Below w.heap.size w w') : Bo w' va ab n a :=
  ⟨cell_below hb h.var, fun i hi => cell_below hb (h.at_ i hi)⟩
theorem c1_any {w : World} {va ab n : Nat} {a : List Bool} (h : Bo w va ab n a) (i : Nat) (hi : i < n) (x : Bool) :
    Ret Tryd.prog 79 [.int .i64 (i : Nat), .bool x, ptr va] w fun v w' => v = .bool (a.getD i false && x) ∧ w' = w := by
  refine enter Tryd.func79 rfl rfl ⟨rfl, rfl⟩ rfl ?_
  repeat (first | refine zA ?_ | refine zB ?_ | refine zC rfl rfl rfl ?_ | refine zD ?_ | refine zE ?_ | refine zF ?_ | refine zG rfl ?_ | refine zH rfl ?_ | refine zI rfl rfl rfl ?_ | refine zJ rfl rfl ?_ | refine zK ?_ | refine zL ?_ | refine zM rfl ?_ | refine zN ?_)
  refine WL.load rfl rfl rfl rfl rfl h.var ?_
  repeat (first | refine zA ?_ | refine zB ?_ | refine zC rfl rfl rfl ?_ | refine zD ?_ | refine zE ?_ | refine zF ?_ | refine zG rfl ?_ | refine zH rfl ?_ | refine zI rfl rfl rfl ?_ | refine zJ rfl rfl ?_ | refine zK ?_ | refine zL ?_ | refine zM rfl ?_ | refine zN ?_)
  refine WL.ix1 rfl rfl rfl rfl rfl rfl rfl hi ?_
  refine WL.load rfl rfl rfl rfl rfl (h.at_ i hi) ?_
  cases hb : a.getD i false with
  | true => repeat (first | refine zA ?_ | refine zB ?_ | refine zC rfl rfl rfl ?_ | refine zD ?_ | refine zE ?_ | refine zF ?_ | refine zG rfl ?_ | refine zH rfl ?_ | refine zI rfl rfl rfl ?_ | refine zJ rfl rfl ?_ | refine zK ?_ | refine zL ?_ | refine zM rfl ?_ | refine zN ?_)
            exact Res.one rfl rfl rfl ⟨rfl, rfl⟩
  | false => repeat (first | refine zA ?_ | refine zB ?_ | refine zC rfl rfl rfl ?_ | refine zD ?_ | refine zE ?_ | refine zF ?_ | refine zG rfl ?_ | refine zH rfl ?_ | refine zI rfl rfl rfl ?_ | refine zJ rfl rfl ?_ | refine zK ?_ | refine zL ?_ | refine zM rfl ?_ | refine zN ?_)
             exact Res.one rfl rfl rfl ⟨rfl, rfl⟩
theorem c2_any {w : World} {va ab n : Nat} {a : List Bool} (h : Bo w va ab n a) (i : Nat) (hi : i < n) (x : Bool) :
    Ret Tryd.prog 80 [.int .i64 (i : Nat), .bool x, ptr va] w fun v w' => v = .bool (a.getD i false || x) ∧ w' = w := by
  refine enter Tryd.func80 rfl rfl ⟨rfl, rfl⟩ rfl ?_
  repeat (first | refine zA ?_ | refine zB ?_ | refine zC rfl rfl rfl ?_ | refine zD ?_ | refine zE ?_ | refine zF ?_ | refine zG rfl ?_ | refine zH rfl ?_ | refine zI rfl rfl rfl ?_ | refine zJ rfl rfl ?_ | refine zK ?_ | refine zL ?_ | refine zM rfl ?_ | refine zN ?_)
  refine WL.load rfl rfl rfl rfl rfl h.var ?_
  repeat (first | refine zA ?_ | refine zB ?_ | refine zC rfl rfl rfl ?_ | refine zD ?_ | refine zE ?_ | refine zF ?_ | refine zG rfl ?_ | refine zH rfl ?_ | refine zI rfl rfl rfl ?_ | refine zJ rfl rfl ?_ | refine zK ?_ | refine zL ?_ | refine zM rfl ?_ | refine zN ?_)
  refine WL.ix1 rfl rfl rfl rfl rfl rfl rfl hi ?_
  refine WL.load rfl rfl rfl rfl rfl (h.at_ i hi) ?_
  cases hb : a.getD i false with
  | true => repeat (first | refine zA ?_ | refine zB ?_ | refine zC rfl rfl rfl ?_ | refine zD ?_ | refine zE ?_ | refine zF ?_ | refine zG rfl ?_ | refine zH rfl ?_ | refine zI rfl rfl rfl ?_ | refine zJ rfl rfl ?_ | refine zK ?_ | refine zL ?_ | refine zM rfl ?_ | refine zN ?_)
            exact Res.one rfl rfl rfl ⟨rfl, rfl⟩
  | false => repeat (first | refine zA ?_ | refine zB ?_ | refine zC rfl rfl rfl ?_ | refine zD ?_ | refine zE ?_ | refine zF ?_ | refine zG rfl ?_ | refine zH rfl ?_ | refine zI rfl rfl rfl ?_ | refine zJ rfl rfl ?_ | refine zK ?_ | refine zL ?_ | refine zM rfl ?_ | refine zN ?_)
             exact Res.one rfl rfl rfl ⟨rfl, rfl⟩
theorem c3_any {w : World} {va ab vb bb n : Nat} {a b : List Bool} (h : Bo w va ab n a) (hB : Bo w vb bb n b) (i : Nat) (hi : i < n) (x : Bool) :
    Ret Tryd.prog 81 [.int .i64 (i : Nat), .bool x, ptr vb, ptr va] w fun v w' => v = .bool (b.getD i false || (a.getD i false && x)) ∧ w' = w := by
  refine enter Tryd.func81 rfl rfl ⟨rfl, rfl⟩ rfl ?_
  repeat (first | refine zA ?_ | refine zB ?_ | refine zC rfl rfl rfl ?_ | refine zD ?_ | refine zE ?_ | refine zF ?_ | refine zG rfl ?_ | refine zH rfl ?_ | refine zI rfl rfl rfl ?_ | refine zJ rfl rfl ?_ | refine zK ?_ | refine zL ?_ | refine zM rfl ?_ | refine zN ?_)
  refine WL.load rfl rfl rfl rfl rfl hB.var ?_
  repeat (first | refine zA ?_ | refine zB ?_ | refine zC rfl rfl rfl ?_ | refine zD ?_ | refine zE ?_ | refine zF ?_ | refine zG rfl ?_ | refine zH rfl ?_ | refine zI rfl rfl rfl ?_ | refine zJ rfl rfl ?_ | refine zK ?_ | refine zL ?_ | refine zM rfl ?_ | refine zN ?_)
  refine WL.ix1 rfl rfl rfl rfl rfl rfl rfl hi ?_
  refine WL.load rfl rfl rfl rfl rfl (hB.at_ i hi) ?_
  cases hb : b.getD i false with
  | true => repeat (first | refine zA ?_ | refine zB ?_ | refine zC rfl rfl rfl ?_ | refine zD ?_ | refine zE ?_ | refine zF ?_ | refine zG rfl ?_ | refine zH rfl ?_ | refine zI rfl rfl rfl ?_ | refine zJ rfl rfl ?_ | refine zK ?_ | refine zL ?_ | refine zM rfl ?_ | refine zN ?_)
            exact Res.one rfl rfl rfl ⟨rfl, rfl⟩
  | false =>
    repeat (first | refine zA ?_ | refine zB ?_ | refine zC rfl rfl rfl ?_ | refine zD ?_ | refine zE ?_ | refine zF ?_ | refine zG rfl ?_ | refine zH rfl ?_ | refine zI rfl rfl rfl ?_ | refine zJ rfl rfl ?_ | refine zK ?_ | refine zL ?_ | refine zM rfl ?_ | refine zN ?_)
    refine WL.load rfl rfl rfl rfl rfl h.var ?_
    repeat (first | refine zA ?_ | refine zB ?_ | refine zC rfl rfl rfl ?_ | refine zD ?_ | refine zE ?_ | refine zF ?_ | refine zG rfl ?_ | refine zH rfl ?_ | refine zI rfl rfl rfl ?_ | refine zJ rfl rfl ?_ | refine zK ?_ | refine zL ?_ | refine zM rfl ?_ | refine zN ?_)
    refine WL.ix1 rfl rfl rfl rfl rfl rfl rfl hi ?_
    refine WL.load rfl rfl rfl rfl rfl (h.at_ i hi) ?_
    cases ha : a.getD i false with
    | true => repeat (first | refine zA ?_ | refine zB ?_ | refine zC rfl rfl rfl ?_ | refine zD ?_ | refine zE ?_ | refine zF ?_ | refine zG rfl ?_ | refine zH rfl ?_ | refine zI rfl rfl rfl ?_ | refine zJ rfl rfl ?_ | refine zK ?_ | refine zL ?_ | refine zM rfl ?_ | refine zN ?_)
              exact Res.one rfl rfl rfl ⟨rfl, rfl⟩
    | false => repeat (first | refine zA ?_ | refine zB ?_ | refine zC rfl rfl rfl ?_ | refine zD ?_ | refine zE ?_ | refine zF ?_ | refine zG rfl ?_ | refine zH rfl ?_ | refine zI rfl rfl rfl ?_ | refine zJ rfl rfl ?_ | refine zK ?_ | refine zL ?_ | refine zM rfl ?_ | refine zN ?_)
               exact Res.one rfl rfl rfl ⟨rfl, rfl⟩
theorem c4_any {w : World} {va ab vb bb n : Nat} {a b : List Bool} (h : Bo w va ab n a) (hB : Bo w vb bb n b) (i : Nat) (hi : i < n) (x : Bool) :
    Ret Tryd.prog 82 [.int .i64 (i : Nat), .bool x, ptr vb, ptr va] w fun v w' => v = .bool (b.getD i false && (a.getD i false || x)) ∧ w' = w := by
  refine enter Tryd.func82 rfl rfl ⟨rfl, rfl⟩ rfl ?_
  repeat (first | refine zA ?_ | refine zB ?_ | refine zC rfl rfl rfl ?_ | refine zD ?_ | refine zE ?_ | refine zF ?_ | refine zG rfl ?_ | refine zH rfl ?_ | refine zI rfl rfl rfl ?_ | refine zJ rfl rfl ?_ | refine zK ?_ | refine zL ?_ | refine zM rfl ?_ | refine zN ?_)
  refine WL.load rfl rfl rfl rfl rfl hB.var ?_
  repeat (first | refine zA ?_ | refine zB ?_ | refine zC rfl rfl rfl ?_ | refine zD ?_ | refine zE ?_ | refine zF ?_ | refine zG rfl ?_ | refine zH rfl ?_ | refine zI rfl rfl rfl ?_ | refine zJ rfl rfl ?_ | refine zK ?_ | refine zL ?_ | refine zM rfl ?_ | refine zN ?_)
  refine WL.ix1 rfl rfl rfl rfl rfl rfl rfl hi ?_
  refine WL.load rfl rfl rfl rfl rfl (hB.at_ i hi) ?_
  cases hb : b.getD i false with
  | false => repeat (first | refine zA ?_ | refine zB ?_ | refine zC rfl rfl rfl ?_ | refine zD ?_ | refine zE ?_ | refine zF ?_ | refine zG rfl ?_ | refine zH rfl ?_ | refine zI rfl rfl rfl ?_ | refine zJ rfl rfl ?_ | refine zK ?_ | refine zL ?_ | refine zM rfl ?_ | refine zN ?_)
             exact Res.one rfl rfl rfl ⟨rfl, rfl⟩
  | true =>
    repeat (first | refine zA ?_ | refine zB ?_ | refine zC rfl rfl rfl ?_ | refine zD ?_ | refine zE ?_ | refine zF ?_ | refine zG rfl ?_ | refine zH rfl ?_ | refine zI rfl rfl rfl ?_ | refine zJ rfl rfl ?_ | refine zK ?_ | refine zL ?_ | refine zM rfl ?_ | refine zN ?_)
    refine WL.load rfl rfl rfl rfl rfl h.var ?_
    repeat (first | refine zA ?_ | refine zB ?_ | refine zC rfl rfl rfl ?_ | refine zD ?_ | refine zE ?_ | refine zF ?_ | refine zG rfl ?_ | refine zH rfl ?_ | refine zI rfl rfl rfl ?_ | refine zJ rfl rfl ?_ | refine zK ?_ | refine zL ?_ | refine zM rfl ?_ | refine zN ?_)
    refine WL.ix1 rfl rfl rfl rfl rfl rfl rfl hi ?_
    refine WL.load rfl rfl rfl rfl rfl (h.at_ i hi) ?_
    cases ha : a.getD i false with
    | true => repeat (first | refine zA ?_ | refine zB ?_ | refine zC rfl rfl rfl ?_ | refine zD ?_ | refine zE ?_ | refine zF ?_ | refine zG rfl ?_ | refine zH rfl ?_ | refine zI rfl rfl rfl ?_ | refine zJ rfl rfl ?_ | refine zK ?_ | refine zL ?_ | refine zM rfl ?_ | refine zN ?_)
              exact Res.one rfl rfl rfl ⟨rfl, rfl⟩
    | false => repeat (first | refine zA ?_ | refine zB ?_ | refine zC rfl rfl rfl ?_ | refine zD ?_ | refine zE ?_ | refine zF ?_ | refine zG rfl ?_ | refine zH rfl ?_ | refine zI rfl rfl rfl ?_ | refine zJ rfl rfl ?_ | refine zK ?_ | refine zL ?_ | refine zM rfl ?_ | refine zN ?_)
               exact Res.one rfl rfl rfl ⟨rfl, rfl⟩
end Go.Proofs.YtpbbneclkhfgoaaDoor
end
section
/- ltl, eleventh: the values of a formula. -/
namespace Go.Proofs.YtpbbneclkhfgoaaDoor
open Go.W Go.Ltl Go.RowKit
set_option maxRecDepth 100000
attribute [local irreducible] WC WL WQ WS WH

/-- What values gives. -/
def VaQ (n : Nat) (out : List Bool) (w : World) (v : Value) (w' : World) : Prop := ∃ b, v = .slice (some ⟨b, 0, none⟩) n n ∧ Hp w w' [Lb b out]
section
variable (a : Option Addr) (c : Nat) (ms : List Int) (lp : Nat) (hn : ms.length ≤ 1000000) (hlp : lp < ms.length) (hm : ∀ m ∈ ms, 0 ≤ m ∧ m ≤ 15)
include hn hm in
theorem values_at (s : Str) (hs : s ∈ atomsL) (w : World) (hsl : Sl w a (zs ms)) : Ret Tryd.prog 49 [lsV a ms.length c lp, fmV (.at_ s)] w (VaQ ms.length ((List.range ms.length).map fun i => holdsM s (ms.getD i 0)) w) := by
  refine enter Tryd.func49 rfl rfl ⟨rfl, rfl⟩ rfl ?_
  repeat (first | refine zA ?_ | refine zB ?_ | refine zC rfl rfl rfl ?_ | refine zD ?_ | refine zE ?_ | refine zF ?_ | refine zG rfl ?_ | refine zH rfl ?_ | refine zI rfl rfl rfl ?_ | refine zJ rfl rfl ?_ | refine zK ?_ | refine zL ?_ | refine zM rfl ?_ | refine zN ?_)
  refine WL.box rfl rfl rfl (fun bx w1 h1 => ?_)
  have hp1 : Hp w w1 [Lx bx a ms.length c lp] := (Hp.start w).new h1
  repeat (first | refine zA ?_ | refine zB ?_ | refine zC rfl rfl rfl ?_ | refine zD ?_ | refine zE ?_ | refine zF ?_ | refine zG rfl ?_ | refine zH rfl ?_ | refine zI rfl rfl rfl ?_ | refine zJ rfl rfl ?_ | refine zK ?_ | refine zL ?_ | refine zM rfl ?_ | refine zN ?_)
  refine WL.loadB rfl rfl rfl rfl rfl (hp1.obj 0 rfl) (j := 0) rfl ?_
  repeat (first | refine zA ?_ | refine zB ?_ | refine zC rfl rfl rfl ?_ | refine zD ?_ | refine zE ?_ | refine zF ?_ | refine zG rfl ?_ | refine zH rfl ?_ | refine zI rfl rfl rfl ?_ | refine zJ rfl rfl ?_ | refine zK ?_ | refine zL ?_ | refine zM rfl ?_ | refine zN ?_)
  refine WL.make rfl rfl rfl rfl rfl rfl rfl rfl (by show 1 * ms.length ≤ _; omega) (by unfold maxLen; omega) ?_
  intro ob w2 hob
  have hp2 : Hp w w2 [Lb ob (List.replicate ms.length false), Lx bx a ms.length c lp] := by
    have := hp1.new hob
    unfold Lb bl
    rw [List.map_replicate]
    exact this
  repeat (first | refine zA ?_ | refine zB ?_ | refine zC rfl rfl rfl ?_ | refine zD ?_ | refine zE ?_ | refine zF ?_ | refine zG rfl ?_ | refine zH rfl ?_ | refine zI rfl rfl rfl ?_ | refine zJ rfl rfl ?_ | refine zK ?_ | refine zL ?_ | refine zM rfl ?_ | refine zN ?_)
  refine WL.val rfl rfl rfl (yAsT rfl rfl rfl) ?_
  repeat (first | refine zA ?_ | refine zB ?_ | refine zC rfl rfl rfl ?_ | refine zD ?_ | refine zE ?_ | refine zF ?_ | refine zG rfl ?_ | refine zH rfl ?_ | refine zI rfl rfl rfl ?_ | refine zJ rfl rfl ?_ | refine zK ?_ | refine zL ?_ | refine zM rfl ?_ | refine zN ?_)
  refine WL.alloc rfl rfl rfl (fun b2 w3 h3 => ?_)
  have hp3 := hp2.new h3
  refine WL.storeN rfl rfl rfl rfl rfl (by simp [Value.oneCell', st]) (hp3.obj 0 rfl) (Nat.le_refl _) rfl (fun w4 h4 => ?_)
  have hp4 : Hp w w4 [Lb ob (List.replicate ms.length false), .blk b2 (.cells #[st s] 129 (0, 0)), Lx bx a ms.length c lp] := (hp3.set 0 rfl rfl h4).pick [1, 0, 2] (by decide)
  repeat (first | refine zA ?_ | refine zB ?_ | refine zC rfl rfl rfl ?_ | refine zD ?_ | refine zE ?_ | refine zF ?_ | refine zG rfl ?_ | refine zH rfl ?_ | refine zI rfl rfl rfl ?_ | refine zJ rfl rfl ?_ | refine zK ?_ | refine zL ?_ | refine zM rfl ?_ | refine zN ?_)
  refine WL.loadB rfl rfl rfl rfl rfl (hp4.obj 2 rfl) (j := 0) rfl ?_
  repeat (first | refine zA ?_ | refine zB ?_ | refine zC rfl rfl rfl ?_ | refine zD ?_ | refine zE ?_ | refine zF ?_ | refine zG rfl ?_ | refine zH rfl ?_ | refine zI rfl rfl rfl ?_ | refine zJ rfl rfl ?_ | refine zK ?_ | refine zL ?_ | refine zM rfl ?_ | refine zN ?_)
  refine WC.loop Nat (fun i => [(5, .slice (some ⟨ob, 0, none⟩) ms.length ms.length), (6, ptr b2), (27, .slice a ms.length c), (28, .int .i64 (ms.length : Nat)), (29, .int .i64 (i : Nat))])
    (fun i w' => i ≤ ms.length ∧ Hp w w' [Lb ob ((List.range i).map (fun i => holdsM s (ms.getD i 0)) ++ List.replicate (ms.length - i) false), .blk b2 (.cells #[st s] 129 (0, 0)), Lx bx a ms.length c lp]) (fun i => ms.length - i) 0 ⟨rfl, rfl, rfl, rfl, rfl, rfl⟩ ⟨Nat.zero_le _, hp4⟩ ?_
  clear hp4
  rintro i w5 ⟨hi, hp5⟩
  repeat (first | refine zA ?_ | refine zB ?_ | refine zC rfl rfl rfl ?_ | refine zD ?_ | refine zE ?_ | refine zF ?_ | refine zG rfl ?_ | refine zH rfl ?_ | refine zI rfl rfl rfl ?_ | refine zJ rfl rfl ?_ | refine zK ?_ | refine zL ?_ | refine zM rfl ?_ | refine zN ?_)
  refine WC.cond rfl (fun h2 => ?_) (fun h2 => ?_)
  · have hi : i < ms.length := by have := of_decide_eq_true h2; omega
    have step := wrap_succ (i := i) (n := i + 1) (by omega) (by omega)
    have hg : ms.getD i 0 = ms[i] := by simp [hi]
    obtain ⟨hm0, hm1⟩ := hm ms[i] (List.getElem_mem hi)
    repeat (first | refine zA ?_ | refine zB ?_ | refine zC rfl rfl rfl ?_ | refine zD ?_ | refine zE ?_ | refine zF ?_ | refine zG rfl ?_ | refine zH rfl ?_ | refine zI rfl rfl rfl ?_ | refine zJ rfl rfl ?_ | refine zK ?_ | refine zL ?_ | refine zM rfl ?_ | refine zN ?_)
    refine WL.ixload rfl (fun _ => rfl) rfl rfl rfl rfl rfl rfl rfl hi rfl rfl (hsl.hp hp5) (zs_at hi) ?_
    intro q
    repeat (first | refine zA ?_ | refine zB ?_ | refine zC rfl rfl rfl ?_ | refine zD ?_ | refine zE ?_ | refine zF ?_ | refine zG rfl ?_ | refine zH rfl ?_ | refine zI rfl rfl rfl ?_ | refine zJ rfl rfl ?_ | refine zK ?_ | refine zL ?_ | refine zM rfl ?_ | refine zN ?_)
    refine WL.loadB rfl rfl rfl rfl rfl (hp5.obj 1 rfl) (j := 0) rfl ?_
    repeat (first | refine zA ?_ | refine zB ?_ | refine zC rfl rfl rfl ?_ | refine zD ?_ | refine zE ?_ | refine zF ?_ | refine zG rfl ?_ | refine zH rfl ?_ | refine zI rfl rfl rfl ?_ | refine zJ rfl rfl ?_ | refine zK ?_ | refine zL ?_ | refine zM rfl ?_ | refine zN ?_)
    refine WL.call rfl rfl rfl rfl rfl ent76 (holds_any s hs ms[i] hm0 hm1 w5) ?_
    rintro v w6 ⟨rfl, rfl⟩
    refine WL.ix1 rfl rfl rfl rfl rfl rfl rfl hi ?_
    refine WL.store rfl rfl rfl rfl rfl rfl (hp5.obj 0 rfl) (by rw [List.size_toArray, bl_len, fill_len _ _ _ _ (by omega)]; omega) (fun w7 h7 => ?_)
    rw [Nat.zero_add, bl_set, ← hg, fill_set (fun i => holdsM s (ms.getD i 0)) false ms.length i hi] at h7
    have hp7 := hp5.set 0 rfl rfl h7
    repeat (first | refine zA ?_ | refine zB ?_ | refine zC rfl rfl rfl ?_ | refine zD ?_ | refine zE ?_ | refine zF ?_ | refine zG rfl ?_ | refine zH rfl ?_ | refine zI rfl rfl rfl ?_ | refine zJ rfl rfl ?_ | refine zK ?_ | refine zL ?_ | refine zM rfl ?_ | refine zN ?_)
    exact ⟨i + 1, (by omega), ⟨rfl, rfl, rfl, rfl, congrArg (fun z => some (Value.int .i64 z)) step, rfl⟩, hi, hp7⟩
  · have hi : i = ms.length := by have := of_decide_eq_false h2; omega
    subst hi
    repeat (first | refine zA ?_ | refine zB ?_ | refine zC rfl rfl rfl ?_ | refine zD ?_ | refine zE ?_ | refine zF ?_ | refine zG rfl ?_ | refine zH rfl ?_ | refine zI rfl rfl rfl ?_ | refine zJ rfl rfl ?_ | refine zK ?_ | refine zL ?_ | refine zM rfl ?_ | refine zN ?_)
    refine Res.one rfl rfl rfl ⟨ob, rfl, ?_⟩
    rw [Nat.sub_self, List.replicate_zero, List.append_nil] at hp5
    exact hp5.pick [0] (by decide)
include hn hlp in
theorem values_on (s : Str) (f : Fm) (hs : s ∈ onesL) (w : World) (hsl : Sl w a (zs ms)) (A : List Bool) (hAl : A.length = ms.length) (ih : ∀ w, Sl w a (zs ms) → Ret Tryd.prog 49 [lsV a ms.length c lp, fmV f] w (VaQ ms.length A w)) :
    Ret Tryd.prog 49 [lsV a ms.length c lp, fmV (.on_ s f)] w (VaQ ms.length (onM s A ms.length lp) w) := by
  refine enter Tryd.func49 rfl rfl ⟨rfl, rfl⟩ rfl ?_
  repeat (first | refine zA ?_ | refine zB ?_ | refine zC rfl rfl rfl ?_ | refine zD ?_ | refine zE ?_ | refine zF ?_ | refine zG rfl ?_ | refine zH rfl ?_ | refine zI rfl rfl rfl ?_ | refine zJ rfl rfl ?_ | refine zK ?_ | refine zL ?_ | refine zM rfl ?_ | refine zN ?_)
  refine WL.box rfl rfl rfl (fun bx w1 h1 => ?_)
  have hp1 : Hp w w1 [Lx bx a ms.length c lp] := (Hp.start w).new h1
  repeat (first | refine zA ?_ | refine zB ?_ | refine zC rfl rfl rfl ?_ | refine zD ?_ | refine zE ?_ | refine zF ?_ | refine zG rfl ?_ | refine zH rfl ?_ | refine zI rfl rfl rfl ?_ | refine zJ rfl rfl ?_ | refine zK ?_ | refine zL ?_ | refine zM rfl ?_ | refine zN ?_)
  refine WL.loadB rfl rfl rfl rfl rfl (hp1.obj 0 rfl) (j := 0) rfl ?_
  repeat (first | refine zA ?_ | refine zB ?_ | refine zC rfl rfl rfl ?_ | refine zD ?_ | refine zE ?_ | refine zF ?_ | refine zG rfl ?_ | refine zH rfl ?_ | refine zI rfl rfl rfl ?_ | refine zJ rfl rfl ?_ | refine zK ?_ | refine zL ?_ | refine zM rfl ?_ | refine zN ?_)
  refine WL.make rfl rfl rfl rfl rfl rfl rfl rfl (by show 1 * ms.length ≤ _; omega) (by unfold maxLen; omega) ?_
  intro ob w2 hob
  have hp2 : Hp w w2 [Lb ob (List.replicate ms.length false), Lx bx a ms.length c lp] := by
    have := hp1.new hob
    unfold Lb bl
    rw [List.map_replicate]
    exact this
  repeat (first | refine zA ?_ | refine zB ?_ | refine zC rfl rfl rfl ?_ | refine zD ?_ | refine zE ?_ | refine zF ?_ | refine zG rfl ?_ | refine zH rfl ?_ | refine zI rfl rfl rfl ?_ | refine zJ rfl rfl ?_ | refine zK ?_ | refine zL ?_ | refine zM rfl ?_ | refine zN ?_)
  refine WL.val rfl rfl rfl (yAsT rfl rfl rfl) ?_
  repeat (first | refine zA ?_ | refine zB ?_ | refine zC rfl rfl rfl ?_ | refine zD ?_ | refine zE ?_ | refine zF ?_ | refine zG rfl ?_ | refine zH rfl ?_ | refine zI rfl rfl rfl ?_ | refine zJ rfl rfl ?_ | refine zK ?_ | refine zL ?_ | refine zM rfl ?_ | refine zN ?_)
  refine WL.val rfl rfl rfl (yAsT rfl rfl rfl) ?_
  repeat (first | refine zA ?_ | refine zB ?_ | refine zC rfl rfl rfl ?_ | refine zD ?_ | refine zE ?_ | refine zF ?_ | refine zG rfl ?_ | refine zH rfl ?_ | refine zI rfl rfl rfl ?_ | refine zJ rfl rfl ?_ | refine zK ?_ | refine zL ?_ | refine zM rfl ?_ | refine zN ?_)
  refine WL.alloc rfl rfl rfl (fun b2 w3 h3 => ?_)
  have hp3 := hp2.new h3
  refine WL.storeN rfl rfl rfl rfl rfl (by simp [Value.oneCell', st]; exact fm_one f) (hp3.obj 0 rfl) (Nat.le_refl _) rfl (fun w4 h4 => ?_)
  have hp4 : Hp w w4 [Lb ob (List.replicate ms.length false), Q1b b2 s f, Lx bx a ms.length c lp] := (hp3.set 0 rfl rfl h4).pick [1, 0, 2] (by decide)
  repeat (first | refine zA ?_ | refine zB ?_ | refine zC rfl rfl rfl ?_ | refine zD ?_ | refine zE ?_ | refine zF ?_ | refine zG rfl ?_ | refine zH rfl ?_ | refine zI rfl rfl rfl ?_ | refine zJ rfl rfl ?_ | refine zK ?_ | refine zL ?_ | refine zM rfl ?_ | refine zN ?_)
  refine WL.loadN rfl rfl rfl rfl rfl (cs := [.slice a ms.length c, .int .i64 (lp : Nat)]) rfl (fun q v hq => cell_of_obj (hp4.obj 2 rfl) (by rw [Nat.zero_add]; simpa using hq)) ?_
  repeat (first | refine zA ?_ | refine zB ?_ | refine zC rfl rfl rfl ?_ | refine zD ?_ | refine zE ?_ | refine zF ?_ | refine zG rfl ?_ | refine zH rfl ?_ | refine zI rfl rfl rfl ?_ | refine zJ rfl rfl ?_ | refine zK ?_ | refine zL ?_ | refine zM rfl ?_ | refine zN ?_)
  refine WL.loadB rfl rfl rfl rfl rfl (hp4.obj 1 rfl) (j := 1) rfl ?_
  refine WL.call rfl rfl rfl rfl rfl ent49 (ih w4 (hsl.hp hp4)) ?_
  rintro v w5 ⟨ab, rfl, hp5⟩
  have hp6 := hp4.comb hp5
  refine WL.alloc rfl rfl rfl (fun va w7 h7 => ?_)
  have hp7 := hp6.new h7
  refine WL.store rfl rfl rfl rfl rfl rfl (hp7.obj 0 rfl) (Nat.lt_succ_self 0) (fun w8 h8 => ?_)
  have hp8 : Hp w w8 [Lb ob (List.replicate ms.length false), Va va (.slice (some ⟨ab, 0, none⟩) ms.length ms.length), Lb ab A, Q1b b2 s f, Lx bx a ms.length c lp] := (hp7.set 0 rfl rfl h8).pick [2, 0, 1, 3, 4] (by decide)
  repeat (first | refine zA ?_ | refine zB ?_ | refine zC rfl rfl rfl ?_ | refine zD ?_ | refine zE ?_ | refine zF ?_ | refine zG rfl ?_ | refine zH rfl ?_ | refine zI rfl rfl rfl ?_ | refine zJ rfl rfl ?_ | refine zK ?_ | refine zL ?_ | refine zM rfl ?_ | refine zN ?_)
  refine WL.loadB rfl rfl rfl rfl rfl (hp8.obj 3 rfl) (j := 0) rfl ?_
  repeat (first | refine zA ?_ | refine zB ?_ | refine zC rfl rfl rfl ?_ | refine zD ?_ | refine zE ?_ | refine zF ?_ | refine zG rfl ?_ | refine zH rfl ?_ | refine zI rfl rfl rfl ?_ | refine zJ rfl rfl ?_ | refine zK ?_ | refine zL ?_ | refine zM rfl ?_ | refine zN ?_)
  have hs2 : s = wNot ∨ s = wNext ∨ s = wAlways ∨ s = wFinally := by simpa [onesL] using hs
  rcases hs2 with rfl | rfl | rfl | rfl
  · refine WL.sCmp (a := wNot) (b := wNot) rfl rfl rfl rfl rfl ?_
    repeat (first | refine zA ?_ | refine zB ?_ | refine zC rfl rfl rfl ?_ | refine zD ?_ | refine zE ?_ | refine zF ?_ | refine zG rfl ?_ | refine zH rfl ?_ | refine zI rfl rfl rfl ?_ | refine zJ rfl rfl ?_ | refine zK ?_ | refine zL ?_ | refine zM rfl ?_ | refine zN ?_)
    refine WC.loop Nat (fun i => [(2, ptr bx), (5, .slice (some ⟨ob, 0, none⟩) ms.length ms.length), (10, ptr va), (54, .int .i64 (ms.length : Nat)), (55, .int .i64 (i : Nat))])
      (fun i w' => i ≤ ms.length ∧ Hp w w' [Lb ob ((List.range i).map (fun i => !A.getD i false) ++ List.replicate (ms.length - i) false), Va va (.slice (some ⟨ab, 0, none⟩) ms.length ms.length), Lb ab A, Q1b b2 wNot f, Lx bx a ms.length c lp]) (fun i => ms.length - i) 0 ⟨rfl, rfl, rfl, rfl, rfl, rfl⟩ ⟨Nat.zero_le _, hp8⟩ ?_
    clear hp8
    rintro i w9 ⟨hi, hp9⟩
    repeat (first | refine zA ?_ | refine zB ?_ | refine zC rfl rfl rfl ?_ | refine zD ?_ | refine zE ?_ | refine zF ?_ | refine zG rfl ?_ | refine zH rfl ?_ | refine zI rfl rfl rfl ?_ | refine zJ rfl rfl ?_ | refine zK ?_ | refine zL ?_ | refine zM rfl ?_ | refine zN ?_)
    refine WC.cond rfl (fun h2 => ?_) (fun h2 => ?_)
    · have hi : i < ms.length := by have := of_decide_eq_true h2; omega
      have step := wrap_succ (i := i) (n := i + 1) (by omega) (by omega)
      repeat (first | refine zA ?_ | refine zB ?_ | refine zC rfl rfl rfl ?_ | refine zD ?_ | refine zE ?_ | refine zF ?_ | refine zG rfl ?_ | refine zH rfl ?_ | refine zI rfl rfl rfl ?_ | refine zJ rfl rfl ?_ | refine zK ?_ | refine zL ?_ | refine zM rfl ?_ | refine zN ?_)
      refine WL.loadB rfl rfl rfl rfl rfl (hp9.obj 1 rfl) (j := 0) rfl ?_
      repeat (first | refine zA ?_ | refine zB ?_ | refine zC rfl rfl rfl ?_ | refine zD ?_ | refine zE ?_ | refine zF ?_ | refine zG rfl ?_ | refine zH rfl ?_ | refine zI rfl rfl rfl ?_ | refine zJ rfl rfl ?_ | refine zK ?_ | refine zL ?_ | refine zM rfl ?_ | refine zN ?_)
      refine WL.ix1 rfl rfl rfl rfl rfl rfl rfl hi ?_
      refine WL.load rfl rfl rfl rfl rfl (lb_obj (hp9.pick [2] (by decide)) (by omega)) ?_
      repeat (first | refine zA ?_ | refine zB ?_ | refine zC rfl rfl rfl ?_ | refine zD ?_ | refine zE ?_ | refine zF ?_ | refine zG rfl ?_ | refine zH rfl ?_ | refine zI rfl rfl rfl ?_ | refine zJ rfl rfl ?_ | refine zK ?_ | refine zL ?_ | refine zM rfl ?_ | refine zN ?_)
      refine WL.ix1 rfl rfl rfl rfl rfl rfl rfl hi ?_
      refine WL.store rfl rfl rfl rfl rfl rfl (hp9.obj 0 rfl) (by rw [List.size_toArray, bl_len, fill_len _ _ _ _ (by omega)]; omega) (fun w10 h10 => ?_)
      rw [Nat.zero_add, bl_set, fill_set (fun i => !A.getD i false) false ms.length i hi] at h10
      have hp10 := hp9.set 0 rfl rfl h10
      repeat (first | refine zA ?_ | refine zB ?_ | refine zC rfl rfl rfl ?_ | refine zD ?_ | refine zE ?_ | refine zF ?_ | refine zG rfl ?_ | refine zH rfl ?_ | refine zI rfl rfl rfl ?_ | refine zJ rfl rfl ?_ | refine zK ?_ | refine zL ?_ | refine zM rfl ?_ | refine zN ?_)
      exact ⟨i + 1, (by omega), ⟨rfl, rfl, rfl, rfl, congrArg (fun z => some (Value.int .i64 z)) step, rfl⟩, hi, hp10⟩
    · have hi : i = ms.length := by have := of_decide_eq_false h2; omega
      subst hi
      repeat (first | refine zA ?_ | refine zB ?_ | refine zC rfl rfl rfl ?_ | refine zD ?_ | refine zE ?_ | refine zF ?_ | refine zG rfl ?_ | refine zH rfl ?_ | refine zI rfl rfl rfl ?_ | refine zJ rfl rfl ?_ | refine zK ?_ | refine zL ?_ | refine zM rfl ?_ | refine zN ?_)
      refine Res.one rfl rfl rfl ⟨ob, rfl, ?_⟩
      rw [Nat.sub_self, List.replicate_zero, List.append_nil] at hp9
      exact hp9.pick [0] (by decide)
  · refine WL.sCmp (a := wNext) (b := wNot) rfl rfl rfl rfl rfl ?_
    repeat (first | refine zA ?_ | refine zB ?_ | refine zC rfl rfl rfl ?_ | refine zD ?_ | refine zE ?_ | refine zF ?_ | refine zG rfl ?_ | refine zH rfl ?_ | refine zI rfl rfl rfl ?_ | refine zJ rfl rfl ?_ | refine zK ?_ | refine zL ?_ | refine zM rfl ?_ | refine zN ?_)
    refine WL.sCmp (a := wNext) (b := wNext) rfl rfl rfl rfl rfl ?_
    repeat (first | refine zA ?_ | refine zB ?_ | refine zC rfl rfl rfl ?_ | refine zD ?_ | refine zE ?_ | refine zF ?_ | refine zG rfl ?_ | refine zH rfl ?_ | refine zI rfl rfl rfl ?_ | refine zJ rfl rfl ?_ | refine zK ?_ | refine zL ?_ | refine zM rfl ?_ | refine zN ?_)
    refine WC.loop Nat (fun i => [(2, ptr bx), (5, .slice (some ⟨ob, 0, none⟩) ms.length ms.length), (10, ptr va), (70, .int .i64 (ms.length : Nat)), (71, .int .i64 (i : Nat))])
      (fun i w' => i ≤ ms.length ∧ Hp w w' [Lb ob ((List.range i).map (fun i => A.getD (aft ms.length lp i) false) ++ List.replicate (ms.length - i) false), Va va (.slice (some ⟨ab, 0, none⟩) ms.length ms.length), Lb ab A, Q1b b2 wNext f, Lx bx a ms.length c lp]) (fun i => ms.length - i) 0 ⟨rfl, rfl, rfl, rfl, rfl, rfl⟩ ⟨Nat.zero_le _, hp8⟩ ?_
    clear hp8
    rintro i w9 ⟨hi, hp9⟩
    repeat (first | refine zA ?_ | refine zB ?_ | refine zC rfl rfl rfl ?_ | refine zD ?_ | refine zE ?_ | refine zF ?_ | refine zG rfl ?_ | refine zH rfl ?_ | refine zI rfl rfl rfl ?_ | refine zJ rfl rfl ?_ | refine zK ?_ | refine zL ?_ | refine zM rfl ?_ | refine zN ?_)
    refine WC.cond rfl (fun h2 => ?_) (fun h2 => ?_)
    · have hi : i < ms.length := by have := of_decide_eq_true h2; omega
      have step := wrap_succ (i := i) (n := i + 1) (by omega) (by omega)
      have ha := aft_lt (i := i) hlp
      repeat (first | refine zA ?_ | refine zB ?_ | refine zC rfl rfl rfl ?_ | refine zD ?_ | refine zE ?_ | refine zF ?_ | refine zG rfl ?_ | refine zH rfl ?_ | refine zI rfl rfl rfl ?_ | refine zJ rfl rfl ?_ | refine zK ?_ | refine zL ?_ | refine zM rfl ?_ | refine zN ?_)
      refine WC.regH (fun w' => Hp w w' [Va va (.slice (some ⟨ab, 0, none⟩) ms.length ms.length), Lb ab A, Lx bx a ms.length c lp]) mixed (by kernel_rfl) (fun w10 hw10 hh10 => ?_)
      have hp10 := hp9.keep hw10
      have hS : Hp w w10 [Va va (.slice (some ⟨ab, 0, none⟩) ms.length ms.length), Lb ab A, Lx bx a ms.length c lp] := hp10.pick [1, 2, 4] (by decide)
      refine WH.pure 0 (by kernel_rfl) rfl (by kernel_rfl) rfl rfl rfl (hS) ?_
      refine WH.pure 1 (by kernel_rfl) rfl (by kernel_rfl) rfl rfl rfl (hS) ?_
      refine WH.load 2 (by kernel_rfl) rfl (by kernel_rfl) rfl rfl rfl rfl rfl (fun w' h => cell_of_obj (h.obj 0 rfl) rfl) hS ?_
      refine WH.take 3 (by kernel_rfl) rfl (by kernel_rfl) rfl rfl (fun w' h => run_loadN rfl rfl (cs := [.slice a ms.length c, .int .i64 (lp : Nat)]) rfl rfl (fun q v hq => by rw [Addr.add_lit]; exact cell_of_obj (h.obj 2 rfl) (by rw [Nat.zero_add]; simpa using hq))) hS ?_
      refine WH.pure 4 (by kernel_rfl) rfl (by kernel_rfl) rfl rfl rfl (hS) ?_
      refine WH.one 5 rfl (by kernel_rfl) ?_
      refine WL.call rfl rfl rfl rfl rfl ent77 (after_any a ms.length c lp i hn hi w10) ?_
      rintro v w11 ⟨rfl, hp11⟩
      have hp12 := hp10.comb hp11
      have hS2 : Hp w w11 [Va va (.slice (some ⟨ab, 0, none⟩) ms.length ms.length), Lb ab A, Lx bx a ms.length c lp] := hp12.pick [1, 2, 4] (by decide)
      refine WL.nil ⟨hS2, ?_⟩
      refine WH.ix1 6 (by kernel_rfl) rfl (by kernel_rfl) rfl rfl rfl rfl rfl rfl rfl ha hS2 ?_
      refine WH.load 7 (by kernel_rfl) rfl (by kernel_rfl) rfl rfl rfl rfl rfl (fun w' h => lb_obj (h.pick [1] (by decide)) (by omega)) hS2 ?_
      refine WH.ix1 8 (by kernel_rfl) rfl (by kernel_rfl) rfl rfl rfl rfl rfl rfl rfl hi hS2 ?_
      refine WH.one 9 rfl (by kernel_rfl) ?_
      refine WL.store rfl rfl rfl rfl rfl rfl (hp12.obj 0 rfl) (by rw [List.size_toArray, bl_len, fill_len _ _ _ _ (by omega)]; omega) (fun w13 h13 => ?_)
      rw [Nat.zero_add, bl_set, fill_set (fun i => A.getD (aft ms.length lp i) false) false ms.length i hi] at h13
      have hp13 := hp12.set 0 rfl rfl h13
      refine WL.nil ⟨hp13.pick [1, 2, 4] (by decide), ?_⟩
      refine WH.done (by kernel_rfl) ?_
      repeat (first | refine zA ?_ | refine zB ?_ | refine zC rfl rfl rfl ?_ | refine zD ?_ | refine zE ?_ | refine zF ?_ | refine zG rfl ?_ | refine zH rfl ?_ | refine zI rfl rfl rfl ?_ | refine zJ rfl rfl ?_ | refine zK ?_ | refine zL ?_ | refine zM rfl ?_ | refine zN ?_)
      exact ⟨i + 1, (by omega), ⟨rfl, rfl, rfl, rfl, congrArg (fun z => some (Value.int .i64 z)) step, rfl⟩, hi, hp13⟩
    · have hi : i = ms.length := by have := of_decide_eq_false h2; omega
      subst hi
      repeat (first | refine zA ?_ | refine zB ?_ | refine zC rfl rfl rfl ?_ | refine zD ?_ | refine zE ?_ | refine zF ?_ | refine zG rfl ?_ | refine zH rfl ?_ | refine zI rfl rfl rfl ?_ | refine zJ rfl rfl ?_ | refine zK ?_ | refine zL ?_ | refine zM rfl ?_ | refine zN ?_)
      refine Res.one rfl rfl rfl ⟨ob, rfl, ?_⟩
      rw [Nat.sub_self, List.replicate_zero, List.append_nil] at hp9
      exact hp9.pick [0] (by decide)
  · refine WL.sCmp (a := wAlways) (b := wNot) rfl rfl rfl rfl rfl ?_
    repeat (first | refine zA ?_ | refine zB ?_ | refine zC rfl rfl rfl ?_ | refine zD ?_ | refine zE ?_ | refine zF ?_ | refine zG rfl ?_ | refine zH rfl ?_ | refine zI rfl rfl rfl ?_ | refine zJ rfl rfl ?_ | refine zK ?_ | refine zL ?_ | refine zM rfl ?_ | refine zN ?_)
    refine WL.sCmp (a := wAlways) (b := wNext) rfl rfl rfl rfl rfl ?_
    repeat (first | refine zA ?_ | refine zB ?_ | refine zC rfl rfl rfl ?_ | refine zD ?_ | refine zE ?_ | refine zF ?_ | refine zG rfl ?_ | refine zH rfl ?_ | refine zI rfl rfl rfl ?_ | refine zJ rfl rfl ?_ | refine zK ?_ | refine zL ?_ | refine zM rfl ?_ | refine zN ?_)
    refine WL.sCmp (a := wAlways) (b := wAlways) rfl rfl rfl rfl rfl ?_
    repeat (first | refine zA ?_ | refine zB ?_ | refine zC rfl rfl rfl ?_ | refine zD ?_ | refine zE ?_ | refine zF ?_ | refine zG rfl ?_ | refine zH rfl ?_ | refine zI rfl rfl rfl ?_ | refine zJ rfl rfl ?_ | refine zK ?_ | refine zL ?_ | refine zM rfl ?_ | refine zN ?_)
    have hp9 := hp8
    have hBo : Bo w8 va ab ms.length A := ⟨cell_of_obj (hp8.obj 1 rfl) rfl, fun i hi => lb_obj (hp8.pick [2] (by decide)) (by omega)⟩
    refine WL.loadN rfl rfl rfl rfl rfl (cs := [.slice a ms.length c, .int .i64 (lp : Nat)]) rfl (fun q v hq => cell_of_obj (hp8.obj 4 rfl) (by rw [Nat.zero_add]; simpa using hq)) ?_
    repeat (first | refine zA ?_ | refine zB ?_ | refine zC rfl rfl rfl ?_ | refine zD ?_ | refine zE ?_ | refine zF ?_ | refine zG rfl ?_ | refine zH rfl ?_ | refine zI rfl rfl rfl ?_ | refine zJ rfl rfl ?_ | refine zK ?_ | refine zL ?_ | refine zM rfl ?_ | refine zN ?_)
    refine WL.call rfl rfl rfl rfl rfl ent78 (repeat_any a ms.length c lp hn hlp true (fi := []) (ca := [ptr va]) ent79 (fun i x => A.getD i false && x) w8 (fun i x w' hi h' => c1_any (hBo.below h'.below) i hi x)) ?_
    rintro v w9 ⟨rb, rfl, hp9⟩
    repeat (first | refine zA ?_ | refine zB ?_ | refine zC rfl rfl rfl ?_ | refine zD ?_ | refine zE ?_ | refine zF ?_ | refine zG rfl ?_ | refine zH rfl ?_ | refine zI rfl rfl rfl ?_ | refine zJ rfl rfl ?_ | refine zK ?_ | refine zL ?_ | refine zM rfl ?_ | refine zN ?_)
    exact Res.one rfl rfl rfl ⟨rb, rfl, (hp8.comb hp9).pick [0] (by decide)⟩
  · refine WL.sCmp (a := wFinally) (b := wNot) rfl rfl rfl rfl rfl ?_
    repeat (first | refine zA ?_ | refine zB ?_ | refine zC rfl rfl rfl ?_ | refine zD ?_ | refine zE ?_ | refine zF ?_ | refine zG rfl ?_ | refine zH rfl ?_ | refine zI rfl rfl rfl ?_ | refine zJ rfl rfl ?_ | refine zK ?_ | refine zL ?_ | refine zM rfl ?_ | refine zN ?_)
    refine WL.sCmp (a := wFinally) (b := wNext) rfl rfl rfl rfl rfl ?_
    repeat (first | refine zA ?_ | refine zB ?_ | refine zC rfl rfl rfl ?_ | refine zD ?_ | refine zE ?_ | refine zF ?_ | refine zG rfl ?_ | refine zH rfl ?_ | refine zI rfl rfl rfl ?_ | refine zJ rfl rfl ?_ | refine zK ?_ | refine zL ?_ | refine zM rfl ?_ | refine zN ?_)
    refine WL.sCmp (a := wFinally) (b := wAlways) rfl rfl rfl rfl rfl ?_
    repeat (first | refine zA ?_ | refine zB ?_ | refine zC rfl rfl rfl ?_ | refine zD ?_ | refine zE ?_ | refine zF ?_ | refine zG rfl ?_ | refine zH rfl ?_ | refine zI rfl rfl rfl ?_ | refine zJ rfl rfl ?_ | refine zK ?_ | refine zL ?_ | refine zM rfl ?_ | refine zN ?_)
    refine WL.sCmp (a := wFinally) (b := wFinally) rfl rfl rfl rfl rfl ?_
    repeat (first | refine zA ?_ | refine zB ?_ | refine zC rfl rfl rfl ?_ | refine zD ?_ | refine zE ?_ | refine zF ?_ | refine zG rfl ?_ | refine zH rfl ?_ | refine zI rfl rfl rfl ?_ | refine zJ rfl rfl ?_ | refine zK ?_ | refine zL ?_ | refine zM rfl ?_ | refine zN ?_)
    have hp9 := hp8
    have hBo : Bo w8 va ab ms.length A := ⟨cell_of_obj (hp8.obj 1 rfl) rfl, fun i hi => lb_obj (hp8.pick [2] (by decide)) (by omega)⟩
    refine WL.loadN rfl rfl rfl rfl rfl (cs := [.slice a ms.length c, .int .i64 (lp : Nat)]) rfl (fun q v hq => cell_of_obj (hp8.obj 4 rfl) (by rw [Nat.zero_add]; simpa using hq)) ?_
    repeat (first | refine zA ?_ | refine zB ?_ | refine zC rfl rfl rfl ?_ | refine zD ?_ | refine zE ?_ | refine zF ?_ | refine zG rfl ?_ | refine zH rfl ?_ | refine zI rfl rfl rfl ?_ | refine zJ rfl rfl ?_ | refine zK ?_ | refine zL ?_ | refine zM rfl ?_ | refine zN ?_)
    refine WL.call rfl rfl rfl rfl rfl ent78 (repeat_any a ms.length c lp hn hlp false (fi := []) (ca := [ptr va]) ent80 (fun i x => A.getD i false || x) w8 (fun i x w' hi h' => c2_any (hBo.below h'.below) i hi x)) ?_
    rintro v w9 ⟨rb, rfl, hp9⟩
    repeat (first | refine zA ?_ | refine zB ?_ | refine zC rfl rfl rfl ?_ | refine zD ?_ | refine zE ?_ | refine zF ?_ | refine zG rfl ?_ | refine zH rfl ?_ | refine zI rfl rfl rfl ?_ | refine zJ rfl rfl ?_ | refine zK ?_ | refine zL ?_ | refine zM rfl ?_ | refine zN ?_)
    exact Res.one rfl rfl rfl ⟨rb, rfl, (hp8.comb hp9).pick [0] (by decide)⟩
end
end Go.Proofs.YtpbbneclkhfgoaaDoor
end
section
/- ltl, twelfth: the values of operations of two formulas (printed by genu12.py). -/
namespace Go.Proofs.YtpbbneclkhfgoaaDoor
open Go.W Go.Ltl Go.RowKit
set_option maxRecDepth 100000
attribute [local irreducible] WC WL WQ WS WH

section
variable (a : Option Addr) (c : Nat) (ms : List Int) (lp : Nat) (hn : ms.length ≤ 1000000) (hlp : lp < ms.length)
include hn hlp in
theorem values_tw (s : Str) (f g : Fm) (hs : s ∈ twosL) (w : World) (hsl : Sl w a (zs ms)) (A B : List Bool) (hAl : A.length = ms.length) (hBl : B.length = ms.length)
  (ihf : ∀ w, Sl w a (zs ms) → Ret Tryd.prog 49 [lsV a ms.length c lp, fmV f] w (VaQ ms.length A w)) (ihg : ∀ w, Sl w a (zs ms) → Ret Tryd.prog 49 [lsV a ms.length c lp, fmV g] w (VaQ ms.length B w)) :
  Ret Tryd.prog 49 [lsV a ms.length c lp, fmV (.tw_ s f g)] w (VaQ ms.length (twM s A B ms.length lp) w) := by
  refine enter Tryd.func49 rfl rfl ⟨rfl, rfl⟩ rfl ?_
  repeat (first | refine zA ?_ | refine zB ?_ | refine zC rfl rfl rfl ?_ | refine zD ?_ | refine zE ?_ | refine zF ?_ | refine zG rfl ?_ | refine zH rfl ?_ | refine zI rfl rfl rfl ?_ | refine zJ rfl rfl ?_ | refine zK ?_ | refine zL ?_ | refine zM rfl ?_ | refine zN ?_)
  refine WL.box rfl rfl rfl (fun bx w1 h1 => ?_)
  have hp1 : Hp w w1 [Lx bx a ms.length c lp] := (Hp.start w).new h1
  repeat (first | refine zA ?_ | refine zB ?_ | refine zC rfl rfl rfl ?_ | refine zD ?_ | refine zE ?_ | refine zF ?_ | refine zG rfl ?_ | refine zH rfl ?_ | refine zI rfl rfl rfl ?_ | refine zJ rfl rfl ?_ | refine zK ?_ | refine zL ?_ | refine zM rfl ?_ | refine zN ?_)
  refine WL.loadB rfl rfl rfl rfl rfl (hp1.obj 0 rfl) (j := 0) rfl ?_
  repeat (first | refine zA ?_ | refine zB ?_ | refine zC rfl rfl rfl ?_ | refine zD ?_ | refine zE ?_ | refine zF ?_ | refine zG rfl ?_ | refine zH rfl ?_ | refine zI rfl rfl rfl ?_ | refine zJ rfl rfl ?_ | refine zK ?_ | refine zL ?_ | refine zM rfl ?_ | refine zN ?_)
  refine WL.make rfl rfl rfl rfl rfl rfl rfl rfl (by show 1 * ms.length ≤ _; omega) (by unfold maxLen; omega) ?_
  intro ob w2 hob
  have hp2 : Hp w w2 [Lb ob (List.replicate ms.length false), Lx bx a ms.length c lp] := by
    have := hp1.new hob
    unfold Lb bl
    rw [List.map_replicate]
    exact this
  repeat (first | refine zA ?_ | refine zB ?_ | refine zC rfl rfl rfl ?_ | refine zD ?_ | refine zE ?_ | refine zF ?_ | refine zG rfl ?_ | refine zH rfl ?_ | refine zI rfl rfl rfl ?_ | refine zJ rfl rfl ?_ | refine zK ?_ | refine zL ?_ | refine zM rfl ?_ | refine zN ?_)
  refine WL.val rfl rfl rfl (yAsT rfl rfl rfl) ?_
  repeat (first | refine zA ?_ | refine zB ?_ | refine zC rfl rfl rfl ?_ | refine zD ?_ | refine zE ?_ | refine zF ?_ | refine zG rfl ?_ | refine zH rfl ?_ | refine zI rfl rfl rfl ?_ | refine zJ rfl rfl ?_ | refine zK ?_ | refine zL ?_ | refine zM rfl ?_ | refine zN ?_)
  refine WL.val rfl rfl rfl (yAsT rfl rfl rfl) ?_
  repeat (first | refine zA ?_ | refine zB ?_ | refine zC rfl rfl rfl ?_ | refine zD ?_ | refine zE ?_ | refine zF ?_ | refine zG rfl ?_ | refine zH rfl ?_ | refine zI rfl rfl rfl ?_ | refine zJ rfl rfl ?_ | refine zK ?_ | refine zL ?_ | refine zM rfl ?_ | refine zN ?_)
  refine WL.val rfl rfl rfl (yAsT rfl rfl rfl) ?_
  repeat (first | refine zA ?_ | refine zB ?_ | refine zC rfl rfl rfl ?_ | refine zD ?_ | refine zE ?_ | refine zF ?_ | refine zG rfl ?_ | refine zH rfl ?_ | refine zI rfl rfl rfl ?_ | refine zJ rfl rfl ?_ | refine zK ?_ | refine zL ?_ | refine zM rfl ?_ | refine zN ?_)
  refine WL.alloc rfl rfl rfl (fun b2 w3 h3 => ?_)
  have hp3 := hp2.new h3
  refine WL.storeN rfl rfl rfl rfl rfl (by simp [Value.oneCell', st]; exact ⟨fm_one f, fm_one g⟩) (hp3.obj 0 rfl) (Nat.le_refl _) rfl (fun w4 h4 => ?_)
  have hp4 : Hp w w4 [Lb ob (List.replicate ms.length false), Q2b b2 s f g, Lx bx a ms.length c lp] := (hp3.set 0 rfl rfl h4).pick [1, 0, 2] (by decide)
  refine WL.nil ?_
  refine WC.seq ?_
  refine WC.mid (Nat × Nat × Nat × Nat) (fun (v14, v15, ab, bb) => [(2, ptr bx), (5, .slice (some ⟨ob, 0, none⟩) ms.length ms.length), (13, ptr b2), (14, ptr v14), (15, ptr v15)]) (fun (v14, v15, ab, bb) w' => Hp w w' [Lb ob (List.replicate ms.length false), Va v14 (.slice (some ⟨ab, 0, none⟩) ms.length ms.length), Va v15 (.slice (some ⟨bb, 0, none⟩) ms.length ms.length), Lb ab A, Lb bb B, Q2b b2 s f g, Lx bx a ms.length c lp]) ?_ ?_
  · refine WC.regH (fun w' => Hp w w' [Q2b b2 s f g, Lx bx a ms.length c lp]) mixed (by kernel_rfl) (fun wq0 hwq hhq => ?_)
    have hq0 := hp4.keep hwq
    have hS : Hp w wq0 [Q2b b2 s f g, Lx bx a ms.length c lp] := hq0.pick [1, 2] (by decide)
    refine WH.take 0 (by kernel_rfl) rfl (by kernel_rfl) rfl rfl (fun w' h => run_loadN rfl rfl (cs := [.slice a ms.length c, .int .i64 (lp : Nat)]) rfl rfl (fun q v hq => by rw [Addr.add_lit]; exact cell_of_obj (h.obj 1 rfl) (by rw [Nat.zero_add]; simpa using hq))) hS ?_
    refine WH.pure 1 (by kernel_rfl) rfl (by kernel_rfl) rfl rfl rfl (hS) ?_
    refine WH.load 2 (by kernel_rfl) rfl (by kernel_rfl) rfl rfl rfl rfl rfl (fun w' h => cell_of_obj (h.obj 0 rfl) (j := 1) rfl) hS ?_
    refine WH.take 4 (by kernel_rfl) rfl (by kernel_rfl) rfl rfl (fun w' h => run_loadN rfl rfl (cs := [.slice a ms.length c, .int .i64 (lp : Nat)]) rfl rfl (fun q v hq => by rw [Addr.add_lit]; exact cell_of_obj (h.obj 1 rfl) (by rw [Nat.zero_add]; simpa using hq))) hS ?_
    refine WH.pure 5 (by kernel_rfl) rfl (by kernel_rfl) rfl rfl rfl (hS) ?_
    refine WH.load 6 (by kernel_rfl) rfl (by kernel_rfl) rfl rfl rfl rfl rfl (fun w' h => cell_of_obj (h.obj 0 rfl) (j := 2) rfl) hS ?_
    refine WH.many [3, 8, 9] (by kernel_rfl) (by decide) ?_
    intro i hi
    simp only [List.mem_cons, List.not_mem_nil, or_false] at hi
    rcases hi with rfl | rfl | rfl
    · refine ⟨_, rfl, ?_⟩
      refine WL.call rfl rfl rfl rfl rfl ent49 (ihf wq0 (hsl.hp hq0)) ?_
      rintro v wq1 ⟨ab, rfl, hr0⟩
      have hq1 := hq0.comb hr0
      refine WL.nil ⟨hq1.pick [2, 3] (by decide), ?_⟩
      refine WH.many [7, 8, 9] (by kernel_rfl) (by decide) ?_
      intro i hi
      simp only [List.mem_cons, List.not_mem_nil, or_false] at hi
      rcases hi with rfl | rfl | rfl
      · refine ⟨_, rfl, ?_⟩
        refine WL.call rfl rfl rfl rfl rfl ent49 (ihg wq1 (hsl.hp hq1)) ?_
        rintro v wq2 ⟨bb, rfl, hr1⟩
        have hq2 := hq1.comb hr1
        refine WL.nil ⟨hq2.pick [3, 4] (by decide), ?_⟩
        refine WH.many [8, 9] (by kernel_rfl) (by decide) ?_
        intro i hi
        simp only [List.mem_cons, List.not_mem_nil, or_false] at hi
        rcases hi with rfl | rfl
        · refine ⟨_, rfl, ?_⟩
          refine WL.alloc rfl rfl rfl (fun v14 wq3 hr2 => ?_)
          have hq3 := hq2.new hr2
          refine WL.nil ⟨hq3.pick [4, 5] (by decide), ?_⟩
          refine WH.one 9 rfl (by kernel_rfl) ?_
          refine WL.alloc rfl rfl rfl (fun v15 wq4 hr3 => ?_)
          have hq4 := hq3.new hr3
          refine WL.nil ⟨hq4.pick [5, 6] (by decide), ?_⟩
          refine WH.one 10 rfl (by kernel_rfl) ?_
          refine WL.store rfl rfl rfl rfl rfl rfl (hq4.obj 1 rfl) (Nat.lt_succ_self 0) (fun wq5 hr4 => ?_)
          have hq5 := hq4.set 1 rfl rfl hr4
          refine WL.nil ⟨hq5.pick [5, 6] (by decide), ?_⟩
          refine WH.one 11 rfl (by kernel_rfl) ?_
          refine WL.store rfl rfl rfl rfl rfl rfl (hq5.obj 0 rfl) (Nat.lt_succ_self 0) (fun wq6 hr5 => ?_)
          have hq6 := hq5.set 0 rfl rfl hr5
          refine WL.nil ⟨hq6.pick [5, 6] (by decide), ?_⟩
          refine WH.done (by kernel_rfl) ?_
          exact ⟨(v14, v15, ab, bb), ⟨rfl, rfl, rfl, rfl, rfl, rfl⟩, hq6.pick [4, 1, 0, 3, 2, 5, 6] (by decide)⟩
        · refine ⟨_, rfl, ?_⟩
          refine WL.alloc rfl rfl rfl (fun v15 wq3 hr2 => ?_)
          have hq3 := hq2.new hr2
          refine WL.nil ⟨hq3.pick [4, 5] (by decide), ?_⟩
          refine WH.one 8 rfl (by kernel_rfl) ?_
          refine WL.alloc rfl rfl rfl (fun v14 wq4 hr3 => ?_)
          have hq4 := hq3.new hr3
          refine WL.nil ⟨hq4.pick [5, 6] (by decide), ?_⟩
          refine WH.one 10 rfl (by kernel_rfl) ?_
          refine WL.store rfl rfl rfl rfl rfl rfl (hq4.obj 0 rfl) (Nat.lt_succ_self 0) (fun wq5 hr4 => ?_)
          have hq5 := hq4.set 0 rfl rfl hr4
          refine WL.nil ⟨hq5.pick [5, 6] (by decide), ?_⟩
          refine WH.one 11 rfl (by kernel_rfl) ?_
          refine WL.store rfl rfl rfl rfl rfl rfl (hq5.obj 1 rfl) (Nat.lt_succ_self 0) (fun wq6 hr5 => ?_)
          have hq6 := hq5.set 1 rfl rfl hr5
          refine WL.nil ⟨hq6.pick [5, 6] (by decide), ?_⟩
          refine WH.done (by kernel_rfl) ?_
          exact ⟨(v14, v15, ab, bb), ⟨rfl, rfl, rfl, rfl, rfl, rfl⟩, hq6.pick [4, 0, 1, 3, 2, 5, 6] (by decide)⟩
      · refine ⟨_, rfl, ?_⟩
        refine WL.alloc rfl rfl rfl (fun v14 wq2 hr1 => ?_)
        have hq2 := hq1.new hr1
        refine WL.nil ⟨hq2.pick [3, 4] (by decide), ?_⟩
        refine WH.many [7, 9] (by kernel_rfl) (by decide) ?_
        intro i hi
        simp only [List.mem_cons, List.not_mem_nil, or_false] at hi
        rcases hi with rfl | rfl
        · refine ⟨_, rfl, ?_⟩
          refine WL.call rfl rfl rfl rfl rfl ent49 (ihg wq2 (hsl.hp hq2)) ?_
          rintro v wq3 ⟨bb, rfl, hr2⟩
          have hq3 := hq2.comb hr2
          refine WL.nil ⟨hq3.pick [4, 5] (by decide), ?_⟩
          refine WH.one 9 rfl (by kernel_rfl) ?_
          refine WL.alloc rfl rfl rfl (fun v15 wq4 hr3 => ?_)
          have hq4 := hq3.new hr3
          refine WL.nil ⟨hq4.pick [5, 6] (by decide), ?_⟩
          refine WH.one 10 rfl (by kernel_rfl) ?_
          refine WL.store rfl rfl rfl rfl rfl rfl (hq4.obj 2 rfl) (Nat.lt_succ_self 0) (fun wq5 hr4 => ?_)
          have hq5 := hq4.set 2 rfl rfl hr4
          refine WL.nil ⟨hq5.pick [5, 6] (by decide), ?_⟩
          refine WH.one 11 rfl (by kernel_rfl) ?_
          refine WL.store rfl rfl rfl rfl rfl rfl (hq5.obj 0 rfl) (Nat.lt_succ_self 0) (fun wq6 hr5 => ?_)
          have hq6 := hq5.set 0 rfl rfl hr5
          refine WL.nil ⟨hq6.pick [5, 6] (by decide), ?_⟩
          refine WH.done (by kernel_rfl) ?_
          exact ⟨(v14, v15, ab, bb), ⟨rfl, rfl, rfl, rfl, rfl, rfl⟩, hq6.pick [4, 2, 0, 3, 1, 5, 6] (by decide)⟩
        · refine ⟨_, rfl, ?_⟩
          refine WL.alloc rfl rfl rfl (fun v15 wq3 hr2 => ?_)
          have hq3 := hq2.new hr2
          refine WL.nil ⟨hq3.pick [4, 5] (by decide), ?_⟩
          refine WH.one 7 rfl (by kernel_rfl) ?_
          refine WL.call rfl rfl rfl rfl rfl ent49 (ihg wq3 (hsl.hp hq3)) ?_
          rintro v wq4 ⟨bb, rfl, hr3⟩
          have hq4 := hq3.comb hr3
          refine WL.nil ⟨hq4.pick [5, 6] (by decide), ?_⟩
          refine WH.one 10 rfl (by kernel_rfl) ?_
          refine WL.store rfl rfl rfl rfl rfl rfl (hq4.obj 2 rfl) (Nat.lt_succ_self 0) (fun wq5 hr4 => ?_)
          have hq5 := hq4.set 2 rfl rfl hr4
          refine WL.nil ⟨hq5.pick [5, 6] (by decide), ?_⟩
          refine WH.one 11 rfl (by kernel_rfl) ?_
          refine WL.store rfl rfl rfl rfl rfl rfl (hq5.obj 1 rfl) (Nat.lt_succ_self 0) (fun wq6 hr5 => ?_)
          have hq6 := hq5.set 1 rfl rfl hr5
          refine WL.nil ⟨hq6.pick [5, 6] (by decide), ?_⟩
          refine WH.done (by kernel_rfl) ?_
          exact ⟨(v14, v15, ab, bb), ⟨rfl, rfl, rfl, rfl, rfl, rfl⟩, hq6.pick [4, 2, 1, 3, 0, 5, 6] (by decide)⟩
      · refine ⟨_, rfl, ?_⟩
        refine WL.alloc rfl rfl rfl (fun v15 wq2 hr1 => ?_)
        have hq2 := hq1.new hr1
        refine WL.nil ⟨hq2.pick [3, 4] (by decide), ?_⟩
        refine WH.many [7, 8] (by kernel_rfl) (by decide) ?_
        intro i hi
        simp only [List.mem_cons, List.not_mem_nil, or_false] at hi
        rcases hi with rfl | rfl
        · refine ⟨_, rfl, ?_⟩
          refine WL.call rfl rfl rfl rfl rfl ent49 (ihg wq2 (hsl.hp hq2)) ?_
          rintro v wq3 ⟨bb, rfl, hr2⟩
          have hq3 := hq2.comb hr2
          refine WL.nil ⟨hq3.pick [4, 5] (by decide), ?_⟩
          refine WH.one 8 rfl (by kernel_rfl) ?_
          refine WL.alloc rfl rfl rfl (fun v14 wq4 hr3 => ?_)
          have hq4 := hq3.new hr3
          refine WL.nil ⟨hq4.pick [5, 6] (by decide), ?_⟩
          refine WH.one 10 rfl (by kernel_rfl) ?_
          refine WL.store rfl rfl rfl rfl rfl rfl (hq4.obj 0 rfl) (Nat.lt_succ_self 0) (fun wq5 hr4 => ?_)
          have hq5 := hq4.set 0 rfl rfl hr4
          refine WL.nil ⟨hq5.pick [5, 6] (by decide), ?_⟩
          refine WH.one 11 rfl (by kernel_rfl) ?_
          refine WL.store rfl rfl rfl rfl rfl rfl (hq5.obj 2 rfl) (Nat.lt_succ_self 0) (fun wq6 hr5 => ?_)
          have hq6 := hq5.set 2 rfl rfl hr5
          refine WL.nil ⟨hq6.pick [5, 6] (by decide), ?_⟩
          refine WH.done (by kernel_rfl) ?_
          exact ⟨(v14, v15, ab, bb), ⟨rfl, rfl, rfl, rfl, rfl, rfl⟩, hq6.pick [4, 0, 2, 3, 1, 5, 6] (by decide)⟩
        · refine ⟨_, rfl, ?_⟩
          refine WL.alloc rfl rfl rfl (fun v14 wq3 hr2 => ?_)
          have hq3 := hq2.new hr2
          refine WL.nil ⟨hq3.pick [4, 5] (by decide), ?_⟩
          refine WH.one 7 rfl (by kernel_rfl) ?_
          refine WL.call rfl rfl rfl rfl rfl ent49 (ihg wq3 (hsl.hp hq3)) ?_
          rintro v wq4 ⟨bb, rfl, hr3⟩
          have hq4 := hq3.comb hr3
          refine WL.nil ⟨hq4.pick [5, 6] (by decide), ?_⟩
          refine WH.one 10 rfl (by kernel_rfl) ?_
          refine WL.store rfl rfl rfl rfl rfl rfl (hq4.obj 1 rfl) (Nat.lt_succ_self 0) (fun wq5 hr4 => ?_)
          have hq5 := hq4.set 1 rfl rfl hr4
          refine WL.nil ⟨hq5.pick [5, 6] (by decide), ?_⟩
          refine WH.one 11 rfl (by kernel_rfl) ?_
          refine WL.store rfl rfl rfl rfl rfl rfl (hq5.obj 2 rfl) (Nat.lt_succ_self 0) (fun wq6 hr5 => ?_)
          have hq6 := hq5.set 2 rfl rfl hr5
          refine WL.nil ⟨hq6.pick [5, 6] (by decide), ?_⟩
          refine WH.done (by kernel_rfl) ?_
          exact ⟨(v14, v15, ab, bb), ⟨rfl, rfl, rfl, rfl, rfl, rfl⟩, hq6.pick [4, 1, 2, 3, 0, 5, 6] (by decide)⟩
    · refine ⟨_, rfl, ?_⟩
      refine WL.alloc rfl rfl rfl (fun v14 wq1 hr0 => ?_)
      have hq1 := hq0.new hr0
      refine WL.nil ⟨hq1.pick [2, 3] (by decide), ?_⟩
      refine WH.many [3, 9] (by kernel_rfl) (by decide) ?_
      intro i hi
      simp only [List.mem_cons, List.not_mem_nil, or_false] at hi
      rcases hi with rfl | rfl
      · refine ⟨_, rfl, ?_⟩
        refine WL.call rfl rfl rfl rfl rfl ent49 (ihf wq1 (hsl.hp hq1)) ?_
        rintro v wq2 ⟨ab, rfl, hr1⟩
        have hq2 := hq1.comb hr1
        refine WL.nil ⟨hq2.pick [3, 4] (by decide), ?_⟩
        refine WH.many [7, 9] (by kernel_rfl) (by decide) ?_
        intro i hi
        simp only [List.mem_cons, List.not_mem_nil, or_false] at hi
        rcases hi with rfl | rfl
        · refine ⟨_, rfl, ?_⟩
          refine WL.call rfl rfl rfl rfl rfl ent49 (ihg wq2 (hsl.hp hq2)) ?_
          rintro v wq3 ⟨bb, rfl, hr2⟩
          have hq3 := hq2.comb hr2
          refine WL.nil ⟨hq3.pick [4, 5] (by decide), ?_⟩
          refine WH.one 9 rfl (by kernel_rfl) ?_
          refine WL.alloc rfl rfl rfl (fun v15 wq4 hr3 => ?_)
          have hq4 := hq3.new hr3
          refine WL.nil ⟨hq4.pick [5, 6] (by decide), ?_⟩
          refine WH.one 10 rfl (by kernel_rfl) ?_
          refine WL.store rfl rfl rfl rfl rfl rfl (hq4.obj 3 rfl) (Nat.lt_succ_self 0) (fun wq5 hr4 => ?_)
          have hq5 := hq4.set 3 rfl rfl hr4
          refine WL.nil ⟨hq5.pick [5, 6] (by decide), ?_⟩
          refine WH.one 11 rfl (by kernel_rfl) ?_
          refine WL.store rfl rfl rfl rfl rfl rfl (hq5.obj 0 rfl) (Nat.lt_succ_self 0) (fun wq6 hr5 => ?_)
          have hq6 := hq5.set 0 rfl rfl hr5
          refine WL.nil ⟨hq6.pick [5, 6] (by decide), ?_⟩
          refine WH.done (by kernel_rfl) ?_
          exact ⟨(v14, v15, ab, bb), ⟨rfl, rfl, rfl, rfl, rfl, rfl⟩, hq6.pick [4, 3, 0, 2, 1, 5, 6] (by decide)⟩
        · refine ⟨_, rfl, ?_⟩
          refine WL.alloc rfl rfl rfl (fun v15 wq3 hr2 => ?_)
          have hq3 := hq2.new hr2
          refine WL.nil ⟨hq3.pick [4, 5] (by decide), ?_⟩
          refine WH.one 7 rfl (by kernel_rfl) ?_
          refine WL.call rfl rfl rfl rfl rfl ent49 (ihg wq3 (hsl.hp hq3)) ?_
          rintro v wq4 ⟨bb, rfl, hr3⟩
          have hq4 := hq3.comb hr3
          refine WL.nil ⟨hq4.pick [5, 6] (by decide), ?_⟩
          refine WH.one 10 rfl (by kernel_rfl) ?_
          refine WL.store rfl rfl rfl rfl rfl rfl (hq4.obj 3 rfl) (Nat.lt_succ_self 0) (fun wq5 hr4 => ?_)
          have hq5 := hq4.set 3 rfl rfl hr4
          refine WL.nil ⟨hq5.pick [5, 6] (by decide), ?_⟩
          refine WH.one 11 rfl (by kernel_rfl) ?_
          refine WL.store rfl rfl rfl rfl rfl rfl (hq5.obj 1 rfl) (Nat.lt_succ_self 0) (fun wq6 hr5 => ?_)
          have hq6 := hq5.set 1 rfl rfl hr5
          refine WL.nil ⟨hq6.pick [5, 6] (by decide), ?_⟩
          refine WH.done (by kernel_rfl) ?_
          exact ⟨(v14, v15, ab, bb), ⟨rfl, rfl, rfl, rfl, rfl, rfl⟩, hq6.pick [4, 3, 1, 2, 0, 5, 6] (by decide)⟩
      · refine ⟨_, rfl, ?_⟩
        refine WL.alloc rfl rfl rfl (fun v15 wq2 hr1 => ?_)
        have hq2 := hq1.new hr1
        refine WL.nil ⟨hq2.pick [3, 4] (by decide), ?_⟩
        refine WH.one 3 rfl (by kernel_rfl) ?_
        refine WL.call rfl rfl rfl rfl rfl ent49 (ihf wq2 (hsl.hp hq2)) ?_
        rintro v wq3 ⟨ab, rfl, hr2⟩
        have hq3 := hq2.comb hr2
        refine WL.nil ⟨hq3.pick [4, 5] (by decide), ?_⟩
        refine WH.one 7 rfl (by kernel_rfl) ?_
        refine WL.call rfl rfl rfl rfl rfl ent49 (ihg wq3 (hsl.hp hq3)) ?_
        rintro v wq4 ⟨bb, rfl, hr3⟩
        have hq4 := hq3.comb hr3
        refine WL.nil ⟨hq4.pick [5, 6] (by decide), ?_⟩
        refine WH.one 10 rfl (by kernel_rfl) ?_
        refine WL.store rfl rfl rfl rfl rfl rfl (hq4.obj 3 rfl) (Nat.lt_succ_self 0) (fun wq5 hr4 => ?_)
        have hq5 := hq4.set 3 rfl rfl hr4
        refine WL.nil ⟨hq5.pick [5, 6] (by decide), ?_⟩
        refine WH.one 11 rfl (by kernel_rfl) ?_
        refine WL.store rfl rfl rfl rfl rfl rfl (hq5.obj 2 rfl) (Nat.lt_succ_self 0) (fun wq6 hr5 => ?_)
        have hq6 := hq5.set 2 rfl rfl hr5
        refine WL.nil ⟨hq6.pick [5, 6] (by decide), ?_⟩
        refine WH.done (by kernel_rfl) ?_
        exact ⟨(v14, v15, ab, bb), ⟨rfl, rfl, rfl, rfl, rfl, rfl⟩, hq6.pick [4, 3, 2, 1, 0, 5, 6] (by decide)⟩
    · refine ⟨_, rfl, ?_⟩
      refine WL.alloc rfl rfl rfl (fun v15 wq1 hr0 => ?_)
      have hq1 := hq0.new hr0
      refine WL.nil ⟨hq1.pick [2, 3] (by decide), ?_⟩
      refine WH.many [3, 8] (by kernel_rfl) (by decide) ?_
      intro i hi
      simp only [List.mem_cons, List.not_mem_nil, or_false] at hi
      rcases hi with rfl | rfl
      · refine ⟨_, rfl, ?_⟩
        refine WL.call rfl rfl rfl rfl rfl ent49 (ihf wq1 (hsl.hp hq1)) ?_
        rintro v wq2 ⟨ab, rfl, hr1⟩
        have hq2 := hq1.comb hr1
        refine WL.nil ⟨hq2.pick [3, 4] (by decide), ?_⟩
        refine WH.many [7, 8] (by kernel_rfl) (by decide) ?_
        intro i hi
        simp only [List.mem_cons, List.not_mem_nil, or_false] at hi
        rcases hi with rfl | rfl
        · refine ⟨_, rfl, ?_⟩
          refine WL.call rfl rfl rfl rfl rfl ent49 (ihg wq2 (hsl.hp hq2)) ?_
          rintro v wq3 ⟨bb, rfl, hr2⟩
          have hq3 := hq2.comb hr2
          refine WL.nil ⟨hq3.pick [4, 5] (by decide), ?_⟩
          refine WH.one 8 rfl (by kernel_rfl) ?_
          refine WL.alloc rfl rfl rfl (fun v14 wq4 hr3 => ?_)
          have hq4 := hq3.new hr3
          refine WL.nil ⟨hq4.pick [5, 6] (by decide), ?_⟩
          refine WH.one 10 rfl (by kernel_rfl) ?_
          refine WL.store rfl rfl rfl rfl rfl rfl (hq4.obj 0 rfl) (Nat.lt_succ_self 0) (fun wq5 hr4 => ?_)
          have hq5 := hq4.set 0 rfl rfl hr4
          refine WL.nil ⟨hq5.pick [5, 6] (by decide), ?_⟩
          refine WH.one 11 rfl (by kernel_rfl) ?_
          refine WL.store rfl rfl rfl rfl rfl rfl (hq5.obj 3 rfl) (Nat.lt_succ_self 0) (fun wq6 hr5 => ?_)
          have hq6 := hq5.set 3 rfl rfl hr5
          refine WL.nil ⟨hq6.pick [5, 6] (by decide), ?_⟩
          refine WH.done (by kernel_rfl) ?_
          exact ⟨(v14, v15, ab, bb), ⟨rfl, rfl, rfl, rfl, rfl, rfl⟩, hq6.pick [4, 0, 3, 2, 1, 5, 6] (by decide)⟩
        · refine ⟨_, rfl, ?_⟩
          refine WL.alloc rfl rfl rfl (fun v14 wq3 hr2 => ?_)
          have hq3 := hq2.new hr2
          refine WL.nil ⟨hq3.pick [4, 5] (by decide), ?_⟩
          refine WH.one 7 rfl (by kernel_rfl) ?_
          refine WL.call rfl rfl rfl rfl rfl ent49 (ihg wq3 (hsl.hp hq3)) ?_
          rintro v wq4 ⟨bb, rfl, hr3⟩
          have hq4 := hq3.comb hr3
          refine WL.nil ⟨hq4.pick [5, 6] (by decide), ?_⟩
          refine WH.one 10 rfl (by kernel_rfl) ?_
          refine WL.store rfl rfl rfl rfl rfl rfl (hq4.obj 1 rfl) (Nat.lt_succ_self 0) (fun wq5 hr4 => ?_)
          have hq5 := hq4.set 1 rfl rfl hr4
          refine WL.nil ⟨hq5.pick [5, 6] (by decide), ?_⟩
          refine WH.one 11 rfl (by kernel_rfl) ?_
          refine WL.store rfl rfl rfl rfl rfl rfl (hq5.obj 3 rfl) (Nat.lt_succ_self 0) (fun wq6 hr5 => ?_)
          have hq6 := hq5.set 3 rfl rfl hr5
          refine WL.nil ⟨hq6.pick [5, 6] (by decide), ?_⟩
          refine WH.done (by kernel_rfl) ?_
          exact ⟨(v14, v15, ab, bb), ⟨rfl, rfl, rfl, rfl, rfl, rfl⟩, hq6.pick [4, 1, 3, 2, 0, 5, 6] (by decide)⟩
      · refine ⟨_, rfl, ?_⟩
        refine WL.alloc rfl rfl rfl (fun v14 wq2 hr1 => ?_)
        have hq2 := hq1.new hr1
        refine WL.nil ⟨hq2.pick [3, 4] (by decide), ?_⟩
        refine WH.one 3 rfl (by kernel_rfl) ?_
        refine WL.call rfl rfl rfl rfl rfl ent49 (ihf wq2 (hsl.hp hq2)) ?_
        rintro v wq3 ⟨ab, rfl, hr2⟩
        have hq3 := hq2.comb hr2
        refine WL.nil ⟨hq3.pick [4, 5] (by decide), ?_⟩
        refine WH.one 7 rfl (by kernel_rfl) ?_
        refine WL.call rfl rfl rfl rfl rfl ent49 (ihg wq3 (hsl.hp hq3)) ?_
        rintro v wq4 ⟨bb, rfl, hr3⟩
        have hq4 := hq3.comb hr3
        refine WL.nil ⟨hq4.pick [5, 6] (by decide), ?_⟩
        refine WH.one 10 rfl (by kernel_rfl) ?_
        refine WL.store rfl rfl rfl rfl rfl rfl (hq4.obj 2 rfl) (Nat.lt_succ_self 0) (fun wq5 hr4 => ?_)
        have hq5 := hq4.set 2 rfl rfl hr4
        refine WL.nil ⟨hq5.pick [5, 6] (by decide), ?_⟩
        refine WH.one 11 rfl (by kernel_rfl) ?_
        refine WL.store rfl rfl rfl rfl rfl rfl (hq5.obj 3 rfl) (Nat.lt_succ_self 0) (fun wq6 hr5 => ?_)
        have hq6 := hq5.set 3 rfl rfl hr5
        refine WL.nil ⟨hq6.pick [5, 6] (by decide), ?_⟩
        refine WH.done (by kernel_rfl) ?_
        exact ⟨(v14, v15, ab, bb), ⟨rfl, rfl, rfl, rfl, rfl, rfl⟩, hq6.pick [4, 2, 3, 1, 0, 5, 6] (by decide)⟩
  · rintro ⟨v14, v15, ab, bb⟩ e8 w8 hsub hp8
    replace hp8 : Hp w w8 [Lb ob (List.replicate ms.length false), Va v14 (.slice (some ⟨ab, 0, none⟩) ms.length ms.length), Va v15 (.slice (some ⟨bb, 0, none⟩) ms.length ms.length), Lb ab A, Lb bb B, Q2b b2 s f g, Lx bx a ms.length c lp] := hp8
    refine WC.sub hsub ?_
    clear hsub e8
    repeat (first | refine zA ?_ | refine zB ?_ | refine zC rfl rfl rfl ?_ | refine zD ?_ | refine zE ?_ | refine zF ?_ | refine zG rfl ?_ | refine zH rfl ?_ | refine zI rfl rfl rfl ?_ | refine zJ rfl rfl ?_ | refine zK ?_ | refine zL ?_ | refine zM rfl ?_ | refine zN ?_)
    refine WL.loadB rfl rfl rfl rfl rfl (hp8.obj 5 rfl) (j := 0) rfl ?_
    repeat (first | refine zA ?_ | refine zB ?_ | refine zC rfl rfl rfl ?_ | refine zD ?_ | refine zE ?_ | refine zF ?_ | refine zG rfl ?_ | refine zH rfl ?_ | refine zI rfl rfl rfl ?_ | refine zJ rfl rfl ?_ | refine zK ?_ | refine zL ?_ | refine zM rfl ?_ | refine zN ?_)
    have hBo : Bo w8 v14 ab ms.length A := ⟨cell_of_obj (hp8.obj 1 rfl) rfl, fun i hi => lb_obj (hp8.pick [3] (by decide)) (by omega)⟩
    have hBb : Bo w8 v15 bb ms.length B := ⟨cell_of_obj (hp8.obj 2 rfl) rfl, fun i hi => lb_obj (hp8.pick [4] (by decide)) (by omega)⟩
    have hs2 : s = wAnd ∨ s = wOr ∨ s = wUntil ∨ s = wRelease := by simpa [twosL] using hs
    rcases hs2 with rfl | rfl | rfl | rfl
    · refine WL.sCmp (a := wAnd) (b := wAnd) rfl rfl rfl rfl rfl ?_
      repeat (first | refine zA ?_ | refine zB ?_ | refine zC rfl rfl rfl ?_ | refine zD ?_ | refine zE ?_ | refine zF ?_ | refine zG rfl ?_ | refine zH rfl ?_ | refine zI rfl rfl rfl ?_ | refine zJ rfl rfl ?_ | refine zK ?_ | refine zL ?_ | refine zM rfl ?_ | refine zN ?_)
      refine WC.loop Nat (fun i => [(5, .slice (some ⟨ob, 0, none⟩) ms.length ms.length), (14, ptr v14), (15, ptr v15), (110, .int .i64 (ms.length : Nat)), (111, .int .i64 (i : Nat))])
        (fun i w' => i ≤ ms.length ∧ Hp w w' [Lb ob ((List.range i).map (fun i => A.getD i false && B.getD i false) ++ List.replicate (ms.length - i) false), Va v14 (.slice (some ⟨ab, 0, none⟩) ms.length ms.length), Va v15 (.slice (some ⟨bb, 0, none⟩) ms.length ms.length), Lb ab A, Lb bb B, Q2b b2 wAnd f g, Lx bx a ms.length c lp]) (fun i => ms.length - i) 0 ⟨rfl, rfl, rfl, rfl, rfl, rfl⟩ ⟨Nat.zero_le _, hp8⟩ ?_
      clear hp8 hBo hBb
      rintro i w9 ⟨hi, hp9⟩
      repeat (first | refine zA ?_ | refine zB ?_ | refine zC rfl rfl rfl ?_ | refine zD ?_ | refine zE ?_ | refine zF ?_ | refine zG rfl ?_ | refine zH rfl ?_ | refine zI rfl rfl rfl ?_ | refine zJ rfl rfl ?_ | refine zK ?_ | refine zL ?_ | refine zM rfl ?_ | refine zN ?_)
      refine WC.cond rfl (fun h2 => ?_) (fun h2 => ?_)
      · have hi : i < ms.length := by have := of_decide_eq_true h2; omega
        have step := wrap_succ (i := i) (n := i + 1) (by omega) (by omega)
        repeat (first | refine zA ?_ | refine zB ?_ | refine zC rfl rfl rfl ?_ | refine zD ?_ | refine zE ?_ | refine zF ?_ | refine zG rfl ?_ | refine zH rfl ?_ | refine zI rfl rfl rfl ?_ | refine zJ rfl rfl ?_ | refine zK ?_ | refine zL ?_ | refine zM rfl ?_ | refine zN ?_)
        refine WL.loadB rfl rfl rfl rfl rfl (hp9.obj 1 rfl) (j := 0) rfl ?_
        repeat (first | refine zA ?_ | refine zB ?_ | refine zC rfl rfl rfl ?_ | refine zD ?_ | refine zE ?_ | refine zF ?_ | refine zG rfl ?_ | refine zH rfl ?_ | refine zI rfl rfl rfl ?_ | refine zJ rfl rfl ?_ | refine zK ?_ | refine zL ?_ | refine zM rfl ?_ | refine zN ?_)
        refine WL.ix1 rfl rfl rfl rfl rfl rfl rfl hi ?_
        refine WL.load rfl rfl rfl rfl rfl (lb_obj (hp9.pick [3] (by decide)) (by omega)) ?_
        have hfs := fill_set (fun i => A.getD i false && B.getD i false) false ms.length i hi
        cases hA : A.getD i false with
        | true =>
          simp only [hA, Bool.true_and, Bool.false_and, Bool.true_or, Bool.false_or] at hfs
          repeat (first | refine zA ?_ | refine zB ?_ | refine zC rfl rfl rfl ?_ | refine zD ?_ | refine zE ?_ | refine zF ?_ | refine zG rfl ?_ | refine zH rfl ?_ | refine zI rfl rfl rfl ?_ | refine zJ rfl rfl ?_ | refine zK ?_ | refine zL ?_ | refine zM rfl ?_ | refine zN ?_)
          refine WL.loadB rfl rfl rfl rfl rfl (hp9.obj 2 rfl) (j := 0) rfl ?_
          repeat (first | refine zA ?_ | refine zB ?_ | refine zC rfl rfl rfl ?_ | refine zD ?_ | refine zE ?_ | refine zF ?_ | refine zG rfl ?_ | refine zH rfl ?_ | refine zI rfl rfl rfl ?_ | refine zJ rfl rfl ?_ | refine zK ?_ | refine zL ?_ | refine zM rfl ?_ | refine zN ?_)
          refine WL.ix1 rfl rfl rfl rfl rfl rfl rfl hi ?_
          refine WL.load rfl rfl rfl rfl rfl (lb_obj (hp9.pick [4] (by decide)) (by omega)) ?_
          repeat (first | refine zA ?_ | refine zB ?_ | refine zC rfl rfl rfl ?_ | refine zD ?_ | refine zE ?_ | refine zF ?_ | refine zG rfl ?_ | refine zH rfl ?_ | refine zI rfl rfl rfl ?_ | refine zJ rfl rfl ?_ | refine zK ?_ | refine zL ?_ | refine zM rfl ?_ | refine zN ?_)
          refine WL.ix1 rfl rfl rfl rfl rfl rfl rfl hi ?_
          refine WL.store rfl rfl rfl rfl rfl rfl (hp9.obj 0 rfl) (by rw [List.size_toArray, bl_len, fill_len _ _ _ _ (by omega)]; omega) (fun w10 h10 => ?_)
          rw [Nat.zero_add, bl_set, hfs] at h10
          have hp10 := hp9.set 0 rfl rfl h10
          repeat (first | refine zA ?_ | refine zB ?_ | refine zC rfl rfl rfl ?_ | refine zD ?_ | refine zE ?_ | refine zF ?_ | refine zG rfl ?_ | refine zH rfl ?_ | refine zI rfl rfl rfl ?_ | refine zJ rfl rfl ?_ | refine zK ?_ | refine zL ?_ | refine zM rfl ?_ | refine zN ?_)
          exact ⟨i + 1, (by omega), ⟨rfl, rfl, rfl, rfl, congrArg (fun z => some (Value.int .i64 z)) step, rfl⟩, hi, hp10⟩
        | false =>
          simp only [hA, Bool.true_and, Bool.false_and, Bool.true_or, Bool.false_or] at hfs
          repeat (first | refine zA ?_ | refine zB ?_ | refine zC rfl rfl rfl ?_ | refine zD ?_ | refine zE ?_ | refine zF ?_ | refine zG rfl ?_ | refine zH rfl ?_ | refine zI rfl rfl rfl ?_ | refine zJ rfl rfl ?_ | refine zK ?_ | refine zL ?_ | refine zM rfl ?_ | refine zN ?_)
          refine WL.ix1 rfl rfl rfl rfl rfl rfl rfl hi ?_
          refine WL.store rfl rfl rfl rfl rfl rfl (hp9.obj 0 rfl) (by rw [List.size_toArray, bl_len, fill_len _ _ _ _ (by omega)]; omega) (fun w10 h10 => ?_)
          rw [Nat.zero_add, bl_set, hfs] at h10
          have hp10 := hp9.set 0 rfl rfl h10
          repeat (first | refine zA ?_ | refine zB ?_ | refine zC rfl rfl rfl ?_ | refine zD ?_ | refine zE ?_ | refine zF ?_ | refine zG rfl ?_ | refine zH rfl ?_ | refine zI rfl rfl rfl ?_ | refine zJ rfl rfl ?_ | refine zK ?_ | refine zL ?_ | refine zM rfl ?_ | refine zN ?_)
          exact ⟨i + 1, (by omega), ⟨rfl, rfl, rfl, rfl, congrArg (fun z => some (Value.int .i64 z)) step, rfl⟩, hi, hp10⟩
      · have hi : i = ms.length := by have := of_decide_eq_false h2; omega
        subst hi
        repeat (first | refine zA ?_ | refine zB ?_ | refine zC rfl rfl rfl ?_ | refine zD ?_ | refine zE ?_ | refine zF ?_ | refine zG rfl ?_ | refine zH rfl ?_ | refine zI rfl rfl rfl ?_ | refine zJ rfl rfl ?_ | refine zK ?_ | refine zL ?_ | refine zM rfl ?_ | refine zN ?_)
        refine Res.one rfl rfl rfl ⟨ob, rfl, ?_⟩
        rw [Nat.sub_self, List.replicate_zero, List.append_nil] at hp9
        exact hp9.pick [0] (by decide)
    · refine WL.sCmp (a := wOr) (b := wAnd) rfl rfl rfl rfl rfl ?_
      repeat (first | refine zA ?_ | refine zB ?_ | refine zC rfl rfl rfl ?_ | refine zD ?_ | refine zE ?_ | refine zF ?_ | refine zG rfl ?_ | refine zH rfl ?_ | refine zI rfl rfl rfl ?_ | refine zJ rfl rfl ?_ | refine zK ?_ | refine zL ?_ | refine zM rfl ?_ | refine zN ?_)
      refine WL.sCmp (a := wOr) (b := wOr) rfl rfl rfl rfl rfl ?_
      repeat (first | refine zA ?_ | refine zB ?_ | refine zC rfl rfl rfl ?_ | refine zD ?_ | refine zE ?_ | refine zF ?_ | refine zG rfl ?_ | refine zH rfl ?_ | refine zI rfl rfl rfl ?_ | refine zJ rfl rfl ?_ | refine zK ?_ | refine zL ?_ | refine zM rfl ?_ | refine zN ?_)
      refine WC.loop Nat (fun i => [(5, .slice (some ⟨ob, 0, none⟩) ms.length ms.length), (14, ptr v14), (15, ptr v15), (131, .int .i64 (ms.length : Nat)), (132, .int .i64 (i : Nat))])
        (fun i w' => i ≤ ms.length ∧ Hp w w' [Lb ob ((List.range i).map (fun i => A.getD i false || B.getD i false) ++ List.replicate (ms.length - i) false), Va v14 (.slice (some ⟨ab, 0, none⟩) ms.length ms.length), Va v15 (.slice (some ⟨bb, 0, none⟩) ms.length ms.length), Lb ab A, Lb bb B, Q2b b2 wOr f g, Lx bx a ms.length c lp]) (fun i => ms.length - i) 0 ⟨rfl, rfl, rfl, rfl, rfl, rfl⟩ ⟨Nat.zero_le _, hp8⟩ ?_
      clear hp8 hBo hBb
      rintro i w9 ⟨hi, hp9⟩
      repeat (first | refine zA ?_ | refine zB ?_ | refine zC rfl rfl rfl ?_ | refine zD ?_ | refine zE ?_ | refine zF ?_ | refine zG rfl ?_ | refine zH rfl ?_ | refine zI rfl rfl rfl ?_ | refine zJ rfl rfl ?_ | refine zK ?_ | refine zL ?_ | refine zM rfl ?_ | refine zN ?_)
      refine WC.cond rfl (fun h2 => ?_) (fun h2 => ?_)
      · have hi : i < ms.length := by have := of_decide_eq_true h2; omega
        have step := wrap_succ (i := i) (n := i + 1) (by omega) (by omega)
        repeat (first | refine zA ?_ | refine zB ?_ | refine zC rfl rfl rfl ?_ | refine zD ?_ | refine zE ?_ | refine zF ?_ | refine zG rfl ?_ | refine zH rfl ?_ | refine zI rfl rfl rfl ?_ | refine zJ rfl rfl ?_ | refine zK ?_ | refine zL ?_ | refine zM rfl ?_ | refine zN ?_)
        refine WL.loadB rfl rfl rfl rfl rfl (hp9.obj 1 rfl) (j := 0) rfl ?_
        repeat (first | refine zA ?_ | refine zB ?_ | refine zC rfl rfl rfl ?_ | refine zD ?_ | refine zE ?_ | refine zF ?_ | refine zG rfl ?_ | refine zH rfl ?_ | refine zI rfl rfl rfl ?_ | refine zJ rfl rfl ?_ | refine zK ?_ | refine zL ?_ | refine zM rfl ?_ | refine zN ?_)
        refine WL.ix1 rfl rfl rfl rfl rfl rfl rfl hi ?_
        refine WL.load rfl rfl rfl rfl rfl (lb_obj (hp9.pick [3] (by decide)) (by omega)) ?_
        have hfs := fill_set (fun i => A.getD i false || B.getD i false) false ms.length i hi
        cases hA : A.getD i false with
        | true =>
          simp only [hA, Bool.true_and, Bool.false_and, Bool.true_or, Bool.false_or] at hfs
          repeat (first | refine zA ?_ | refine zB ?_ | refine zC rfl rfl rfl ?_ | refine zD ?_ | refine zE ?_ | refine zF ?_ | refine zG rfl ?_ | refine zH rfl ?_ | refine zI rfl rfl rfl ?_ | refine zJ rfl rfl ?_ | refine zK ?_ | refine zL ?_ | refine zM rfl ?_ | refine zN ?_)
          refine WL.ix1 rfl rfl rfl rfl rfl rfl rfl hi ?_
          refine WL.store rfl rfl rfl rfl rfl rfl (hp9.obj 0 rfl) (by rw [List.size_toArray, bl_len, fill_len _ _ _ _ (by omega)]; omega) (fun w10 h10 => ?_)
          rw [Nat.zero_add, bl_set, hfs] at h10
          have hp10 := hp9.set 0 rfl rfl h10
          repeat (first | refine zA ?_ | refine zB ?_ | refine zC rfl rfl rfl ?_ | refine zD ?_ | refine zE ?_ | refine zF ?_ | refine zG rfl ?_ | refine zH rfl ?_ | refine zI rfl rfl rfl ?_ | refine zJ rfl rfl ?_ | refine zK ?_ | refine zL ?_ | refine zM rfl ?_ | refine zN ?_)
          exact ⟨i + 1, (by omega), ⟨rfl, rfl, rfl, rfl, congrArg (fun z => some (Value.int .i64 z)) step, rfl⟩, hi, hp10⟩
        | false =>
          simp only [hA, Bool.true_and, Bool.false_and, Bool.true_or, Bool.false_or] at hfs
          repeat (first | refine zA ?_ | refine zB ?_ | refine zC rfl rfl rfl ?_ | refine zD ?_ | refine zE ?_ | refine zF ?_ | refine zG rfl ?_ | refine zH rfl ?_ | refine zI rfl rfl rfl ?_ | refine zJ rfl rfl ?_ | refine zK ?_ | refine zL ?_ | refine zM rfl ?_ | refine zN ?_)
          refine WL.loadB rfl rfl rfl rfl rfl (hp9.obj 2 rfl) (j := 0) rfl ?_
          repeat (first | refine zA ?_ | refine zB ?_ | refine zC rfl rfl rfl ?_ | refine zD ?_ | refine zE ?_ | refine zF ?_ | refine zG rfl ?_ | refine zH rfl ?_ | refine zI rfl rfl rfl ?_ | refine zJ rfl rfl ?_ | refine zK ?_ | refine zL ?_ | refine zM rfl ?_ | refine zN ?_)
          refine WL.ix1 rfl rfl rfl rfl rfl rfl rfl hi ?_
          refine WL.load rfl rfl rfl rfl rfl (lb_obj (hp9.pick [4] (by decide)) (by omega)) ?_
          repeat (first | refine zA ?_ | refine zB ?_ | refine zC rfl rfl rfl ?_ | refine zD ?_ | refine zE ?_ | refine zF ?_ | refine zG rfl ?_ | refine zH rfl ?_ | refine zI rfl rfl rfl ?_ | refine zJ rfl rfl ?_ | refine zK ?_ | refine zL ?_ | refine zM rfl ?_ | refine zN ?_)
          refine WL.ix1 rfl rfl rfl rfl rfl rfl rfl hi ?_
          refine WL.store rfl rfl rfl rfl rfl rfl (hp9.obj 0 rfl) (by rw [List.size_toArray, bl_len, fill_len _ _ _ _ (by omega)]; omega) (fun w10 h10 => ?_)
          rw [Nat.zero_add, bl_set, hfs] at h10
          have hp10 := hp9.set 0 rfl rfl h10
          repeat (first | refine zA ?_ | refine zB ?_ | refine zC rfl rfl rfl ?_ | refine zD ?_ | refine zE ?_ | refine zF ?_ | refine zG rfl ?_ | refine zH rfl ?_ | refine zI rfl rfl rfl ?_ | refine zJ rfl rfl ?_ | refine zK ?_ | refine zL ?_ | refine zM rfl ?_ | refine zN ?_)
          exact ⟨i + 1, (by omega), ⟨rfl, rfl, rfl, rfl, congrArg (fun z => some (Value.int .i64 z)) step, rfl⟩, hi, hp10⟩
      · have hi : i = ms.length := by have := of_decide_eq_false h2; omega
        subst hi
        repeat (first | refine zA ?_ | refine zB ?_ | refine zC rfl rfl rfl ?_ | refine zD ?_ | refine zE ?_ | refine zF ?_ | refine zG rfl ?_ | refine zH rfl ?_ | refine zI rfl rfl rfl ?_ | refine zJ rfl rfl ?_ | refine zK ?_ | refine zL ?_ | refine zM rfl ?_ | refine zN ?_)
        refine Res.one rfl rfl rfl ⟨ob, rfl, ?_⟩
        rw [Nat.sub_self, List.replicate_zero, List.append_nil] at hp9
        exact hp9.pick [0] (by decide)
    · refine WL.sCmp (a := wUntil) (b := wAnd) rfl rfl rfl rfl rfl ?_
      repeat (first | refine zA ?_ | refine zB ?_ | refine zC rfl rfl rfl ?_ | refine zD ?_ | refine zE ?_ | refine zF ?_ | refine zG rfl ?_ | refine zH rfl ?_ | refine zI rfl rfl rfl ?_ | refine zJ rfl rfl ?_ | refine zK ?_ | refine zL ?_ | refine zM rfl ?_ | refine zN ?_)
      refine WL.sCmp (a := wUntil) (b := wOr) rfl rfl rfl rfl rfl ?_
      repeat (first | refine zA ?_ | refine zB ?_ | refine zC rfl rfl rfl ?_ | refine zD ?_ | refine zE ?_ | refine zF ?_ | refine zG rfl ?_ | refine zH rfl ?_ | refine zI rfl rfl rfl ?_ | refine zJ rfl rfl ?_ | refine zK ?_ | refine zL ?_ | refine zM rfl ?_ | refine zN ?_)
      refine WL.sCmp (a := wUntil) (b := wUntil) rfl rfl rfl rfl rfl ?_
      repeat (first | refine zA ?_ | refine zB ?_ | refine zC rfl rfl rfl ?_ | refine zD ?_ | refine zE ?_ | refine zF ?_ | refine zG rfl ?_ | refine zH rfl ?_ | refine zI rfl rfl rfl ?_ | refine zJ rfl rfl ?_ | refine zK ?_ | refine zL ?_ | refine zM rfl ?_ | refine zN ?_)
      refine WL.loadN rfl rfl rfl rfl rfl (cs := [.slice a ms.length c, .int .i64 (lp : Nat)]) rfl (fun q v hq => cell_of_obj (hp8.obj 6 rfl) (by rw [Nat.zero_add]; simpa using hq)) ?_
      repeat (first | refine zA ?_ | refine zB ?_ | refine zC rfl rfl rfl ?_ | refine zD ?_ | refine zE ?_ | refine zF ?_ | refine zG rfl ?_ | refine zH rfl ?_ | refine zI rfl rfl rfl ?_ | refine zJ rfl rfl ?_ | refine zK ?_ | refine zL ?_ | refine zM rfl ?_ | refine zN ?_)
      refine WL.call rfl rfl rfl rfl rfl ent78 (repeat_any a ms.length c lp hn hlp false (fi := []) (ca := [ptr v15, ptr v14]) ent81 (fun i x => B.getD i false || (A.getD i false && x)) w8 (fun i x w' hi h' => c3_any (hBo.below h'.below) (hBb.below h'.below) i hi x)) ?_
      rintro v w9 ⟨rb, rfl, hp9⟩
      repeat (first | refine zA ?_ | refine zB ?_ | refine zC rfl rfl rfl ?_ | refine zD ?_ | refine zE ?_ | refine zF ?_ | refine zG rfl ?_ | refine zH rfl ?_ | refine zI rfl rfl rfl ?_ | refine zJ rfl rfl ?_ | refine zK ?_ | refine zL ?_ | refine zM rfl ?_ | refine zN ?_)
      exact Res.one rfl rfl rfl ⟨rb, rfl, (hp8.comb hp9).pick [0] (by decide)⟩
    · refine WL.sCmp (a := wRelease) (b := wAnd) rfl rfl rfl rfl rfl ?_
      repeat (first | refine zA ?_ | refine zB ?_ | refine zC rfl rfl rfl ?_ | refine zD ?_ | refine zE ?_ | refine zF ?_ | refine zG rfl ?_ | refine zH rfl ?_ | refine zI rfl rfl rfl ?_ | refine zJ rfl rfl ?_ | refine zK ?_ | refine zL ?_ | refine zM rfl ?_ | refine zN ?_)
      refine WL.sCmp (a := wRelease) (b := wOr) rfl rfl rfl rfl rfl ?_
      repeat (first | refine zA ?_ | refine zB ?_ | refine zC rfl rfl rfl ?_ | refine zD ?_ | refine zE ?_ | refine zF ?_ | refine zG rfl ?_ | refine zH rfl ?_ | refine zI rfl rfl rfl ?_ | refine zJ rfl rfl ?_ | refine zK ?_ | refine zL ?_ | refine zM rfl ?_ | refine zN ?_)
      refine WL.sCmp (a := wRelease) (b := wUntil) rfl rfl rfl rfl rfl ?_
      repeat (first | refine zA ?_ | refine zB ?_ | refine zC rfl rfl rfl ?_ | refine zD ?_ | refine zE ?_ | refine zF ?_ | refine zG rfl ?_ | refine zH rfl ?_ | refine zI rfl rfl rfl ?_ | refine zJ rfl rfl ?_ | refine zK ?_ | refine zL ?_ | refine zM rfl ?_ | refine zN ?_)
      refine WL.sCmp (a := wRelease) (b := wRelease) rfl rfl rfl rfl rfl ?_
      repeat (first | refine zA ?_ | refine zB ?_ | refine zC rfl rfl rfl ?_ | refine zD ?_ | refine zE ?_ | refine zF ?_ | refine zG rfl ?_ | refine zH rfl ?_ | refine zI rfl rfl rfl ?_ | refine zJ rfl rfl ?_ | refine zK ?_ | refine zL ?_ | refine zM rfl ?_ | refine zN ?_)
      refine WL.loadN rfl rfl rfl rfl rfl (cs := [.slice a ms.length c, .int .i64 (lp : Nat)]) rfl (fun q v hq => cell_of_obj (hp8.obj 6 rfl) (by rw [Nat.zero_add]; simpa using hq)) ?_
      repeat (first | refine zA ?_ | refine zB ?_ | refine zC rfl rfl rfl ?_ | refine zD ?_ | refine zE ?_ | refine zF ?_ | refine zG rfl ?_ | refine zH rfl ?_ | refine zI rfl rfl rfl ?_ | refine zJ rfl rfl ?_ | refine zK ?_ | refine zL ?_ | refine zM rfl ?_ | refine zN ?_)
      refine WL.call rfl rfl rfl rfl rfl ent78 (repeat_any a ms.length c lp hn hlp true (fi := []) (ca := [ptr v15, ptr v14]) ent82 (fun i x => B.getD i false && (A.getD i false || x)) w8 (fun i x w' hi h' => c4_any (hBo.below h'.below) (hBb.below h'.below) i hi x)) ?_
      rintro v w9 ⟨rb, rfl, hp9⟩
      repeat (first | refine zA ?_ | refine zB ?_ | refine zC rfl rfl rfl ?_ | refine zD ?_ | refine zE ?_ | refine zF ?_ | refine zG rfl ?_ | refine zH rfl ?_ | refine zI rfl rfl rfl ?_ | refine zJ rfl rfl ?_ | refine zK ?_ | refine zL ?_ | refine zM rfl ?_ | refine zN ?_)
      exact Res.one rfl rfl rfl ⟨rb, rfl, (hp8.comb hp9).pick [0] (by decide)⟩
end
theorem values_any (a : Option Addr) (c : Nat) (ms : List Int) (lp : Nat) (hn : ms.length ≤ 1000000) (hlp : lp < ms.length) (hm : ∀ m ∈ ms, 0 ≤ m ∧ m ≤ 15) : ∀ (f : Fm), wfF f → ∀ (w : World), Sl w a (zs ms) →
    Ret Tryd.prog 49 [lsV a ms.length c lp, fmV f] w (VaQ ms.length (valsM ms lp f) w) := by
  intro f
  induction f with
  | at_ s => intro h w hsl; exact values_at a c ms lp hn hm s h w hsl
  | on_ s f ih => intro h w hsl; exact values_on a c ms lp hn hlp s f h.1 w hsl (valsM ms lp f) (valsM_len ms lp f) (ih h.2)
  | tw_ s f g ihf ihg => intro h w hsl; exact values_tw a c ms lp hn hlp s f g h.1 w hsl (valsM ms lp f) (valsM ms lp g) (valsM_len ms lp f) (valsM_len ms lp g) (ihf h.2.1) (ihg h.2.2)
end Go.Proofs.YtpbbneclkhfgoaaDoor
end
section
/- ltl, thirteenth: Value. -/
namespace Go.Ltl
open Go.W
theorem prsN_wf : ∀ (n : Nat) (l : List Str) (k : Nat) (f : Fm) (l' : List Str) (k' : Nat), prsN n l k = some (f, l', k') → wfF f := by
  intro n
  induction n with
  | zero => intro l k f l' k' h; cases h
  | succ n ih =>
    intro l k f l' k' h
    cases l with
    | nil => cases h
    | cons s l =>
      by_cases hs : s = [40]
      · subst hs
        cases l with
        | nil => cases h
        | cons s l =>
          by_cases hk : 12 < k + 1
          · rw [prsN_pb _ _ _ _ hk] at h; cases h
          · by_cases h1 : s ∈ onesL
            · rw [prsN_on _ _ _ _ (by omega) h1] at h
              cases hq : prsN n l (k + 1) with
              | none => rw [hq] at h; cases h
              | some r =>
                obtain ⟨f1, l1, k1⟩ := r
                have i1 := ih _ _ _ _ _ hq
                rw [hq] at h
                have h : finF (.on_ s f1) k1 l1 = some (f, l', k') := h
                unfold finF at h
                split at h
                · simp only [Option.some.injEq, Prod.mk.injEq] at h
                  obtain ⟨rfl, rfl, rfl⟩ := h
                  exact ⟨h1, i1⟩
                · cases h
            · by_cases h2 : s ∈ twosL
              · rw [prsN_tw _ _ _ _ (by omega) h1 h2] at h
                cases hq : prsN n l (k + 1) with
                | none => rw [hq] at h; cases h
                | some r =>
                  obtain ⟨f1, l1, k1⟩ := r
                  have i1 := ih _ _ _ _ _ hq
                  simp only [hq] at h
                  cases hq2 : prsN n l1 k1 with
                  | none => rw [hq2] at h; cases h
                  | some r =>
                    obtain ⟨f2, l2, k2⟩ := r
                    have j1 := ih _ _ _ _ _ hq2
                    rw [hq2] at h
                    have h : finF (.tw_ s f1 f2) k2 l2 = some (f, l', k') := h
                    unfold finF at h
                    split at h
                    · simp only [Option.some.injEq, Prod.mk.injEq] at h
                      obtain ⟨rfl, rfl, rfl⟩ := h
                      exact ⟨h2, i1, j1⟩
                    · cases h
              · rw [prsN_un _ _ _ _ h1 h2] at h; cases h
      · by_cases hk : 12 < k + 1
        · rw [prsN_big _ _ _ _ hs hk] at h; cases h
        · rw [prsN_at _ _ _ _ hs (by omega)] at h
          by_cases h1 : s ∈ atomsL
          · rw [if_pos h1] at h
            simp only [Option.some.injEq, Prod.mk.injEq] at h
            obtain ⟨rfl, rfl, rfl⟩ := h
            exact h1
          · rw [if_neg h1] at h; cases h
theorem parseM_wf {s : Str} {f : Fm} (h : parseM s = some f) : wfF f := by
  unfold parseM at h
  split at h
  · rename_i f' k hq
    simp only [Option.some.injEq] at h
    subst h
    exact prsN_wf _ _ _ _ _ _ hq
  · cases h
end Go.Ltl
namespace Go.Proofs.YtpbbneclkhfgoaaDoor
open Go.W Go.Ltl Go.RowKit
set_option maxRecDepth 100000
attribute [local irreducible] WC WL WQ WS WH

/-- What Value gives. -/
def ValueM (l1 l2 : List Int) (s : Str) : Bool × Int :=
  if lassoB l1.length l2.length = true ∧ (l1 ++ l2).any (fun z => !markB z) = false then match parseM s with
    | some f => ((valsM (l1 ++ l2) l1.length f).getD 0 false, 0)
    | none => (false, 4)
  else (false, 2)
theorem Value_any (a1 a2 : Option Addr) (c1 c2 : Nat) (l1 l2 : List Int) (s : Str) (hs : s.length ≤ 2000) (hl : l1.length + l2.length ≤ 1000000) (w : World) (hG : Gl w) (hs1 : Sl w a1 (zs l1)) (hs2 : Sl w a2 (zs l2)) :
    Ret Tryd.prog 17 [.slice a1 l1.length c1, .slice a2 l2.length c2, st s] w fun v w' => v = .tuple #[.bool (ValueM l1 l2 s).1, .int .i64 (ValueM l1 l2 s).2] ∧ Hp w w' [] := by
  have hcat : catL [(a1, c1, l1), (a2, c2, l2)] = l1 ++ l2 := by simp [catL]
  refine enter Tryd.func17 rfl rfl ⟨rfl, rfl⟩ rfl ?_
  repeat (first | refine zA ?_ | refine zB ?_ | refine zC rfl rfl rfl ?_ | refine zD ?_ | refine zE ?_ | refine zF ?_ | refine zG rfl ?_ | refine zH rfl ?_ | refine zI rfl rfl rfl ?_ | refine zJ rfl rfl ?_ | refine zK ?_ | refine zL ?_ | refine zM rfl ?_ | refine zN ?_)
  refine WL.buildS (cs := catV [(a1, c1, l1), (a2, c2, l2)]) rfl rfl rfl rfl rfl rfl rfl rfl rfl ?_
  intro b w1 hb
  have hp1 := (Hp.start w).new hb
  have hC := Concat_any (some ⟨b, 0, none⟩) 2 [(a1, c1, l1), (a2, c2, l2)] (by show 2 ≤ 1000; omega) (by rw [hcat, List.length_append]; exact hl) w1 (Sl.of_obj (hp1.obj 0 rfl) (fun q u hq => by simpa using hq))
    (by
      intro x hx
      simp only [List.mem_cons, List.not_mem_nil, or_false] at hx
      rcases hx with rfl | rfl
      · exact hs1.hp hp1
      · exact hs2.hp hp1)
  rw [hcat] at hC
  refine WL.call rfl rfl rfl rfl rfl ent43 hC ?_
  rintro v w2 ⟨pa, pc, rfl, hp2⟩
  have hp2 := hp1.comb hp2
  have hsl2 : Sl w2 pa (zs (l1 ++ l2)) := Sl.of_row (hp2.at 0 rfl)
  repeat (first | refine zA ?_ | refine zB ?_ | refine zC rfl rfl rfl ?_ | refine zD ?_ | refine zE ?_ | refine zF ?_ | refine zG rfl ?_ | refine zH rfl ?_ | refine zI rfl rfl rfl ?_ | refine zJ rfl rfl ?_ | refine zK ?_ | refine zL ?_ | refine zM rfl ?_ | refine zN ?_)
  refine WL.buildT rfl rfl rfl rfl rfl rfl ?_
  refine WL.alloc rfl rfl rfl (fun lb w3 h3 => ?_)
  have hp3 := hp2.new h3
  refine WL.storeN rfl rfl rfl rfl rfl (by simp [Value.oneCell']) (hp3.obj 0 rfl) (Nat.le_refl _) rfl (fun w4 h4 => ?_)
  have hp4 : Hp w w4 [Lx lb pa (l1 ++ l2).length pc l1.length] := (hp3.set 0 rfl rfl h4).pick [0] (by decide)
  have hsl4 : Sl w4 pa (zs (l1 ++ l2)) := Sl.of_row ((hp3.set 0 rfl rfl h4).at 1 rfl)
  have hlen : (l1 ++ l2).length ≤ 1000000 := by rw [List.length_append]; exact hl
  repeat (first | refine zA ?_ | refine zB ?_ | refine zC rfl rfl rfl ?_ | refine zD ?_ | refine zE ?_ | refine zF ?_ | refine zG rfl ?_ | refine zH rfl ?_ | refine zI rfl rfl rfl ?_ | refine zJ rfl rfl ?_ | refine zK ?_ | refine zL ?_ | refine zM rfl ?_ | refine zN ?_)
  refine WL.call rfl rfl rfl rfl rfl ent44 (isLasso_any a1 a2 l1.length c1 l2.length c2 w4) ?_
  rintro v w5 ⟨rfl, rfl⟩
  repeat (first | refine zA ?_ | refine zB ?_ | refine zC rfl rfl rfl ?_ | refine zD ?_ | refine zE ?_ | refine zF ?_ | refine zG rfl ?_ | refine zH rfl ?_ | refine zI rfl rfl rfl ?_ | refine zJ rfl rfl ?_ | refine zK ?_ | refine zL ?_ | refine zM rfl ?_ | refine zN ?_)
  cases hlb : lassoB l1.length l2.length with
  | false =>
    have e1 : ValueM l1 l2 s = (false, 2) := by unfold ValueM; rw [if_neg (by rw [hlb]; simp)]
    rw [e1]
    repeat (first | refine zA ?_ | refine zB ?_ | refine zC rfl rfl rfl ?_ | refine zD ?_ | refine zE ?_ | refine zF ?_ | refine zG rfl ?_ | refine zH rfl ?_ | refine zI rfl rfl rfl ?_ | refine zJ rfl rfl ?_ | refine zK ?_ | refine zL ?_ | refine zM rfl ?_ | refine zN ?_)
    exact Res.two rfl rfl rfl rfl ⟨rfl, hp4.nil'⟩
  | true =>
    repeat (first | refine zA ?_ | refine zB ?_ | refine zC rfl rfl rfl ?_ | refine zD ?_ | refine zE ?_ | refine zF ?_ | refine zG rfl ?_ | refine zH rfl ?_ | refine zI rfl rfl rfl ?_ | refine zJ rfl rfl ?_ | refine zK ?_ | refine zL ?_ | refine zM rfl ?_ | refine zN ?_)
    refine WL.loadB rfl rfl rfl rfl rfl (hp4.obj 0 rfl) (j := 0) rfl ?_
    refine WL.call rfl rfl rfl rfl rfl ent45 (ContainsFunc_any pa pc (l1 ++ l2) hlen ent46 (fun z => !markB z) value1_any w5 hsl4) ?_
    rintro v w6 ⟨rfl, rfl⟩
    cases hmk : (l1 ++ l2).any (fun z => !markB z) with
    | true =>
      have e1 : ValueM l1 l2 s = (false, 2) := by unfold ValueM; rw [if_neg (by rw [hmk]; simp)]
      rw [e1]
      repeat (first | refine zA ?_ | refine zB ?_ | refine zC rfl rfl rfl ?_ | refine zD ?_ | refine zE ?_ | refine zF ?_ | refine zG rfl ?_ | refine zH rfl ?_ | refine zI rfl rfl rfl ?_ | refine zJ rfl rfl ?_ | refine zK ?_ | refine zL ?_ | refine zM rfl ?_ | refine zN ?_)
      exact Res.two rfl rfl rfl rfl ⟨rfl, hp4.nil'⟩
    | false =>
      repeat (first | refine zA ?_ | refine zB ?_ | refine zC rfl rfl rfl ?_ | refine zD ?_ | refine zE ?_ | refine zF ?_ | refine zG rfl ?_ | refine zH rfl ?_ | refine zI rfl rfl rfl ?_ | refine zJ rfl rfl ?_ | refine zK ?_ | refine zL ?_ | refine zM rfl ?_ | refine zN ?_)
      refine WL.call rfl rfl rfl rfl rfl ent48 (parse_any s hs w6 (hG.hp hp4)) ?_
      rintro v w7 ⟨⟨f, hf, rfl⟩ | ⟨hf, x, rfl⟩, hp7⟩
      · have hp8 := hp4.comb hp7
        have e1 : ValueM l1 l2 s = ((valsM (l1 ++ l2) l1.length f).getD 0 false, 0) := by unfold ValueM; rw [if_pos ⟨hlb, hmk⟩, hf]
        rw [e1]
        have hm : ∀ m ∈ l1 ++ l2, 0 ≤ m ∧ m ≤ 15 := by
          intro m hm
          have := List.any_eq_false.1 hmk m hm
          simpa [markB] using this
        have hlp : l1.length < (l1 ++ l2).length := by
          simp only [lassoB, Bool.and_eq_true, decide_eq_true_eq] at hlb
          rw [List.length_append]; omega
        repeat (first | refine zA ?_ | refine zB ?_ | refine zC rfl rfl rfl ?_ | refine zD ?_ | refine zE ?_ | refine zF ?_ | refine zG rfl ?_ | refine zH rfl ?_ | refine zI rfl rfl rfl ?_ | refine zJ rfl rfl ?_ | refine zK ?_ | refine zL ?_ | refine zM rfl ?_ | refine zN ?_)
        refine WL.loadN rfl rfl rfl rfl rfl (cs := [.slice pa (l1 ++ l2).length pc, .int .i64 (l1.length : Nat)]) rfl (fun q v hq => cell_of_obj (hp8.obj 0 rfl) (by rw [Nat.zero_add]; simpa using hq)) ?_
        repeat (first | refine zA ?_ | refine zB ?_ | refine zC rfl rfl rfl ?_ | refine zD ?_ | refine zE ?_ | refine zF ?_ | refine zG rfl ?_ | refine zH rfl ?_ | refine zI rfl rfl rfl ?_ | refine zJ rfl rfl ?_ | refine zK ?_ | refine zL ?_ | refine zM rfl ?_ | refine zN ?_)
        refine WL.call rfl rfl rfl rfl rfl ent49 (values_any pa pc (l1 ++ l2) l1.length hlen hlp hm f (parseM_wf hf) w7 (hsl4.hp hp7)) ?_
        rintro v w9 ⟨vb, rfl, hp9⟩
        refine WL.ix1 (j := 0) rfl rfl rfl rfl rfl rfl rfl (by omega) ?_
        refine WL.load rfl rfl rfl rfl rfl (lb_obj hp9 (by rw [valsM_len]; omega)) ?_
        repeat (first | refine zA ?_ | refine zB ?_ | refine zC rfl rfl rfl ?_ | refine zD ?_ | refine zE ?_ | refine zF ?_ | refine zG rfl ?_ | refine zH rfl ?_ | refine zI rfl rfl rfl ?_ | refine zJ rfl rfl ?_ | refine zK ?_ | refine zL ?_ | refine zM rfl ?_ | refine zN ?_)
        exact Res.two rfl rfl rfl rfl ⟨rfl, (hp8.comb hp9).nil'⟩
      · have e1 : ValueM l1 l2 s = (false, 4) := by unfold ValueM; rw [if_pos ⟨hlb, hmk⟩, hf]
        rw [e1]
        repeat (first | refine zA ?_ | refine zB ?_ | refine zC rfl rfl rfl ?_ | refine zD ?_ | refine zE ?_ | refine zF ?_ | refine zG rfl ?_ | refine zH rfl ?_ | refine zI rfl rfl rfl ?_ | refine zJ rfl rfl ?_ | refine zK ?_ | refine zL ?_ | refine zM rfl ?_ | refine zN ?_)
        exact Res.two rfl rfl rfl rfl ⟨rfl, (hp4.comb hp7).nil'⟩
end Go.Proofs.YtpbbneclkhfgoaaDoor
end
section
/- ltl, fourteenth: isStructure. -/
namespace Go.W
open Go.RowKit
/-- A structure that is read. -/
structure Stc (w : World) (an am : Option Addr) (vs : Go.Proofs.YtpbbneclkhfgoaaDoor.Vs) (ms : List Int) : Prop where
  nx : Sl w an (Go.Proofs.YtpbbneclkhfgoaaDoor.catV vs)
  rows : ∀ x ∈ vs, Sl w x.1 (zs x.2.2)
  mks : Sl w am (zs ms)
theorem Stc.below {w w' : World} {an am : Option Addr} {vs : Go.Proofs.YtpbbneclkhfgoaaDoor.Vs} {ms : List Int} (h : Stc w an am vs ms) (hb : Below w.heap.size w w') : Stc w' an am vs ms :=
  ⟨h.nx.below hb, fun x hx => (h.rows x hx).below hb, h.mks.below hb⟩
theorem Stc.hp {w0 w : World} {L : List Ent} {an am : Option Addr} {vs : Go.Proofs.YtpbbneclkhfgoaaDoor.Vs} {ms : List Int} (h : Stc w0 an am vs ms) (hp : Hp w0 w L) : Stc w an am vs ms := h.below hp.below
end Go.W
namespace Go.Proofs.YtpbbneclkhfgoaaDoor
open Go.W Go.Ltl Go.RowKit
set_option maxRecDepth 100000
attribute [local irreducible] WC WL WQ WS WH

abbrev stV (an : Option Addr) (cn : Nat) (am : Option Addr) (cm : Nat) (vs : Vs) (ms : List Int) : Value := .agg #[.slice an vs.length cn, .slice am ms.length cm]
abbrev Sb (b : Nat) (an : Option Addr) (cn : Nat) (am : Option Addr) (cm : Nat) (vs : Vs) (ms : List Int) : Ent := .blk b (.cells #[.slice an vs.length cn, .slice am ms.length cm] 44 (0, 0))
/-- Is a successor in its place. -/
def sucB (n : Nat) (l : List Int) (i : Nat) : Bool := decide (0 ≤ l.getD i 0) && decide (l.getD i 0 < (n : Int)) && (decide (i = 0) || decide (l.getD (i - 1) 0 < l.getD i 0))
def rowB (n : Nat) (l : List Int) : Bool := decide (l ≠ []) && (List.range l.length).all (sucB n l)
def strB (vs : Vs) (ms : List Int) : Bool := decide (1 ≤ vs.length) && decide (vs.length ≤ 16) && decide (ms.length = vs.length) && ms.all markB && vs.all fun x => rowB vs.length x.2.2
theorem catV_at {vs : Vs} {i : Nat} (hi : i < vs.length) : (catV vs)[i]? = some (.slice vs[i].1 vs[i].2.2.length vs[i].2.1) := by
  unfold catV
  rw [List.getElem?_map, List.getElem?_eq_getElem hi]
  rfl
theorem isStructure_any (an : Option Addr) (cn : Nat) (am : Option Addr) (cm : Nat) (vs : Vs) (ms : List Int) (hms : ms.length ≤ 1000000) (hvs : ∀ x ∈ vs, x.2.2.length ≤ 1000000) (w : World) (hst : Stc w an am vs ms) :
    Ret Tryd.prog 56 [stV an cn am cm vs ms] w fun v w' => v = .bool (strB vs ms) ∧ Hp w w' [] := by
  refine enter Tryd.func56 rfl rfl ⟨rfl, rfl⟩ rfl ?_
  repeat (first | refine zA ?_ | refine zB ?_ | refine zC rfl rfl rfl ?_ | refine zD ?_ | refine zE ?_ | refine zF ?_ | refine zG rfl ?_ | refine zH rfl ?_ | refine zI rfl rfl rfl ?_ | refine zJ rfl rfl ?_ | refine zK ?_ | refine zL ?_ | refine zM rfl ?_ | refine zN ?_)
  refine WL.box rfl rfl rfl (fun b w1 h1 => ?_)
  have hp1 : Hp w w1 [Sb b an cn am cm vs ms] := (Hp.start w).new h1
  repeat (first | refine zA ?_ | refine zB ?_ | refine zC rfl rfl rfl ?_ | refine zD ?_ | refine zE ?_ | refine zF ?_ | refine zG rfl ?_ | refine zH rfl ?_ | refine zI rfl rfl rfl ?_ | refine zJ rfl rfl ?_ | refine zK ?_ | refine zL ?_ | refine zM rfl ?_ | refine zN ?_)
  refine WL.loadB rfl rfl rfl rfl rfl (hp1.obj 0 rfl) (j := 0) rfl ?_
  repeat (first | refine zA ?_ | refine zB ?_ | refine zC rfl rfl rfl ?_ | refine zD ?_ | refine zE ?_ | refine zF ?_ | refine zG rfl ?_ | refine zH rfl ?_ | refine zI rfl rfl rfl ?_ | refine zJ rfl rfl ?_ | refine zK ?_ | refine zL ?_ | refine zM rfl ?_ | refine zN ?_)
  refine WL.split 13 rfl (fun c1 => ?_) (fun c1 => ?_)
  · have c1 : ¬ 1 ≤ vs.length := by have := of_decide_eq_true c1; omega
    have e1 : strB vs ms = false := by unfold strB; rw [decide_eq_false c1]; rfl
    rw [e1]
    repeat (first | refine zA ?_ | refine zB ?_ | refine zC rfl rfl rfl ?_ | refine zD ?_ | refine zE ?_ | refine zF ?_ | refine zG rfl ?_ | refine zH rfl ?_ | refine zI rfl rfl rfl ?_ | refine zJ rfl rfl ?_ | refine zK ?_ | refine zL ?_ | refine zM rfl ?_ | refine zN ?_)
    exact Res.one rfl rfl rfl ⟨rfl, hp1.nil'⟩
  have c1 : 1 ≤ vs.length := by have := of_decide_eq_false c1; omega
  repeat (first | refine zA ?_ | refine zB ?_ | refine zC rfl rfl rfl ?_ | refine zD ?_ | refine zE ?_ | refine zF ?_ | refine zG rfl ?_ | refine zH rfl ?_ | refine zI rfl rfl rfl ?_ | refine zJ rfl rfl ?_ | refine zK ?_ | refine zL ?_ | refine zM rfl ?_ | refine zN ?_)
  refine WL.split 17 rfl (fun c2 => ?_) (fun c2 => ?_)
  · have c2 : ¬ vs.length ≤ 16 := by have := of_decide_eq_true c2; omega
    have e1 : strB vs ms = false := by unfold strB; rw [decide_eq_false c2, Bool.and_false]; rfl
    rw [e1]
    repeat (first | refine zA ?_ | refine zB ?_ | refine zC rfl rfl rfl ?_ | refine zD ?_ | refine zE ?_ | refine zF ?_ | refine zG rfl ?_ | refine zH rfl ?_ | refine zI rfl rfl rfl ?_ | refine zJ rfl rfl ?_ | refine zK ?_ | refine zL ?_ | refine zM rfl ?_ | refine zN ?_)
    exact Res.one rfl rfl rfl ⟨rfl, hp1.nil'⟩
  have c2 : vs.length ≤ 16 := by have := of_decide_eq_false c2; omega
  repeat (first | refine zA ?_ | refine zB ?_ | refine zC rfl rfl rfl ?_ | refine zD ?_ | refine zE ?_ | refine zF ?_ | refine zG rfl ?_ | refine zH rfl ?_ | refine zI rfl rfl rfl ?_ | refine zJ rfl rfl ?_ | refine zK ?_ | refine zL ?_ | refine zM rfl ?_ | refine zN ?_)
  refine WL.loadB rfl rfl rfl rfl rfl (hp1.obj 0 rfl) (j := 1) rfl ?_
  repeat (first | refine zA ?_ | refine zB ?_ | refine zC rfl rfl rfl ?_ | refine zD ?_ | refine zE ?_ | refine zF ?_ | refine zG rfl ?_ | refine zH rfl ?_ | refine zI rfl rfl rfl ?_ | refine zJ rfl rfl ?_ | refine zK ?_ | refine zL ?_ | refine zM rfl ?_ | refine zN ?_)
  cases c3 : decide (ms.length = vs.length) with
  | false =>
    have hne : ms.length ≠ vs.length := of_decide_eq_false c3
    have e1 : strB vs ms = false := by unfold strB; rw [c3, Bool.and_false]; rfl
    have e2 : (!((ms.length : Int) == (vs.length : Int))) = true := by simpa using fun h => hne (by omega)
    rw [e1]
    refine WL.known (d := 24) (congrArg (fun z => some (Value.bool z)) e2) ?_
    repeat (first | refine zA ?_ | refine zB ?_ | refine zC rfl rfl rfl ?_ | refine zD ?_ | refine zE ?_ | refine zF ?_ | refine zG rfl ?_ | refine zH rfl ?_ | refine zI rfl rfl rfl ?_ | refine zJ rfl rfl ?_ | refine zK ?_ | refine zL ?_ | refine zM rfl ?_ | refine zN ?_)
    exact Res.one rfl rfl rfl ⟨rfl, hp1.nil'⟩
  | true =>
    have heq : ms.length = vs.length := of_decide_eq_true c3
    have e2 : (!((ms.length : Int) == (vs.length : Int))) = false := by simp [heq]
    refine WL.known (d := 24) (congrArg (fun z => some (Value.bool z)) e2) ?_
    repeat (first | refine zA ?_ | refine zB ?_ | refine zC rfl rfl rfl ?_ | refine zD ?_ | refine zE ?_ | refine zF ?_ | refine zG rfl ?_ | refine zH rfl ?_ | refine zI rfl rfl rfl ?_ | refine zJ rfl rfl ?_ | refine zK ?_ | refine zL ?_ | refine zM rfl ?_ | refine zN ?_)
    refine WL.loadB rfl rfl rfl rfl rfl (hp1.obj 0 rfl) (j := 1) rfl ?_
    refine WL.call rfl rfl rfl rfl rfl ent45 (ContainsFunc_any am cm ms hms ent84 (fun z => !markB z) struct1_any w1 (hst.hp hp1).mks) ?_
    rintro v w2 ⟨rfl, rfl⟩
    cases c4 : ms.any (fun z => !markB z) with
    | true =>
      have e1 : strB vs ms = false := by
        have : ms.all markB = false := by
          rw [List.all_eq_not_any_not, c4]; rfl
        unfold strB
        rw [this, Bool.and_false]; rfl
      rw [e1]
      repeat (first | refine zA ?_ | refine zB ?_ | refine zC rfl rfl rfl ?_ | refine zD ?_ | refine zE ?_ | refine zF ?_ | refine zG rfl ?_ | refine zH rfl ?_ | refine zI rfl rfl rfl ?_ | refine zJ rfl rfl ?_ | refine zK ?_ | refine zL ?_ | refine zM rfl ?_ | refine zN ?_)
      exact Res.one rfl rfl rfl ⟨rfl, hp1.nil'⟩
    | false =>
      have e1 : strB vs ms = vs.all fun x => rowB vs.length x.2.2 := by
        have : ms.all markB = true := by
          rw [List.all_eq_not_any_not, c4]; rfl
        unfold strB
        rw [this, c3, decide_eq_true c1, decide_eq_true c2]; rfl
      rw [e1]
      repeat (first | refine zA ?_ | refine zB ?_ | refine zC rfl rfl rfl ?_ | refine zD ?_ | refine zE ?_ | refine zF ?_ | refine zG rfl ?_ | refine zH rfl ?_ | refine zI rfl rfl rfl ?_ | refine zJ rfl rfl ?_ | refine zK ?_ | refine zL ?_ | refine zM rfl ?_ | refine zN ?_)
      refine WL.loadB rfl rfl rfl rfl rfl (hp1.obj 0 rfl) (j := 0) rfl ?_
      repeat (first | refine zA ?_ | refine zB ?_ | refine zC rfl rfl rfl ?_ | refine zD ?_ | refine zE ?_ | refine zF ?_ | refine zG rfl ?_ | refine zH rfl ?_ | refine zI rfl rfl rfl ?_ | refine zJ rfl rfl ?_ | refine zK ?_ | refine zL ?_ | refine zM rfl ?_ | refine zN ?_)
      refine WC.loop Nat (fun i => [(3, .int .i64 (vs.length : Nat)), (30, .slice an vs.length cn), (31, .int .i64 (vs.length : Nat)), (32, .int .i64 (i : Nat))])
        (fun i w' => i ≤ vs.length ∧ ((vs.take i).all fun x => rowB vs.length x.2.2) = true ∧ w' = w2) (fun i => vs.length - i) 0 ⟨rfl, rfl, rfl, rfl, rfl⟩ ⟨Nat.zero_le _, by simp, rfl⟩ ?_
      rintro i w3 ⟨hi, hall, rfl⟩
      repeat (first | refine zA ?_ | refine zB ?_ | refine zC rfl rfl rfl ?_ | refine zD ?_ | refine zE ?_ | refine zF ?_ | refine zG rfl ?_ | refine zH rfl ?_ | refine zI rfl rfl rfl ?_ | refine zJ rfl rfl ?_ | refine zK ?_ | refine zL ?_ | refine zM rfl ?_ | refine zN ?_)
      refine WC.cond rfl (fun h2 => ?_) (fun h2 => ?_)
      · have hi : i < vs.length := by have := of_decide_eq_true h2; omega
        have step := wrap_succ (i := i) (n := i + 1) (by omega) (by omega)
        have hsl := (hst.hp hp1).rows _ (List.getElem_mem hi)
        have hlen := hvs _ (List.getElem_mem hi)
        have hbad : rowB vs.length vs[i].2.2 = false → (vs.all fun x => rowB vs.length x.2.2) = false := fun h => List.all_eq_false.2 ⟨_, List.getElem_mem hi, by rw [h]; simp⟩
        repeat (first | refine zA ?_ | refine zB ?_ | refine zC rfl rfl rfl ?_ | refine zD ?_ | refine zE ?_ | refine zF ?_ | refine zG rfl ?_ | refine zH rfl ?_ | refine zI rfl rfl rfl ?_ | refine zJ rfl rfl ?_ | refine zK ?_ | refine zL ?_ | refine zM rfl ?_ | refine zN ?_)
        refine WL.ixload rfl (fun _ => rfl) rfl rfl rfl rfl rfl rfl rfl hi rfl rfl (hst.hp hp1).nx (catV_at hi) ?_
        intro q
        have htk : (vs.take (i + 1)).all (fun x => rowB vs.length x.2.2) = rowB vs.length vs[i].2.2 := by
          rw [List.take_succ_eq_append_getElem hi, List.all_append, hall, Bool.true_and, List.all_cons, List.all_nil, Bool.and_true]
        obtain ⟨x, hx⟩ : ∃ x, x = vs[i] := ⟨_, rfl⟩
        rw [← hx] at hsl hlen hbad htk ⊢
        clear hx
        obtain ⟨ra, rc, l⟩ := x
        replace hsl : Sl w3 ra (zs l) := hsl
        replace hlen : l.length ≤ 1000000 := hlen
        replace hbad : rowB vs.length l = false → (vs.all fun x => rowB vs.length x.2.2) = false := hbad
        replace htk : (vs.take (i + 1)).all (fun x => rowB vs.length x.2.2) = rowB vs.length l := htk
        repeat (first | refine zA ?_ | refine zB ?_ | refine zC rfl rfl rfl ?_ | refine zD ?_ | refine zE ?_ | refine zF ?_ | refine zG rfl ?_ | refine zH rfl ?_ | refine zI rfl rfl rfl ?_ | refine zJ rfl rfl ?_ | refine zK ?_ | refine zL ?_ | refine zM rfl ?_ | refine zN ?_)
        refine WC.cond rfl (fun h3 => ?_) (fun h3 => ?_)
        · have h3 : l = [] := List.eq_nil_of_length_eq_zero (by have h5 : ((l.length : Nat) : Int) = 0 := beq_iff_eq.1 h3; omega)
          have e2 : rowB vs.length l = false := by unfold rowB; rw [h3]; rfl
          rw [hbad e2]
          repeat (first | refine zA ?_ | refine zB ?_ | refine zC rfl rfl rfl ?_ | refine zD ?_ | refine zE ?_ | refine zF ?_ | refine zG rfl ?_ | refine zH rfl ?_ | refine zI rfl rfl rfl ?_ | refine zJ rfl rfl ?_ | refine zK ?_ | refine zL ?_ | refine zM rfl ?_ | refine zN ?_)
          exact Res.one rfl rfl rfl ⟨rfl, hp1.nil'⟩
        have h3 : l ≠ [] := fun h => by rw [h] at h3; cases h3
        repeat (first | refine zA ?_ | refine zB ?_ | refine zC rfl rfl rfl ?_ | refine zD ?_ | refine zE ?_ | refine zF ?_ | refine zG rfl ?_ | refine zH rfl ?_ | refine zI rfl rfl rfl ?_ | refine zJ rfl rfl ?_ | refine zK ?_ | refine zL ?_ | refine zM rfl ?_ | refine zN ?_)
        refine WC.loop Nat (fun j => [(3, .int .i64 (vs.length : Nat)), (5, .slice ra l.length rc), (30, .slice an vs.length cn), (31, .int .i64 (vs.length : Nat)), (32, .int .i64 (i : Nat)), (39, .slice ra l.length rc), (40, .int .i64 (l.length : Nat)), (41, .int .i64 (j : Nat))])
          (fun j w' => j ≤ l.length ∧ (List.range j).all (sucB vs.length l) = true ∧ w' = w3) (fun j => l.length - j) 0 ⟨rfl, rfl, rfl, rfl, rfl, rfl, rfl, rfl, rfl⟩ ⟨Nat.zero_le _, by simp, rfl⟩ ?_
        rintro j w4 ⟨hj, hsu, rfl⟩
        repeat (first | refine zA ?_ | refine zB ?_ | refine zC rfl rfl rfl ?_ | refine zD ?_ | refine zE ?_ | refine zF ?_ | refine zG rfl ?_ | refine zH rfl ?_ | refine zI rfl rfl rfl ?_ | refine zJ rfl rfl ?_ | refine zK ?_ | refine zL ?_ | refine zM rfl ?_ | refine zN ?_)
        refine WC.cond rfl (fun h4 => ?_) (fun h4 => ?_)
        · have hj : j < l.length := by have := of_decide_eq_true h4; omega
          have stepj := wrap_succ (i := j) (n := j + 1) (by omega) (by omega)
          have hgj : l.getD j 0 = l[j] := by simp [hj]
          have hno : sucB vs.length l j = false → rowB vs.length l = false := by
            intro h
            unfold rowB
            rw [List.all_eq_false.2 ⟨j, List.mem_range.2 hj, by rw [h]; simp⟩, Bool.and_false]
          have hyes : sucB vs.length l j = true → (List.range (j + 1)).all (sucB vs.length l) = true := by
            intro h
            rw [List.range_succ, List.all_append, hsu, List.all_cons, h]; rfl
          repeat (first | refine zA ?_ | refine zB ?_ | refine zC rfl rfl rfl ?_ | refine zD ?_ | refine zE ?_ | refine zF ?_ | refine zG rfl ?_ | refine zH rfl ?_ | refine zI rfl rfl rfl ?_ | refine zJ rfl rfl ?_ | refine zK ?_ | refine zL ?_ | refine zM rfl ?_ | refine zN ?_)
          refine WL.ixload rfl (fun _ => rfl) rfl rfl rfl rfl rfl rfl rfl hj rfl rfl hsl (zs_at hj) ?_
          intro q
          repeat (first | refine zA ?_ | refine zB ?_ | refine zC rfl rfl rfl ?_ | refine zD ?_ | refine zE ?_ | refine zF ?_ | refine zG rfl ?_ | refine zH rfl ?_ | refine zI rfl rfl rfl ?_ | refine zJ rfl rfl ?_ | refine zK ?_ | refine zL ?_ | refine zM rfl ?_ | refine zN ?_)
          refine WL.split 48 rfl (fun c5 => ?_) (fun c5 => ?_)
          · have c5 : l[j] < 0 := of_decide_eq_true c5
            rw [hbad (hno (by unfold sucB; rw [hgj, decide_eq_false (show ¬ 0 ≤ l[j] by omega)]; rfl))]
            repeat (first | refine zA ?_ | refine zB ?_ | refine zC rfl rfl rfl ?_ | refine zD ?_ | refine zE ?_ | refine zF ?_ | refine zG rfl ?_ | refine zH rfl ?_ | refine zI rfl rfl rfl ?_ | refine zJ rfl rfl ?_ | refine zK ?_ | refine zL ?_ | refine zM rfl ?_ | refine zN ?_)
            exact Res.one rfl rfl rfl ⟨rfl, hp1.nil'⟩
          have c5 : 0 ≤ l[j] := by have := of_decide_eq_false c5; omega
          repeat (first | refine zA ?_ | refine zB ?_ | refine zC rfl rfl rfl ?_ | refine zD ?_ | refine zE ?_ | refine zF ?_ | refine zG rfl ?_ | refine zH rfl ?_ | refine zI rfl rfl rfl ?_ | refine zJ rfl rfl ?_ | refine zK ?_ | refine zL ?_ | refine zM rfl ?_ | refine zN ?_)
          refine WL.split 53 rfl (fun c6 => ?_) (fun c6 => ?_)
          · have c6 : ¬ l[j] < (vs.length : Int) := by have := of_decide_eq_true c6; omega
            rw [hbad (hno (by unfold sucB; rw [hgj, decide_eq_false c6, Bool.and_false]; rfl))]
            repeat (first | refine zA ?_ | refine zB ?_ | refine zC rfl rfl rfl ?_ | refine zD ?_ | refine zE ?_ | refine zF ?_ | refine zG rfl ?_ | refine zH rfl ?_ | refine zI rfl rfl rfl ?_ | refine zJ rfl rfl ?_ | refine zK ?_ | refine zL ?_ | refine zM rfl ?_ | refine zN ?_)
            exact Res.one rfl rfl rfl ⟨rfl, hp1.nil'⟩
          have c6 : l[j] < (vs.length : Int) := by have := of_decide_eq_false c6; omega
          repeat (first | refine zA ?_ | refine zB ?_ | refine zC rfl rfl rfl ?_ | refine zD ?_ | refine zE ?_ | refine zF ?_ | refine zG rfl ?_ | refine zH rfl ?_ | refine zI rfl rfl rfl ?_ | refine zJ rfl rfl ?_ | refine zK ?_ | refine zL ?_ | refine zM rfl ?_ | refine zN ?_)
          refine WL.split 56 rfl (fun c7 => ?_) (fun c7 => ?_)
          · have c7 : 0 < j := by have := of_decide_eq_true c7; omega
            have e3 : IntKind.i64.wrap (((j : Nat) : Int) - 1) = ((j - 1 : Nat) : Int) := by rw [wrap_mid (by omega) (by omega)]; omega
            have hg2 : l.getD (j - 1) 0 = l[j - 1] := by simp [show j - 1 < l.length by omega]
            refine WL.pure rfl rfl rfl ?_
            refine WL.pure rfl rfl rfl ?_
            refine WL.pure rfl rfl rfl ?_
            refine WL.known (d := 59) (congrArg (fun z => some (Value.int .i64 z)) e3) ?_
            refine WL.ixload rfl (fun _ => rfl) rfl rfl rfl rfl rfl rfl rfl (show j - 1 < l.length by omega) rfl rfl hsl (zs_at (by omega)) ?_
            intro q2
            repeat (first | refine zA ?_ | refine zB ?_ | refine zC rfl rfl rfl ?_ | refine zD ?_ | refine zE ?_ | refine zF ?_ | refine zG rfl ?_ | refine zH rfl ?_ | refine zI rfl rfl rfl ?_ | refine zJ rfl rfl ?_ | refine zK ?_ | refine zL ?_ | refine zM rfl ?_ | refine zN ?_)
            refine WC.cond rfl (fun c8 => ?_) (fun c8 => ?_)
            · have c8 : ¬ l[j - 1] < l[j] := by have := of_decide_eq_true c8; omega
              rw [hbad (hno (by unfold sucB; rw [hgj, hg2, decide_eq_false c8, decide_eq_false (show ¬ j = 0 by omega)]; simp))]
              repeat (first | refine zA ?_ | refine zB ?_ | refine zC rfl rfl rfl ?_ | refine zD ?_ | refine zE ?_ | refine zF ?_ | refine zG rfl ?_ | refine zH rfl ?_ | refine zI rfl rfl rfl ?_ | refine zJ rfl rfl ?_ | refine zK ?_ | refine zL ?_ | refine zM rfl ?_ | refine zN ?_)
              exact Res.one rfl rfl rfl ⟨rfl, hp1.nil'⟩
            · have c8 : l[j - 1] < l[j] := by have := of_decide_eq_false c8; omega
              repeat (first | refine zA ?_ | refine zB ?_ | refine zC rfl rfl rfl ?_ | refine zD ?_ | refine zE ?_ | refine zF ?_ | refine zG rfl ?_ | refine zH rfl ?_ | refine zI rfl rfl rfl ?_ | refine zJ rfl rfl ?_ | refine zK ?_ | refine zL ?_ | refine zM rfl ?_ | refine zN ?_)
              exact ⟨j + 1, (by omega), ⟨rfl, rfl, rfl, rfl, rfl, rfl, rfl, congrArg (fun z => some (Value.int .i64 z)) stepj, rfl⟩, hj, hyes (by unfold sucB; rw [hgj, hg2, decide_eq_true c5, decide_eq_true c6, decide_eq_true c8]; simp), rfl⟩
          · have c7 : j = 0 := by have := of_decide_eq_false c7; omega
            repeat (first | refine zA ?_ | refine zB ?_ | refine zC rfl rfl rfl ?_ | refine zD ?_ | refine zE ?_ | refine zF ?_ | refine zG rfl ?_ | refine zH rfl ?_ | refine zI rfl rfl rfl ?_ | refine zJ rfl rfl ?_ | refine zK ?_ | refine zL ?_ | refine zM rfl ?_ | refine zN ?_)
            exact ⟨j + 1, (by omega), ⟨rfl, rfl, rfl, rfl, rfl, rfl, rfl, congrArg (fun z => some (Value.int .i64 z)) stepj, rfl⟩, hj, hyes (by unfold sucB; rw [hgj, decide_eq_true c5, decide_eq_true c6, decide_eq_true c7]; rfl), rfl⟩
        · have hj : j = l.length := by have := of_decide_eq_false h4; omega
          have hrow : rowB vs.length l = true := by unfold rowB; rw [decide_eq_true h3, ← hj, hsu]; rfl
          repeat (first | refine zA ?_ | refine zB ?_ | refine zC rfl rfl rfl ?_ | refine zD ?_ | refine zE ?_ | refine zF ?_ | refine zG rfl ?_ | refine zH rfl ?_ | refine zI rfl rfl rfl ?_ | refine zJ rfl rfl ?_ | refine zK ?_ | refine zL ?_ | refine zM rfl ?_ | refine zN ?_)
          exact ⟨i + 1, (by omega), ⟨rfl, rfl, rfl, congrArg (fun z => some (Value.int .i64 z)) step, rfl⟩, hi, by rw [htk, hrow], rfl⟩
      · have hi : i = vs.length := by have := of_decide_eq_false h2; omega
        subst hi
        rw [List.take_length] at hall
        rw [hall]
        repeat (first | refine zA ?_ | refine zB ?_ | refine zC rfl rfl rfl ?_ | refine zD ?_ | refine zE ?_ | refine zF ?_ | refine zG rfl ?_ | refine zH rfl ?_ | refine zI rfl rfl rfl ?_ | refine zJ rfl rfl ?_ | refine zK ?_ | refine zL ?_ | refine zM rfl ?_ | refine zN ?_)
        exact Res.one rfl rfl rfl ⟨rfl, hp1.nil'⟩
end Go.Proofs.YtpbbneclkhfgoaaDoor
end
section
/- ltl, fifteenth: the guesses of the search. -/
namespace Go.Proofs.YtpbbneclkhfgoaaDoor
open Go.W Go.Ltl Go.RowKit
set_option maxRecDepth 100000
attribute [local irreducible] WC WL WQ WS WH

/-- The guesses in memory. -/
abbrev Gb (gb : Nat) (mark : Int) (bs : Nat) (g : Gs) : Ent := .blk gb (.cells #[.int .i64 mark, .int .i64 (bs : Nat), .int .i64 (g.1 : Nat), .int .i64 (g.2.1 : Nat), .int .i64 (g.2.2 : Nat)] 144 (0, 0))
theorem pow30 {k : Nat} (h : k < 30) : 2 ^ k < 1073741824 := Nat.lt_of_lt_of_le (Nat.pow_lt_pow_right (a := 2) (by decide) h) (by decide)
theorem and_pow (n k : Nat) : n &&& 2 ^ k = if n.testBit k then 2 ^ k else 0 := by
  apply Nat.eq_of_testBit_eq
  intro i
  rw [Nat.testBit_and, Nat.testBit_two_pow]
  by_cases h : k = i
  · subst h
    cases n.testBit k <;> simp
  · rw [decide_eq_false h, Bool.and_false]
    split
    · rw [Nat.testBit_two_pow, decide_eq_false h]
    · simp
theorem testBit_and (n k : Nat) : (((n &&& 2 ^ k : Nat) : Int) != 0) = n.testBit k := by
  rw [and_pow]
  cases n.testBit k with
  | false => rfl
  | true =>
    have : 0 < 2 ^ k := Nat.two_pow_pos k
    simp only [if_true]
    generalize 2 ^ k = x at *
    rw [bne_iff_ne]
    omega
theorem look_any {w0 w : World} {L : List Ent} {gb : Nat} {mark : Int} {bs : Nat} {g : Gs} (hk : g.1 < 30) (hb : bs < 2 ^ 30) (hp : Hp w0 w (Gb gb mark bs g :: L)) :
    Ret Tryd.prog 101 [ptr gb] w fun v w' => v = .tuple #[.bool (bs.testBit g.1), .int .i64 ((2 ^ g.1 : Nat) : Int)] ∧ Hp w0 w' (Gb gb mark bs (g.1 + 1, g.2) :: L) := by
  have step := wrap_succ (i := g.1) (n := g.1 + 1) (by omega) (by omega)
  have hpw := pow30 hk
  have e1 : shl .i64 1 g.1 = ((2 ^ g.1 : Nat) : Int) := shl_one (by omega)
  have e2 : bits .and .i64 ((bs : Nat) : Int) ((2 ^ g.1 : Nat) : Int) = ((bs &&& 2 ^ g.1 : Nat) : Int) := and_i64 (by omega) (by omega)
  refine enter Tryd.func101 rfl rfl ⟨rfl, rfl⟩ rfl ?_
  repeat (first | refine zA ?_ | refine zB ?_ | refine zC rfl rfl rfl ?_ | refine zD ?_ | refine zE ?_ | refine zF ?_ | refine zG rfl ?_ | refine zH rfl ?_ | refine zI rfl rfl rfl ?_ | refine zJ rfl rfl ?_ | refine zK ?_ | refine zL ?_ | refine zM rfl ?_ | refine zN ?_)
  refine WL.nilC rfl rfl rfl ?_
  repeat (first | refine zA ?_ | refine zB ?_ | refine zC rfl rfl rfl ?_ | refine zD ?_ | refine zE ?_ | refine zF ?_ | refine zG rfl ?_ | refine zH rfl ?_ | refine zI rfl rfl rfl ?_ | refine zJ rfl rfl ?_ | refine zK ?_ | refine zL ?_ | refine zM rfl ?_ | refine zN ?_)
  refine WL.loadB rfl rfl rfl rfl rfl (hp.obj 0 rfl) (j := 2) rfl ?_
  refine WL.pure rfl rfl rfl ?_
  refine WL.known (d := 9) (congrArg (fun z => some (Value.int .i64 z)) e1) ?_
  repeat (first | refine zA ?_ | refine zB ?_ | refine zC rfl rfl rfl ?_ | refine zD ?_ | refine zE ?_ | refine zF ?_ | refine zG rfl ?_ | refine zH rfl ?_ | refine zI rfl rfl rfl ?_ | refine zJ rfl rfl ?_ | refine zK ?_ | refine zL ?_ | refine zM rfl ?_ | refine zN ?_)
  refine WL.nilC rfl rfl rfl ?_
  repeat (first | refine zA ?_ | refine zB ?_ | refine zC rfl rfl rfl ?_ | refine zD ?_ | refine zE ?_ | refine zF ?_ | refine zG rfl ?_ | refine zH rfl ?_ | refine zI rfl rfl rfl ?_ | refine zJ rfl rfl ?_ | refine zK ?_ | refine zL ?_ | refine zM rfl ?_ | refine zN ?_)
  refine WL.loadB rfl rfl rfl rfl rfl (hp.obj 0 rfl) (j := 2) rfl ?_
  refine WL.pure rfl rfl rfl ?_
  refine WL.known (d := 14) (congrArg (fun z => some (Value.int .i64 z)) step) ?_
  refine WL.nilC rfl rfl rfl ?_
  repeat (first | refine zA ?_ | refine zB ?_ | refine zC rfl rfl rfl ?_ | refine zD ?_ | refine zE ?_ | refine zF ?_ | refine zG rfl ?_ | refine zH rfl ?_ | refine zI rfl rfl rfl ?_ | refine zJ rfl rfl ?_ | refine zK ?_ | refine zL ?_ | refine zM rfl ?_ | refine zN ?_)
  refine WL.store rfl rfl rfl rfl rfl rfl (hp.obj 0 rfl) (by show 2 < 5; decide) (fun w2 h2 => ?_)
  have hp2 : Hp w0 w2 (Gb gb mark bs (g.1 + 1, g.2) :: L) := hp.set 0 rfl rfl h2
  repeat (first | refine zA ?_ | refine zB ?_ | refine zC rfl rfl rfl ?_ | refine zD ?_ | refine zE ?_ | refine zF ?_ | refine zG rfl ?_ | refine zH rfl ?_ | refine zI rfl rfl rfl ?_ | refine zJ rfl rfl ?_ | refine zK ?_ | refine zL ?_ | refine zM rfl ?_ | refine zN ?_)
  refine WL.nilC rfl rfl rfl ?_
  repeat (first | refine zA ?_ | refine zB ?_ | refine zC rfl rfl rfl ?_ | refine zD ?_ | refine zE ?_ | refine zF ?_ | refine zG rfl ?_ | refine zH rfl ?_ | refine zI rfl rfl rfl ?_ | refine zJ rfl rfl ?_ | refine zK ?_ | refine zL ?_ | refine zM rfl ?_ | refine zN ?_)
  refine WL.loadB rfl rfl rfl rfl rfl (hp2.obj 0 rfl) (j := 1) rfl ?_
  refine WL.pure rfl rfl rfl ?_
  refine WL.pure rfl rfl rfl ?_
  refine WL.known (d := 22) (congrArg (fun z => some (Value.int .i64 z)) e2) ?_
  refine WL.pure rfl rfl rfl ?_
  refine WL.known (d := 23) (congrArg (fun z => some (Value.bool z)) (testBit_and bs g.1)) ?_
  repeat (first | refine zA ?_ | refine zB ?_ | refine zC rfl rfl rfl ?_ | refine zD ?_ | refine zE ?_ | refine zF ?_ | refine zG rfl ?_ | refine zH rfl ?_ | refine zI rfl rfl rfl ?_ | refine zJ rfl rfl ?_ | refine zK ?_ | refine zL ?_ | refine zM rfl ?_ | refine zN ?_)
  exact Res.two rfl rfl rfl rfl ⟨rfl, hp2⟩
theorem note_any {w0 w : World} {L : List Ent} {gb : Nat} {mark : Int} {bs k : Nat} {g : Gs} (p q : Bool) (hk : k < 30) (hg : Gok g) (hp : Hp w0 w (Gb gb mark bs g :: L)) :
    Ret Tryd.prog 102 [ptr gb, .int .i64 ((2 ^ k : Nat) : Int), .bool p, .bool q] w fun v w' => Hp w0 w' (Gb gb mark bs (noteM g (2 ^ k) p q) :: L) := by
  have hpw := pow30 hk
  obtain ⟨hg1, hg2⟩ := hg
  have e1 : bits .or .i64 ((g.2.1 : Nat) : Int) ((2 ^ k : Nat) : Int) = ((g.2.1 ||| 2 ^ k : Nat) : Int) := or_i64 (by omega) (by omega)
  have e2 : bits .or .i64 ((g.2.2 : Nat) : Int) ((2 ^ k : Nat) : Int) = ((g.2.2 ||| 2 ^ k : Nat) : Int) := or_i64 (by omega) (by omega)
  refine enter Tryd.func102 rfl rfl ⟨rfl, rfl⟩ rfl ?_
  refine WC.seq ?_
  refine WC.mid Unit (fun _ => [(0, ptr gb), (1, .int .i64 ((2 ^ k : Nat) : Int)), (3, .bool q)]) (fun _ w' => Hp w0 w' (Gb gb mark bs (g.1, (if p then g.2.1 ||| 2 ^ k else g.2.1), g.2.2) :: L)) ?_ ?_
  · repeat (first | refine zA ?_ | refine zB ?_ | refine zC rfl rfl rfl ?_ | refine zD ?_ | refine zE ?_ | refine zF ?_ | refine zG rfl ?_ | refine zH rfl ?_ | refine zI rfl rfl rfl ?_ | refine zJ rfl rfl ?_ | refine zK ?_ | refine zL ?_ | refine zM rfl ?_ | refine zN ?_)
    cases p with
    | true =>
      repeat (first | refine zA ?_ | refine zB ?_ | refine zC rfl rfl rfl ?_ | refine zD ?_ | refine zE ?_ | refine zF ?_ | refine zG rfl ?_ | refine zH rfl ?_ | refine zI rfl rfl rfl ?_ | refine zJ rfl rfl ?_ | refine zK ?_ | refine zL ?_ | refine zM rfl ?_ | refine zN ?_)
      refine WL.nilC rfl rfl rfl ?_
      repeat (first | refine zA ?_ | refine zB ?_ | refine zC rfl rfl rfl ?_ | refine zD ?_ | refine zE ?_ | refine zF ?_ | refine zG rfl ?_ | refine zH rfl ?_ | refine zI rfl rfl rfl ?_ | refine zJ rfl rfl ?_ | refine zK ?_ | refine zL ?_ | refine zM rfl ?_ | refine zN ?_)
      refine WL.loadB rfl rfl rfl rfl rfl (hp.obj 0 rfl) (j := 3) rfl ?_
      refine WL.pure rfl rfl rfl ?_
      refine WL.pure rfl rfl rfl ?_
      refine WL.known (d := 14) (congrArg (fun z => some (Value.int .i64 z)) e1) ?_
      refine WL.nilC rfl rfl rfl ?_
      repeat (first | refine zA ?_ | refine zB ?_ | refine zC rfl rfl rfl ?_ | refine zD ?_ | refine zE ?_ | refine zF ?_ | refine zG rfl ?_ | refine zH rfl ?_ | refine zI rfl rfl rfl ?_ | refine zJ rfl rfl ?_ | refine zK ?_ | refine zL ?_ | refine zM rfl ?_ | refine zN ?_)
      refine WL.store rfl rfl rfl rfl rfl rfl (hp.obj 0 rfl) (by show 3 < 5; decide) (fun w2 h2 => ?_)
      have hp2 := hp.set 0 rfl rfl h2
      repeat (first | refine zA ?_ | refine zB ?_ | refine zC rfl rfl rfl ?_ | refine zD ?_ | refine zE ?_ | refine zF ?_ | refine zG rfl ?_ | refine zH rfl ?_ | refine zI rfl rfl rfl ?_ | refine zJ rfl rfl ?_ | refine zK ?_ | refine zL ?_ | refine zM rfl ?_ | refine zN ?_)
      exact ⟨(), ⟨rfl, rfl, rfl, rfl⟩, hp2⟩
    | false =>
      repeat (first | refine zA ?_ | refine zB ?_ | refine zC rfl rfl rfl ?_ | refine zD ?_ | refine zE ?_ | refine zF ?_ | refine zG rfl ?_ | refine zH rfl ?_ | refine zI rfl rfl rfl ?_ | refine zJ rfl rfl ?_ | refine zK ?_ | refine zL ?_ | refine zM rfl ?_ | refine zN ?_)
      exact ⟨(), ⟨rfl, rfl, rfl, rfl⟩, hp⟩
  · rintro ⟨⟩ e2' w2 hsub hp2
    refine WC.sub hsub ?_
    clear hsub e2' hp
    repeat (first | refine zA ?_ | refine zB ?_ | refine zC rfl rfl rfl ?_ | refine zD ?_ | refine zE ?_ | refine zF ?_ | refine zG rfl ?_ | refine zH rfl ?_ | refine zI rfl rfl rfl ?_ | refine zJ rfl rfl ?_ | refine zK ?_ | refine zL ?_ | refine zM rfl ?_ | refine zN ?_)
    cases q with
    | true =>
      repeat (first | refine zA ?_ | refine zB ?_ | refine zC rfl rfl rfl ?_ | refine zD ?_ | refine zE ?_ | refine zF ?_ | refine zG rfl ?_ | refine zH rfl ?_ | refine zI rfl rfl rfl ?_ | refine zJ rfl rfl ?_ | refine zK ?_ | refine zL ?_ | refine zM rfl ?_ | refine zN ?_)
      refine WL.nilC rfl rfl rfl ?_
      repeat (first | refine zA ?_ | refine zB ?_ | refine zC rfl rfl rfl ?_ | refine zD ?_ | refine zE ?_ | refine zF ?_ | refine zG rfl ?_ | refine zH rfl ?_ | refine zI rfl rfl rfl ?_ | refine zJ rfl rfl ?_ | refine zK ?_ | refine zL ?_ | refine zM rfl ?_ | refine zN ?_)
      refine WL.loadB rfl rfl rfl rfl rfl (hp2.obj 0 rfl) (j := 4) rfl ?_
      refine WL.pure rfl rfl rfl ?_
      refine WL.pure rfl rfl rfl ?_
      refine WL.known (d := 23) (congrArg (fun z => some (Value.int .i64 z)) e2) ?_
      refine WL.nilC rfl rfl rfl ?_
      repeat (first | refine zA ?_ | refine zB ?_ | refine zC rfl rfl rfl ?_ | refine zD ?_ | refine zE ?_ | refine zF ?_ | refine zG rfl ?_ | refine zH rfl ?_ | refine zI rfl rfl rfl ?_ | refine zJ rfl rfl ?_ | refine zK ?_ | refine zL ?_ | refine zM rfl ?_ | refine zN ?_)
      refine WL.store rfl rfl rfl rfl rfl rfl (hp2.obj 0 rfl) (by show 4 < 5; decide) (fun w3 h3 => ?_)
      have hp3 := hp2.set 0 rfl rfl h3
      repeat (first | refine zA ?_ | refine zB ?_ | refine zC rfl rfl rfl ?_ | refine zD ?_ | refine zE ?_ | refine zF ?_ | refine zG rfl ?_ | refine zH rfl ?_ | refine zI rfl rfl rfl ?_ | refine zJ rfl rfl ?_ | refine zK ?_ | refine zL ?_ | refine zM rfl ?_ | refine zN ?_)
      exact Res.zero rfl rfl hp3
    | false =>
      repeat (first | refine zA ?_ | refine zB ?_ | refine zC rfl rfl rfl ?_ | refine zD ?_ | refine zE ?_ | refine zF ?_ | refine zG rfl ?_ | refine zH rfl ?_ | refine zI rfl rfl rfl ?_ | refine zJ rfl rfl ?_ | refine zK ?_ | refine zL ?_ | refine zM rfl ?_ | refine zN ?_)
      exact Res.zero rfl rfl hp2
end Go.Proofs.YtpbbneclkhfgoaaDoor
end
section
/- ltl, sixteenth: a formula's value under guesses (printed by genu16.py). -/
namespace Go.Ltl
open Go.W
theorem gv_not (mark : Int) (bs : Nat) (f : Fm) (g : Gs) : gval mark bs (.on_ wNot f) g = (!(gval mark bs f g).1, (gval mark bs f g).2) := rfl
theorem gv_next (mark : Int) (bs : Nat) (f : Fm) (g : Gs) : gval mark bs (.on_ wNext f) g = (bs.testBit (gval mark bs f g).2.1, noteM ((gval mark bs f g).2.1 + 1, (gval mark bs f g).2.2) (2 ^ (gval mark bs f g).2.1) (gval mark bs f g).1 true) := rfl
theorem gv_always (mark : Int) (bs : Nat) (f : Fm) (g : Gs) {a x : Bool} {r : Gs} (h : gval mark bs f g = (a, r)) (hx : bs.testBit r.1 = x) : gval mark bs (.on_ wAlways f) g = (a && x, noteM (r.1 + 1, r.2) (2 ^ r.1) (a && x) ((a && x) || !a)) := by
  subst hx
  show (((gval mark bs f g).1 && bs.testBit (gval mark bs f g).2.1, noteM ((gval mark bs f g).2.1 + 1, (gval mark bs f g).2.2) (2 ^ (gval mark bs f g).2.1) ((gval mark bs f g).1 && bs.testBit (gval mark bs f g).2.1) (((gval mark bs f g).1 && bs.testBit (gval mark bs f g).2.1) || !(gval mark bs f g).1)) : Bool × Gs) = _
  rw [h]
theorem gv_finally (mark : Int) (bs : Nat) (f : Fm) (g : Gs) {a x : Bool} {r : Gs} (h : gval mark bs f g = (a, r)) (hx : bs.testBit r.1 = x) : gval mark bs (.on_ wFinally f) g = (a || x, noteM (r.1 + 1, r.2) (2 ^ r.1) (a || x) (!(a || x) || a)) := by
  subst hx
  show (((gval mark bs f g).1 || bs.testBit (gval mark bs f g).2.1, noteM ((gval mark bs f g).2.1 + 1, (gval mark bs f g).2.2) (2 ^ (gval mark bs f g).2.1) ((gval mark bs f g).1 || bs.testBit (gval mark bs f g).2.1) (!((gval mark bs f g).1 || bs.testBit (gval mark bs f g).2.1) || (gval mark bs f g).1)) : Bool × Gs) = _
  rw [h]
theorem gv_and (mark : Int) (bs : Nat) (f h : Fm) (g : Gs) {a b : Bool} {r q : Gs} (h1 : gval mark bs f g = (a, r)) (h2 : gval mark bs h r = (b, q)) : gval mark bs (.tw_ wAnd f h) g = (a && b, q) := by
  show (((gval mark bs f g).1 && (gval mark bs h (gval mark bs f g).2).1, (gval mark bs h (gval mark bs f g).2).2) : Bool × Gs) = _
  rw [h1, h2]
theorem gv_or (mark : Int) (bs : Nat) (f h : Fm) (g : Gs) {a b : Bool} {r q : Gs} (h1 : gval mark bs f g = (a, r)) (h2 : gval mark bs h r = (b, q)) : gval mark bs (.tw_ wOr f h) g = (a || b, q) := by
  show (((gval mark bs f g).1 || (gval mark bs h (gval mark bs f g).2).1, (gval mark bs h (gval mark bs f g).2).2) : Bool × Gs) = _
  rw [h1, h2]
theorem gv_until (mark : Int) (bs : Nat) (f h : Fm) (g : Gs) {a b x : Bool} {r q : Gs} (h1 : gval mark bs f g = (a, r)) (h2 : gval mark bs h r = (b, q)) (hx : bs.testBit q.1 = x) : gval mark bs (.tw_ wUntil f h) g = (b || (a && x), noteM (q.1 + 1, q.2) (2 ^ q.1) (b || (a && x)) (!(b || (a && x)) || b)) := by
  subst hx
  unfold gval
  simp only [h1, h2]
  rfl
theorem gv_release (mark : Int) (bs : Nat) (f h : Fm) (g : Gs) {a b x : Bool} {r q : Gs} (h1 : gval mark bs f g = (a, r)) (h2 : gval mark bs h r = (b, q)) (hx : bs.testBit q.1 = x) : gval mark bs (.tw_ wRelease f h) g = (b && (a || x), noteM (q.1 + 1, q.2) (2 ^ q.1) (b && (a || x)) ((b && (a || x)) || !b)) := by
  subst hx
  unfold gval
  simp only [h1, h2]
  rfl
end Go.Ltl
namespace Go.Proofs.YtpbbneclkhfgoaaDoor
open Go.W Go.Ltl Go.RowKit
set_option maxRecDepth 100000
attribute [local irreducible] WC WL WQ WS WH

theorem gvalue_any {w0 : World} (gb : Nat) (mark : Int) (bs : Nat) (hm0 : 0 ≤ mark) (hm1 : mark ≤ 15) (hb : bs < 2 ^ 30) : ∀ (f : Fm), wfF f → ∀ (g : Gs) (L : List Ent) (w : World), g.1 + looksN f ≤ 30 → Gok g → Hp w0 w (Gb gb mark bs g :: L) →
    Ret Tryd.prog 86 [ptr gb, fmV f] w fun v w' => v = .bool (gval mark bs f g).1 ∧ Hp w0 w' (Gb gb mark bs (gval mark bs f g).2 :: L) := by
  intro f
  induction f with
  | at_ s =>
    intro hwf g L w hk hg hp
    refine enter Tryd.func86 rfl rfl ⟨rfl, rfl⟩ rfl ?_
    repeat (first | refine zA ?_ | refine zB ?_ | refine zC rfl rfl rfl ?_ | refine zD ?_ | refine zE ?_ | refine zF ?_ | refine zG rfl ?_ | refine zH rfl ?_ | refine zI rfl rfl rfl ?_ | refine zJ rfl rfl ?_ | refine zK ?_ | refine zL ?_ | refine zM rfl ?_ | refine zN ?_)
    refine WL.val rfl rfl rfl (yAsT rfl rfl rfl) ?_
    repeat (first | refine zA ?_ | refine zB ?_ | refine zC rfl rfl rfl ?_ | refine zD ?_ | refine zE ?_ | refine zF ?_ | refine zG rfl ?_ | refine zH rfl ?_ | refine zI rfl rfl rfl ?_ | refine zJ rfl rfl ?_ | refine zK ?_ | refine zL ?_ | refine zM rfl ?_ | refine zN ?_)
    refine WL.alloc rfl rfl rfl (fun b2 w2 h2 => ?_)
    have hp2 := hp.new h2
    refine WL.storeN rfl rfl rfl rfl rfl (by simp [Value.oneCell', st]) (hp2.obj 0 rfl) (Nat.le_refl _) rfl (fun w3 h3 => ?_)
    have hp3 : Hp w0 w3 (.blk b2 (.cells #[st s] 129 (0, 0)) :: Gb gb mark bs g :: L) := hp2.set 0 rfl rfl h3
    repeat (first | refine zA ?_ | refine zB ?_ | refine zC rfl rfl rfl ?_ | refine zD ?_ | refine zE ?_ | refine zF ?_ | refine zG rfl ?_ | refine zH rfl ?_ | refine zI rfl rfl rfl ?_ | refine zJ rfl rfl ?_ | refine zK ?_ | refine zL ?_ | refine zM rfl ?_ | refine zN ?_)
    refine WC.regQ (fun w' => Hp w0 w' (.blk b2 (.cells #[st s] 129 (0, 0)) :: Gb gb mark bs g :: L)) mixed (by kernel_rfl) (fun w' hw' => hp3.keep hw') ?_
    repeat (first | refine WQ.pure rfl rfl rfl ?_ | refine WQ.off rfl rfl rfl ?_ | refine WQ.nil ?_)
    refine WQ.load rfl rfl rfl rfl rfl (fun w' h => cell_of_obj (h.obj 0 rfl) (j := 0) rfl) ?_
    repeat (first | refine WQ.pure rfl rfl rfl ?_ | refine WQ.off rfl rfl rfl ?_ | refine WQ.nil ?_)
    refine WQ.nilC rfl rfl rfl ?_
    repeat (first | refine WQ.pure rfl rfl rfl ?_ | refine WQ.off rfl rfl rfl ?_ | refine WQ.nil ?_)
    refine WQ.load rfl rfl rfl rfl rfl (fun w' h => cell_of_obj (h.obj 1 rfl) (j := 0) rfl) ?_
    refine WQ.call rfl rfl rfl rfl rfl ent76 (fun w' h => (holds_any s hwf mark hm0 hm1 w').mono fun v w'' hh => ⟨hh.1, by rw [hh.2]; exact h⟩) ?_
    repeat (first | refine WQ.pure rfl rfl rfl ?_ | refine WQ.off rfl rfl rfl ?_ | refine WQ.nil ?_)
    intro w4 hp4
    repeat (first | refine zA ?_ | refine zB ?_ | refine zC rfl rfl rfl ?_ | refine zD ?_ | refine zE ?_ | refine zF ?_ | refine zG rfl ?_ | refine zH rfl ?_ | refine zI rfl rfl rfl ?_ | refine zJ rfl rfl ?_ | refine zK ?_ | refine zL ?_ | refine zM rfl ?_ | refine zN ?_)
    exact Res.one rfl rfl rfl ⟨rfl, hp4.tail⟩
  | on_ s f ih =>
    intro hwf g L w hk hg hp
    have hkf : g.1 + looksN f ≤ 30 := by unfold looksN at hk; split at hk <;> omega
    have hks : s ≠ wNot → g.1 + looksN f < 30 := by intro h; unfold looksN at hk; rw [if_neg h] at hk; omega
    obtain ⟨hs, hwf⟩ := hwf
    refine enter Tryd.func86 rfl rfl ⟨rfl, rfl⟩ rfl ?_
    repeat (first | refine zA ?_ | refine zB ?_ | refine zC rfl rfl rfl ?_ | refine zD ?_ | refine zE ?_ | refine zF ?_ | refine zG rfl ?_ | refine zH rfl ?_ | refine zI rfl rfl rfl ?_ | refine zJ rfl rfl ?_ | refine zK ?_ | refine zL ?_ | refine zM rfl ?_ | refine zN ?_)
    refine WL.val rfl rfl rfl (yAsT rfl rfl rfl) ?_
    repeat (first | refine zA ?_ | refine zB ?_ | refine zC rfl rfl rfl ?_ | refine zD ?_ | refine zE ?_ | refine zF ?_ | refine zG rfl ?_ | refine zH rfl ?_ | refine zI rfl rfl rfl ?_ | refine zJ rfl rfl ?_ | refine zK ?_ | refine zL ?_ | refine zM rfl ?_ | refine zN ?_)
    refine WL.val rfl rfl rfl (yAsT rfl rfl rfl) ?_
    repeat (first | refine zA ?_ | refine zB ?_ | refine zC rfl rfl rfl ?_ | refine zD ?_ | refine zE ?_ | refine zF ?_ | refine zG rfl ?_ | refine zH rfl ?_ | refine zI rfl rfl rfl ?_ | refine zJ rfl rfl ?_ | refine zK ?_ | refine zL ?_ | refine zM rfl ?_ | refine zN ?_)
    refine WL.alloc rfl rfl rfl (fun b2 w2 h2 => ?_)
    have hp2 := hp.new h2
    refine WL.storeN rfl rfl rfl rfl rfl (by simp [Value.oneCell', st]; exact fm_one f) (hp2.obj 0 rfl) (Nat.le_refl _) rfl (fun w3 h3 => ?_)
    have hp3 : Hp w0 w3 (Gb gb mark bs g :: Q1b b2 s f :: L) := Hp.swap (hp2.set 0 rfl rfl h3)
    repeat (first | refine zA ?_ | refine zB ?_ | refine zC rfl rfl rfl ?_ | refine zD ?_ | refine zE ?_ | refine zF ?_ | refine zG rfl ?_ | refine zH rfl ?_ | refine zI rfl rfl rfl ?_ | refine zJ rfl rfl ?_ | refine zK ?_ | refine zL ?_ | refine zM rfl ?_ | refine zN ?_)
    refine WL.loadB rfl rfl rfl rfl rfl (hp3.obj 1 rfl) (j := 1) rfl ?_
    have hok := gval_ok mark bs f g hkf hg
    refine WL.call rfl rfl rfl rfl rfl ent86 (ih hwf g _ w3 hkf hg hp3) ?_
    rintro v w4 ⟨rfl, hp4⟩
    obtain ⟨A, r, hr⟩ : ∃ A r, gval mark bs f g = (A, r) := ⟨_, _, rfl⟩
    rw [hr] at hp4 hok ⊢
    obtain ⟨hok1, hok2⟩ : r.1 = g.1 + looksN f ∧ Gok r := hok
    replace hp4 : Hp w0 w4 (Gb gb mark bs r :: Q1b b2 s f :: L) := hp4
    repeat (first | refine zA ?_ | refine zB ?_ | refine zC rfl rfl rfl ?_ | refine zD ?_ | refine zE ?_ | refine zF ?_ | refine zG rfl ?_ | refine zH rfl ?_ | refine zI rfl rfl rfl ?_ | refine zJ rfl rfl ?_ | refine zK ?_ | refine zL ?_ | refine zM rfl ?_ | refine zN ?_)
    refine WL.loadB rfl rfl rfl rfl rfl (hp4.obj 1 rfl) (j := 0) rfl ?_
    have hs2 : s = wNot ∨ s = wNext ∨ s = wAlways ∨ s = wFinally := by simpa [onesL] using hs
    rcases hs2 with rfl | rfl | rfl | rfl
    · refine WL.sCmp (a := wNot) (b := wNot) rfl rfl rfl rfl rfl ?_
      repeat (first | refine zA ?_ | refine zB ?_ | refine zC rfl rfl rfl ?_ | refine zD ?_ | refine zE ?_ | refine zF ?_ | refine zG rfl ?_ | refine zH rfl ?_ | refine zI rfl rfl rfl ?_ | refine zJ rfl rfl ?_ | refine zK ?_ | refine zL ?_ | refine zM rfl ?_ | refine zN ?_)
      rw [gv_not, hr]
      exact Res.one rfl rfl rfl ⟨rfl, hp4.drop1⟩
    · have hlt := hks (by decide)
      refine WL.sCmp (a := wNext) (b := wNot) rfl rfl rfl rfl rfl ?_
      repeat (first | refine zA ?_ | refine zB ?_ | refine zC rfl rfl rfl ?_ | refine zD ?_ | refine zE ?_ | refine zF ?_ | refine zG rfl ?_ | refine zH rfl ?_ | refine zI rfl rfl rfl ?_ | refine zJ rfl rfl ?_ | refine zK ?_ | refine zL ?_ | refine zM rfl ?_ | refine zN ?_)
      refine WL.call rfl rfl rfl rfl rfl ent101 (look_any (by omega) hb hp4) ?_
      rintro v w5 ⟨rfl, hp5⟩
      repeat (first | refine zA ?_ | refine zB ?_ | refine zC rfl rfl rfl ?_ | refine zD ?_ | refine zE ?_ | refine zF ?_ | refine zG rfl ?_ | refine zH rfl ?_ | refine zI rfl rfl rfl ?_ | refine zJ rfl rfl ?_ | refine zK ?_ | refine zL ?_ | refine zM rfl ?_ | refine zN ?_)
      refine WL.loadB rfl rfl rfl rfl rfl (hp5.obj 1 rfl) (j := 0) rfl ?_
      refine WL.nil ?_
      refine WC.block ?_
      repeat (first | refine zA ?_ | refine zB ?_ | refine zC rfl rfl rfl ?_ | refine zD ?_ | refine zE ?_ | refine zF ?_ | refine zG rfl ?_ | refine zH rfl ?_ | refine zI rfl rfl rfl ?_ | refine zJ rfl rfl ?_ | refine zK ?_ | refine zL ?_ | refine zM rfl ?_ | refine zN ?_)
      refine WL.sCmp (a := wNext) (b := wNext) rfl rfl rfl rfl rfl ?_
      repeat (first | refine zA ?_ | refine zB ?_ | refine zC rfl rfl rfl ?_ | refine zD ?_ | refine zE ?_ | refine zF ?_ | refine zG rfl ?_ | refine zH rfl ?_ | refine zI rfl rfl rfl ?_ | refine zJ rfl rfl ?_ | refine zK ?_ | refine zL ?_ | refine zM rfl ?_ | refine zN ?_)
      refine WL.call rfl rfl rfl rfl rfl ent102 (note_any _ _ (by omega) (show Gok (r.1 + 1, r.2) from hok2) hp5) ?_
      rintro v w6 hp6
      repeat (first | refine zA ?_ | refine zB ?_ | refine zC rfl rfl rfl ?_ | refine zD ?_ | refine zE ?_ | refine zF ?_ | refine zG rfl ?_ | refine zH rfl ?_ | refine zI rfl rfl rfl ?_ | refine zJ rfl rfl ?_ | refine zK ?_ | refine zL ?_ | refine zM rfl ?_ | refine zN ?_)
      rw [gv_next, hr]
      exact Res.one rfl rfl rfl ⟨rfl, hp6.drop1⟩
    · have hlt := hks (by decide)
      refine WL.sCmp (a := wAlways) (b := wNot) rfl rfl rfl rfl rfl ?_
      repeat (first | refine zA ?_ | refine zB ?_ | refine zC rfl rfl rfl ?_ | refine zD ?_ | refine zE ?_ | refine zF ?_ | refine zG rfl ?_ | refine zH rfl ?_ | refine zI rfl rfl rfl ?_ | refine zJ rfl rfl ?_ | refine zK ?_ | refine zL ?_ | refine zM rfl ?_ | refine zN ?_)
      refine WL.call rfl rfl rfl rfl rfl ent101 (look_any (by omega) hb hp4) ?_
      rintro v w5 ⟨rfl, hp5⟩
      repeat (first | refine zA ?_ | refine zB ?_ | refine zC rfl rfl rfl ?_ | refine zD ?_ | refine zE ?_ | refine zF ?_ | refine zG rfl ?_ | refine zH rfl ?_ | refine zI rfl rfl rfl ?_ | refine zJ rfl rfl ?_ | refine zK ?_ | refine zL ?_ | refine zM rfl ?_ | refine zN ?_)
      refine WL.loadB rfl rfl rfl rfl rfl (hp5.obj 1 rfl) (j := 0) rfl ?_
      refine WL.nil ?_
      refine WC.block ?_
      repeat (first | refine zA ?_ | refine zB ?_ | refine zC rfl rfl rfl ?_ | refine zD ?_ | refine zE ?_ | refine zF ?_ | refine zG rfl ?_ | refine zH rfl ?_ | refine zI rfl rfl rfl ?_ | refine zJ rfl rfl ?_ | refine zK ?_ | refine zL ?_ | refine zM rfl ?_ | refine zN ?_)
      refine WL.sCmp (a := wAlways) (b := wNext) rfl rfl rfl rfl rfl ?_
      repeat (first | refine zA ?_ | refine zB ?_ | refine zC rfl rfl rfl ?_ | refine zD ?_ | refine zE ?_ | refine zF ?_ | refine zG rfl ?_ | refine zH rfl ?_ | refine zI rfl rfl rfl ?_ | refine zJ rfl rfl ?_ | refine zK ?_ | refine zL ?_ | refine zM rfl ?_ | refine zN ?_)
      refine WL.sCmp (a := wAlways) (b := wAlways) rfl rfl rfl rfl rfl ?_
      repeat (first | refine zA ?_ | refine zB ?_ | refine zC rfl rfl rfl ?_ | refine zD ?_ | refine zE ?_ | refine zF ?_ | refine zG rfl ?_ | refine zH rfl ?_ | refine zI rfl rfl rfl ?_ | refine zJ rfl rfl ?_ | refine zK ?_ | refine zL ?_ | refine zM rfl ?_ | refine zN ?_)
      cases A <;> cases hx : bs.testBit r.1
      all_goals
        have e := gv_always mark bs f g hr hx
        repeat (first | refine zA ?_ | refine zB ?_ | refine zC rfl rfl rfl ?_ | refine zD ?_ | refine zE ?_ | refine zF ?_ | refine zG rfl ?_ | refine zH rfl ?_ | refine zI rfl rfl rfl ?_ | refine zJ rfl rfl ?_ | refine zK ?_ | refine zL ?_ | refine zM rfl ?_ | refine zN ?_)
        refine WL.call rfl rfl rfl rfl rfl ent102 (note_any _ _ (by omega) (show Gok (r.1 + 1, r.2) from hok2) hp5) ?_
        rintro v w6 hp6
        repeat (first | refine zA ?_ | refine zB ?_ | refine zC rfl rfl rfl ?_ | refine zD ?_ | refine zE ?_ | refine zF ?_ | refine zG rfl ?_ | refine zH rfl ?_ | refine zI rfl rfl rfl ?_ | refine zJ rfl rfl ?_ | refine zK ?_ | refine zL ?_ | refine zM rfl ?_ | refine zN ?_)
        rw [e]
        exact Res.one rfl rfl rfl ⟨rfl, hp6.drop1⟩
    · have hlt := hks (by decide)
      refine WL.sCmp (a := wFinally) (b := wNot) rfl rfl rfl rfl rfl ?_
      repeat (first | refine zA ?_ | refine zB ?_ | refine zC rfl rfl rfl ?_ | refine zD ?_ | refine zE ?_ | refine zF ?_ | refine zG rfl ?_ | refine zH rfl ?_ | refine zI rfl rfl rfl ?_ | refine zJ rfl rfl ?_ | refine zK ?_ | refine zL ?_ | refine zM rfl ?_ | refine zN ?_)
      refine WL.call rfl rfl rfl rfl rfl ent101 (look_any (by omega) hb hp4) ?_
      rintro v w5 ⟨rfl, hp5⟩
      repeat (first | refine zA ?_ | refine zB ?_ | refine zC rfl rfl rfl ?_ | refine zD ?_ | refine zE ?_ | refine zF ?_ | refine zG rfl ?_ | refine zH rfl ?_ | refine zI rfl rfl rfl ?_ | refine zJ rfl rfl ?_ | refine zK ?_ | refine zL ?_ | refine zM rfl ?_ | refine zN ?_)
      refine WL.loadB rfl rfl rfl rfl rfl (hp5.obj 1 rfl) (j := 0) rfl ?_
      refine WL.nil ?_
      refine WC.block ?_
      repeat (first | refine zA ?_ | refine zB ?_ | refine zC rfl rfl rfl ?_ | refine zD ?_ | refine zE ?_ | refine zF ?_ | refine zG rfl ?_ | refine zH rfl ?_ | refine zI rfl rfl rfl ?_ | refine zJ rfl rfl ?_ | refine zK ?_ | refine zL ?_ | refine zM rfl ?_ | refine zN ?_)
      refine WL.sCmp (a := wFinally) (b := wNext) rfl rfl rfl rfl rfl ?_
      repeat (first | refine zA ?_ | refine zB ?_ | refine zC rfl rfl rfl ?_ | refine zD ?_ | refine zE ?_ | refine zF ?_ | refine zG rfl ?_ | refine zH rfl ?_ | refine zI rfl rfl rfl ?_ | refine zJ rfl rfl ?_ | refine zK ?_ | refine zL ?_ | refine zM rfl ?_ | refine zN ?_)
      refine WL.sCmp (a := wFinally) (b := wAlways) rfl rfl rfl rfl rfl ?_
      repeat (first | refine zA ?_ | refine zB ?_ | refine zC rfl rfl rfl ?_ | refine zD ?_ | refine zE ?_ | refine zF ?_ | refine zG rfl ?_ | refine zH rfl ?_ | refine zI rfl rfl rfl ?_ | refine zJ rfl rfl ?_ | refine zK ?_ | refine zL ?_ | refine zM rfl ?_ | refine zN ?_)
      cases A <;> cases hx : bs.testBit r.1
      all_goals
        have e := gv_finally mark bs f g hr hx
        repeat (first | refine zA ?_ | refine zB ?_ | refine zC rfl rfl rfl ?_ | refine zD ?_ | refine zE ?_ | refine zF ?_ | refine zG rfl ?_ | refine zH rfl ?_ | refine zI rfl rfl rfl ?_ | refine zJ rfl rfl ?_ | refine zK ?_ | refine zL ?_ | refine zM rfl ?_ | refine zN ?_)
        refine WL.call rfl rfl rfl rfl rfl ent102 (note_any _ _ (by omega) (show Gok (r.1 + 1, r.2) from hok2) hp5) ?_
        rintro v w6 hp6
        repeat (first | refine zA ?_ | refine zB ?_ | refine zC rfl rfl rfl ?_ | refine zD ?_ | refine zE ?_ | refine zF ?_ | refine zG rfl ?_ | refine zH rfl ?_ | refine zI rfl rfl rfl ?_ | refine zJ rfl rfl ?_ | refine zK ?_ | refine zL ?_ | refine zM rfl ?_ | refine zN ?_)
        rw [e]
        exact Res.one rfl rfl rfl ⟨rfl, hp6.drop1⟩
  | tw_ s f h ihf ihh =>
    intro hwf g L w hk hg hp
    have hkf : g.1 + looksN f + looksN h ≤ 30 := by unfold looksN at hk; split at hk <;> omega
    have hks : ¬ (s = wAnd ∨ s = wOr) → g.1 + looksN f + looksN h < 30 := by intro h; unfold looksN at hk; rw [if_neg h] at hk; omega
    obtain ⟨hs, hwf, hwh⟩ := hwf
    refine enter Tryd.func86 rfl rfl ⟨rfl, rfl⟩ rfl ?_
    repeat (first | refine zA ?_ | refine zB ?_ | refine zC rfl rfl rfl ?_ | refine zD ?_ | refine zE ?_ | refine zF ?_ | refine zG rfl ?_ | refine zH rfl ?_ | refine zI rfl rfl rfl ?_ | refine zJ rfl rfl ?_ | refine zK ?_ | refine zL ?_ | refine zM rfl ?_ | refine zN ?_)
    refine WL.val rfl rfl rfl (yAsT rfl rfl rfl) ?_
    repeat (first | refine zA ?_ | refine zB ?_ | refine zC rfl rfl rfl ?_ | refine zD ?_ | refine zE ?_ | refine zF ?_ | refine zG rfl ?_ | refine zH rfl ?_ | refine zI rfl rfl rfl ?_ | refine zJ rfl rfl ?_ | refine zK ?_ | refine zL ?_ | refine zM rfl ?_ | refine zN ?_)
    refine WL.val rfl rfl rfl (yAsT rfl rfl rfl) ?_
    repeat (first | refine zA ?_ | refine zB ?_ | refine zC rfl rfl rfl ?_ | refine zD ?_ | refine zE ?_ | refine zF ?_ | refine zG rfl ?_ | refine zH rfl ?_ | refine zI rfl rfl rfl ?_ | refine zJ rfl rfl ?_ | refine zK ?_ | refine zL ?_ | refine zM rfl ?_ | refine zN ?_)
    refine WL.val rfl rfl rfl (yAsT rfl rfl rfl) ?_
    repeat (first | refine zA ?_ | refine zB ?_ | refine zC rfl rfl rfl ?_ | refine zD ?_ | refine zE ?_ | refine zF ?_ | refine zG rfl ?_ | refine zH rfl ?_ | refine zI rfl rfl rfl ?_ | refine zJ rfl rfl ?_ | refine zK ?_ | refine zL ?_ | refine zM rfl ?_ | refine zN ?_)
    refine WL.alloc rfl rfl rfl (fun b2 w2 h2 => ?_)
    have hp2 := hp.new h2
    refine WL.storeN rfl rfl rfl rfl rfl (by simp [Value.oneCell', st]; exact ⟨fm_one f, fm_one h⟩) (hp2.obj 0 rfl) (Nat.le_refl _) rfl (fun w3 h3 => ?_)
    have hp3 : Hp w0 w3 (Gb gb mark bs g :: Q2b b2 s f h :: L) := Hp.swap (hp2.set 0 rfl rfl h3)
    repeat (first | refine zA ?_ | refine zB ?_ | refine zC rfl rfl rfl ?_ | refine zD ?_ | refine zE ?_ | refine zF ?_ | refine zG rfl ?_ | refine zH rfl ?_ | refine zI rfl rfl rfl ?_ | refine zJ rfl rfl ?_ | refine zK ?_ | refine zL ?_ | refine zM rfl ?_ | refine zN ?_)
    refine WL.loadB rfl rfl rfl rfl rfl (hp3.obj 1 rfl) (j := 1) rfl ?_
    have hok := gval_ok mark bs f g (by omega) hg
    refine WL.call rfl rfl rfl rfl rfl ent86 (ihf hwf g _ w3 (by omega) hg hp3) ?_
    rintro v w4 ⟨rfl, hp4⟩
    obtain ⟨A, r, hr⟩ : ∃ A r, gval mark bs f g = (A, r) := ⟨_, _, rfl⟩
    rw [hr] at hp4 hok ⊢
    obtain ⟨hok1, hok2⟩ : r.1 = g.1 + looksN f ∧ Gok r := hok
    replace hp4 : Hp w0 w4 (Gb gb mark bs r :: Q2b b2 s f h :: L) := hp4
    repeat (first | refine zA ?_ | refine zB ?_ | refine zC rfl rfl rfl ?_ | refine zD ?_ | refine zE ?_ | refine zF ?_ | refine zG rfl ?_ | refine zH rfl ?_ | refine zI rfl rfl rfl ?_ | refine zJ rfl rfl ?_ | refine zK ?_ | refine zL ?_ | refine zM rfl ?_ | refine zN ?_)
    refine WL.loadB rfl rfl rfl rfl rfl (hp4.obj 1 rfl) (j := 2) rfl ?_
    have hoq := gval_ok mark bs h r (by omega) hok2
    refine WL.call rfl rfl rfl rfl rfl ent86 (ihh hwh r _ w4 (by omega) hok2 hp4) ?_
    rintro v w5 ⟨rfl, hp5⟩
    obtain ⟨B, q, hq⟩ : ∃ B q, gval mark bs h r = (B, q) := ⟨_, _, rfl⟩
    rw [hq] at hp5 hoq ⊢
    obtain ⟨hoq1, hoq2⟩ : q.1 = r.1 + looksN h ∧ Gok q := hoq
    replace hp5 : Hp w0 w5 (Gb gb mark bs q :: Q2b b2 s f h :: L) := hp5
    repeat (first | refine zA ?_ | refine zB ?_ | refine zC rfl rfl rfl ?_ | refine zD ?_ | refine zE ?_ | refine zF ?_ | refine zG rfl ?_ | refine zH rfl ?_ | refine zI rfl rfl rfl ?_ | refine zJ rfl rfl ?_ | refine zK ?_ | refine zL ?_ | refine zM rfl ?_ | refine zN ?_)
    refine WL.loadB rfl rfl rfl rfl rfl (hp5.obj 1 rfl) (j := 0) rfl ?_
    refine WL.nil ?_
    refine WC.block ?_
    repeat (first | refine zA ?_ | refine zB ?_ | refine zC rfl rfl rfl ?_ | refine zD ?_ | refine zE ?_ | refine zF ?_ | refine zG rfl ?_ | refine zH rfl ?_ | refine zI rfl rfl rfl ?_ | refine zJ rfl rfl ?_ | refine zK ?_ | refine zL ?_ | refine zM rfl ?_ | refine zN ?_)
    have hs2 : s = wAnd ∨ s = wOr ∨ s = wUntil ∨ s = wRelease := by simpa [twosL] using hs
    rcases hs2 with rfl | rfl | rfl | rfl
    · refine WL.sCmp (a := wAnd) (b := wAnd) rfl rfl rfl rfl rfl ?_
      repeat (first | refine zA ?_ | refine zB ?_ | refine zC rfl rfl rfl ?_ | refine zD ?_ | refine zE ?_ | refine zF ?_ | refine zG rfl ?_ | refine zH rfl ?_ | refine zI rfl rfl rfl ?_ | refine zJ rfl rfl ?_ | refine zK ?_ | refine zL ?_ | refine zM rfl ?_ | refine zN ?_)
      have e := gv_and mark bs f h g hr hq
      rw [e]
      cases A <;> cases B
      all_goals
        repeat (first | refine zA ?_ | refine zB ?_ | refine zC rfl rfl rfl ?_ | refine zD ?_ | refine zE ?_ | refine zF ?_ | refine zG rfl ?_ | refine zH rfl ?_ | refine zI rfl rfl rfl ?_ | refine zJ rfl rfl ?_ | refine zK ?_ | refine zL ?_ | refine zM rfl ?_ | refine zN ?_)
        exact Res.one rfl rfl rfl ⟨rfl, hp5.drop1⟩
    · refine WL.sCmp (a := wOr) (b := wAnd) rfl rfl rfl rfl rfl ?_
      repeat (first | refine zA ?_ | refine zB ?_ | refine zC rfl rfl rfl ?_ | refine zD ?_ | refine zE ?_ | refine zF ?_ | refine zG rfl ?_ | refine zH rfl ?_ | refine zI rfl rfl rfl ?_ | refine zJ rfl rfl ?_ | refine zK ?_ | refine zL ?_ | refine zM rfl ?_ | refine zN ?_)
      refine WL.sCmp (a := wOr) (b := wOr) rfl rfl rfl rfl rfl ?_
      repeat (first | refine zA ?_ | refine zB ?_ | refine zC rfl rfl rfl ?_ | refine zD ?_ | refine zE ?_ | refine zF ?_ | refine zG rfl ?_ | refine zH rfl ?_ | refine zI rfl rfl rfl ?_ | refine zJ rfl rfl ?_ | refine zK ?_ | refine zL ?_ | refine zM rfl ?_ | refine zN ?_)
      have e := gv_or mark bs f h g hr hq
      rw [e]
      cases A <;> cases B
      all_goals
        repeat (first | refine zA ?_ | refine zB ?_ | refine zC rfl rfl rfl ?_ | refine zD ?_ | refine zE ?_ | refine zF ?_ | refine zG rfl ?_ | refine zH rfl ?_ | refine zI rfl rfl rfl ?_ | refine zJ rfl rfl ?_ | refine zK ?_ | refine zL ?_ | refine zM rfl ?_ | refine zN ?_)
        exact Res.one rfl rfl rfl ⟨rfl, hp5.drop1⟩
    · have hlt := hks (by decide)
      refine WL.sCmp (a := wUntil) (b := wAnd) rfl rfl rfl rfl rfl ?_
      repeat (first | refine zA ?_ | refine zB ?_ | refine zC rfl rfl rfl ?_ | refine zD ?_ | refine zE ?_ | refine zF ?_ | refine zG rfl ?_ | refine zH rfl ?_ | refine zI rfl rfl rfl ?_ | refine zJ rfl rfl ?_ | refine zK ?_ | refine zL ?_ | refine zM rfl ?_ | refine zN ?_)
      refine WL.sCmp (a := wUntil) (b := wOr) rfl rfl rfl rfl rfl ?_
      repeat (first | refine zA ?_ | refine zB ?_ | refine zC rfl rfl rfl ?_ | refine zD ?_ | refine zE ?_ | refine zF ?_ | refine zG rfl ?_ | refine zH rfl ?_ | refine zI rfl rfl rfl ?_ | refine zJ rfl rfl ?_ | refine zK ?_ | refine zL ?_ | refine zM rfl ?_ | refine zN ?_)
      refine WL.call rfl rfl rfl rfl rfl ent101 (look_any (by omega) hb hp5) ?_
      rintro v w6 ⟨rfl, hp6⟩
      repeat (first | refine zA ?_ | refine zB ?_ | refine zC rfl rfl rfl ?_ | refine zD ?_ | refine zE ?_ | refine zF ?_ | refine zG rfl ?_ | refine zH rfl ?_ | refine zI rfl rfl rfl ?_ | refine zJ rfl rfl ?_ | refine zK ?_ | refine zL ?_ | refine zM rfl ?_ | refine zN ?_)
      refine WL.loadB rfl rfl rfl rfl rfl (hp6.obj 1 rfl) (j := 0) rfl ?_
      refine WL.sCmp (a := wUntil) (b := wUntil) rfl rfl rfl rfl rfl ?_
      repeat (first | refine zA ?_ | refine zB ?_ | refine zC rfl rfl rfl ?_ | refine zD ?_ | refine zE ?_ | refine zF ?_ | refine zG rfl ?_ | refine zH rfl ?_ | refine zI rfl rfl rfl ?_ | refine zJ rfl rfl ?_ | refine zK ?_ | refine zL ?_ | refine zM rfl ?_ | refine zN ?_)
      cases A <;> cases B <;> cases hx : bs.testBit q.1
      all_goals
        have e := gv_until mark bs f h g hr hq hx
        repeat (first | refine zA ?_ | refine zB ?_ | refine zC rfl rfl rfl ?_ | refine zD ?_ | refine zE ?_ | refine zF ?_ | refine zG rfl ?_ | refine zH rfl ?_ | refine zI rfl rfl rfl ?_ | refine zJ rfl rfl ?_ | refine zK ?_ | refine zL ?_ | refine zM rfl ?_ | refine zN ?_)
        refine WL.call rfl rfl rfl rfl rfl ent102 (note_any _ _ (by omega) (show Gok (q.1 + 1, q.2) from hoq2) hp6) ?_
        rintro v w7 hp7
        repeat (first | refine zA ?_ | refine zB ?_ | refine zC rfl rfl rfl ?_ | refine zD ?_ | refine zE ?_ | refine zF ?_ | refine zG rfl ?_ | refine zH rfl ?_ | refine zI rfl rfl rfl ?_ | refine zJ rfl rfl ?_ | refine zK ?_ | refine zL ?_ | refine zM rfl ?_ | refine zN ?_)
        rw [e]
        exact Res.one rfl rfl rfl ⟨rfl, hp7.drop1⟩
    · have hlt := hks (by decide)
      refine WL.sCmp (a := wRelease) (b := wAnd) rfl rfl rfl rfl rfl ?_
      repeat (first | refine zA ?_ | refine zB ?_ | refine zC rfl rfl rfl ?_ | refine zD ?_ | refine zE ?_ | refine zF ?_ | refine zG rfl ?_ | refine zH rfl ?_ | refine zI rfl rfl rfl ?_ | refine zJ rfl rfl ?_ | refine zK ?_ | refine zL ?_ | refine zM rfl ?_ | refine zN ?_)
      refine WL.sCmp (a := wRelease) (b := wOr) rfl rfl rfl rfl rfl ?_
      repeat (first | refine zA ?_ | refine zB ?_ | refine zC rfl rfl rfl ?_ | refine zD ?_ | refine zE ?_ | refine zF ?_ | refine zG rfl ?_ | refine zH rfl ?_ | refine zI rfl rfl rfl ?_ | refine zJ rfl rfl ?_ | refine zK ?_ | refine zL ?_ | refine zM rfl ?_ | refine zN ?_)
      refine WL.call rfl rfl rfl rfl rfl ent101 (look_any (by omega) hb hp5) ?_
      rintro v w6 ⟨rfl, hp6⟩
      repeat (first | refine zA ?_ | refine zB ?_ | refine zC rfl rfl rfl ?_ | refine zD ?_ | refine zE ?_ | refine zF ?_ | refine zG rfl ?_ | refine zH rfl ?_ | refine zI rfl rfl rfl ?_ | refine zJ rfl rfl ?_ | refine zK ?_ | refine zL ?_ | refine zM rfl ?_ | refine zN ?_)
      refine WL.loadB rfl rfl rfl rfl rfl (hp6.obj 1 rfl) (j := 0) rfl ?_
      refine WL.sCmp (a := wRelease) (b := wUntil) rfl rfl rfl rfl rfl ?_
      repeat (first | refine zA ?_ | refine zB ?_ | refine zC rfl rfl rfl ?_ | refine zD ?_ | refine zE ?_ | refine zF ?_ | refine zG rfl ?_ | refine zH rfl ?_ | refine zI rfl rfl rfl ?_ | refine zJ rfl rfl ?_ | refine zK ?_ | refine zL ?_ | refine zM rfl ?_ | refine zN ?_)
      cases A <;> cases B <;> cases hx : bs.testBit q.1
      all_goals
        have e := gv_release mark bs f h g hr hq hx
        repeat (first | refine zA ?_ | refine zB ?_ | refine zC rfl rfl rfl ?_ | refine zD ?_ | refine zE ?_ | refine zF ?_ | refine zG rfl ?_ | refine zH rfl ?_ | refine zI rfl rfl rfl ?_ | refine zJ rfl rfl ?_ | refine zK ?_ | refine zL ?_ | refine zM rfl ?_ | refine zN ?_)
        refine WL.call rfl rfl rfl rfl rfl ent102 (note_any _ _ (by omega) (show Gok (q.1 + 1, q.2) from hoq2) hp6) ?_
        rintro v w7 hp7
        repeat (first | refine zA ?_ | refine zB ?_ | refine zC rfl rfl rfl ?_ | refine zD ?_ | refine zE ?_ | refine zF ?_ | refine zG rfl ?_ | refine zH rfl ?_ | refine zI rfl rfl rfl ?_ | refine zJ rfl rfl ?_ | refine zK ?_ | refine zL ?_ | refine zM rfl ?_ | refine zN ?_)
        rw [e]
        exact Res.one rfl rfl rfl ⟨rfl, hp7.drop1⟩
end Go.Proofs.YtpbbneclkhfgoaaDoor
end
section
/- ltl, seventeenth: find. -/
namespace Go.Ltl
open Go.W
/-- The operations that look at the next position. -/
def findM : Fm → List Fm
  | .at_ _ => []
  | .on_ w f => findM f ++ if w = wNot then [] else [.on_ w f]
  | .tw_ w f g => findM f ++ findM g ++ if w = wUntil ∨ w = wRelease then [.tw_ w f g] else []
theorem findM_len : ∀ f, wfF f → (findM f).length = looksN f := by
  intro f
  induction f with
  | at_ w => intro _; rfl
  | on_ w f ih =>
    intro h
    unfold findM looksN
    rw [List.length_append, ih h.2]
    split <;> rfl
  | tw_ w f g ihf ihg =>
    intro h
    unfold findM looksN
    rw [List.length_append, List.length_append, ihf h.2.1, ihg h.2.2]
    have hs2 : w = wAnd ∨ w = wOr ∨ w = wUntil ∨ w = wRelease := by simpa [twosL] using h.1
    rcases hs2 with rfl | rfl | rfl | rfl <;> rfl
end Go.Ltl
namespace Go.W
theorem Hp.rot {w0 w : World} (A B C : List Ent) (h : Hp w0 w (A ++ (B ++ C))) : Hp w0 w (B ++ (A ++ C)) := by
  have p := List.perm_append_comm_assoc A B C
  exact ⟨h.below, fun x hx => h.sat x (p.mem_iff.2 hx), (p.pairwise_iff (fun {a b} h => Apart.symm h)).1 h.dist⟩
end Go.W
namespace Go.Proofs.YtpbbneclkhfgoaaDoor
open Go.W Go.Ltl Go.RowKit
set_option maxRecDepth 100000
attribute [local irreducible] WC WL WQ WS WH

/-- The search in memory. -/
abbrev Sx (xb : Nat) (nx mk : Value) (starts : Nat) (lv : Value) (pairs : Nat) (wv tv fv : Value) : Ent := .blk xb (.cells #[nx, mk, .int .i64 (starts : Nat), lv, .int .i64 (pairs : Nat), wv, tv, fv] 140 (0, 0))
/-- A row of formulas. -/
abbrev Rf (v : Value) (l : List Fm) : Ent := .row 87 1 v l.length (l.map fmV)
theorem fm_cells (l : List Fm) : Cells (l.map fmV) := by
  intro v hv
  obtain ⟨x, _, rfl⟩ := List.mem_map.1 hv
  exact fm_one x
theorem find_any {w0 : World} (xb : Nat) (nx mk : Value) (starts pairs : Nat) (wv tv fv : Value) (L : List Ent) : ∀ (f : Fm), wfF f → ∀ (acc : List Fm) (la : Option Addr) (lc : Nat) (w : World), acc.length + looksN f ≤ 1000 → Hp w0 w (Sx xb nx mk starts (.slice la acc.length lc) pairs wv tv fv :: Rf (.slice la acc.length lc) acc :: L) →
    Ret Tryd.prog 85 [ptr xb, fmV f] w fun _ w' => ∃ la' lc', Hp w0 w' (Sx xb nx mk starts (.slice la' (acc ++ findM f).length lc') pairs wv tv fv :: Rf (.slice la' (acc ++ findM f).length lc') (acc ++ findM f) :: L) := by
  intro f
  induction f generalizing L with
  | at_ s =>
    intro hwf acc la lc w hl hp
    refine enter Tryd.func85 rfl rfl ⟨rfl, rfl⟩ rfl ?_
    repeat (first | refine zA ?_ | refine zB ?_ | refine zC rfl rfl rfl ?_ | refine zD ?_ | refine zE ?_ | refine zF ?_ | refine zG rfl ?_ | refine zH rfl ?_ | refine zI rfl rfl rfl ?_ | refine zJ rfl rfl ?_ | refine zK ?_ | refine zL ?_ | refine zM rfl ?_ | refine zN ?_)
    refine WL.val rfl rfl rfl (yAsT rfl rfl rfl) ?_
    repeat (first | refine zA ?_ | refine zB ?_ | refine zC rfl rfl rfl ?_ | refine zD ?_ | refine zE ?_ | refine zF ?_ | refine zG rfl ?_ | refine zH rfl ?_ | refine zI rfl rfl rfl ?_ | refine zJ rfl rfl ?_ | refine zK ?_ | refine zL ?_ | refine zM rfl ?_ | refine zN ?_)
    refine WL.val rfl rfl rfl (yAsT rfl rfl rfl) ?_
    repeat (first | refine zA ?_ | refine zB ?_ | refine zC rfl rfl rfl ?_ | refine zD ?_ | refine zE ?_ | refine zF ?_ | refine zG rfl ?_ | refine zH rfl ?_ | refine zI rfl rfl rfl ?_ | refine zJ rfl rfl ?_ | refine zK ?_ | refine zL ?_ | refine zM rfl ?_ | refine zN ?_)
    refine Res.zero rfl rfl ⟨la, lc, ?_⟩
    rw [show acc ++ findM (.at_ s) = acc from List.append_nil _]
    exact hp
  | on_ s f ih =>
    intro hwf acc la lc w hl hp
    have hlf : acc.length + looksN f ≤ 1000 := by unfold looksN at hl; split at hl <;> omega
    have hfl := findM_len f hwf.2
    refine enter Tryd.func85 rfl rfl ⟨rfl, rfl⟩ rfl ?_
    repeat (first | refine zA ?_ | refine zB ?_ | refine zC rfl rfl rfl ?_ | refine zD ?_ | refine zE ?_ | refine zF ?_ | refine zG rfl ?_ | refine zH rfl ?_ | refine zI rfl rfl rfl ?_ | refine zJ rfl rfl ?_ | refine zK ?_ | refine zL ?_ | refine zM rfl ?_ | refine zN ?_)
    refine WL.val rfl rfl rfl (yAsT rfl rfl rfl) ?_
    repeat (first | refine zA ?_ | refine zB ?_ | refine zC rfl rfl rfl ?_ | refine zD ?_ | refine zE ?_ | refine zF ?_ | refine zG rfl ?_ | refine zH rfl ?_ | refine zI rfl rfl rfl ?_ | refine zJ rfl rfl ?_ | refine zK ?_ | refine zL ?_ | refine zM rfl ?_ | refine zN ?_)
    refine WL.alloc rfl rfl rfl (fun b2 w2 h2 => ?_)
    have hp2 := hp.new h2
    refine WL.storeN rfl rfl rfl rfl rfl (by simp [Value.oneCell', st]; exact fm_one f) (hp2.obj 0 rfl) (Nat.le_refl _) rfl (fun w3 h3 => ?_)
    have hp3 : Hp w0 w3 (Q1b b2 s f :: Sx xb nx mk starts (.slice la acc.length lc) pairs wv tv fv :: Rf (.slice la acc.length lc) acc :: L) := hp2.set 0 rfl rfl h3
    have hp3' : Hp w0 w3 (Sx xb nx mk starts (.slice la acc.length lc) pairs wv tv fv :: Rf (.slice la acc.length lc) acc :: Q1b b2 s f :: L) := Hp.rot [_] [_, _] L hp3
    repeat (first | refine zA ?_ | refine zB ?_ | refine zC rfl rfl rfl ?_ | refine zD ?_ | refine zE ?_ | refine zF ?_ | refine zG rfl ?_ | refine zH rfl ?_ | refine zI rfl rfl rfl ?_ | refine zJ rfl rfl ?_ | refine zK ?_ | refine zL ?_ | refine zM rfl ?_ | refine zN ?_)
    refine WL.loadB rfl rfl rfl rfl rfl (hp3'.obj 2 rfl) (j := 1) rfl ?_
    refine WL.call rfl rfl rfl rfl rfl ent85 (ih (Q1b b2 s f :: L) hwf.2 acc la lc w3 hlf hp3') ?_
    rintro v w4 ⟨la4, lc4, hp4⟩
    obtain ⟨acc2, ha2⟩ : ∃ acc2, acc2 = acc ++ findM f := ⟨_, rfl⟩
    have hl2 : acc2.length = acc.length + looksN f := by rw [ha2, List.length_append, hfl]
    rw [← ha2] at hp4
    repeat (first | refine zA ?_ | refine zB ?_ | refine zC rfl rfl rfl ?_ | refine zD ?_ | refine zE ?_ | refine zF ?_ | refine zG rfl ?_ | refine zH rfl ?_ | refine zI rfl rfl rfl ?_ | refine zJ rfl rfl ?_ | refine zK ?_ | refine zL ?_ | refine zM rfl ?_ | refine zN ?_)
    refine WL.loadB rfl rfl rfl rfl rfl (hp4.obj 2 rfl) (j := 0) rfl ?_
    refine WL.sCmp rfl rfl rfl rfl rfl ?_
    repeat (first | refine zA ?_ | refine zB ?_ | refine zC rfl rfl rfl ?_ | refine zD ?_ | refine zE ?_ | refine zF ?_ | refine zG rfl ?_ | refine zH rfl ?_ | refine zI rfl rfl rfl ?_ | refine zJ rfl rfl ?_ | refine zK ?_ | refine zL ?_ | refine zM rfl ?_ | refine zN ?_)
    refine WC.cond rfl (fun h1 => ?_) (fun h1 => ?_)
    · have h1 : s ≠ wNot := by simpa [wNot] using h1
      have e1 : acc ++ findM (.on_ s f) = acc2 ++ [Fm.on_ s f] := by rw [ha2]; show acc ++ (findM f ++ if s = wNot then [] else [Fm.on_ s f]) = _; rw [if_neg h1, List.append_assoc]
      rw [e1]
      repeat (first | refine zA ?_ | refine zB ?_ | refine zC rfl rfl rfl ?_ | refine zD ?_ | refine zE ?_ | refine zF ?_ | refine zG rfl ?_ | refine zH rfl ?_ | refine zI rfl rfl rfl ?_ | refine zJ rfl rfl ?_ | refine zK ?_ | refine zL ?_ | refine zM rfl ?_ | refine zN ?_)
      refine WL.nilC rfl rfl rfl ?_
      repeat (first | refine zA ?_ | refine zB ?_ | refine zC rfl rfl rfl ?_ | refine zD ?_ | refine zE ?_ | refine zF ?_ | refine zG rfl ?_ | refine zH rfl ?_ | refine zI rfl rfl rfl ?_ | refine zJ rfl rfl ?_ | refine zK ?_ | refine zL ?_ | refine zM rfl ?_ | refine zN ?_)
      refine WL.loadB rfl rfl rfl rfl rfl (hp4.obj 0 rfl) (j := 3) rfl ?_
      repeat (first | refine zA ?_ | refine zB ?_ | refine zC rfl rfl rfl ?_ | refine zD ?_ | refine zE ?_ | refine zF ?_ | refine zG rfl ?_ | refine zH rfl ?_ | refine zI rfl rfl rfl ?_ | refine zJ rfl rfl ?_ | refine zK ?_ | refine zL ?_ | refine zM rfl ?_ | refine zN ?_)
      refine WL.buildS (cs := [fmV (Fm.on_ s f)]) rfl rfl rfl rfl rfl rfl rfl rfl rfl (fun b6 w6 h6 => ?_)
      have hp6 := hp4.new h6
      refine WL.append 2 hp6 rfl rfl rfl rfl rfl (by decide) rfl rfl rfl (news := [fmV (Fm.on_ s f)]) (Sl.of_obj (hp6.obj 0 rfl) (fun q u hq => by simpa using hq)) rfl (fm_cells [Fm.on_ s f]) (by unfold maxLen; omega) (by show (acc2.length + 1) * 16 ≤ _; omega) ?_
      intro ra rc1 w7 hp7 hg7
      have e2 : (acc2 ++ [Fm.on_ s f]).length = acc2.length + 1 := by rw [List.length_append]; rfl
      refine WL.nilC rfl rfl rfl ?_
      repeat (first | refine zA ?_ | refine zB ?_ | refine zC rfl rfl rfl ?_ | refine zD ?_ | refine zE ?_ | refine zF ?_ | refine zG rfl ?_ | refine zH rfl ?_ | refine zI rfl rfl rfl ?_ | refine zJ rfl rfl ?_ | refine zK ?_ | refine zL ?_ | refine zM rfl ?_ | refine zN ?_)
      refine WL.store rfl rfl rfl rfl rfl rfl (hp7.obj 1 rfl) (by show 3 < 8; decide) (fun w8 h8 => ?_)
      have hp8 := hp7.set 1 rfl rfl h8
      have hp9 : Hp w0 w8 (Sx xb nx mk starts (.slice ra (acc2 ++ [Fm.on_ s f]).length rc1) pairs wv tv fv :: Rf (.slice ra (acc2 ++ [Fm.on_ s f]).length rc1) (acc2 ++ [Fm.on_ s f]) :: L) := by
        unfold Rf
        rw [e2, List.map_append]
        have := hp8.tail
        exact (Hp.rot [_, _] [_] L this).tail
      repeat (first | refine zA ?_ | refine zB ?_ | refine zC rfl rfl rfl ?_ | refine zD ?_ | refine zE ?_ | refine zF ?_ | refine zG rfl ?_ | refine zH rfl ?_ | refine zI rfl rfl rfl ?_ | refine zJ rfl rfl ?_ | refine zK ?_ | refine zL ?_ | refine zM rfl ?_ | refine zN ?_)
      exact Res.zero rfl rfl ⟨ra, rc1, hp9⟩
    · have h1 : s = wNot := by simpa [wNot] using h1
      have e1 : acc ++ findM (.on_ s f) = acc2 := by rw [ha2]; show acc ++ (findM f ++ if s = wNot then [] else [Fm.on_ s f]) = _; rw [if_pos h1, List.append_nil]
      rw [e1]
      repeat (first | refine zA ?_ | refine zB ?_ | refine zC rfl rfl rfl ?_ | refine zD ?_ | refine zE ?_ | refine zF ?_ | refine zG rfl ?_ | refine zH rfl ?_ | refine zI rfl rfl rfl ?_ | refine zJ rfl rfl ?_ | refine zK ?_ | refine zL ?_ | refine zM rfl ?_ | refine zN ?_)
      exact Res.zero rfl rfl ⟨la4, lc4, (Hp.rot [_, _] [_] L hp4).tail⟩
  | tw_ s f g ihf ihg =>
    intro hwf acc la lc w hl hp
    have hlf : acc.length + looksN f + looksN g ≤ 1000 := by unfold looksN at hl; split at hl <;> omega
    have hfl := findM_len f hwf.2.1
    have hgl := findM_len g hwf.2.2
    have hlt : (s = wUntil ∨ s = wRelease) → acc.length + looksN f + looksN g + 1 ≤ 1000 := by
      intro h
      have hn : ¬ (s = wAnd ∨ s = wOr) := by rcases h with rfl | rfl <;> decide
      unfold looksN at hl
      rw [if_neg hn] at hl
      omega
    refine enter Tryd.func85 rfl rfl ⟨rfl, rfl⟩ rfl ?_
    repeat (first | refine zA ?_ | refine zB ?_ | refine zC rfl rfl rfl ?_ | refine zD ?_ | refine zE ?_ | refine zF ?_ | refine zG rfl ?_ | refine zH rfl ?_ | refine zI rfl rfl rfl ?_ | refine zJ rfl rfl ?_ | refine zK ?_ | refine zL ?_ | refine zM rfl ?_ | refine zN ?_)
    refine WL.val rfl rfl rfl (yAsT rfl rfl rfl) ?_
    repeat (first | refine zA ?_ | refine zB ?_ | refine zC rfl rfl rfl ?_ | refine zD ?_ | refine zE ?_ | refine zF ?_ | refine zG rfl ?_ | refine zH rfl ?_ | refine zI rfl rfl rfl ?_ | refine zJ rfl rfl ?_ | refine zK ?_ | refine zL ?_ | refine zM rfl ?_ | refine zN ?_)
    refine WL.val rfl rfl rfl (yAsT rfl rfl rfl) ?_
    repeat (first | refine zA ?_ | refine zB ?_ | refine zC rfl rfl rfl ?_ | refine zD ?_ | refine zE ?_ | refine zF ?_ | refine zG rfl ?_ | refine zH rfl ?_ | refine zI rfl rfl rfl ?_ | refine zJ rfl rfl ?_ | refine zK ?_ | refine zL ?_ | refine zM rfl ?_ | refine zN ?_)
    refine WL.alloc rfl rfl rfl (fun b2 w2 h2 => ?_)
    have hp2 := hp.new h2
    refine WL.storeN rfl rfl rfl rfl rfl (by simp [Value.oneCell', st]; exact ⟨fm_one f, fm_one g⟩) (hp2.obj 0 rfl) (Nat.le_refl _) rfl (fun w3 h3 => ?_)
    have hp3 : Hp w0 w3 (Q2b b2 s f g :: Sx xb nx mk starts (.slice la acc.length lc) pairs wv tv fv :: Rf (.slice la acc.length lc) acc :: L) := hp2.set 0 rfl rfl h3
    have hp3' : Hp w0 w3 (Sx xb nx mk starts (.slice la acc.length lc) pairs wv tv fv :: Rf (.slice la acc.length lc) acc :: Q2b b2 s f g :: L) := Hp.rot [_] [_, _] L hp3
    repeat (first | refine zA ?_ | refine zB ?_ | refine zC rfl rfl rfl ?_ | refine zD ?_ | refine zE ?_ | refine zF ?_ | refine zG rfl ?_ | refine zH rfl ?_ | refine zI rfl rfl rfl ?_ | refine zJ rfl rfl ?_ | refine zK ?_ | refine zL ?_ | refine zM rfl ?_ | refine zN ?_)
    refine WL.loadB rfl rfl rfl rfl rfl (hp3'.obj 2 rfl) (j := 1) rfl ?_
    refine WL.call rfl rfl rfl rfl rfl ent85 (ihf (Q2b b2 s f g :: L) hwf.2.1 acc la lc w3 (by omega) hp3') ?_
    rintro v w4 ⟨la4, lc4, hp4⟩
    obtain ⟨acc1, ha1⟩ : ∃ acc1, acc1 = acc ++ findM f := ⟨_, rfl⟩
    have hl1 : acc1.length = acc.length + looksN f := by rw [ha1, List.length_append, hfl]
    rw [← ha1] at hp4
    repeat (first | refine zA ?_ | refine zB ?_ | refine zC rfl rfl rfl ?_ | refine zD ?_ | refine zE ?_ | refine zF ?_ | refine zG rfl ?_ | refine zH rfl ?_ | refine zI rfl rfl rfl ?_ | refine zJ rfl rfl ?_ | refine zK ?_ | refine zL ?_ | refine zM rfl ?_ | refine zN ?_)
    refine WL.loadB rfl rfl rfl rfl rfl (hp4.obj 2 rfl) (j := 2) rfl ?_
    refine WL.call rfl rfl rfl rfl rfl ent85 (ihg (Q2b b2 s f g :: L) hwf.2.2 acc1 la4 lc4 w4 (by omega) hp4) ?_
    rintro v w5 ⟨la5, lc5, hp5⟩
    obtain ⟨acc2, ha2⟩ : ∃ acc2, acc2 = acc1 ++ findM g := ⟨_, rfl⟩
    have hl2 : acc2.length = acc.length + looksN f + looksN g := by rw [ha2, List.length_append, hgl]; omega
    rw [← ha2] at hp5
    repeat (first | refine zA ?_ | refine zB ?_ | refine zC rfl rfl rfl ?_ | refine zD ?_ | refine zE ?_ | refine zF ?_ | refine zG rfl ?_ | refine zH rfl ?_ | refine zI rfl rfl rfl ?_ | refine zJ rfl rfl ?_ | refine zK ?_ | refine zL ?_ | refine zM rfl ?_ | refine zN ?_)
    refine WL.loadB rfl rfl rfl rfl rfl (hp5.obj 2 rfl) (j := 0) rfl ?_
    have hs2 : s = wAnd ∨ s = wOr ∨ s = wUntil ∨ s = wRelease := by simpa [twosL] using hwf.1
    rcases hs2 with rfl | rfl | rfl | rfl
    · refine WL.sCmp (a := wAnd) (b := wUntil) rfl rfl rfl rfl rfl ?_
      repeat (first | refine zA ?_ | refine zB ?_ | refine zC rfl rfl rfl ?_ | refine zD ?_ | refine zE ?_ | refine zF ?_ | refine zG rfl ?_ | refine zH rfl ?_ | refine zI rfl rfl rfl ?_ | refine zJ rfl rfl ?_ | refine zK ?_ | refine zL ?_ | refine zM rfl ?_ | refine zN ?_)
      refine WL.loadB rfl rfl rfl rfl rfl (hp5.obj 2 rfl) (j := 0) rfl ?_
      refine WL.sCmp (a := wAnd) (b := wRelease) rfl rfl rfl rfl rfl ?_
      repeat (first | refine zA ?_ | refine zB ?_ | refine zC rfl rfl rfl ?_ | refine zD ?_ | refine zE ?_ | refine zF ?_ | refine zG rfl ?_ | refine zH rfl ?_ | refine zI rfl rfl rfl ?_ | refine zJ rfl rfl ?_ | refine zK ?_ | refine zL ?_ | refine zM rfl ?_ | refine zN ?_)
      have e1 : acc ++ findM (.tw_ wAnd f g) = acc2 := by rw [ha2, ha1]; show acc ++ (findM f ++ findM g ++ []) = _; simp only [List.append_assoc, List.append_nil]
      rw [e1]
      exact Res.zero rfl rfl ⟨la5, lc5, (Hp.rot [_, _] [_] L hp5).tail⟩
    · refine WL.sCmp (a := wOr) (b := wUntil) rfl rfl rfl rfl rfl ?_
      repeat (first | refine zA ?_ | refine zB ?_ | refine zC rfl rfl rfl ?_ | refine zD ?_ | refine zE ?_ | refine zF ?_ | refine zG rfl ?_ | refine zH rfl ?_ | refine zI rfl rfl rfl ?_ | refine zJ rfl rfl ?_ | refine zK ?_ | refine zL ?_ | refine zM rfl ?_ | refine zN ?_)
      refine WL.loadB rfl rfl rfl rfl rfl (hp5.obj 2 rfl) (j := 0) rfl ?_
      refine WL.sCmp (a := wOr) (b := wRelease) rfl rfl rfl rfl rfl ?_
      repeat (first | refine zA ?_ | refine zB ?_ | refine zC rfl rfl rfl ?_ | refine zD ?_ | refine zE ?_ | refine zF ?_ | refine zG rfl ?_ | refine zH rfl ?_ | refine zI rfl rfl rfl ?_ | refine zJ rfl rfl ?_ | refine zK ?_ | refine zL ?_ | refine zM rfl ?_ | refine zN ?_)
      have e1 : acc ++ findM (.tw_ wOr f g) = acc2 := by rw [ha2, ha1]; show acc ++ (findM f ++ findM g ++ []) = _; simp only [List.append_assoc, List.append_nil]
      rw [e1]
      exact Res.zero rfl rfl ⟨la5, lc5, (Hp.rot [_, _] [_] L hp5).tail⟩
    · have hlr := hlt (by decide)
      have e1 : acc ++ findM (.tw_ wUntil f g) = acc2 ++ [Fm.tw_ wUntil f g] := by rw [ha2, ha1]; show acc ++ (findM f ++ findM g ++ [Fm.tw_ wUntil f g]) = _; simp only [List.append_assoc]
      rw [e1]
      refine WL.sCmp (a := wUntil) (b := wUntil) rfl rfl rfl rfl rfl ?_
      repeat (first | refine zA ?_ | refine zB ?_ | refine zC rfl rfl rfl ?_ | refine zD ?_ | refine zE ?_ | refine zF ?_ | refine zG rfl ?_ | refine zH rfl ?_ | refine zI rfl rfl rfl ?_ | refine zJ rfl rfl ?_ | refine zK ?_ | refine zL ?_ | refine zM rfl ?_ | refine zN ?_)
      refine WL.nilC rfl rfl rfl ?_
      repeat (first | refine zA ?_ | refine zB ?_ | refine zC rfl rfl rfl ?_ | refine zD ?_ | refine zE ?_ | refine zF ?_ | refine zG rfl ?_ | refine zH rfl ?_ | refine zI rfl rfl rfl ?_ | refine zJ rfl rfl ?_ | refine zK ?_ | refine zL ?_ | refine zM rfl ?_ | refine zN ?_)
      refine WL.loadB rfl rfl rfl rfl rfl (hp5.obj 0 rfl) (j := 3) rfl ?_
      repeat (first | refine zA ?_ | refine zB ?_ | refine zC rfl rfl rfl ?_ | refine zD ?_ | refine zE ?_ | refine zF ?_ | refine zG rfl ?_ | refine zH rfl ?_ | refine zI rfl rfl rfl ?_ | refine zJ rfl rfl ?_ | refine zK ?_ | refine zL ?_ | refine zM rfl ?_ | refine zN ?_)
      refine WL.buildS (cs := [fmV (Fm.tw_ wUntil f g)]) rfl rfl rfl rfl rfl rfl rfl rfl rfl (fun b6 w6 h6 => ?_)
      have hp6 := hp5.new h6
      refine WL.append 2 hp6 rfl rfl rfl rfl rfl (by decide) rfl rfl rfl (news := [fmV (Fm.tw_ wUntil f g)]) (Sl.of_obj (hp6.obj 0 rfl) (fun q u hq => by simpa using hq)) rfl (fm_cells [Fm.tw_ wUntil f g]) (by unfold maxLen; omega) (by show (acc2.length + 1) * 16 ≤ _; omega) ?_
      intro ra rc1 w7 hp7 hg7
      have e2 : (acc2 ++ [Fm.tw_ wUntil f g]).length = acc2.length + 1 := by rw [List.length_append]; rfl
      refine WL.nilC rfl rfl rfl ?_
      repeat (first | refine zA ?_ | refine zB ?_ | refine zC rfl rfl rfl ?_ | refine zD ?_ | refine zE ?_ | refine zF ?_ | refine zG rfl ?_ | refine zH rfl ?_ | refine zI rfl rfl rfl ?_ | refine zJ rfl rfl ?_ | refine zK ?_ | refine zL ?_ | refine zM rfl ?_ | refine zN ?_)
      refine WL.store rfl rfl rfl rfl rfl rfl (hp7.obj 1 rfl) (by show 3 < 8; decide) (fun w8 h8 => ?_)
      have hp8 := hp7.set 1 rfl rfl h8
      have hp9 : Hp w0 w8 (Sx xb nx mk starts (.slice ra (acc2 ++ [Fm.tw_ wUntil f g]).length rc1) pairs wv tv fv :: Rf (.slice ra (acc2 ++ [Fm.tw_ wUntil f g]).length rc1) (acc2 ++ [Fm.tw_ wUntil f g]) :: L) := by
        unfold Rf
        rw [e2, List.map_append]
        have := hp8.tail
        exact (Hp.rot [_, _] [_] L this).tail
      repeat (first | refine zA ?_ | refine zB ?_ | refine zC rfl rfl rfl ?_ | refine zD ?_ | refine zE ?_ | refine zF ?_ | refine zG rfl ?_ | refine zH rfl ?_ | refine zI rfl rfl rfl ?_ | refine zJ rfl rfl ?_ | refine zK ?_ | refine zL ?_ | refine zM rfl ?_ | refine zN ?_)
      exact Res.zero rfl rfl ⟨ra, rc1, hp9⟩
    · have hlr := hlt (by decide)
      have e1 : acc ++ findM (.tw_ wRelease f g) = acc2 ++ [Fm.tw_ wRelease f g] := by rw [ha2, ha1]; show acc ++ (findM f ++ findM g ++ [Fm.tw_ wRelease f g]) = _; simp only [List.append_assoc]
      rw [e1]
      refine WL.sCmp (a := wRelease) (b := wUntil) rfl rfl rfl rfl rfl ?_
      repeat (first | refine zA ?_ | refine zB ?_ | refine zC rfl rfl rfl ?_ | refine zD ?_ | refine zE ?_ | refine zF ?_ | refine zG rfl ?_ | refine zH rfl ?_ | refine zI rfl rfl rfl ?_ | refine zJ rfl rfl ?_ | refine zK ?_ | refine zL ?_ | refine zM rfl ?_ | refine zN ?_)
      refine WL.loadB rfl rfl rfl rfl rfl (hp5.obj 2 rfl) (j := 0) rfl ?_
      refine WL.sCmp (a := wRelease) (b := wRelease) rfl rfl rfl rfl rfl ?_
      repeat (first | refine zA ?_ | refine zB ?_ | refine zC rfl rfl rfl ?_ | refine zD ?_ | refine zE ?_ | refine zF ?_ | refine zG rfl ?_ | refine zH rfl ?_ | refine zI rfl rfl rfl ?_ | refine zJ rfl rfl ?_ | refine zK ?_ | refine zL ?_ | refine zM rfl ?_ | refine zN ?_)
      refine WL.nilC rfl rfl rfl ?_
      repeat (first | refine zA ?_ | refine zB ?_ | refine zC rfl rfl rfl ?_ | refine zD ?_ | refine zE ?_ | refine zF ?_ | refine zG rfl ?_ | refine zH rfl ?_ | refine zI rfl rfl rfl ?_ | refine zJ rfl rfl ?_ | refine zK ?_ | refine zL ?_ | refine zM rfl ?_ | refine zN ?_)
      refine WL.loadB rfl rfl rfl rfl rfl (hp5.obj 0 rfl) (j := 3) rfl ?_
      repeat (first | refine zA ?_ | refine zB ?_ | refine zC rfl rfl rfl ?_ | refine zD ?_ | refine zE ?_ | refine zF ?_ | refine zG rfl ?_ | refine zH rfl ?_ | refine zI rfl rfl rfl ?_ | refine zJ rfl rfl ?_ | refine zK ?_ | refine zL ?_ | refine zM rfl ?_ | refine zN ?_)
      refine WL.buildS (cs := [fmV (Fm.tw_ wRelease f g)]) rfl rfl rfl rfl rfl rfl rfl rfl rfl (fun b6 w6 h6 => ?_)
      have hp6 := hp5.new h6
      refine WL.append 2 hp6 rfl rfl rfl rfl rfl (by decide) rfl rfl rfl (news := [fmV (Fm.tw_ wRelease f g)]) (Sl.of_obj (hp6.obj 0 rfl) (fun q u hq => by simpa using hq)) rfl (fm_cells [Fm.tw_ wRelease f g]) (by unfold maxLen; omega) (by show (acc2.length + 1) * 16 ≤ _; omega) ?_
      intro ra rc1 w7 hp7 hg7
      have e2 : (acc2 ++ [Fm.tw_ wRelease f g]).length = acc2.length + 1 := by rw [List.length_append]; rfl
      refine WL.nilC rfl rfl rfl ?_
      repeat (first | refine zA ?_ | refine zB ?_ | refine zC rfl rfl rfl ?_ | refine zD ?_ | refine zE ?_ | refine zF ?_ | refine zG rfl ?_ | refine zH rfl ?_ | refine zI rfl rfl rfl ?_ | refine zJ rfl rfl ?_ | refine zK ?_ | refine zL ?_ | refine zM rfl ?_ | refine zN ?_)
      refine WL.store rfl rfl rfl rfl rfl rfl (hp7.obj 1 rfl) (by show 3 < 8; decide) (fun w8 h8 => ?_)
      have hp8 := hp7.set 1 rfl rfl h8
      have hp9 : Hp w0 w8 (Sx xb nx mk starts (.slice ra (acc2 ++ [Fm.tw_ wRelease f g]).length rc1) pairs wv tv fv :: Rf (.slice ra (acc2 ++ [Fm.tw_ wRelease f g]).length rc1) (acc2 ++ [Fm.tw_ wRelease f g]) :: L) := by
        unfold Rf
        rw [e2, List.map_append]
        have := hp8.tail
        exact (Hp.rot [_, _] [_] L this).tail
      repeat (first | refine zA ?_ | refine zB ?_ | refine zC rfl rfl rfl ?_ | refine zD ?_ | refine zE ?_ | refine zF ?_ | refine zG rfl ?_ | refine zH rfl ?_ | refine zI rfl rfl rfl ?_ | refine zJ rfl rfl ?_ | refine zK ?_ | refine zL ?_ | refine zM rfl ?_ | refine zN ?_)
      exact Res.zero rfl rfl ⟨ra, rc1, hp9⟩
end Go.Proofs.YtpbbneclkhfgoaaDoor
end
