/- ltl, fifteenth: the guesses of the search. -/
import Derived.Test.YtpbbneclkhfgoaaDoorU14
import Derived.Test.YtpbbneclkhfgoaaDoorYc
namespace Go.Proofs.YtpbbneclkhfgoaaDoor
open Go.W Go.Ltl Go.RowKit
set_option maxRecDepth 100000
attribute [local irreducible] WC WL WQ WS WH

/-- The guesses in memory. -/
abbrev Gb (gb : Nat) (mark : Int) (bs : Nat) (g : Gs) : Ent := .blk gb (.cells #[.int .i64 mark, .int .i64 (bs : Nat), .int .i64 (g.1 : Nat), .int .i64 (g.2.1 : Nat), .int .i64 (g.2.2 : Nat)] 144 (0, 0))
theorem pow30 {k : Nat} (h : k < 30) : 2 ^ k < 1073741824 := Nat.lt_of_lt_of_le (Nat.pow_lt_pow_right (a := 2) (by decide) h) (by decide)
theorem and_pow (n k : Nat) : n &&& 2 ^ k = if n.testBit k then 2 ^ k else 0 := by
  apply Nat.eq_of_testBit_eq
  intro i
  rw [Nat.testBit_and, Nat.testBit_two_pow]
  by_cases h : k = i
  · subst h
    cases n.testBit k <;> simp
  · rw [decide_eq_false h, Bool.and_false]
    split
    · rw [Nat.testBit_two_pow, decide_eq_false h]
    · simp
theorem testBit_and (n k : Nat) : (((n &&& 2 ^ k : Nat) : Int) != 0) = n.testBit k := by
  rw [and_pow]
  cases n.testBit k with
  | false => rfl
  | true =>
    have : 0 < 2 ^ k := Nat.two_pow_pos k
    simp only [if_true]
    generalize 2 ^ k = x at *
    rw [bne_iff_ne]
    omega
theorem look_any {w0 w : World} {L : List Ent} {gb : Nat} {mark : Int} {bs : Nat} {g : Gs} (hk : g.1 < 30) (hb : bs < 2 ^ 30) (hp : Hp w0 w (Gb gb mark bs g :: L)) :
    Ret Tryd.prog 101 [ptr gb] w fun v w' => v = .tuple #[.bool (bs.testBit g.1), .int .i64 ((2 ^ g.1 : Nat) : Int)] ∧ Hp w0 w' (Gb gb mark bs (g.1 + 1, g.2) :: L) := by
  have step := wrap_succ (i := g.1) (n := g.1 + 1) (by omega) (by omega)
  have hpw := pow30 hk
  have e1 : shl .i64 1 g.1 = ((2 ^ g.1 : Nat) : Int) := shl_one (by omega)
  have e2 : bits .and .i64 ((bs : Nat) : Int) ((2 ^ g.1 : Nat) : Int) = ((bs &&& 2 ^ g.1 : Nat) : Int) := and_i64 (by omega) (by omega)
  refine enter Tryd.func101 rfl rfl ⟨rfl, rfl⟩ rfl ?_
  repeat (first | refine WC.seq ?_ | refine WC.reg ?_ | refine WL.pure rfl rfl rfl ?_ | refine WL.nil ?_ | refine WC.skip ?_ | refine WC.block ?_ | refine WC.condT rfl ?_ | refine WC.condF rfl ?_ | refine WL.off rfl rfl rfl ?_ | refine WL.off0 rfl rfl ?_ | refine WC.exit ?_ | refine blk_hit ?_ | refine blk_miss rfl ?_ | refine WC.ret ?_)
  refine WL.nilC rfl rfl rfl ?_
  repeat (first | refine WC.seq ?_ | refine WC.reg ?_ | refine WL.pure rfl rfl rfl ?_ | refine WL.nil ?_ | refine WC.skip ?_ | refine WC.block ?_ | refine WC.condT rfl ?_ | refine WC.condF rfl ?_ | refine WL.off rfl rfl rfl ?_ | refine WL.off0 rfl rfl ?_ | refine WC.exit ?_ | refine blk_hit ?_ | refine blk_miss rfl ?_ | refine WC.ret ?_)
  refine WL.loadB rfl rfl rfl rfl rfl (hp.obj 0 rfl) (j := 2) rfl ?_
  refine WL.pure rfl rfl rfl ?_
  refine WL.known (d := 9) (congrArg (fun z => some (Value.int .i64 z)) e1) ?_
  repeat (first | refine WC.seq ?_ | refine WC.reg ?_ | refine WL.pure rfl rfl rfl ?_ | refine WL.nil ?_ | refine WC.skip ?_ | refine WC.block ?_ | refine WC.condT rfl ?_ | refine WC.condF rfl ?_ | refine WL.off rfl rfl rfl ?_ | refine WL.off0 rfl rfl ?_ | refine WC.exit ?_ | refine blk_hit ?_ | refine blk_miss rfl ?_ | refine WC.ret ?_)
  refine WL.nilC rfl rfl rfl ?_
  repeat (first | refine WC.seq ?_ | refine WC.reg ?_ | refine WL.pure rfl rfl rfl ?_ | refine WL.nil ?_ | refine WC.skip ?_ | refine WC.block ?_ | refine WC.condT rfl ?_ | refine WC.condF rfl ?_ | refine WL.off rfl rfl rfl ?_ | refine WL.off0 rfl rfl ?_ | refine WC.exit ?_ | refine blk_hit ?_ | refine blk_miss rfl ?_ | refine WC.ret ?_)
  refine WL.loadB rfl rfl rfl rfl rfl (hp.obj 0 rfl) (j := 2) rfl ?_
  refine WL.pure rfl rfl rfl ?_
  refine WL.known (d := 14) (congrArg (fun z => some (Value.int .i64 z)) step) ?_
  refine WL.nilC rfl rfl rfl ?_
  repeat (first | refine WC.seq ?_ | refine WC.reg ?_ | refine WL.pure rfl rfl rfl ?_ | refine WL.nil ?_ | refine WC.skip ?_ | refine WC.block ?_ | refine WC.condT rfl ?_ | refine WC.condF rfl ?_ | refine WL.off rfl rfl rfl ?_ | refine WL.off0 rfl rfl ?_ | refine WC.exit ?_ | refine blk_hit ?_ | refine blk_miss rfl ?_ | refine WC.ret ?_)
  refine WL.store rfl rfl rfl rfl rfl rfl (hp.obj 0 rfl) (by show 2 < 5; decide) (fun w2 h2 => ?_)
  have hp2 : Hp w0 w2 (Gb gb mark bs (g.1 + 1, g.2) :: L) := hp.set 0 rfl rfl h2
  repeat (first | refine WC.seq ?_ | refine WC.reg ?_ | refine WL.pure rfl rfl rfl ?_ | refine WL.nil ?_ | refine WC.skip ?_ | refine WC.block ?_ | refine WC.condT rfl ?_ | refine WC.condF rfl ?_ | refine WL.off rfl rfl rfl ?_ | refine WL.off0 rfl rfl ?_ | refine WC.exit ?_ | refine blk_hit ?_ | refine blk_miss rfl ?_ | refine WC.ret ?_)
  refine WL.nilC rfl rfl rfl ?_
  repeat (first | refine WC.seq ?_ | refine WC.reg ?_ | refine WL.pure rfl rfl rfl ?_ | refine WL.nil ?_ | refine WC.skip ?_ | refine WC.block ?_ | refine WC.condT rfl ?_ | refine WC.condF rfl ?_ | refine WL.off rfl rfl rfl ?_ | refine WL.off0 rfl rfl ?_ | refine WC.exit ?_ | refine blk_hit ?_ | refine blk_miss rfl ?_ | refine WC.ret ?_)
  refine WL.loadB rfl rfl rfl rfl rfl (hp2.obj 0 rfl) (j := 1) rfl ?_
  refine WL.pure rfl rfl rfl ?_
  refine WL.pure rfl rfl rfl ?_
  refine WL.known (d := 22) (congrArg (fun z => some (Value.int .i64 z)) e2) ?_
  refine WL.pure rfl rfl rfl ?_
  refine WL.known (d := 23) (congrArg (fun z => some (Value.bool z)) (testBit_and bs g.1)) ?_
  repeat (first | refine WC.seq ?_ | refine WC.reg ?_ | refine WL.pure rfl rfl rfl ?_ | refine WL.nil ?_ | refine WC.skip ?_ | refine WC.block ?_ | refine WC.condT rfl ?_ | refine WC.condF rfl ?_ | refine WL.off rfl rfl rfl ?_ | refine WL.off0 rfl rfl ?_ | refine WC.exit ?_ | refine blk_hit ?_ | refine blk_miss rfl ?_ | refine WC.ret ?_)
  exact Res.two rfl rfl rfl rfl ⟨rfl, hp2⟩
theorem note_any {w0 w : World} {L : List Ent} {gb : Nat} {mark : Int} {bs k : Nat} {g : Gs} (p q : Bool) (hk : k < 30) (hg : Gok g) (hp : Hp w0 w (Gb gb mark bs g :: L)) :
    Ret Tryd.prog 102 [ptr gb, .int .i64 ((2 ^ k : Nat) : Int), .bool p, .bool q] w fun v w' => Hp w0 w' (Gb gb mark bs (noteM g (2 ^ k) p q) :: L) := by
  have hpw := pow30 hk
  obtain ⟨hg1, hg2⟩ := hg
  have e1 : bits .or .i64 ((g.2.1 : Nat) : Int) ((2 ^ k : Nat) : Int) = ((g.2.1 ||| 2 ^ k : Nat) : Int) := or_i64 (by omega) (by omega)
  have e2 : bits .or .i64 ((g.2.2 : Nat) : Int) ((2 ^ k : Nat) : Int) = ((g.2.2 ||| 2 ^ k : Nat) : Int) := or_i64 (by omega) (by omega)
  refine enter Tryd.func102 rfl rfl ⟨rfl, rfl⟩ rfl ?_
  refine WC.seq ?_
  refine WC.mid Unit (fun _ => [(0, ptr gb), (1, .int .i64 ((2 ^ k : Nat) : Int)), (3, .bool q)]) (fun _ w' => Hp w0 w' (Gb gb mark bs (g.1, (if p then g.2.1 ||| 2 ^ k else g.2.1), g.2.2) :: L)) ?_ ?_
  · repeat (first | refine WC.seq ?_ | refine WC.reg ?_ | refine WL.pure rfl rfl rfl ?_ | refine WL.nil ?_ | refine WC.skip ?_ | refine WC.block ?_ | refine WC.condT rfl ?_ | refine WC.condF rfl ?_ | refine WL.off rfl rfl rfl ?_ | refine WL.off0 rfl rfl ?_ | refine WC.exit ?_ | refine blk_hit ?_ | refine blk_miss rfl ?_ | refine WC.ret ?_)
    cases p with
    | true =>
      repeat (first | refine WC.seq ?_ | refine WC.reg ?_ | refine WL.pure rfl rfl rfl ?_ | refine WL.nil ?_ | refine WC.skip ?_ | refine WC.block ?_ | refine WC.condT rfl ?_ | refine WC.condF rfl ?_ | refine WL.off rfl rfl rfl ?_ | refine WL.off0 rfl rfl ?_ | refine WC.exit ?_ | refine blk_hit ?_ | refine blk_miss rfl ?_ | refine WC.ret ?_)
      refine WL.nilC rfl rfl rfl ?_
      repeat (first | refine WC.seq ?_ | refine WC.reg ?_ | refine WL.pure rfl rfl rfl ?_ | refine WL.nil ?_ | refine WC.skip ?_ | refine WC.block ?_ | refine WC.condT rfl ?_ | refine WC.condF rfl ?_ | refine WL.off rfl rfl rfl ?_ | refine WL.off0 rfl rfl ?_ | refine WC.exit ?_ | refine blk_hit ?_ | refine blk_miss rfl ?_ | refine WC.ret ?_)
      refine WL.loadB rfl rfl rfl rfl rfl (hp.obj 0 rfl) (j := 3) rfl ?_
      refine WL.pure rfl rfl rfl ?_
      refine WL.pure rfl rfl rfl ?_
      refine WL.known (d := 14) (congrArg (fun z => some (Value.int .i64 z)) e1) ?_
      refine WL.nilC rfl rfl rfl ?_
      repeat (first | refine WC.seq ?_ | refine WC.reg ?_ | refine WL.pure rfl rfl rfl ?_ | refine WL.nil ?_ | refine WC.skip ?_ | refine WC.block ?_ | refine WC.condT rfl ?_ | refine WC.condF rfl ?_ | refine WL.off rfl rfl rfl ?_ | refine WL.off0 rfl rfl ?_ | refine WC.exit ?_ | refine blk_hit ?_ | refine blk_miss rfl ?_ | refine WC.ret ?_)
      refine WL.store rfl rfl rfl rfl rfl rfl (hp.obj 0 rfl) (by show 3 < 5; decide) (fun w2 h2 => ?_)
      have hp2 := hp.set 0 rfl rfl h2
      repeat (first | refine WC.seq ?_ | refine WC.reg ?_ | refine WL.pure rfl rfl rfl ?_ | refine WL.nil ?_ | refine WC.skip ?_ | refine WC.block ?_ | refine WC.condT rfl ?_ | refine WC.condF rfl ?_ | refine WL.off rfl rfl rfl ?_ | refine WL.off0 rfl rfl ?_ | refine WC.exit ?_ | refine blk_hit ?_ | refine blk_miss rfl ?_ | refine WC.ret ?_)
      exact ⟨(), ⟨rfl, rfl, rfl, rfl⟩, hp2⟩
    | false =>
      repeat (first | refine WC.seq ?_ | refine WC.reg ?_ | refine WL.pure rfl rfl rfl ?_ | refine WL.nil ?_ | refine WC.skip ?_ | refine WC.block ?_ | refine WC.condT rfl ?_ | refine WC.condF rfl ?_ | refine WL.off rfl rfl rfl ?_ | refine WL.off0 rfl rfl ?_ | refine WC.exit ?_ | refine blk_hit ?_ | refine blk_miss rfl ?_ | refine WC.ret ?_)
      exact ⟨(), ⟨rfl, rfl, rfl, rfl⟩, hp⟩
  · rintro ⟨⟩ e2' w2 hsub hp2
    refine WC.sub hsub ?_
    clear hsub e2' hp
    repeat (first | refine WC.seq ?_ | refine WC.reg ?_ | refine WL.pure rfl rfl rfl ?_ | refine WL.nil ?_ | refine WC.skip ?_ | refine WC.block ?_ | refine WC.condT rfl ?_ | refine WC.condF rfl ?_ | refine WL.off rfl rfl rfl ?_ | refine WL.off0 rfl rfl ?_ | refine WC.exit ?_ | refine blk_hit ?_ | refine blk_miss rfl ?_ | refine WC.ret ?_)
    cases q with
    | true =>
      repeat (first | refine WC.seq ?_ | refine WC.reg ?_ | refine WL.pure rfl rfl rfl ?_ | refine WL.nil ?_ | refine WC.skip ?_ | refine WC.block ?_ | refine WC.condT rfl ?_ | refine WC.condF rfl ?_ | refine WL.off rfl rfl rfl ?_ | refine WL.off0 rfl rfl ?_ | refine WC.exit ?_ | refine blk_hit ?_ | refine blk_miss rfl ?_ | refine WC.ret ?_)
      refine WL.nilC rfl rfl rfl ?_
      repeat (first | refine WC.seq ?_ | refine WC.reg ?_ | refine WL.pure rfl rfl rfl ?_ | refine WL.nil ?_ | refine WC.skip ?_ | refine WC.block ?_ | refine WC.condT rfl ?_ | refine WC.condF rfl ?_ | refine WL.off rfl rfl rfl ?_ | refine WL.off0 rfl rfl ?_ | refine WC.exit ?_ | refine blk_hit ?_ | refine blk_miss rfl ?_ | refine WC.ret ?_)
      refine WL.loadB rfl rfl rfl rfl rfl (hp2.obj 0 rfl) (j := 4) rfl ?_
      refine WL.pure rfl rfl rfl ?_
      refine WL.pure rfl rfl rfl ?_
      refine WL.known (d := 23) (congrArg (fun z => some (Value.int .i64 z)) e2) ?_
      refine WL.nilC rfl rfl rfl ?_
      repeat (first | refine WC.seq ?_ | refine WC.reg ?_ | refine WL.pure rfl rfl rfl ?_ | refine WL.nil ?_ | refine WC.skip ?_ | refine WC.block ?_ | refine WC.condT rfl ?_ | refine WC.condF rfl ?_ | refine WL.off rfl rfl rfl ?_ | refine WL.off0 rfl rfl ?_ | refine WC.exit ?_ | refine blk_hit ?_ | refine blk_miss rfl ?_ | refine WC.ret ?_)
      refine WL.store rfl rfl rfl rfl rfl rfl (hp2.obj 0 rfl) (by show 4 < 5; decide) (fun w3 h3 => ?_)
      have hp3 := hp2.set 0 rfl rfl h3
      repeat (first | refine WC.seq ?_ | refine WC.reg ?_ | refine WL.pure rfl rfl rfl ?_ | refine WL.nil ?_ | refine WC.skip ?_ | refine WC.block ?_ | refine WC.condT rfl ?_ | refine WC.condF rfl ?_ | refine WL.off rfl rfl rfl ?_ | refine WL.off0 rfl rfl ?_ | refine WC.exit ?_ | refine blk_hit ?_ | refine blk_miss rfl ?_ | refine WC.ret ?_)
      exact Res.zero rfl rfl hp3
    | false =>
      repeat (first | refine WC.seq ?_ | refine WC.reg ?_ | refine WL.pure rfl rfl rfl ?_ | refine WL.nil ?_ | refine WC.skip ?_ | refine WC.block ?_ | refine WC.condT rfl ?_ | refine WC.condF rfl ?_ | refine WL.off rfl rfl rfl ?_ | refine WL.off0 rfl rfl ?_ | refine WC.exit ?_ | refine blk_hit ?_ | refine blk_miss rfl ?_ | refine WC.ret ?_)
      exact Res.zero rfl rfl hp2
end Go.Proofs.YtpbbneclkhfgoaaDoor
