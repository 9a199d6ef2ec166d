/- The walk of the check of a field and polynomials. -/
import Derived.Test.YtagfpnnplgkkoaaR9
namespace Go.Poly
/-- A list as it lies in memory: its address, its room, its numbers. -/
abbrev Lst := Option Addr × Nat × List Int
def lv (e : Lst) : Value := .slice e.1 e.2.2.length e.2.1
theorem lv_get {ls : List Lst} {i : Nat} (h : i < ls.length) : (ls.map lv)[i]? = some (lv ls[i]) := by simp [h]
end Go.Poly
namespace Go.Proofs.Ytagfpnnplgkkoaa
open Go.W Go.Poly Go.Tree
set_option maxRecDepth 100000
attribute [local irreducible] WC WL WQ WS WH

theorem IndexRows_any (a : Option Addr) (cap : Nat) (ls : List Lst) (F : FuncId) (ca : Array Value) (Q : List Int → Bool) (hE : Ents Try.prog F) (hlen : ls.length ≤ 1000000) (w : World) (hs : Sl w a (ls.map lv))
    (hF : ∀ e ∈ ls, ∀ w', Hp w w' [] → Ret Try.prog F ([lv e] ++ ca.toList) w' fun u w'' => u = .bool (Q e.2.2) ∧ Hp w' w'' []) :
    Ret Try.prog 92 [.slice a ls.length cap, .func (.func F) #[] ca] w fun u w' => ∃ r : Int, u = .int .i64 r ∧ decide (0 ≤ r) = (ls.any fun e => Q e.2.2) ∧ Hp w w' [] := by
  refine enter Try.func92 rfl rfl ⟨rfl, rfl⟩ rfl ?_
  repeat (first | refine WC.seq ?_ | refine WC.reg ?_ | refine WL.pure rfl rfl rfl ?_ | refine WL.nil ?_ | refine WC.skip ?_ | refine WC.block ?_ | refine WC.condT rfl ?_ | refine WC.condF rfl ?_ | refine WL.off rfl rfl rfl ?_ | refine WL.off0 rfl rfl ?_ | refine WC.exit ?_ | refine blk_hit ?_ | refine blk_miss rfl ?_ | refine WC.ret ?_)
  refine WC.loop Nat (fun i => [(0, .slice a ls.length cap), (1, .func (.func F) #[] ca), (7, .int .i64 (ls.length : Nat)), (8, .int .i64 (i : Nat))])
    (fun i w' => Hp w w' [] ∧ i ≤ ls.length ∧ ((ls.take i).any fun e => Q e.2.2) = false) (fun i => ls.length - i) 0 ⟨rfl, rfl, rfl, rfl, rfl⟩ ⟨Hp.start w, Nat.zero_le _, rfl⟩ ?_
  rintro i w1 ⟨hp1, hi, hno⟩
  repeat (first | refine WC.seq ?_ | refine WC.reg ?_ | refine WL.pure rfl rfl rfl ?_ | refine WL.nil ?_ | refine WC.skip ?_ | refine WC.block ?_ | refine WC.condT rfl ?_ | refine WC.condF rfl ?_ | refine WL.off rfl rfl rfl ?_ | refine WL.off0 rfl rfl ?_ | refine WC.exit ?_ | refine blk_hit ?_ | refine blk_miss rfl ?_ | refine WC.ret ?_)
  refine WC.cond rfl (fun hc => ?_) (fun hc => ?_)
  · have hi : i < ls.length := by have := of_decide_eq_true hc; omega
    have step : IntKind.i64.wrap ((i : Int) + 1) = ((i + 1 : Nat) : Int) := by rw [wrap_i64_in (by omega) (by omega)]; omega
    repeat (first | refine WC.seq ?_ | refine WC.reg ?_ | refine WL.pure rfl rfl rfl ?_ | refine WL.nil ?_ | refine WC.skip ?_ | refine WC.block ?_ | refine WC.condT rfl ?_ | refine WC.condF rfl ?_ | refine WL.off rfl rfl rfl ?_ | refine WL.off0 rfl rfl ?_ | refine WC.exit ?_ | refine blk_hit ?_ | refine blk_miss rfl ?_ | refine WC.ret ?_)
    refine WL.ixload rfl (fun _ => rfl) rfl rfl rfl rfl rfl rfl rfl hi rfl rfl (hs.hp hp1) (lv_get hi) ?_
    intro pa
    refine WL.call rfl rfl rfl rfl rfl hE (hF ls[i] (List.getElem_mem hi) w1 hp1) ?_
    rintro _ w2 ⟨rfl, hp2⟩
    have hp2 := hp1.call hp2.below
    refine WL.nil ?_
    refine WC.cond rfl (fun hq => ?_) (fun hq => ?_)
    · repeat (first | refine WC.seq ?_ | refine WC.reg ?_ | refine WL.pure rfl rfl rfl ?_ | refine WL.nil ?_ | refine WC.skip ?_ | refine WC.block ?_ | refine WC.condT rfl ?_ | refine WC.condF rfl ?_ | refine WL.off rfl rfl rfl ?_ | refine WL.off0 rfl rfl ?_ | refine WC.exit ?_ | refine blk_hit ?_ | refine blk_miss rfl ?_ | refine WC.ret ?_)
      refine Res.one rfl rfl rfl ⟨_, rfl, ?_, hp2⟩
      rw [decide_eq_true (by omega)]
      exact (List.any_eq_true.2 ⟨ls[i], List.getElem_mem hi, hq⟩).symm
    · repeat (first | refine WC.seq ?_ | refine WC.reg ?_ | refine WL.pure rfl rfl rfl ?_ | refine WL.nil ?_ | refine WC.skip ?_ | refine WC.block ?_ | refine WC.condT rfl ?_ | refine WC.condF rfl ?_ | refine WL.off rfl rfl rfl ?_ | refine WL.off0 rfl rfl ?_ | refine WC.exit ?_ | refine blk_hit ?_ | refine blk_miss rfl ?_ | refine WC.ret ?_)
      refine ⟨i + 1, by show ls.length - (i + 1) < ls.length - i; omega, ⟨rfl, rfl, rfl, congrArg (fun z => some (Value.int .i64 z)) step, rfl⟩, hp2, hi, ?_⟩
      rw [List.take_succ_eq_append_getElem hi, List.any_append, hno]
      simp [hq]
  · have hi : ls.length ≤ i := by have := of_decide_eq_false hc; omega
    rw [List.take_of_length_le hi] at hno
    repeat (first | refine WC.seq ?_ | refine WC.reg ?_ | refine WL.pure rfl rfl rfl ?_ | refine WL.nil ?_ | refine WC.skip ?_ | refine WC.block ?_ | refine WC.condT rfl ?_ | refine WC.condF rfl ?_ | refine WL.off rfl rfl rfl ?_ | refine WL.off0 rfl rfl ?_ | refine WC.exit ?_ | refine blk_hit ?_ | refine blk_miss rfl ?_ | refine WC.ret ?_)
    exact Res.one rfl rfl rfl ⟨-1, rfl, by rw [hno]; rfl, hp1⟩

theorem checkC_any (p : Nat) (e : Lst) (b : Nat) (w : World) (hb : Sl w (some ⟨b, 0, none⟩) [.int .i64 (p : Nat)]) (hs : Sl w e.1 (zs e.2.2)) (hlen : e.2.2.length ≤ 1000000) :
    Ret Try.prog 68 [lv e, .pointer (some ⟨b, 0, none⟩)] w fun u w' => u = .bool (!polyB p e.2.2) ∧ Hp w w' [] := by
  obtain ⟨a, c, f⟩ := e
  refine enter Try.func68 rfl rfl ⟨rfl, rfl⟩ rfl ?_
  repeat (first | refine WC.seq ?_ | refine WC.reg ?_ | refine WL.pure rfl rfl rfl ?_ | refine WL.nil ?_ | refine WC.skip ?_ | refine WC.block ?_ | refine WC.condT rfl ?_ | refine WC.condF rfl ?_ | refine WL.off rfl rfl rfl ?_ | refine WL.off0 rfl rfl ?_ | refine WC.exit ?_ | refine blk_hit ?_ | refine blk_miss rfl ?_ | refine WC.ret ?_)
  refine WL.load rfl rfl rfl rfl rfl (Sl.cell (i := 0) hb rfl) ?_
  repeat (first | refine WC.seq ?_ | refine WC.reg ?_ | refine WL.pure rfl rfl rfl ?_ | refine WL.nil ?_ | refine WC.skip ?_ | refine WC.block ?_ | refine WC.condT rfl ?_ | refine WC.condF rfl ?_ | refine WL.off rfl rfl rfl ?_ | refine WL.off0 rfl rfl ?_ | refine WC.exit ?_ | refine blk_hit ?_ | refine blk_miss rfl ?_ | refine WC.ret ?_)
  refine WL.call rfl rfl rfl rfl rfl ent69 (isPoly_any p a c f w hs hlen) ?_
  rintro _ w1 ⟨rfl, hp1⟩
  repeat (first | refine WC.seq ?_ | refine WC.reg ?_ | refine WL.pure rfl rfl rfl ?_ | refine WL.nil ?_ | refine WC.skip ?_ | refine WC.block ?_ | refine WC.condT rfl ?_ | refine WC.condF rfl ?_ | refine WL.off rfl rfl rfl ?_ | refine WL.off0 rfl rfl ?_ | refine WC.exit ?_ | refine blk_hit ?_ | refine blk_miss rfl ?_ | refine WC.ret ?_)
  exact Res.one rfl rfl rfl ⟨rfl, hp1⟩

/-- The check: a field, and polynomials over it. -/
theorem check_any (p : Int) (la : Option Addr) (lc : Nat) (ls : List Lst) (w : World) (hs : Sl w la (ls.map lv)) (hl : ls.length ≤ 1000000) (he : ∀ e ∈ ls, Sl w e.1 (zs e.2.2) ∧ e.2.2.length ≤ 1000000) :
    Ret Try.prog 40 [.int .i64 p, .slice la ls.length lc] w fun u w' => u = .int .i64 (if fieldB p && !(ls.any fun e => !polyB p.toNat e.2.2) then 0 else 2) ∧ Hp w w' [] := by
  refine enter Try.func40 rfl rfl ⟨rfl, rfl⟩ rfl ?_
  repeat (first | refine WC.seq ?_ | refine WC.reg ?_ | refine WL.pure rfl rfl rfl ?_ | refine WL.nil ?_ | refine WC.skip ?_ | refine WC.block ?_ | refine WC.condT rfl ?_ | refine WC.condF rfl ?_ | refine WL.off rfl rfl rfl ?_ | refine WL.off0 rfl rfl ?_ | refine WC.exit ?_ | refine blk_hit ?_ | refine blk_miss rfl ?_ | refine WC.ret ?_)
  refine WL.box rfl rfl rfl ?_
  intro b w1 hb
  have hp1 := (Hp.start w).new hb
  have hcell : Sl w1 (some ⟨b, 0, none⟩) [.int .i64 p] := Sl.of_obj (hp1.obj 0 rfl) (fun q u hq => by simpa [Value.cells] using hq)
  repeat (first | refine WC.seq ?_ | refine WC.reg ?_ | refine WL.pure rfl rfl rfl ?_ | refine WL.nil ?_ | refine WC.skip ?_ | refine WC.block ?_ | refine WC.condT rfl ?_ | refine WC.condF rfl ?_ | refine WL.off rfl rfl rfl ?_ | refine WL.off0 rfl rfl ?_ | refine WC.exit ?_ | refine blk_hit ?_ | refine blk_miss rfl ?_ | refine WC.ret ?_)
  refine WL.load rfl rfl rfl rfl rfl (Sl.cell (i := 0) hcell rfl) ?_
  refine WL.call rfl rfl rfl rfl rfl ent53 (isField_any p w1) ?_
  rintro _ w2 ⟨rfl, hp2⟩
  have hp2 := hp1.call hp2.below
  cases hfb : fieldB p with
  | false =>
    repeat (first | refine WC.seq ?_ | refine WC.reg ?_ | refine WL.pure rfl rfl rfl ?_ | refine WL.nil ?_ | refine WC.skip ?_ | refine WC.block ?_ | refine WC.condT rfl ?_ | refine WC.condF rfl ?_ | refine WL.off rfl rfl rfl ?_ | refine WL.off0 rfl rfl ?_ | refine WC.exit ?_ | refine blk_hit ?_ | refine blk_miss rfl ?_ | refine WC.ret ?_)
    exact Res.one rfl rfl rfl ⟨by simp, hp2.nil'⟩
  | true =>
    obtain ⟨q, rfl, _, _⟩ := fieldB_pri hfb
    have hcell2 : ∀ w', Hp w2 w' [] → Sl w' (some ⟨b, 0, none⟩) [.int .i64 (q : Nat)] := fun w' h => Sl.of_obj ((hp2.call h.below).obj 0 rfl) (fun q u hq => by simpa [Value.cells] using hq)
    repeat (first | refine WC.seq ?_ | refine WC.reg ?_ | refine WL.pure rfl rfl rfl ?_ | refine WL.nil ?_ | refine WC.skip ?_ | refine WC.block ?_ | refine WC.condT rfl ?_ | refine WC.condF rfl ?_ | refine WL.off rfl rfl rfl ?_ | refine WL.off0 rfl rfl ?_ | refine WC.exit ?_ | refine blk_hit ?_ | refine blk_miss rfl ?_ | refine WC.ret ?_)
    refine WL.call rfl rfl rfl rfl rfl ent67 (R := fun u w' => u = .bool (ls.any fun e => !polyB q e.2.2) ∧ Hp w2 w' []) ?_ ?_
    · refine enter Try.func67 rfl rfl ⟨rfl, rfl⟩ rfl ?_
      repeat (first | refine WC.seq ?_ | refine WC.reg ?_ | refine WL.pure rfl rfl rfl ?_ | refine WL.nil ?_ | refine WC.skip ?_ | refine WC.block ?_ | refine WC.condT rfl ?_ | refine WC.condF rfl ?_ | refine WL.off rfl rfl rfl ?_ | refine WL.off0 rfl rfl ?_ | refine WC.exit ?_ | refine blk_hit ?_ | refine blk_miss rfl ?_ | refine WC.ret ?_)
      refine WL.call rfl rfl rfl rfl rfl ent92 (IndexRows_any la lc ls 68 #[.pointer (some ⟨b, 0, none⟩)] (fun f => !polyB q f) ent68 hl w2 (hs.hp hp2)
        (fun e hem w' hw' => checkC_any q e b w' (hcell2 w' hw') (((he e hem).1.hp hp2).hp hw') (he e hem).2)) ?_
      rintro _ w3 ⟨r, rfl, hr, hp3⟩
      repeat (first | refine WC.seq ?_ | refine WC.reg ?_ | refine WL.pure rfl rfl rfl ?_ | refine WL.nil ?_ | refine WC.skip ?_ | refine WC.block ?_ | refine WC.condT rfl ?_ | refine WC.condF rfl ?_ | refine WL.off rfl rfl rfl ?_ | refine WL.off0 rfl rfl ?_ | refine WC.exit ?_ | refine blk_hit ?_ | refine blk_miss rfl ?_ | refine WC.ret ?_)
      exact Res.one rfl rfl rfl ⟨by rw [← hr], hp3⟩
    rintro _ w3 ⟨rfl, hp3⟩
    have hp3 := hp2.call hp3.below
    repeat (first | refine WC.seq ?_ | refine WC.reg ?_ | refine WL.pure rfl rfl rfl ?_ | refine WL.nil ?_ | refine WC.skip ?_ | refine WC.block ?_ | refine WC.condT rfl ?_ | refine WC.condF rfl ?_ | refine WL.off rfl rfl rfl ?_ | refine WL.off0 rfl rfl ?_ | refine WC.exit ?_ | refine blk_hit ?_ | refine blk_miss rfl ?_ | refine WC.ret ?_)
    refine WC.cond rfl (fun h => ?_) (fun h => ?_)
    · repeat (first | refine WC.seq ?_ | refine WC.reg ?_ | refine WL.pure rfl rfl rfl ?_ | refine WL.nil ?_ | refine WC.skip ?_ | refine WC.block ?_ | refine WC.condT rfl ?_ | refine WC.condF rfl ?_ | refine WL.off rfl rfl rfl ?_ | refine WL.off0 rfl rfl ?_ | refine WC.exit ?_ | refine blk_hit ?_ | refine blk_miss rfl ?_ | refine WC.ret ?_)
      exact Res.one rfl rfl rfl ⟨by rw [Int.toNat_natCast, h]; rfl, hp3.nil'⟩
    · repeat (first | refine WC.seq ?_ | refine WC.reg ?_ | refine WL.pure rfl rfl rfl ?_ | refine WL.nil ?_ | refine WC.skip ?_ | refine WC.block ?_ | refine WC.condT rfl ?_ | refine WC.condF rfl ?_ | refine WL.off rfl rfl rfl ?_ | refine WL.off0 rfl rfl ?_ | refine WC.exit ?_ | refine blk_hit ?_ | refine blk_miss rfl ?_ | refine WC.ret ?_)
      exact Res.one rfl rfl rfl ⟨by rw [Int.toNat_natCast, h]; rfl, hp3.nil'⟩
end Go.Proofs.Ytagfpnnplgkkoaa
