/- ltl, nineteenth: states. -/
import Derived.Test.YtpbbneclkhfgoaaDoorU18
namespace Go.Proofs.YtpbbneclkhfgoaaDoor
open Go.W Go.Ltl Go.RowKit
set_option maxRecDepth 100000
attribute [local irreducible] WC WL WQ WS WH

theorem natL_len (l : List Nat) : (natL l).length = l.length := by simp [natL]
theorem natL_at {l : List Nat} {i : Nat} (h : i < l.length) : (natL l)[i]? = some (.int .i64 (l[i] : Nat)) := by simp [natL, h]
theorem wrap_div {a b : Nat} (ha : a < 9223372036854775808) : IntKind.i64.wrap (((a : Nat) : Int).tdiv ((b : Nat) : Int)) = ((a / b : Nat) : Int) := by
  have h1 : ((a : Nat) : Int).tdiv ((b : Nat) : Int) = ((a / b : Nat) : Int) := rfl
  have h2 : a / b ≤ a := Nat.div_le_self a b
  rw [h1]
  generalize a / b = q at *
  exact wrap_mid (by omega) (by omega)
theorem states_any {w0 : World} (xb : Nat) (nx mk : Value) (starts : Nat) (lv : Value) (pairs : Nat) (wv tv fv : Value) (L : List Ent) (hp0 : 0 < pairs) (a : Option Addr) (c : Nat) (l : List Nat) (hl : l.length ≤ 1000000) (hb : ∀ x ∈ l, x < 9223372036854775808) (w : World)
    (hp : Hp w0 w (Sx xb nx mk starts lv pairs wv tv fv :: L)) (hs : Sl w a (natL l)) :
    Ret Tryd.prog 94 [ptr xb, .slice a l.length c] w fun v w' => ∃ ra rc, v = .slice ra l.length rc ∧ Hp w0 w' (Rna (.slice ra l.length rc) l.length (l.map (· / pairs)) :: Sx xb nx mk starts lv pairs wv tv fv :: L) := by
  have hne : ((pairs : Nat) : Int) ≠ 0 := by omega
  refine enter Tryd.func94 rfl rfl ⟨rfl, rfl⟩ rfl ?_
  have hpc : w.cell? ⟨xb, 0 + 4, none⟩ = some (.int .i64 (pairs : Nat)) := cell_of_obj (hp.obj 0 rfl) rfl
  repeat (first | refine WC.seq ?_ | refine WC.reg ?_ | refine WL.pure rfl rfl rfl ?_ | refine WL.nil ?_ | refine WC.skip ?_ | refine WC.block ?_ | refine WC.condT rfl ?_ | refine WC.condF rfl ?_ | refine WL.off rfl rfl rfl ?_ | refine WL.off0 rfl rfl ?_ | refine WC.exit ?_ | refine blk_hit ?_ | refine blk_miss rfl ?_ | refine WC.ret ?_)
  refine WC.loop (Nat × Option Addr × Nat) (fun (i, ra, rc) => [(0, ptr xb), (5, .slice ra i rc), (8, .slice a l.length c), (9, .int .i64 (l.length : Nat)), (10, .int .i64 (i : Nat))])
    (fun (i, ra, rc) w' => i ≤ l.length ∧ Hp w w' [Rna (.slice ra i rc) i ((l.take i).map (· / pairs))]) (fun (i, _, _) => l.length - i) (0, none, 0) ⟨rfl, rfl, rfl, rfl, rfl, rfl⟩ ⟨Nat.zero_le _, (Hp.start w).nilrow _ _⟩ ?_
  rintro ⟨i, ra, rc⟩ w1 ⟨hi, hp1⟩
  replace hi : i ≤ l.length := hi
  replace hp1 : Hp w w1 [Rna (.slice ra i rc) i ((l.take i).map (· / pairs))] := hp1
  repeat (first | refine WC.seq ?_ | refine WC.reg ?_ | refine WL.pure rfl rfl rfl ?_ | refine WL.nil ?_ | refine WC.skip ?_ | refine WC.block ?_ | refine WC.condT rfl ?_ | refine WC.condF rfl ?_ | refine WL.off rfl rfl rfl ?_ | refine WL.off0 rfl rfl ?_ | refine WC.exit ?_ | refine blk_hit ?_ | refine blk_miss rfl ?_ | refine WC.ret ?_)
  refine WC.cond rfl (fun h1 => ?_) (fun h1 => ?_)
  · have hi : i < l.length := by have := of_decide_eq_true h1; omega
    have step := wrap_succ (i := i) (n := i + 1) (by omega) (by omega)
    repeat (first | refine WC.seq ?_ | refine WC.reg ?_ | refine WL.pure rfl rfl rfl ?_ | refine WL.nil ?_ | refine WC.skip ?_ | refine WC.block ?_ | refine WC.condT rfl ?_ | refine WC.condF rfl ?_ | refine WL.off rfl rfl rfl ?_ | refine WL.off0 rfl rfl ?_ | refine WC.exit ?_ | refine blk_hit ?_ | refine blk_miss rfl ?_ | refine WC.ret ?_)
    refine WL.ixload rfl (fun _ => rfl) rfl rfl rfl rfl rfl rfl rfl hi rfl rfl (hs.hp hp1) (natL_at hi) ?_
    intro q
    repeat (first | refine WC.seq ?_ | refine WC.reg ?_ | refine WL.pure rfl rfl rfl ?_ | refine WL.nil ?_ | refine WC.skip ?_ | refine WC.block ?_ | refine WC.condT rfl ?_ | refine WC.condF rfl ?_ | refine WL.off rfl rfl rfl ?_ | refine WL.off0 rfl rfl ?_ | refine WC.exit ?_ | refine blk_hit ?_ | refine blk_miss rfl ?_ | refine WC.ret ?_)
    refine WL.nilC rfl rfl rfl ?_
    repeat (first | refine WC.seq ?_ | refine WC.reg ?_ | refine WL.pure rfl rfl rfl ?_ | refine WL.nil ?_ | refine WC.skip ?_ | refine WC.block ?_ | refine WC.condT rfl ?_ | refine WC.condF rfl ?_ | refine WL.off rfl rfl rfl ?_ | refine WL.off0 rfl rfl ?_ | refine WC.exit ?_ | refine blk_hit ?_ | refine blk_miss rfl ?_ | refine WC.ret ?_)
    refine WL.load rfl rfl rfl rfl rfl (cell_below hp1.below hpc) ?_
    refine WL.quo rfl rfl rfl rfl hne ?_
    refine WL.known (d := 20) (congrArg (fun z => some (Value.int .i64 z)) (wrap_div (hb _ (List.getElem_mem hi)))) ?_
    refine WL.buildS (cs := [.int .i64 (l[i] / pairs : Nat)]) rfl rfl rfl rfl rfl rfl rfl rfl rfl (fun b2 w2 h2 => ?_)
    have hp2 := hp1.new h2
    refine WL.append 1 hp2 rfl rfl rfl rfl rfl (by decide) rfl rfl rfl (news := [.int .i64 (l[i] / pairs : Nat)]) (Sl.of_obj (hp2.obj 0 rfl) (fun q u hq => by simpa using hq)) rfl (natL_cells [l[i] / pairs]) (by unfold maxLen; omega) (by show (i + 1) * 8 ≤ _; omega) ?_
    intro ra2 rc2 w3 hp3 hg3
    repeat (first | refine WC.seq ?_ | refine WC.reg ?_ | refine WL.pure rfl rfl rfl ?_ | refine WL.nil ?_ | refine WC.skip ?_ | refine WC.block ?_ | refine WC.condT rfl ?_ | refine WC.condF rfl ?_ | refine WL.off rfl rfl rfl ?_ | refine WL.off0 rfl rfl ?_ | refine WC.exit ?_ | refine blk_hit ?_ | refine blk_miss rfl ?_ | refine WC.ret ?_)
    refine ⟨(i + 1, ra2, rc2), (by show l.length - (i + 1) < l.length - i; omega), ⟨rfl, rfl, rfl, rfl, congrArg (fun z => some (Value.int .i64 z)) step, rfl⟩, hi, ?_⟩
    have e1 : natL ((l.take (i + 1)).map (· / pairs)) = natL ((l.take i).map (· / pairs)) ++ [.int .i64 (l[i] / pairs : Nat)] := by
      rw [List.take_succ_eq_append_getElem hi]
      unfold natL
      rw [List.map_append, List.map_append]
      rfl
    show Hp w w3 [Rna (.slice ra2 (i + 1) rc2) (i + 1) ((l.take (i + 1)).map (· / pairs))]
    unfold Rna
    rw [e1]
    exact hp3.tail
  · have hi : i = l.length := by have := of_decide_eq_false h1; omega
    subst hi
    rw [List.take_length] at hp1
    repeat (first | refine WC.seq ?_ | refine WC.reg ?_ | refine WL.pure rfl rfl rfl ?_ | refine WL.nil ?_ | refine WC.skip ?_ | refine WC.block ?_ | refine WC.condT rfl ?_ | refine WC.condF rfl ?_ | refine WL.off rfl rfl rfl ?_ | refine WL.off0 rfl rfl ?_ | refine WC.exit ?_ | refine blk_hit ?_ | refine blk_miss rfl ?_ | refine WC.ret ?_)
    exact Res.one rfl rfl rfl ⟨ra, rc, rfl, hp.comb hp1⟩
end Go.Proofs.YtpbbneclkhfgoaaDoor
