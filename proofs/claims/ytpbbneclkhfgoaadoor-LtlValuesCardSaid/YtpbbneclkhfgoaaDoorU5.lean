/- ltl, fifth: parse, push, text. -/
import Derived.Test.YtpbbneclkhfgoaaDoorU4
namespace Go.W
open Go.RowKit Go.Ltl
section
variable {P : Program} {fn : Func} {R : Value → World → Prop} {e : Env} {w : World}
/-- Results of which the first lies in a cell. -/
theorem Res.ct1 [T : TT P] {t t2 b : Nat} {v v2 : Value} {ty : TypeId} {i : TI} (hm : marks e = []) (hr : fn.results = #[.cell t ty, .tmp t2]) (ht : T.ti ty = some i) (h1 : isOne i.k = true)
    (hv : look e t = some (.pointer (some ⟨b, 0, none⟩))) (hv2 : look e t2 = some v2) (hc : w.cell? ⟨b, 0, none⟩ = some v) (h : R (.tuple #[v, v2]) w) : Res P fn R e w := by
  refine ⟨hm, _, fun tm htm => ?_, h⟩
  have hag : i.k.isAgg = false := by cases hk2 : i.k <;> rw [hk2] at h1 <;> first | rfl | (simp [isOne] at h1)
  have hagg := (T.ok ty i ht).isAgg w
  rw [hag] at hagg
  have k2 := htm t _ hv
  have k3 := htm t2 _ hv2
  rw [Array.getD_eq_getD_getElem?] at k2 k3
  simp [results, hr, k2, k3, asAddr, loadVar, hagg, go_sem, hc]
end
end Go.W
namespace Go.Ltl
open Go.W
theorem tokN_len : ∀ (s cur : Str), (tokN s cur).length ≤ 2 * s.length + 1 := by
  intro s
  induction s with
  | nil => intro cur; have : (flush cur).length ≤ 1 := by { unfold flush; split <;> simp }; exact this
  | cons c s ih =>
    intro cur
    have hf : (flush cur).length ≤ 1 := by unfold flush; split <;> simp
    rw [tokN]
    have h1 := ih []
    have h2 := ih (cur ++ [c])
    split
    · rw [List.length_append, List.length_cons]; omega
    · split
      · rw [List.length_append, List.length_cons, List.length_cons]; omega
      · rw [List.length_cons]; omega
end Go.Ltl
namespace Go.Proofs.YtpbbneclkhfgoaaDoor
open Go.W Go.Ltl Go.RowKit
set_option maxRecDepth 100000
attribute [local irreducible] WC WL WQ WS WH

/-- Where a formula is kept. -/
abbrev Nb (b : Nat) (v : Value) : Ent := .blk b (.cells #[v] 87 (0, 0))
theorem parse1_any {w0 w : World} (b bn bs : Nat) (s : Str) (hs : s.length ≤ 1000) (hG : Gl w0) (hp : Hp w0 w [erB b 0, Nb bn .nilIface, Bs bs s]) :
    RetZ Tryd.prog 72 [ptr bs, ptr bn] w (fun _ w' => ∃ f, Hp w0 w' [erB b 0, Nb bn (fmV f)] ∧ parseM s = some f) (fun ch w' => ∃ v, ch = tr 4 ∧ Hp w0 w' [erB b 0, Nb bn v] ∧ parseM s = none ∧ v.oneCell' = true) := by
  have htl : (tokM s).length ≤ 2 * s.length + 1 := tokN_len s []
  refine enterZ Tryd.func72 rfl rfl ⟨rfl, rfl⟩ rfl ?_
  repeat (first | refine WC.seq ?_ | refine WC.reg ?_ | refine WL.pure rfl rfl rfl ?_ | refine WL.nil ?_ | refine WC.skip ?_ | refine WC.block ?_ | refine WC.condT rfl ?_ | refine WC.condF rfl ?_ | refine WL.off rfl rfl rfl ?_ | refine WL.off0 rfl rfl ?_ | refine WC.exit ?_ | refine blk_hit ?_ | refine blk_miss rfl ?_ | refine WC.ret ?_)
  refine WL.loadB rfl rfl rfl rfl rfl (hp.obj 2 rfl) (j := 0) rfl ?_
  refine WL.call rfl rfl rfl rfl rfl ent73 (tokens_any s hs w) ?_
  rintro v w1 ⟨a, c, rfl, hp1⟩
  have hsl := Sl.of_row (hp1.at 0 rfl)
  have hc := row_cap (hp1.at 0 rfl)
  have hpA := hp.comb hp1
  refine WL.buildT rfl rfl rfl rfl rfl rfl ?_
  refine WL.box rfl rfl rfl (fun pb w2 h2 => ?_)
  have hp2 : Hp w1 w2 [Pb pb a (tokM s).length c 0] := (Hp.start w1).new h2
  repeat (first | refine WC.seq ?_ | refine WC.reg ?_ | refine WL.pure rfl rfl rfl ?_ | refine WL.nil ?_ | refine WC.skip ?_ | refine WC.block ?_ | refine WC.condT rfl ?_ | refine WC.condF rfl ?_ | refine WL.off rfl rfl rfl ?_ | refine WL.off0 rfl rfl ?_ | refine WC.exit ?_ | refine blk_hit ?_ | refine blk_miss rfl ?_ | refine WC.ret ?_)
  refine WL.callZ rfl rfl rfl rfl rfl ent74 rfl (formula_any pb ((hG.hp hp).hp hp1) ((tokM s).length + 1) (tokM s) 0 a c w2 (Nat.lt_succ_self _) (by omega) (by omega) hc hsl hp2) ?_ ?_
  rotate_left
  · rintro ch w' ⟨rfl, hn, a', n', c', k', hp'⟩
    refine ⟨.nilIface, rfl, (hpA.comb hp').pick [2, 3] (by decide), ?_, rfl⟩
    unfold parseM
    rw [hn]
  rintro v w3 ⟨f, l', k', a', c', hn, rfl, hs', hc', hk', hl', hp3⟩
  have hpB := hpA.comb hp3
  refine WL.store rfl rfl rfl rfl rfl (by cases f <;> rfl) (hpB.obj 3 rfl) (Nat.lt_succ_self 0) (fun w4 h4 => ?_)
  have hpC : Hp w0 w4 [Pb pb a' l'.length c' k', Rs (.slice a (tokM s).length c) (tokM s), erB b 0, Nb bn (fmV f), Bs bs s] := hpB.set 3 rfl rfl h4
  repeat (first | refine WC.seq ?_ | refine WC.reg ?_ | refine WL.pure rfl rfl rfl ?_ | refine WL.nil ?_ | refine WC.skip ?_ | refine WC.block ?_ | refine WC.condT rfl ?_ | refine WC.condF rfl ?_ | refine WL.off rfl rfl rfl ?_ | refine WL.off0 rfl rfl ?_ | refine WC.exit ?_ | refine blk_hit ?_ | refine blk_miss rfl ?_ | refine WC.ret ?_)
  refine WL.nilC rfl rfl rfl ?_
  repeat (first | refine WC.seq ?_ | refine WC.reg ?_ | refine WL.pure rfl rfl rfl ?_ | refine WL.nil ?_ | refine WC.skip ?_ | refine WC.block ?_ | refine WC.condT rfl ?_ | refine WC.condF rfl ?_ | refine WL.off rfl rfl rfl ?_ | refine WL.off0 rfl rfl ?_ | refine WC.exit ?_ | refine blk_hit ?_ | refine blk_miss rfl ?_ | refine WC.ret ?_)
  refine WL.loadB rfl rfl rfl rfl rfl (hpC.obj 0 rfl) (j := 0) rfl ?_
  repeat (first | refine WC.seq ?_ | refine WC.reg ?_ | refine WL.pure rfl rfl rfl ?_ | refine WL.nil ?_ | refine WC.skip ?_ | refine WC.block ?_ | refine WC.condT rfl ?_ | refine WC.condF rfl ?_ | refine WL.off rfl rfl rfl ?_ | refine WL.off0 rfl rfl ?_ | refine WC.exit ?_ | refine blk_hit ?_ | refine blk_miss rfl ?_ | refine WC.ret ?_)
  refine WC.cond rfl (fun h1 => ?_) (fun h1 => ?_)
  · have h1 : l' ≠ [] := by intro h; rw [h] at h1; cases h1
    obtain ⟨x, l2, rfl⟩ := List.exists_cons_of_ne_nil h1
    repeat (first | refine WC.seq ?_ | refine WC.reg ?_ | refine WL.pure rfl rfl rfl ?_ | refine WL.nil ?_ | refine WC.skip ?_ | refine WC.block ?_ | refine WC.condT rfl ?_ | refine WC.condF rfl ?_ | refine WL.off rfl rfl rfl ?_ | refine WL.off0 rfl rfl ?_ | refine WC.exit ?_ | refine blk_hit ?_ | refine blk_miss rfl ?_ | refine WC.ret ?_)
    refine WL.callZ rfl rfl rfl rfl rfl ent75 rfl (fail_z 4 w4 (Z := fun ch w' => ch = tr 4 ∧ w' = w4) ⟨rfl, rfl⟩) (fun v w' h => h.elim) ?_
    rintro ch w' ⟨rfl, rfl⟩
    refine ⟨fmV f, rfl, hpC.pick [2, 3] (by decide), ?_, by cases f <;> rfl⟩
    unfold parseM
    rw [hn]
  · have h1 : l' = [] := by
      cases l' with
      | nil => rfl
      | cons x l2 => have := of_decide_eq_false h1; exfalso; apply this; show (0 : Int) < ((l2.length + 1 : Nat) : Int); omega
    subst h1
    repeat (first | refine WC.seq ?_ | refine WC.reg ?_ | refine WL.pure rfl rfl rfl ?_ | refine WL.nil ?_ | refine WC.skip ?_ | refine WC.block ?_ | refine WC.condT rfl ?_ | refine WC.condF rfl ?_ | refine WL.off rfl rfl rfl ?_ | refine WL.off0 rfl rfl ?_ | refine WC.exit ?_ | refine blk_hit ?_ | refine blk_miss rfl ?_ | refine WC.ret ?_)
    refine Res.zero rfl rfl ⟨f, hpC.pick [2, 3] (by decide), ?_⟩
    unfold parseM
    rw [hn]
theorem parse_any (s : Str) (hs : s.length ≤ 1000) (w : World) (hG : Gl w) :
    Ret Tryd.prog 48 [st s] w fun v w' => ((∃ f, parseM s = some f ∧ v = .tuple #[fmV f, .int .i64 0]) ∨ (parseM s = none ∧ ∃ x, v = .tuple #[x, .int .i64 4])) ∧ Hp w w' [] := by
  refine enter Tryd.func48 rfl rfl ⟨rfl, rfl⟩ rfl ?_
  repeat (first | refine WC.seq ?_ | refine WC.reg ?_ | refine WL.pure rfl rfl rfl ?_ | refine WL.nil ?_ | refine WC.skip ?_ | refine WC.block ?_ | refine WC.condT rfl ?_ | refine WC.condF rfl ?_ | refine WL.off rfl rfl rfl ?_ | refine WL.off0 rfl rfl ?_ | refine WC.exit ?_ | refine blk_hit ?_ | refine blk_miss rfl ?_ | refine WC.ret ?_)
  refine WL.box rfl rfl rfl (fun bs w1 h1 => ?_)
  have hp1 := (Hp.start w).new h1
  refine WL.alloc rfl rfl rfl (fun bn w2 h2 => ?_)
  have hp2 : Hp w w2 [Nb bn .nilIface, Bs bs s] := hp1.new h2
  repeat (first | refine WC.seq ?_ | refine WC.reg ?_ | refine WL.pure rfl rfl rfl ?_ | refine WL.nil ?_ | refine WC.skip ?_ | refine WC.block ?_ | refine WC.condT rfl ?_ | refine WC.condF rfl ?_ | refine WL.off rfl rfl rfl ?_ | refine WL.off0 rfl rfl ?_ | refine WC.exit ?_ | refine blk_hit ?_ | refine blk_miss rfl ?_ | refine WC.ret ?_)
  refine WL.call rfl rfl rfl rfl rfl ent71 (guard_any (fi := []) (ca := [ptr bs, ptr bn]) (σ := Fm) (τ := Value) (A := fun f => [Nb bn (fmV f)]) (φ := fun f => parseM s = some f) (B := fun v => [Nb bn v]) (k := fun _ => 4) (ψ := fun v => parseM s = none ∧ v.oneCell' = true) ent72 hp2 (fun b w3 hp3 => parse1_any b bn bs s hs hG hp3)) ?_
  rintro v w3 (⟨f, rfl, hp3, hf⟩ | ⟨x, rfl, hp3, hf, h1⟩)
  · have h1 : (fmV f).oneCell' = true := by cases f <;> rfl
    repeat (first | refine WC.seq ?_ | refine WC.reg ?_ | refine WL.pure rfl rfl rfl ?_ | refine WL.nil ?_ | refine WC.skip ?_ | refine WC.block ?_ | refine WC.condT rfl ?_ | refine WC.condF rfl ?_ | refine WL.off rfl rfl rfl ?_ | refine WL.off0 rfl rfl ?_ | refine WC.exit ?_ | refine blk_hit ?_ | refine blk_miss rfl ?_ | refine WC.ret ?_)
    refine WL.loadB rfl rfl rfl rfl rfl (hp3.obj 0 rfl) (j := 0) rfl ?_
    repeat (first | refine WC.seq ?_ | refine WC.reg ?_ | refine WL.pure rfl rfl rfl ?_ | refine WL.nil ?_ | refine WC.skip ?_ | refine WC.block ?_ | refine WC.condT rfl ?_ | refine WC.condF rfl ?_ | refine WL.off rfl rfl rfl ?_ | refine WL.off0 rfl rfl ?_ | refine WC.exit ?_ | refine blk_hit ?_ | refine blk_miss rfl ?_ | refine WC.ret ?_)
    refine WL.store rfl rfl rfl rfl rfl h1 (hp3.obj 0 rfl) (Nat.lt_succ_self 0) (fun w4 h4 => ?_)
    have hp4 : Hp w w4 [Nb bn (fmV f)] := hp3.set 0 rfl rfl h4
    repeat (first | refine WC.seq ?_ | refine WC.reg ?_ | refine WL.pure rfl rfl rfl ?_ | refine WL.nil ?_ | refine WC.skip ?_ | refine WC.block ?_ | refine WC.condT rfl ?_ | refine WC.condF rfl ?_ | refine WL.off rfl rfl rfl ?_ | refine WL.off0 rfl rfl ?_ | refine WC.exit ?_ | refine blk_hit ?_ | refine blk_miss rfl ?_ | refine WC.ret ?_)
    exact Res.ct1 rfl rfl rfl rfl rfl rfl (cell_of_obj (hp4.obj 0 rfl) rfl) ⟨.inl ⟨f, hf, rfl⟩, hp4.nil'⟩
  · repeat (first | refine WC.seq ?_ | refine WC.reg ?_ | refine WL.pure rfl rfl rfl ?_ | refine WL.nil ?_ | refine WC.skip ?_ | refine WC.block ?_ | refine WC.condT rfl ?_ | refine WC.condF rfl ?_ | refine WL.off rfl rfl rfl ?_ | refine WL.off0 rfl rfl ?_ | refine WC.exit ?_ | refine blk_hit ?_ | refine blk_miss rfl ?_ | refine WC.ret ?_)
    refine WL.loadB rfl rfl rfl rfl rfl (hp3.obj 0 rfl) (j := 0) rfl ?_
    repeat (first | refine WC.seq ?_ | refine WC.reg ?_ | refine WL.pure rfl rfl rfl ?_ | refine WL.nil ?_ | refine WC.skip ?_ | refine WC.block ?_ | refine WC.condT rfl ?_ | refine WC.condF rfl ?_ | refine WL.off rfl rfl rfl ?_ | refine WL.off0 rfl rfl ?_ | refine WC.exit ?_ | refine blk_hit ?_ | refine blk_miss rfl ?_ | refine WC.ret ?_)
    refine WL.store rfl rfl rfl rfl rfl h1 (hp3.obj 0 rfl) (Nat.lt_succ_self 0) (fun w4 h4 => ?_)
    have hp4 : Hp w w4 [Nb bn x] := hp3.set 0 rfl rfl h4
    repeat (first | refine WC.seq ?_ | refine WC.reg ?_ | refine WL.pure rfl rfl rfl ?_ | refine WL.nil ?_ | refine WC.skip ?_ | refine WC.block ?_ | refine WC.condT rfl ?_ | refine WC.condF rfl ?_ | refine WL.off rfl rfl rfl ?_ | refine WL.off0 rfl rfl ?_ | refine WC.exit ?_ | refine blk_hit ?_ | refine blk_miss rfl ?_ | refine WC.ret ?_)
    exact Res.ct1 rfl rfl rfl rfl rfl rfl (cell_of_obj (hp4.obj 0 rfl) rfl) ⟨.inr ⟨hf, x, rfl⟩, hp4.nil'⟩
end Go.Proofs.YtpbbneclkhfgoaaDoor
