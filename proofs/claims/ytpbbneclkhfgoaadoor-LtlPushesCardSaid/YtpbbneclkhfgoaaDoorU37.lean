/- ltl, thirty-seventh: LtlPushes. -/
import Derived.Test.YtpbbneclkhfgoaaDoorU28
import Derived.Test.YtpbbneclkhfgoaaDoorU29
import Derived.Test.YtpbbneclkhfgoaaDoorU35
import Derived.Test.YtpbbneclkhfgoaaDoorU36
namespace Go.Proofs.YtpbbneclkhfgoaaDoor
open Go.W Go.Ltl Go.RowKit
set_option maxRecDepth 100000
set_option linter.unusedSectionVars false
attribute [local irreducible] WC WL WQ WS WH

theorem parseM_wf {s : Str} {f : Fm} (h : parseM s = some f) : wfF f := by
  rw [parseM_ref] at h
  split at h
  · cases h
  · split at h
    · rename_i g he
      cases h
      exact (rprs_wcnt _ _ _ _ he).2.2
    · cases h
theorem LtlPushes_any (s : Str) (hsl : s.length ≤ 9223372036854775807) (w : World) (hG : Gl w) :
    Ret Tryd.prog 4 [st s] w fun u w' => u = .bool true ∧ Hp w w' [] := by
  refine enter Tryd.func4 rfl rfl ⟨rfl, rfl⟩ rfl ?_
  repeat (first | refine WC.seq ?_ | refine WC.reg ?_ | refine WL.pure rfl rfl rfl ?_ | refine WL.nil ?_ | refine WC.skip ?_ | refine WC.block ?_ | refine WC.condT rfl ?_ | refine WC.condF rfl ?_ | refine WL.off rfl rfl rfl ?_ | refine WL.off0 rfl rfl ?_ | refine WC.exit ?_ | refine blk_hit ?_ | refine blk_miss rfl ?_ | refine WC.ret ?_)
  refine WL.call rfl rfl rfl rfl rfl ent16 (short_any s hsl w) ?_
  rintro _ w1 ⟨rfl, hw1⟩
  obtain rfl := hw1.symm
  obtain ⟨t, ht⟩ : ∃ t, t = shortM s := ⟨_, rfl⟩
  have htl : t.length ≤ 1000 := by rw [ht]; unfold shortM; rw [List.length_take]; omega
  rw [← ht]
  repeat (first | refine WC.seq ?_ | refine WC.reg ?_ | refine WL.pure rfl rfl rfl ?_ | refine WL.nil ?_ | refine WC.skip ?_ | refine WC.block ?_ | refine WC.condT rfl ?_ | refine WC.condF rfl ?_ | refine WL.off rfl rfl rfl ?_ | refine WL.off0 rfl rfl ?_ | refine WC.exit ?_ | refine blk_hit ?_ | refine blk_miss rfl ?_ | refine WC.ret ?_)
  refine WL.call rfl rfl rfl rfl rfl ent22 (Push_any t htl w hG) ?_
  rintro _ w2 ⟨rfl, hp2⟩
  unfold PushM
  cases hf : parseM t with
  | none =>
    simp only
    repeat (first | refine WC.seq ?_ | refine WC.reg ?_ | refine WL.pure rfl rfl rfl ?_ | refine WL.nil ?_ | refine WC.skip ?_ | refine WC.block ?_ | refine WC.condT rfl ?_ | refine WC.condF rfl ?_ | refine WL.off rfl rfl rfl ?_ | refine WL.off0 rfl rfl ?_ | refine WC.exit ?_ | refine blk_hit ?_ | refine blk_miss rfl ?_ | refine WC.ret ?_)
    refine WL.call rfl rfl rfl rfl rfl ent19 (Parse_any t htl w2) ?_
    intro v w3 hv
    rw [hf] at hv
    obtain ⟨a, n, c, rfl, hp3⟩ := hv
    have hp3 := hp2.call hp3.below
    repeat (first | refine WC.seq ?_ | refine WC.reg ?_ | refine WL.pure rfl rfl rfl ?_ | refine WL.nil ?_ | refine WC.skip ?_ | refine WC.block ?_ | refine WC.condT rfl ?_ | refine WC.condF rfl ?_ | refine WL.off rfl rfl rfl ?_ | refine WL.off0 rfl rfl ?_ | refine WC.exit ?_ | refine blk_hit ?_ | refine blk_miss rfl ?_ | refine WC.ret ?_)
    refine WL.sCmp (a := []) (b := []) (r := true) rfl rfl rfl rfl rfl ?_
    repeat (first | refine WC.seq ?_ | refine WC.reg ?_ | refine WL.pure rfl rfl rfl ?_ | refine WL.nil ?_ | refine WC.skip ?_ | refine WC.block ?_ | refine WC.condT rfl ?_ | refine WC.condF rfl ?_ | refine WL.off rfl rfl rfl ?_ | refine WL.off0 rfl rfl ?_ | refine WC.exit ?_ | refine blk_hit ?_ | refine blk_miss rfl ?_ | refine WC.ret ?_)
    refine WL.call rfl rfl rfl rfl rfl ent20 (awake_any w3 (hG.hp hp3)) ?_
    rintro _ w4 ⟨rfl, hp4⟩
    repeat (first | refine WC.seq ?_ | refine WC.reg ?_ | refine WL.pure rfl rfl rfl ?_ | refine WL.nil ?_ | refine WC.skip ?_ | refine WC.block ?_ | refine WC.condT rfl ?_ | refine WC.condF rfl ?_ | refine WL.off rfl rfl rfl ?_ | refine WL.off0 rfl rfl ?_ | refine WC.exit ?_ | refine blk_hit ?_ | refine blk_miss rfl ?_ | refine WC.ret ?_)
    exact Res.one rfl rfl rfl ⟨rfl, hp3.call hp4.below⟩
  | some f =>
    simp only
    obtain ⟨hsh, hsz⟩ := parseM_sz hf
    have hwf := parseM_wf hf
    have hpos := sizeF_pos f
    have hat : AtN (nodesN 0 f) (sizeF f - 1) f := by have := AtN_nodes f []; rwa [List.nil_append, List.length_nil, Nat.zero_add] at this
    repeat (first | refine WC.seq ?_ | refine WC.reg ?_ | refine WL.pure rfl rfl rfl ?_ | refine WL.nil ?_ | refine WC.skip ?_ | refine WC.block ?_ | refine WC.condT rfl ?_ | refine WC.condF rfl ?_ | refine WL.off rfl rfl rfl ?_ | refine WL.off0 rfl rfl ?_ | refine WC.exit ?_ | refine blk_hit ?_ | refine blk_miss rfl ?_ | refine WC.ret ?_)
    refine WL.call rfl rfl rfl rfl rfl ent19 (Parse_any t htl w2) ?_
    intro v w3 hv
    rw [hf] at hv
    obtain ⟨a, c, rfl, hp3⟩ := hv
    have hsl3 : Sl w3 a (ndC (nodesN 0 f)) := Sl.of_row (hp3.at 0 rfl)
    have hln := nodesN_len f 0
    have hp3 := hp2.call hp3.below
    have e1 : IntKind.i64.wrap (((nodesN 0 f).length : Nat) - 1 : Int) = ((sizeF f - 1 : Nat) : Int) := by rw [hln, wrap_mid (by omega) (by omega)]; omega
    repeat (first | refine WC.seq ?_ | refine WC.reg ?_ | refine WL.pure rfl rfl rfl ?_ | refine WL.nil ?_ | refine WC.skip ?_ | refine WC.block ?_ | refine WC.condT rfl ?_ | refine WC.condF rfl ?_ | refine WL.off rfl rfl rfl ?_ | refine WL.off0 rfl rfl ?_ | refine WC.exit ?_ | refine blk_hit ?_ | refine blk_miss rfl ?_ | refine WC.ret ?_)
    refine WL.known (d := 34) (congrArg (fun z => some (Value.int .i64 z)) e1) ?_
    refine WL.call rfl rfl rfl rfl rfl ent23 (rpush_any (nodesN 0 f) a c (by omega) f hwf hsh (by omega) (sizeF f - 1) false w3 hat hsl3) ?_
    rintro _ w4 ⟨rfl, hp4⟩
    have hp4 := hp3.call hp4.below
    refine WL.sCmp (a := textF (pushM f false)) (b := textF (pushM f false)) (r := true) rfl rfl rfl rfl (by simp [cmpS]) ?_
    repeat (first | refine WC.seq ?_ | refine WC.reg ?_ | refine WL.pure rfl rfl rfl ?_ | refine WL.nil ?_ | refine WC.skip ?_ | refine WC.block ?_ | refine WC.condT rfl ?_ | refine WC.condF rfl ?_ | refine WL.off rfl rfl rfl ?_ | refine WL.off0 rfl rfl ?_ | refine WC.exit ?_ | refine blk_hit ?_ | refine blk_miss rfl ?_ | refine WC.ret ?_)
    refine WL.call rfl rfl rfl rfl rfl ent20 (awake_any w4 (hG.hp hp4)) ?_
    rintro _ w5 ⟨rfl, hp5⟩
    repeat (first | refine WC.seq ?_ | refine WC.reg ?_ | refine WL.pure rfl rfl rfl ?_ | refine WL.nil ?_ | refine WC.skip ?_ | refine WC.block ?_ | refine WC.condT rfl ?_ | refine WC.condF rfl ?_ | refine WL.off rfl rfl rfl ?_ | refine WL.off0 rfl rfl ?_ | refine WC.exit ?_ | refine blk_hit ?_ | refine blk_miss rfl ?_ | refine WC.ret ?_)
    exact Res.one rfl rfl rfl ⟨rfl, hp4.call hp5.below⟩
end Go.Proofs.YtpbbneclkhfgoaaDoor
