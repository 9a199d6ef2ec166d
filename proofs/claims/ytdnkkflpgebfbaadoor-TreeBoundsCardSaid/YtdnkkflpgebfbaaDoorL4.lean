/- The iterator of a set; lists of it. -/
import Derived.Test.YtdnkkflpgebfbaaDoorL2
import Derived.Test.YtdnkkflpgebfbaaDoorEls
import Derived.Test.YtdnkkflpgebfbaaDoorW5
namespace Go.Proofs.YtdnkkflpgebfbaaDoor
open Go.W Go.Tree
set_option maxRecDepth 100000
attribute [local irreducible] WC WL WQ WS

theorem all1_iter (c : Addr) (s : Nat) (hs : s < 65536) (w0 w1 : World) (hT : Tb w0) (hc : w1.cell? c = some (.int .i64 s)) :
    Iter Tryd.prog 70 [.pointer (some c)] (ints (els s)) w0 w1 := by
  intro l I h0 hbel hround
  refine enter Tryd.func70 rfl rfl ⟨rfl, rfl⟩ rfl ?_
  repeat (first | refine WC.seq ?_ | refine WC.reg ?_ | refine WL.pure rfl rfl rfl ?_ | refine WL.nil ?_ | refine WC.skip ?_ | refine WC.block ?_ | refine WC.condT rfl ?_ | refine WC.condF rfl ?_ | refine WL.off rfl rfl rfl ?_ | refine WL.off0 rfl rfl ?_ | refine WC.exit ?_ | refine blk_hit ?_ | refine blk_miss rfl ?_ | refine WC.ret ?_)
  refine WL.load rfl rfl rfl rfl rfl hc ?_
  repeat (first | refine WC.seq ?_ | refine WC.reg ?_ | refine WL.pure rfl rfl rfl ?_ | refine WL.nil ?_ | refine WC.skip ?_ | refine WC.block ?_ | refine WC.condT rfl ?_ | refine WC.condF rfl ?_ | refine WL.off rfl rfl rfl ?_ | refine WL.off0 rfl rfl ?_ | refine WC.exit ?_ | refine blk_hit ?_ | refine blk_miss rfl ?_ | refine WC.ret ?_)
  refine WC.loop (Nat × Nat) (fun (i, r) => [(0, .func (.yield l) #[] #[]), (3, .int .i64 (r : Nat))]) (fun (i, r) w' => I i w' ∧ r < 65536 ∧ (els s).drop i = els r ∧ i + (els r).length = (els s).length) (fun (i, r) => (els r).length) (0, s)
    ⟨rfl, rfl, rfl⟩ ⟨h0, hs, rfl, by omega⟩ ?_
  rintro ⟨i, r⟩ w' ⟨hI, hr, hd, hl⟩
  repeat (first | refine WC.seq ?_ | refine WC.reg ?_ | refine WL.pure rfl rfl rfl ?_ | refine WL.nil ?_ | refine WC.skip ?_ | refine WC.block ?_ | refine WC.condT rfl ?_ | refine WC.condF rfl ?_ | refine WL.off rfl rfl rfl ?_ | refine WL.off0 rfl rfl ?_ | refine WC.exit ?_ | refine blk_hit ?_ | refine blk_miss rfl ?_ | refine WC.ret ?_)
  refine WC.cond rfl (fun h => ?_) (fun h => ?_)
  · have hr0 : r ≠ 0 := by intro h1; subst h1; simp at h
    have hstep := els_step hr0 hr
    have hT' : Tb w' := hT.below (hbel i w' hI)
    repeat (first | refine WC.seq ?_ | refine WC.reg ?_ | refine WL.pure rfl rfl rfl ?_ | refine WL.nil ?_ | refine WC.skip ?_ | refine WC.block ?_ | refine WC.condT rfl ?_ | refine WC.condF rfl ?_ | refine WL.off rfl rfl rfl ?_ | refine WL.off0 rfl rfl ?_ | refine WC.exit ?_ | refine blk_hit ?_ | refine blk_miss rfl ?_ | refine WC.ret ?_)
    refine WL.known (d := 13) (congrArg (fun z => some (Value.int .u64 z)) (u64_of_nat (s := r) (by omega))) ?_
    refine WL.callP rfl rfl rfl rfl rfl ent69 (tz_any r hr0 (by omega) _ hT') ?_
    have hat : (ints (els s))[i]? = some (.int .i64 (tz r : Nat)) := by
      have h1 : ((els s).drop i)[0]? = some (tz r) := by rw [hd, hstep]; rfl
      simp only [List.getElem?_drop, Nat.add_zero] at h1
      simp [ints, h1]
    refine WL.yld rfl rfl rfl rfl (hround i _ w' hat hI) ?_
    rintro v w2 ⟨rfl, hI2⟩
    repeat (first | refine WC.seq ?_ | refine WC.reg ?_ | refine WL.pure rfl rfl rfl ?_ | refine WL.nil ?_ | refine WC.skip ?_ | refine WC.block ?_ | refine WC.condT rfl ?_ | refine WC.condF rfl ?_ | refine WL.off rfl rfl rfl ?_ | refine WL.off0 rfl rfl ?_ | refine WC.exit ?_ | refine blk_hit ?_ | refine blk_miss rfl ?_ | refine WC.ret ?_)
    have hlt : r &&& (r - 1) < 65536 := and_pred_lt hr
    have e1 : bits .and .i64 (r : Int) (IntKind.i64.wrap ((r : Int) - 1)) = ((r &&& (r - 1) : Nat) : Int) := by
      rw [wrap_i64_in (by omega) (by omega), show (r : Int) - 1 = ((r - 1 : Nat) : Int) by omega, and_i64 (by omega) (by omega)]
    have e2 : (els r).length = (els (r &&& (r - 1))).length + 1 := by rw [hstep]; rfl
    refine ⟨(i + 1, r &&& (r - 1)), by show (els (r &&& (r - 1))).length < (els r).length; omega, ⟨rfl, congrArg (fun z => some (Value.int .i64 z)) e1, rfl⟩, hI2, hlt, ?_, by omega⟩
    rw [← List.drop_drop, hd, hstep]; rfl
  · have hr0 : r = 0 := by simpa using h
    subst hr0
    repeat (first | refine WC.seq ?_ | refine WC.reg ?_ | refine WL.pure rfl rfl rfl ?_ | refine WL.nil ?_ | refine WC.skip ?_ | refine WC.block ?_ | refine WC.condT rfl ?_ | refine WC.condF rfl ?_ | refine WL.off rfl rfl rfl ?_ | refine WL.off0 rfl rfl ?_ | refine WC.exit ?_ | refine blk_hit ?_ | refine blk_miss rfl ?_ | refine WC.ret ?_)
    refine Res.zero rfl rfl ?_
    rw [els_zero] at hl
    have : i = (ints (els s)).length := by simp [ints]; simpa using hl
    rw [← this]; exact hI

/-- What 'all' hands back. -/
theorem all_any (s : Nat) (w : World) : Ret Tryd.prog 56 [.int .i64 s] w fun v w' => ∃ b, NewB w b (.cells #[.int .i64 s] 76 (0, 0)) w' ∧ v = .func (.func 70) #[] #[.pointer (some ⟨b, 0, none⟩)] := by
  refine enter Tryd.func56 rfl rfl ⟨rfl, rfl⟩ rfl ?_
  repeat (first | refine WC.seq ?_ | refine WC.reg ?_ | refine WL.pure rfl rfl rfl ?_ | refine WL.nil ?_ | refine WC.skip ?_ | refine WC.block ?_ | refine WC.condT rfl ?_ | refine WC.condF rfl ?_ | refine WL.off rfl rfl rfl ?_ | refine WL.off0 rfl rfl ?_ | refine WC.exit ?_ | refine blk_hit ?_ | refine blk_miss rfl ?_ | refine WC.ret ?_)
  refine WL.box rfl rfl rfl ?_
  intro b w1 hb
  repeat (first | refine WC.seq ?_ | refine WC.reg ?_ | refine WL.pure rfl rfl rfl ?_ | refine WL.nil ?_ | refine WC.skip ?_ | refine WC.block ?_ | refine WC.condT rfl ?_ | refine WC.condF rfl ?_ | refine WL.off rfl rfl rfl ?_ | refine WL.off0 rfl rfl ?_ | refine WC.exit ?_ | refine blk_hit ?_ | refine blk_miss rfl ?_ | refine WC.ret ?_)
  exact Res.one rfl rfl rfl ⟨b, hb, rfl⟩
end Go.Proofs.YtdnkkflpgebfbaaDoor
