/- The walk of 'later'. -/
import Derived.Test.YtdnkkflpgebfbaaDoorL1
import Derived.Test.YtdnkkflpgebfbaaDoorLat
namespace Go.Proofs.YtdnkkflpgebfbaaDoor
open Go.W Go.Tree
set_option maxRecDepth 100000
attribute [local irreducible] WC WL WQ WS

def ints (xs : List Nat) : List Value := xs.map fun (x : Nat) => Value.int .i64 x
theorem ints_at {xs : List Nat} {i : Nat} (h : i < xs.length) : (ints xs)[i]? = some (.int .i64 (xs.getD i 0 : Nat)) := by
  simp [ints, h]

theorem later_any (ga : Option Addr) (cap : Nat) (g : List Nat) (gone v : Nat) (w : World) (hs : Sl w ga (ints g)) (hT : Tb w) (hg : Gr g) (hv : v < g.length) (hgone : gone < 16384) :
    Ret Tryd.prog 55 [.slice ga g.length cap, .int .i64 gone, .int .i64 v] w fun u w' => u = .int .i64 (lat g gone v) ∧ w' = w := by
  have hn := hg.len
  refine enter Tryd.func55 rfl rfl ⟨rfl, rfl⟩ rfl ?_
  repeat (first | refine WC.seq ?_ | refine WC.reg ?_ | refine WL.pure rfl rfl rfl ?_ | refine WL.nil ?_ | refine WC.skip ?_ | refine WC.block ?_ | refine WC.condT rfl ?_ | refine WC.condF rfl ?_ | refine WL.off rfl rfl rfl ?_ | refine WL.off0 rfl rfl ?_ | refine WC.exit ?_ | refine blk_hit ?_ | refine blk_miss rfl ?_ | refine WC.ret ?_)
  refine WC.loop LS (fun (a, b, c) => [(7, .int .i64 (a : Nat)), (8, .int .i64 (b : Nat)), (9, .int .i64 (c : Nat)), (0, .slice ga g.length cap), (1, .int .i64 gone)])
    (fun s w' => w' = w ∧ LInv g.length s ∧ ∃ k, latM g.length s ≤ k ∧ lat g gone v = (latL g gone k s).2.1) (latM g.length) (2 ^ v, 0, 2 ^ v) ?_ ⟨rfl, linv_init hv, 16, by have := latM_init hn hv; omega, rfl⟩ ?_
  · have e := congrArg (fun z => some (Value.int .i64 z)) (shl_one (v := v) (by omega))
    exact ⟨e, rfl, e, rfl, rfl, rfl⟩
  rintro ⟨seen, out, list⟩ w' ⟨rfl, hI, k, hk, hlat⟩
  have hseen := lt_pow16 hn hI.seen
  have hout := lt_pow16 hn hI.out
  have hlist := lt_pow16 hn hI.list
  simp only at hseen hout hlist
  repeat (first | refine WC.seq ?_ | refine WC.reg ?_ | refine WL.pure rfl rfl rfl ?_ | refine WL.nil ?_ | refine WC.skip ?_ | refine WC.block ?_ | refine WC.condT rfl ?_ | refine WC.condF rfl ?_ | refine WL.off rfl rfl rfl ?_ | refine WL.off0 rfl rfl ?_ | refine WC.exit ?_ | refine blk_hit ?_ | refine blk_miss rfl ?_ | refine WC.ret ?_)
  refine WC.cond rfl ?_ ?_
  · intro h0
    have h0 : list ≠ 0 := by simpa using h0
    have hu := tz_lt hn hI.list h0
    have hgu := lt_pow16 hn (hg.lt (tz list))
    repeat (first | refine WC.seq ?_ | refine WC.reg ?_ | refine WL.pure rfl rfl rfl ?_ | refine WL.nil ?_ | refine WC.skip ?_ | refine WC.block ?_ | refine WC.condT rfl ?_ | refine WC.condF rfl ?_ | refine WL.off rfl rfl rfl ?_ | refine WL.off0 rfl rfl ?_ | refine WC.exit ?_ | refine blk_hit ?_ | refine blk_miss rfl ?_ | refine WC.ret ?_)
    refine WL.known (d := 18) (congrArg (fun z => some (Value.int .u64 z)) (u64_of_nat (s := list) (by omega))) ?_
    refine WL.callP rfl rfl rfl rfl rfl ent69 (tz_any list h0 (by omega) _ hT) ?_
    repeat (first | refine WC.seq ?_ | refine WC.reg ?_ | refine WL.pure rfl rfl rfl ?_ | refine WL.nil ?_ | refine WC.skip ?_ | refine WC.block ?_ | refine WC.condT rfl ?_ | refine WC.condF rfl ?_ | refine WL.off rfl rfl rfl ?_ | refine WL.off0 rfl rfl ?_ | refine WC.exit ?_ | refine blk_hit ?_ | refine blk_miss rfl ?_ | refine WC.ret ?_)
    refine WL.ixload rfl (fun _ => rfl) rfl rfl rfl rfl rfl rfl rfl (cs := ints g) hu rfl rfl hs (ints_at hu) ?_
    intro p
    repeat (first | refine WC.seq ?_ | refine WC.reg ?_ | refine WL.pure rfl rfl rfl ?_ | refine WL.nil ?_ | refine WC.skip ?_ | refine WC.block ?_ | refine WC.condT rfl ?_ | refine WC.condF rfl ?_ | refine WL.off rfl rfl rfl ?_ | refine WL.off0 rfl rfl ?_ | refine WC.exit ?_ | refine blk_hit ?_ | refine blk_miss rfl ?_ | refine WC.ret ?_)
    have fa : bd (g.getD (tz list) 0) seen < 16384 := bd_lt hgu
    have ea : bits .andNot .i64 ((g.getD (tz list) 0 : Nat) : Int) (seen : Int) = ((bd (g.getD (tz list) 0) seen : Nat) : Int) := andNot_i64 (by omega) (by omega)
    generalize hfr : bd (g.getD (tz list) 0) seen = fresh at fa ea
    have fb : bd fresh gone < 16384 := bd_lt fa
    have eb : bits .andNot .i64 (fresh : Int) (gone : Int) = ((bd fresh gone : Nat) : Int) := andNot_i64 (by omega) (by omega)
    have fc : fresh &&& gone < 16384 := and_lt fa
    have ec : bits .and .i64 (fresh : Int) (gone : Int) = ((fresh &&& gone : Nat) : Int) := and_i64 (by omega) (by omega)
    have ed : IntKind.i64.wrap ((list : Int) - 1) = ((list - 1 : Nat) : Int) := by rw [wrap_i64_in (by omega) (by omega)]; omega
    have fe : list &&& (list - 1) < 16384 := and_lt hlist
    have ee : bits .and .i64 (list : Int) ((list - 1 : Nat) : Int) = ((list &&& (list - 1) : Nat) : Int) := and_i64 (by omega) (by omega)
    subst hfr
    refine ⟨latStep g gone (seen, out, list), latStep_lt hg hI h0, ⟨?_, ?_, ?_, rfl, rfl, rfl⟩, rfl, latStep_inv hg hI h0, k - 1, ?_, ?_⟩
    · refine congrArg (fun z => some (Value.int .i64 z)) ?_
      rw [ea, or_i64 (by omega) (by omega)]
    · refine congrArg (fun z => some (Value.int .i64 z)) ?_
      rw [ea, eb, or_i64 (by omega) (by omega)]
    · refine congrArg (fun z => some (Value.int .i64 z)) ?_
      show bits .or .i64 (bits .and .i64 (list : Int) (IntKind.i64.wrap ((list : Int) - 1))) _ = _
      rw [ea, ec, ed, ee, or_i64 (by omega) (by omega)]
    · have := latStep_lt (gone := gone) hg hI h0; omega
    · have : 0 < k := by have := latStep_lt (gone := gone) hg hI h0; omega
      obtain ⟨k, rfl⟩ : ∃ m, k = m + 1 := ⟨k - 1, by omega⟩
      rw [hlat, latL, if_neg h0]; rfl
  · intro h0
    have h0 : list = 0 := by simpa using h0
    repeat (first | refine WC.seq ?_ | refine WC.reg ?_ | refine WL.pure rfl rfl rfl ?_ | refine WL.nil ?_ | refine WC.skip ?_ | refine WC.block ?_ | refine WC.condT rfl ?_ | refine WC.condF rfl ?_ | refine WL.off rfl rfl rfl ?_ | refine WL.off0 rfl rfl ?_ | refine WC.exit ?_ | refine blk_hit ?_ | refine blk_miss rfl ?_ | refine WC.ret ?_)
    refine Res.one rfl rfl rfl ⟨?_, rfl⟩
    rw [hlat]
    cases k with
    | zero => rfl
    | succ k => rw [latL, if_pos h0]
end Go.Proofs.YtdnkkflpgebfbaaDoor
