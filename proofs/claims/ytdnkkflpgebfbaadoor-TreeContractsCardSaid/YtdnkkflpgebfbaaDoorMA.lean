/- The walks of the program up to Clique, Colour. -/
import Derived.Test.YtdnkkflpgebfbaaDoorCf
import Derived.Test.YtdnkkflpgebfbaaDoorTab
/- The leaves of the tree layer: has, size, the library's bit functions. -/
namespace Go.Proofs.YtdnkkflpgebfbaaDoor
open Go.W
set_option maxRecDepth 100000
attribute [local irreducible] WC WL WQ WS

theorem has_any (s v : Nat) (hs : s < 9223372036854775808) : Pur Tryd.prog 44 [.int .i64 s, .int .i64 v] (.bool (Nat.testBit s v)) := by
  intro w
  refine enter Tryd.func44 rfl rfl ⟨rfl, rfl⟩ rfl ?_
  repeat (first | refine WC.seq ?_ | refine WC.reg ?_ | refine WL.pure rfl rfl rfl ?_ | refine WL.nil ?_ | refine WC.skip ?_ | refine WC.block ?_ | refine WC.condT rfl ?_ | refine WC.condF rfl ?_ | refine WL.off rfl rfl rfl ?_ | refine WL.off0 rfl rfl ?_ | refine WC.exit ?_ | refine blk_hit ?_ | refine blk_miss rfl ?_ | refine WC.ret ?_)
  exact Res.one rfl rfl rfl ⟨by rw [has_eq hs], rfl⟩

/-- The library's table lies in its variable. -/
def Tb (w : World) : Prop := ∀ j, j < Lib.deBruijn64tab.length → w.cell? ⟨1, j, none⟩ = some (.int .u8 (Lib.deBruijn64tab.getD j 0 : Nat))
theorem Tb.below {w w' : World} (h : Tb w) (hb : RowKit.Below w.heap.size w w') : Tb w' := fun j hj => cell_below hb (h j hj)

theorem tz64_any (x : Nat) (h0 : x ≠ 0) (hx : x < 18446744073709551616) (w : World) (hT : Tb w) :
    Ret Tryd.prog 76 [.int .u64 x] w fun u w' => u = .int .i64 (tz x) ∧ w' = w := by
  obtain ⟨hlow, hk⟩ := Lib.lowest_bit 64 x h0 hx
  obtain ⟨hi, htab⟩ := Lib.deBruijn64_at _ hk
  have hcell := hT _ hi
  rw [htab] at hcell
  refine enter Tryd.func76 rfl rfl ⟨rfl, rfl⟩ rfl ?_
  repeat (first | refine WC.seq ?_ | refine WC.reg ?_ | refine WL.pure rfl rfl rfl ?_ | refine WL.nil ?_ | refine WC.skip ?_ | refine WC.block ?_ | refine WC.condT rfl ?_ | refine WC.condF rfl ?_ | refine WL.off rfl rfl rfl ?_ | refine WL.off0 rfl rfl ?_ | refine WC.exit ?_ | refine blk_hit ?_ | refine blk_miss rfl ?_ | refine WC.ret ?_)
  refine WC.cond rfl (fun hc => ?_) (fun hc => ?_)
  · simp at hc; omega
  repeat (first | refine WC.seq ?_ | refine WC.reg ?_ | refine WL.pure rfl rfl rfl ?_ | refine WL.nil ?_ | refine WC.skip ?_ | refine WC.block ?_ | refine WC.condT rfl ?_ | refine WC.condF rfl ?_ | refine WL.off rfl rfl rfl ?_ | refine WL.off0 rfl rfl ?_ | refine WC.exit ?_ | refine blk_hit ?_ | refine blk_miss rfl ?_ | refine WC.ret ?_)
  refine WL.known (d := 10) (congrArg (fun z => some (Value.int .u64 z)) (tz_key x _ hx h0 hlow)) ?_
  refine WL.ixA1 rfl rfl rfl rfl rfl rfl rfl hi ?_
  refine WL.load rfl rfl rfl rfl rfl (by rw [Nat.zero_add]; exact hcell) ?_
  repeat (first | refine WC.seq ?_ | refine WC.reg ?_ | refine WL.pure rfl rfl rfl ?_ | refine WL.nil ?_ | refine WC.skip ?_ | refine WC.block ?_ | refine WC.condT rfl ?_ | refine WC.condF rfl ?_ | refine WL.off rfl rfl rfl ?_ | refine WL.off0 rfl rfl ?_ | refine WC.exit ?_ | refine blk_hit ?_ | refine blk_miss rfl ?_ | refine WC.ret ?_)
  exact Res.one rfl rfl rfl ⟨by rw [wrap_i64_in (by omega) (by omega)]; rfl, rfl⟩

theorem tz_any (x : Nat) (h0 : x ≠ 0) (hx : x < 18446744073709551616) (w : World) (hT : Tb w) :
    Ret Tryd.prog 69 [.int .u64 x] w fun u w' => u = .int .i64 (tz x) ∧ w' = w := by
  refine enter Tryd.func69 rfl rfl ⟨rfl, rfl⟩ rfl ?_
  repeat (first | refine WC.seq ?_ | refine WC.reg ?_ | refine WL.pure rfl rfl rfl ?_ | refine WL.nil ?_ | refine WC.skip ?_ | refine WC.block ?_ | refine WC.condT rfl ?_ | refine WC.condF rfl ?_ | refine WL.off rfl rfl rfl ?_ | refine WL.off0 rfl rfl ?_ | refine WC.exit ?_ | refine blk_hit ?_ | refine blk_miss rfl ?_ | refine WC.ret ?_)
  refine WL.callP rfl rfl rfl rfl rfl ent76 (tz64_any x h0 hx _ hT) ?_
  repeat (first | refine WC.seq ?_ | refine WC.reg ?_ | refine WL.pure rfl rfl rfl ?_ | refine WL.nil ?_ | refine WC.skip ?_ | refine WC.block ?_ | refine WC.condT rfl ?_ | refine WC.condF rfl ?_ | refine WL.off rfl rfl rfl ?_ | refine WL.off0 rfl rfl ?_ | refine WC.exit ?_ | refine blk_hit ?_ | refine blk_miss rfl ?_ | refine WC.ret ?_)
  exact Res.one rfl rfl rfl ⟨rfl, rfl⟩

theorem ones64_any (x : Nat) (hx : x < 16384) : Pur Tryd.prog 72 [.int .u64 x] (.int .i64 (pc x)) := by
  intro w
  refine enter Tryd.func72 rfl rfl ⟨rfl, rfl⟩ rfl ?_
  repeat (first | refine WC.seq ?_ | refine WC.reg ?_ | refine WL.pure rfl rfl rfl ?_ | refine WL.nil ?_ | refine WC.skip ?_ | refine WC.block ?_ | refine WC.condT rfl ?_ | refine WC.condF rfl ?_ | refine WL.off rfl rfl rfl ?_ | refine WL.off0 rfl rfl ?_ | refine WC.exit ?_ | refine blk_hit ?_ | refine blk_miss rfl ?_ | refine WC.ret ?_)
  exact Res.one rfl rfl rfl ⟨congrArg (Value.int .i64) (swar_eq hx), rfl⟩
theorem ones_any (x : Nat) (hx : x < 16384) : Pur Tryd.prog 65 [.int .u64 x] (.int .i64 (pc x)) := by
  intro w
  refine enter Tryd.func65 rfl rfl ⟨rfl, rfl⟩ rfl ?_
  repeat (first | refine WC.seq ?_ | refine WC.reg ?_ | refine WL.pure rfl rfl rfl ?_ | refine WL.nil ?_ | refine WC.skip ?_ | refine WC.block ?_ | refine WC.condT rfl ?_ | refine WC.condF rfl ?_ | refine WL.off rfl rfl rfl ?_ | refine WL.off0 rfl rfl ?_ | refine WC.exit ?_ | refine blk_hit ?_ | refine blk_miss rfl ?_ | refine WC.ret ?_)
  refine WL.callP rfl rfl rfl rfl rfl ent72 (ones64_any x hx _) ?_
  repeat (first | refine WC.seq ?_ | refine WC.reg ?_ | refine WL.pure rfl rfl rfl ?_ | refine WL.nil ?_ | refine WC.skip ?_ | refine WC.block ?_ | refine WC.condT rfl ?_ | refine WC.condF rfl ?_ | refine WL.off rfl rfl rfl ?_ | refine WL.off0 rfl rfl ?_ | refine WC.exit ?_ | refine blk_hit ?_ | refine blk_miss rfl ?_ | refine WC.ret ?_)
  exact Res.one rfl rfl rfl ⟨rfl, rfl⟩
theorem size_any (x : Nat) (hx : x < 16384) : Pur Tryd.prog 41 [.int .i64 x] (.int .i64 (pc x)) := by
  intro w
  refine enter Tryd.func41 rfl rfl ⟨rfl, rfl⟩ rfl ?_
  repeat (first | refine WC.seq ?_ | refine WC.reg ?_ | refine WL.pure rfl rfl rfl ?_ | refine WL.nil ?_ | refine WC.skip ?_ | refine WC.block ?_ | refine WC.condT rfl ?_ | refine WC.condF rfl ?_ | refine WL.off rfl rfl rfl ?_ | refine WL.off0 rfl rfl ?_ | refine WC.exit ?_ | refine blk_hit ?_ | refine blk_miss rfl ?_ | refine WC.ret ?_)
  refine WL.known (d := 4) (congrArg (fun z => some (Value.int .u64 z)) (u64_of_nat (by omega))) ?_
  refine WL.callP rfl rfl rfl rfl rfl ent65 (ones_any x hx _) ?_
  repeat (first | refine WC.seq ?_ | refine WC.reg ?_ | refine WL.pure rfl rfl rfl ?_ | refine WL.nil ?_ | refine WC.skip ?_ | refine WC.block ?_ | refine WC.condT rfl ?_ | refine WC.condF rfl ?_ | refine WL.off rfl rfl rfl ?_ | refine WL.off0 rfl rfl ?_ | refine WC.exit ?_ | refine blk_hit ?_ | refine blk_miss rfl ?_ | refine WC.ret ?_)
  exact Res.one rfl rfl rfl ⟨rfl, rfl⟩
end Go.Proofs.YtdnkkflpgebfbaaDoor

/- The walk of 'later'. -/
namespace Go.Proofs.YtdnkkflpgebfbaaDoor
open Go.W Go.Tree
set_option maxRecDepth 100000
attribute [local irreducible] WC WL WQ WS

def ints (xs : List Nat) : List Value := xs.map fun (x : Nat) => Value.int .i64 x
theorem ints_at {xs : List Nat} {i : Nat} (h : i < xs.length) : (ints xs)[i]? = some (.int .i64 (xs.getD i 0 : Nat)) := by
  simp [ints, h]

theorem later_any (ga : Option Addr) (cap : Nat) (g : List Nat) (gone v : Nat) (w : World) (hs : Sl w ga (ints g)) (hT : Tb w) (hg : Gr g) (hv : v < g.length) (hgone : gone < 16384) :
    Ret Tryd.prog 55 [.slice ga g.length cap, .int .i64 gone, .int .i64 v] w fun u w' => u = .int .i64 (lat g gone v) ∧ w' = w := by
  have hn := hg.len
  refine enter Tryd.func55 rfl rfl ⟨rfl, rfl⟩ rfl ?_
  repeat (first | refine WC.seq ?_ | refine WC.reg ?_ | refine WL.pure rfl rfl rfl ?_ | refine WL.nil ?_ | refine WC.skip ?_ | refine WC.block ?_ | refine WC.condT rfl ?_ | refine WC.condF rfl ?_ | refine WL.off rfl rfl rfl ?_ | refine WL.off0 rfl rfl ?_ | refine WC.exit ?_ | refine blk_hit ?_ | refine blk_miss rfl ?_ | refine WC.ret ?_)
  refine WC.loop LS (fun (a, b, c) => [(7, .int .i64 (a : Nat)), (8, .int .i64 (b : Nat)), (9, .int .i64 (c : Nat)), (0, .slice ga g.length cap), (1, .int .i64 gone)])
    (fun s w' => w' = w ∧ LInv g.length s ∧ ∃ k, latM g.length s ≤ k ∧ lat g gone v = (latL g gone k s).2.1) (latM g.length) (2 ^ v, 0, 2 ^ v) ?_ ⟨rfl, linv_init hv, 16, by have := latM_init hn hv; omega, rfl⟩ ?_
  · have e := congrArg (fun z => some (Value.int .i64 z)) (shl_one (v := v) (by omega))
    exact ⟨e, rfl, e, rfl, rfl, rfl⟩
  rintro ⟨seen, out, list⟩ w' ⟨rfl, hI, k, hk, hlat⟩
  have hseen := lt_pow16 hn hI.seen
  have hout := lt_pow16 hn hI.out
  have hlist := lt_pow16 hn hI.list
  simp only at hseen hout hlist
  repeat (first | refine WC.seq ?_ | refine WC.reg ?_ | refine WL.pure rfl rfl rfl ?_ | refine WL.nil ?_ | refine WC.skip ?_ | refine WC.block ?_ | refine WC.condT rfl ?_ | refine WC.condF rfl ?_ | refine WL.off rfl rfl rfl ?_ | refine WL.off0 rfl rfl ?_ | refine WC.exit ?_ | refine blk_hit ?_ | refine blk_miss rfl ?_ | refine WC.ret ?_)
  refine WC.cond rfl ?_ ?_
  · intro h0
    have h0 : list ≠ 0 := by simpa using h0
    have hu := tz_lt hn hI.list h0
    have hgu := lt_pow16 hn (hg.lt (tz list))
    repeat (first | refine WC.seq ?_ | refine WC.reg ?_ | refine WL.pure rfl rfl rfl ?_ | refine WL.nil ?_ | refine WC.skip ?_ | refine WC.block ?_ | refine WC.condT rfl ?_ | refine WC.condF rfl ?_ | refine WL.off rfl rfl rfl ?_ | refine WL.off0 rfl rfl ?_ | refine WC.exit ?_ | refine blk_hit ?_ | refine blk_miss rfl ?_ | refine WC.ret ?_)
    refine WL.known (d := 18) (congrArg (fun z => some (Value.int .u64 z)) (u64_of_nat (s := list) (by omega))) ?_
    refine WL.callP rfl rfl rfl rfl rfl ent69 (tz_any list h0 (by omega) _ hT) ?_
    repeat (first | refine WC.seq ?_ | refine WC.reg ?_ | refine WL.pure rfl rfl rfl ?_ | refine WL.nil ?_ | refine WC.skip ?_ | refine WC.block ?_ | refine WC.condT rfl ?_ | refine WC.condF rfl ?_ | refine WL.off rfl rfl rfl ?_ | refine WL.off0 rfl rfl ?_ | refine WC.exit ?_ | refine blk_hit ?_ | refine blk_miss rfl ?_ | refine WC.ret ?_)
    refine WL.ixload rfl (fun _ => rfl) rfl rfl rfl rfl rfl rfl rfl (cs := ints g) hu rfl rfl hs (ints_at hu) ?_
    intro p
    repeat (first | refine WC.seq ?_ | refine WC.reg ?_ | refine WL.pure rfl rfl rfl ?_ | refine WL.nil ?_ | refine WC.skip ?_ | refine WC.block ?_ | refine WC.condT rfl ?_ | refine WC.condF rfl ?_ | refine WL.off rfl rfl rfl ?_ | refine WL.off0 rfl rfl ?_ | refine WC.exit ?_ | refine blk_hit ?_ | refine blk_miss rfl ?_ | refine WC.ret ?_)
    have fa : bd (g.getD (tz list) 0) seen < 16384 := bd_lt hgu
    have ea : bits .andNot .i64 ((g.getD (tz list) 0 : Nat) : Int) (seen : Int) = ((bd (g.getD (tz list) 0) seen : Nat) : Int) := andNot_i64 (by omega) (by omega)
    generalize hfr : bd (g.getD (tz list) 0) seen = fresh at fa ea
    have fb : bd fresh gone < 16384 := bd_lt fa
    have eb : bits .andNot .i64 (fresh : Int) (gone : Int) = ((bd fresh gone : Nat) : Int) := andNot_i64 (by omega) (by omega)
    have fc : fresh &&& gone < 16384 := and_lt fa
    have ec : bits .and .i64 (fresh : Int) (gone : Int) = ((fresh &&& gone : Nat) : Int) := and_i64 (by omega) (by omega)
    have ed : IntKind.i64.wrap ((list : Int) - 1) = ((list - 1 : Nat) : Int) := by rw [wrap_i64_in (by omega) (by omega)]; omega
    have fe : list &&& (list - 1) < 16384 := and_lt hlist
    have ee : bits .and .i64 (list : Int) ((list - 1 : Nat) : Int) = ((list &&& (list - 1) : Nat) : Int) := and_i64 (by omega) (by omega)
    subst hfr
    refine ⟨latStep g gone (seen, out, list), latStep_lt hg hI h0, ⟨?_, ?_, ?_, rfl, rfl, rfl⟩, rfl, latStep_inv hg hI h0, k - 1, ?_, ?_⟩
    · refine congrArg (fun z => some (Value.int .i64 z)) ?_
      rw [ea, or_i64 (by omega) (by omega)]
    · refine congrArg (fun z => some (Value.int .i64 z)) ?_
      rw [ea, eb, or_i64 (by omega) (by omega)]
    · refine congrArg (fun z => some (Value.int .i64 z)) ?_
      show bits .or .i64 (bits .and .i64 (list : Int) (IntKind.i64.wrap ((list : Int) - 1))) _ = _
      rw [ea, ec, ed, ee, or_i64 (by omega) (by omega)]
    · have := latStep_lt (gone := gone) hg hI h0; omega
    · have : 0 < k := by have := latStep_lt (gone := gone) hg hI h0; omega
      obtain ⟨k, rfl⟩ : ∃ m, k = m + 1 := ⟨k - 1, by omega⟩
      rw [hlat, latL, if_neg h0]; rfl
  · intro h0
    have h0 : list = 0 := by simpa using h0
    repeat (first | refine WC.seq ?_ | refine WC.reg ?_ | refine WL.pure rfl rfl rfl ?_ | refine WL.nil ?_ | refine WC.skip ?_ | refine WC.block ?_ | refine WC.condT rfl ?_ | refine WC.condF rfl ?_ | refine WL.off rfl rfl rfl ?_ | refine WL.off0 rfl rfl ?_ | refine WC.exit ?_ | refine blk_hit ?_ | refine blk_miss rfl ?_ | refine WC.ret ?_)
    refine Res.one rfl rfl rfl ⟨?_, rfl⟩
    rw [hlat]
    cases k with
    | zero => rfl
    | succ k => rw [latL, if_pos h0]
end Go.Proofs.YtdnkkflpgebfbaaDoor

/- The walk of 'newGraph'. -/
namespace Go.Proofs.YtdnkkflpgebfbaaDoor
open Go.W Go.Tree
set_option maxRecDepth 100000
attribute [local irreducible] WC WL WQ WS

/-- What newGraph hands back. -/
def GraphIs (w : World) (n : Int) (es : List Ed) (v : Value) (w' : World) : Prop :=
  RowKit.Below w.heap.size w w' ∧
  match mkG n es with
  | none => v = .tuple #[.slice none 0 0, .bool false]
  | some g => ∃ b, w.heap.size ≤ b ∧ w'.heap[b]? = some (.cells (ints g).toArray 76 (0, 0)) ∧ v = .tuple #[.slice (some ⟨b, 0, none⟩) g.length g.length, .bool true]

theorem ints_len (xs : List Nat) : (ints xs).length = xs.length := by simp [ints]
theorem ints_set (xs : List Nat) (i x : Nat) : (ints xs).toArray.setIfInBounds i (.int .i64 x) = (ints (xs.set i x)).toArray := by
  rw [← Array.toList_inj]; simp [ints, List.map_set]

theorem newGraph_any (ea : Option Addr) (cap : Nat) (n : Int) (es : List Ed) (w : World) (hs : Sl w ea (prs es)) (hlen : es.length ≤ 4611686018427387904) :
    Ret Tryd.prog 38 [.int .i64 n, .slice ea es.length cap] w (GraphIs w n es) := by
  refine enter Tryd.func38 rfl rfl ⟨rfl, rfl⟩ rfl ?_
  repeat (first | refine WC.seq ?_ | refine WC.reg ?_ | refine WL.pure rfl rfl rfl ?_ | refine WL.nil ?_ | refine WC.skip ?_ | refine WC.block ?_ | refine WC.condT rfl ?_ | refine WC.condF rfl ?_ | refine WL.off rfl rfl rfl ?_ | refine WL.off0 rfl rfl ?_ | refine WC.exit ?_ | refine blk_hit ?_ | refine blk_miss rfl ?_ | refine WC.ret ?_)
  refine WL.split 13 rfl (fun h1 => ?_) (fun h1 => ?_)
  · have h1 : n < 0 := by simpa using h1
    repeat (first | refine WC.seq ?_ | refine WC.reg ?_ | refine WL.pure rfl rfl rfl ?_ | refine WL.nil ?_ | refine WC.skip ?_ | refine WC.block ?_ | refine WC.condT rfl ?_ | refine WC.condF rfl ?_ | refine WL.off rfl rfl rfl ?_ | refine WL.off0 rfl rfl ?_ | refine WC.exit ?_ | refine blk_hit ?_ | refine blk_miss rfl ?_ | refine WC.ret ?_)
    refine Res.two rfl rfl rfl rfl ⟨RowKit.Below.refl _ _, ?_⟩
    rw [mkG, if_pos (.inl h1)]
  have h1 : 0 ≤ n := by simpa using h1
  repeat (first | refine WC.seq ?_ | refine WC.reg ?_ | refine WL.pure rfl rfl rfl ?_ | refine WL.nil ?_ | refine WC.skip ?_ | refine WC.block ?_ | refine WC.condT rfl ?_ | refine WC.condF rfl ?_ | refine WL.off rfl rfl rfl ?_ | refine WL.off0 rfl rfl ?_ | refine WC.exit ?_ | refine blk_hit ?_ | refine blk_miss rfl ?_ | refine WC.ret ?_)
  refine WL.split 17 rfl (fun h2 => ?_) (fun h2 => ?_)
  · have h2 : 14 < n := by simpa using h2
    repeat (first | refine WC.seq ?_ | refine WC.reg ?_ | refine WL.pure rfl rfl rfl ?_ | refine WL.nil ?_ | refine WC.skip ?_ | refine WC.block ?_ | refine WC.condT rfl ?_ | refine WC.condF rfl ?_ | refine WL.off rfl rfl rfl ?_ | refine WL.off0 rfl rfl ?_ | refine WC.exit ?_ | refine blk_hit ?_ | refine blk_miss rfl ?_ | refine WC.ret ?_)
    refine Res.two rfl rfl rfl rfl ⟨RowKit.Below.refl _ _, ?_⟩
    rw [mkG, if_pos (.inr (.inl h2))]
  have h2 : n ≤ 14 := by simpa using h2
  repeat (first | refine WC.seq ?_ | refine WC.reg ?_ | refine WL.pure rfl rfl rfl ?_ | refine WL.nil ?_ | refine WC.skip ?_ | refine WC.block ?_ | refine WC.condT rfl ?_ | refine WC.condF rfl ?_ | refine WL.off rfl rfl rfl ?_ | refine WL.off0 rfl rfl ?_ | refine WC.exit ?_ | refine blk_hit ?_ | refine blk_miss rfl ?_ | refine WC.ret ?_)
  refine WC.cond rfl (fun h3 => ?_) (fun h3 => ?_)
  · have h3 : 100 < es.length := by simp at h3; omega
    repeat (first | refine WC.seq ?_ | refine WC.reg ?_ | refine WL.pure rfl rfl rfl ?_ | refine WL.nil ?_ | refine WC.skip ?_ | refine WC.block ?_ | refine WC.condT rfl ?_ | refine WC.condF rfl ?_ | refine WL.off rfl rfl rfl ?_ | refine WL.off0 rfl rfl ?_ | refine WC.exit ?_ | refine blk_hit ?_ | refine blk_miss rfl ?_ | refine WC.ret ?_)
    refine Res.two rfl rfl rfl rfl ⟨RowKit.Below.refl _ _, ?_⟩
    rw [mkG, if_pos (.inr (.inr h3))]
  have h3 : es.length ≤ 100 := by simp at h3; omega
  obtain ⟨m, rfl⟩ := Int.eq_ofNat_of_zero_le h1
  have hm : m ≤ 14 := by omega
  repeat (first | refine WC.seq ?_ | refine WC.reg ?_ | refine WL.pure rfl rfl rfl ?_ | refine WL.nil ?_ | refine WC.skip ?_ | refine WC.block ?_ | refine WC.condT rfl ?_ | refine WC.condF rfl ?_ | refine WL.off rfl rfl rfl ?_ | refine WL.off0 rfl rfl ?_ | refine WC.exit ?_ | refine blk_hit ?_ | refine blk_miss rfl ?_ | refine WC.ret ?_)
  refine WL.make (m := m) rfl rfl rfl rfl rfl rfl rfl rfl ?_ ?_ ?_
  · show 8 * m ≤ _; omega
  · unfold maxLen; omega
  intro b w1 hb1
  have hz : (List.replicate m ti76.zero) = ints (List.replicate m 0) := by simp only [ints, List.map_replicate]; rfl
  rw [hz] at hb1
  have hp1 := (Hp.start w).new hb1
  repeat (first | refine WC.seq ?_ | refine WC.reg ?_ | refine WL.pure rfl rfl rfl ?_ | refine WL.nil ?_ | refine WC.skip ?_ | refine WC.block ?_ | refine WC.condT rfl ?_ | refine WC.condF rfl ?_ | refine WL.off rfl rfl rfl ?_ | refine WL.off0 rfl rfl ?_ | refine WC.exit ?_ | refine blk_hit ?_ | refine blk_miss rfl ?_ | refine WC.ret ?_)
  refine WC.loop (Nat × List Nat) (fun (i, g) => [(0, .int .i64 (m : Nat)), (6, .slice (some ⟨b, 0, none⟩) m m), (24, .slice ea es.length cap), (25, .int .i64 (es.length : Nat)), (26, .int .i64 (i : Nat))])
    (fun (i, g) w' => i ≤ es.length ∧ Gr g ∧ g.length = m ∧ Hp w w' [.blk b (.cells (ints g).toArray 76 (0, 0))] ∧ addEs m (List.replicate m 0) es = addEs m g (es.drop i)) (fun (i, g) => es.length - i) (0, List.replicate m 0)
    ⟨rfl, rfl, rfl, rfl, rfl, rfl⟩ ⟨Nat.zero_le _, zero_gr hm, by simp, hp1, rfl⟩ ?_
  rintro ⟨i, g⟩ w' ⟨hi, hg, hgl, hp, hrun⟩
  subst hgl
  repeat (first | refine WC.seq ?_ | refine WC.reg ?_ | refine WL.pure rfl rfl rfl ?_ | refine WL.nil ?_ | refine WC.skip ?_ | refine WC.block ?_ | refine WC.condT rfl ?_ | refine WC.condF rfl ?_ | refine WL.off rfl rfl rfl ?_ | refine WL.off0 rfl rfl ?_ | refine WC.exit ?_ | refine blk_hit ?_ | refine blk_miss rfl ?_ | refine WC.ret ?_)
  refine WC.cond rfl (fun hc => ?_) (fun hc => ?_)
  · have hlt : i < es.length := by simp at hc; omega
    have hdrop : es.drop i = es[i] :: es.drop (i + 1) := List.drop_eq_getElem_cons hlt
    generalize he : es[i] = e at hdrop
    obtain ⟨u, v⟩ := e
    repeat (first | refine WC.seq ?_ | refine WC.reg ?_ | refine WL.pure rfl rfl rfl ?_ | refine WL.nil ?_ | refine WC.skip ?_ | refine WC.block ?_ | refine WC.condT rfl ?_ | refine WC.condF rfl ?_ | refine WL.off rfl rfl rfl ?_ | refine WL.off0 rfl rfl ?_ | refine WC.exit ?_ | refine blk_hit ?_ | refine blk_miss rfl ?_ | refine WC.ret ?_)
    refine WL.ixloadN rfl (fun _ => rfl) rfl rfl rfl rfl rfl rfl rfl rfl (cs' := pr (u, v)) hlt rfl rfl (hs.hp hp) rfl (fun q x hq => prs_at es i hlt q x (by rw [he]; exact hq)) ?_
    intro p
    refine WL.var rfl rfl rfl (fun _ => rfl) rfl rfl (by intro y hy; simp [pr, Value.cells] at hy; rcases hy with rfl | rfl <;> rfl) ?_
    intro c w2 hc2
    have hp2 := hp.new hc2
    repeat (first | refine WC.seq ?_ | refine WC.reg ?_ | refine WL.pure rfl rfl rfl ?_ | refine WL.nil ?_ | refine WC.skip ?_ | refine WC.block ?_ | refine WC.condT rfl ?_ | refine WC.condF rfl ?_ | refine WL.off rfl rfl rfl ?_ | refine WL.off0 rfl rfl ?_ | refine WC.exit ?_ | refine blk_hit ?_ | refine blk_miss rfl ?_ | refine WC.ret ?_)
    refine WC.regQ (fun w3 => Hp w w3 _) mixed (by kernel_rfl) (fun w3 hw3 => hp2.keep hw3) ?_
    repeat (first | refine WQ.pure rfl rfl rfl ?_ | refine WQ.off rfl rfl rfl ?_ | refine WQ.nil ?_)
    refine WQ.load rfl rfl rfl rfl rfl (fun w3 h3 => cell_of_obj (h3.obj 0 rfl) rfl) ?_
    repeat (first | refine WQ.pure rfl rfl rfl ?_ | refine WQ.off rfl rfl rfl ?_ | refine WQ.nil ?_)
    refine WQ.load rfl rfl rfl rfl rfl (fun w3 h3 => cell_of_obj (h3.obj 0 rfl) rfl) ?_
    repeat (first | refine WQ.pure rfl rfl rfl ?_ | refine WQ.off rfl rfl rfl ?_ | refine WQ.nil ?_)
    intro w3 hp3
    have K : ∀ w4, Hp w w4 [.blk c (.cells (Value.agg (pr (u, v)).toArray).cells 50 (0, 0)), .blk b (.cells (ints g).toArray 76 (0, 0))] → Bad g.length g (u, v) → GraphIs w g.length es (.tuple #[.slice none 0 0, .bool false]) w4 := by
      intro w4 h4 hbad
      refine ⟨h4.below, ?_⟩
      have : mkG g.length es = none := by
        unfold mkG
        split
        · rfl
        · show addEs g.length (List.replicate g.length 0) es = none
          rw [hrun, hdrop, addEs, addE, if_pos hbad]
      rw [this]
    repeat (first | refine WC.seq ?_ | refine WC.reg ?_ | refine WL.pure rfl rfl rfl ?_ | refine WL.nil ?_ | refine WC.skip ?_ | refine WC.block ?_ | refine WC.condT rfl ?_ | refine WC.condF rfl ?_ | refine WL.off rfl rfl rfl ?_ | refine WL.off0 rfl rfl ?_ | refine WC.exit ?_ | refine blk_hit ?_ | refine blk_miss rfl ?_ | refine WC.ret ?_)
    refine WL.split 36 rfl (fun q1 => ?_) (fun q1 => ?_)
    · repeat (first | refine WC.seq ?_ | refine WC.reg ?_ | refine WL.pure rfl rfl rfl ?_ | refine WL.nil ?_ | refine WC.skip ?_ | refine WC.block ?_ | refine WC.condT rfl ?_ | refine WC.condF rfl ?_ | refine WL.off rfl rfl rfl ?_ | refine WL.off0 rfl rfl ?_ | refine WC.exit ?_ | refine blk_hit ?_ | refine blk_miss rfl ?_ | refine WC.ret ?_)
      exact Res.two rfl rfl rfl rfl (K _ hp3 (.inl (by simpa using q1)))
    have r1 : 0 ≤ u := by simpa using q1
    repeat (first | refine WC.seq ?_ | refine WC.reg ?_ | refine WL.pure rfl rfl rfl ?_ | refine WL.nil ?_ | refine WC.skip ?_ | refine WC.block ?_ | refine WC.condT rfl ?_ | refine WC.condF rfl ?_ | refine WL.off rfl rfl rfl ?_ | refine WL.off0 rfl rfl ?_ | refine WC.exit ?_ | refine blk_hit ?_ | refine blk_miss rfl ?_ | refine WC.ret ?_)
    refine WL.split 41 rfl (fun q2 => ?_) (fun q2 => ?_)
    · repeat (first | refine WC.seq ?_ | refine WC.reg ?_ | refine WL.pure rfl rfl rfl ?_ | refine WL.nil ?_ | refine WC.skip ?_ | refine WC.block ?_ | refine WC.condT rfl ?_ | refine WC.condF rfl ?_ | refine WL.off rfl rfl rfl ?_ | refine WL.off0 rfl rfl ?_ | refine WC.exit ?_ | refine blk_hit ?_ | refine blk_miss rfl ?_ | refine WC.ret ?_)
      exact Res.two rfl rfl rfl rfl (K _ hp3 (.inr (.inl (by simpa using q2))))
    have r2 : u < g.length := by simpa using q2
    repeat (first | refine WC.seq ?_ | refine WC.reg ?_ | refine WL.pure rfl rfl rfl ?_ | refine WL.nil ?_ | refine WC.skip ?_ | refine WC.block ?_ | refine WC.condT rfl ?_ | refine WC.condF rfl ?_ | refine WL.off rfl rfl rfl ?_ | refine WL.off0 rfl rfl ?_ | refine WC.exit ?_ | refine blk_hit ?_ | refine blk_miss rfl ?_ | refine WC.ret ?_)
    refine WL.split 45 rfl (fun q3 => ?_) (fun q3 => ?_)
    · repeat (first | refine WC.seq ?_ | refine WC.reg ?_ | refine WL.pure rfl rfl rfl ?_ | refine WL.nil ?_ | refine WC.skip ?_ | refine WC.block ?_ | refine WC.condT rfl ?_ | refine WC.condF rfl ?_ | refine WL.off rfl rfl rfl ?_ | refine WL.off0 rfl rfl ?_ | refine WC.exit ?_ | refine blk_hit ?_ | refine blk_miss rfl ?_ | refine WC.ret ?_)
      exact Res.two rfl rfl rfl rfl (K _ hp3 (.inr (.inr (.inl (by simpa using q3)))))
    have r3 : 0 ≤ v := by simpa using q3
    repeat (first | refine WC.seq ?_ | refine WC.reg ?_ | refine WL.pure rfl rfl rfl ?_ | refine WL.nil ?_ | refine WC.skip ?_ | refine WC.block ?_ | refine WC.condT rfl ?_ | refine WC.condF rfl ?_ | refine WL.off rfl rfl rfl ?_ | refine WL.off0 rfl rfl ?_ | refine WC.exit ?_ | refine blk_hit ?_ | refine blk_miss rfl ?_ | refine WC.ret ?_)
    refine WL.split 50 rfl (fun q4 => ?_) (fun q4 => ?_)
    · repeat (first | refine WC.seq ?_ | refine WC.reg ?_ | refine WL.pure rfl rfl rfl ?_ | refine WL.nil ?_ | refine WC.skip ?_ | refine WC.block ?_ | refine WC.condT rfl ?_ | refine WC.condF rfl ?_ | refine WL.off rfl rfl rfl ?_ | refine WL.off0 rfl rfl ?_ | refine WC.exit ?_ | refine blk_hit ?_ | refine blk_miss rfl ?_ | refine WC.ret ?_)
      exact Res.two rfl rfl rfl rfl (K _ hp3 (.inr (.inr (.inr (.inl (by simpa using q4))))))
    have r4 : v < g.length := by simpa using q4
    repeat (first | refine WC.seq ?_ | refine WC.reg ?_ | refine WL.pure rfl rfl rfl ?_ | refine WL.nil ?_ | refine WC.skip ?_ | refine WC.block ?_ | refine WC.condT rfl ?_ | refine WC.condF rfl ?_ | refine WL.off rfl rfl rfl ?_ | refine WL.off0 rfl rfl ?_ | refine WC.exit ?_ | refine blk_hit ?_ | refine blk_miss rfl ?_ | refine WC.ret ?_)
    refine WL.split 55 rfl (fun q5 => ?_) (fun q5 => ?_)
    · repeat (first | refine WC.seq ?_ | refine WC.reg ?_ | refine WL.pure rfl rfl rfl ?_ | refine WL.nil ?_ | refine WC.skip ?_ | refine WC.block ?_ | refine WC.condT rfl ?_ | refine WC.condF rfl ?_ | refine WL.off rfl rfl rfl ?_ | refine WL.off0 rfl rfl ?_ | refine WC.exit ?_ | refine blk_hit ?_ | refine blk_miss rfl ?_ | refine WC.ret ?_)
      exact Res.two rfl rfl rfl rfl (K _ hp3 (.inr (.inr (.inr (.inr (.inl (by simpa using q5)))))))
    have r5 : u ≠ v := by simpa using q5
    obtain ⟨u, rfl⟩ := Int.eq_ofNat_of_zero_le r1
    obtain ⟨v, rfl⟩ := Int.eq_ofNat_of_zero_le r3
    have hu : u < g.length := by omega
    have hv : v < g.length := by omega
    have huv : u ≠ v := fun h => r5 (by rw [h])
    have hgu := lt_pow16 hg.len (hg.lt u)
    have hgv := lt_pow16 hg.len (hg.lt v)
    have hsg : Sl w3 (some ⟨b, 0, none⟩) (ints g) := Sl.of_obj (hp3.obj 1 rfl) (fun q x hq => by simpa using hq)
    repeat (first | refine WC.seq ?_ | refine WC.reg ?_ | refine WL.pure rfl rfl rfl ?_ | refine WL.nil ?_ | refine WC.skip ?_ | refine WC.block ?_ | refine WC.condT rfl ?_ | refine WC.condF rfl ?_ | refine WL.off rfl rfl rfl ?_ | refine WL.off0 rfl rfl ?_ | refine WC.exit ?_ | refine blk_hit ?_ | refine blk_miss rfl ?_ | refine WC.ret ?_)
    refine WL.ixload rfl (fun _ => rfl) rfl rfl rfl rfl rfl rfl rfl (cs := ints g) hu rfl rfl hsg (ints_at hu) ?_
    intro p2
    repeat (first | refine WC.seq ?_ | refine WC.reg ?_ | refine WL.pure rfl rfl rfl ?_ | refine WL.nil ?_ | refine WC.skip ?_ | refine WC.block ?_ | refine WC.condT rfl ?_ | refine WC.condF rfl ?_ | refine WL.off rfl rfl rfl ?_ | refine WL.off0 rfl rfl ?_ | refine WC.exit ?_ | refine blk_hit ?_ | refine blk_miss rfl ?_ | refine WC.ret ?_)
    refine WL.callP rfl rfl rfl rfl rfl ent44 (has_any _ _ (by omega) _) ?_
    repeat (first | refine WC.seq ?_ | refine WC.reg ?_ | refine WL.pure rfl rfl rfl ?_ | refine WL.nil ?_ | refine WC.skip ?_ | refine WC.block ?_ | refine WC.condT rfl ?_ | refine WC.condF rfl ?_ | refine WL.off rfl rfl rfl ?_ | refine WL.off0 rfl rfl ?_ | refine WC.exit ?_ | refine blk_hit ?_ | refine blk_miss rfl ?_ | refine WC.ret ?_)
    refine WC.cond rfl (fun q6 => ?_) (fun q6 => ?_)
    · repeat (first | refine WC.seq ?_ | refine WC.reg ?_ | refine WL.pure rfl rfl rfl ?_ | refine WL.nil ?_ | refine WC.skip ?_ | refine WC.block ?_ | refine WC.condT rfl ?_ | refine WC.condF rfl ?_ | refine WL.off rfl rfl rfl ?_ | refine WL.off0 rfl rfl ?_ | refine WC.exit ?_ | refine blk_hit ?_ | refine blk_miss rfl ?_ | refine WC.ret ?_)
      exact Res.two rfl rfl rfl rfl (K _ hp3 (.inr (.inr (.inr (.inr (.inr (by simpa using q6)))))))
    have hpv : 2 ^ v < 16384 := lt_pow16 hg.len (Nat.pow_lt_pow_right (by decide) hv)
    have hpu : 2 ^ u < 16384 := lt_pow16 hg.len (Nat.pow_lt_pow_right (by decide) hu)
    have hbad : ¬ Bad g.length g ((u : Int), (v : Int)) := by
      unfold Bad
      simp only [Int.toNat_natCast]
      intro h
      rcases h with h | h | h | h | h | h
      all_goals first | omega | (rw [q6] at h; cases h)
    repeat (first | refine WC.seq ?_ | refine WC.reg ?_ | refine WL.pure rfl rfl rfl ?_ | refine WL.nil ?_ | refine WC.skip ?_ | refine WC.block ?_ | refine WC.condT rfl ?_ | refine WC.condF rfl ?_ | refine WL.off rfl rfl rfl ?_ | refine WL.off0 rfl rfl ?_ | refine WC.exit ?_ | refine blk_hit ?_ | refine blk_miss rfl ?_ | refine WC.ret ?_)
    refine WC.regS 8 mixed (by kernel_rfl) rfl rfl (fun w4 hw4 hh4 => ?_)
    have hp4 := hp3.keep hw4
    repeat (first | refine WS.pure rfl rfl rfl ?_ | refine WS.off rfl rfl rfl ?_ | refine WS.nil ?_)
    refine WS.ix1 rfl rfl rfl rfl rfl rfl rfl hu ?_
    repeat (first | refine WS.pure rfl rfl rfl ?_ | refine WS.off rfl rfl rfl ?_ | refine WS.nil ?_)
    refine WS.loadB rfl rfl rfl rfl rfl (hp4.obj 1 rfl) (j := 0 + u) (by rw [nth_eq, Nat.zero_add]; exact ints_at hu) ?_
    repeat (first | refine WS.pure rfl rfl rfl ?_ | refine WS.off rfl rfl rfl ?_ | refine WS.nil ?_)
    refine WS.ix1 rfl rfl rfl rfl rfl rfl rfl hu ?_
    repeat (first | refine WS.pure rfl rfl rfl ?_ | refine WS.off rfl rfl rfl ?_ | refine WS.nil ?_)
    have e1 : bits .or .i64 ((g.getD u 0 : Nat) : Int) (shl .i64 1 v) = ((g.getD u 0 ||| 2 ^ v : Nat) : Int) := by
      rw [shl_one (by omega), or_i64 (by omega) (by omega)]
    refine WL.store rfl rfl rfl rfl rfl rfl (hp4.obj 1 rfl) (by simp [ints]; omega) (fun w5 hw5 => ?_)
    rw [Nat.zero_add, e1, ints_set] at hw5
    have hp5 := hp4.set 1 rfl rfl hw5
    have hg1 : Gr (put1 g u v) := put1_gr hg hu hv
    have hl1 := put1_len g u v
    change Hp w w5 [_, .blk b (.cells (ints (put1 g u v)).toArray 76 (0, 0))] at hp5
    have hv1 : v < (put1 g u v).length := by rw [hl1]; exact hv
    have hgv1 := lt_pow16 hg1.len (hg1.lt v)
    repeat (first | refine WC.seq ?_ | refine WC.reg ?_ | refine WL.pure rfl rfl rfl ?_ | refine WL.nil ?_ | refine WC.skip ?_ | refine WC.block ?_ | refine WC.condT rfl ?_ | refine WC.condF rfl ?_ | refine WL.off rfl rfl rfl ?_ | refine WL.off0 rfl rfl ?_ | refine WC.exit ?_ | refine blk_hit ?_ | refine blk_miss rfl ?_ | refine WC.ret ?_)
    refine WC.regS 8 mixed (by kernel_rfl) rfl rfl (fun w6 hw6 hh6 => ?_)
    have hp6 := hp5.keep hw6
    repeat (first | refine WS.pure rfl rfl rfl ?_ | refine WS.off rfl rfl rfl ?_ | refine WS.nil ?_)
    refine WS.ix1 rfl rfl rfl rfl rfl rfl rfl hv ?_
    repeat (first | refine WS.pure rfl rfl rfl ?_ | refine WS.off rfl rfl rfl ?_ | refine WS.nil ?_)
    refine WS.loadB rfl rfl rfl rfl rfl (hp6.obj 1 rfl) (j := 0 + v) (by rw [nth_eq, Nat.zero_add]; exact ints_at hv1) ?_
    repeat (first | refine WS.pure rfl rfl rfl ?_ | refine WS.off rfl rfl rfl ?_ | refine WS.nil ?_)
    refine WS.ix1 rfl rfl rfl rfl rfl rfl rfl hv ?_
    repeat (first | refine WS.pure rfl rfl rfl ?_ | refine WS.off rfl rfl rfl ?_ | refine WS.nil ?_)
    have e2 : bits .or .i64 (((put1 g u v).getD v 0 : Nat) : Int) (shl .i64 1 u) = (((put1 g u v).getD v 0 ||| 2 ^ u : Nat) : Int) := by
      rw [shl_one (by omega), or_i64 (by omega) (by omega)]
    refine WL.store rfl rfl rfl rfl rfl rfl (hp6.obj 1 rfl) (by simp [ints]; omega) (fun w7 hw7 => ?_)
    rw [Nat.zero_add, e2, ints_set] at hw7
    have hp7 := (hp6.set 1 rfl rfl hw7).tail
    change Hp w w7 [.blk b (.cells (ints (put1 (put1 g u v) v u)).toArray 76 (0, 0))] at hp7
    repeat (first | refine WC.seq ?_ | refine WC.reg ?_ | refine WL.pure rfl rfl rfl ?_ | refine WL.nil ?_ | refine WC.skip ?_ | refine WC.block ?_ | refine WC.condT rfl ?_ | refine WC.condF rfl ?_ | refine WL.off rfl rfl rfl ?_ | refine WL.off0 rfl rfl ?_ | refine WC.exit ?_ | refine blk_hit ?_ | refine blk_miss rfl ?_ | refine WC.ret ?_)
    have e3 : IntKind.i64.wrap ((i : Int) + 1) = ((i + 1 : Nat) : Int) := by rw [wrap_i64_in (by omega) (by omega)]; omega
    refine ⟨(i + 1, put1 (put1 g u v) v u), by show es.length - (i + 1) < es.length - i; omega, ?_, by omega, put1_gr hg1 hv1 (by omega), by rw [put1_len, put1_len], hp7, ?_⟩
    · exact ⟨rfl, rfl, rfl, rfl, congrArg (fun z => some (Value.int .i64 z)) e3, rfl⟩
    · rw [hrun, hdrop, addEs, addE, if_neg hbad]
      rfl
  · have hge : es.length ≤ i := by simp at hc; omega
    repeat (first | refine WC.seq ?_ | refine WC.reg ?_ | refine WL.pure rfl rfl rfl ?_ | refine WL.nil ?_ | refine WC.skip ?_ | refine WC.block ?_ | refine WC.condT rfl ?_ | refine WC.condF rfl ?_ | refine WL.off rfl rfl rfl ?_ | refine WL.off0 rfl rfl ?_ | refine WC.exit ?_ | refine blk_hit ?_ | refine blk_miss rfl ?_ | refine WC.ret ?_)
    refine Res.two rfl rfl rfl rfl ⟨hp.below, ?_⟩
    have hm2 : mkG (g.length : Int) es = some g := by
      unfold mkG
      rw [if_neg (by omega)]
      show addEs g.length (List.replicate g.length 0) es = some g
      rw [hrun, List.drop_eq_nil_of_le hge, addEs]
    simp only [hm2]
    exact ⟨b, (hp.at 0 rfl).1, hp.obj 0 rfl, rfl⟩
end Go.Proofs.YtdnkkflpgebfbaaDoor

/- The iterator of a set; lists of it. -/
namespace Go.Proofs.YtdnkkflpgebfbaaDoor
open Go.W Go.Tree
set_option maxRecDepth 100000
attribute [local irreducible] WC WL WQ WS

theorem all1_iter (c : Addr) (s : Nat) (hs : s < 65536) (w0 w1 : World) (hT : Tb w0) (hc : w1.cell? c = some (.int .i64 s)) :
    Iter Tryd.prog 70 [.pointer (some c)] (ints (els s)) w0 w1 := by
  intro l I h0 hbel hround
  refine enter Tryd.func70 rfl rfl ⟨rfl, rfl⟩ rfl ?_
  repeat (first | refine WC.seq ?_ | refine WC.reg ?_ | refine WL.pure rfl rfl rfl ?_ | refine WL.nil ?_ | refine WC.skip ?_ | refine WC.block ?_ | refine WC.condT rfl ?_ | refine WC.condF rfl ?_ | refine WL.off rfl rfl rfl ?_ | refine WL.off0 rfl rfl ?_ | refine WC.exit ?_ | refine blk_hit ?_ | refine blk_miss rfl ?_ | refine WC.ret ?_)
  refine WL.load rfl rfl rfl rfl rfl hc ?_
  repeat (first | refine WC.seq ?_ | refine WC.reg ?_ | refine WL.pure rfl rfl rfl ?_ | refine WL.nil ?_ | refine WC.skip ?_ | refine WC.block ?_ | refine WC.condT rfl ?_ | refine WC.condF rfl ?_ | refine WL.off rfl rfl rfl ?_ | refine WL.off0 rfl rfl ?_ | refine WC.exit ?_ | refine blk_hit ?_ | refine blk_miss rfl ?_ | refine WC.ret ?_)
  refine WC.loop (Nat × Nat) (fun (i, r) => [(0, .func (.yield l) #[] #[]), (3, .int .i64 (r : Nat))]) (fun (i, r) w' => I i w' ∧ r < 65536 ∧ (els s).drop i = els r ∧ i + (els r).length = (els s).length) (fun (i, r) => (els r).length) (0, s)
    ⟨rfl, rfl, rfl⟩ ⟨h0, hs, rfl, by omega⟩ ?_
  rintro ⟨i, r⟩ w' ⟨hI, hr, hd, hl⟩
  repeat (first | refine WC.seq ?_ | refine WC.reg ?_ | refine WL.pure rfl rfl rfl ?_ | refine WL.nil ?_ | refine WC.skip ?_ | refine WC.block ?_ | refine WC.condT rfl ?_ | refine WC.condF rfl ?_ | refine WL.off rfl rfl rfl ?_ | refine WL.off0 rfl rfl ?_ | refine WC.exit ?_ | refine blk_hit ?_ | refine blk_miss rfl ?_ | refine WC.ret ?_)
  refine WC.cond rfl (fun h => ?_) (fun h => ?_)
  · have hr0 : r ≠ 0 := by intro h1; subst h1; simp at h
    have hstep := els_step hr0 hr
    have hT' : Tb w' := hT.below (hbel i w' hI)
    repeat (first | refine WC.seq ?_ | refine WC.reg ?_ | refine WL.pure rfl rfl rfl ?_ | refine WL.nil ?_ | refine WC.skip ?_ | refine WC.block ?_ | refine WC.condT rfl ?_ | refine WC.condF rfl ?_ | refine WL.off rfl rfl rfl ?_ | refine WL.off0 rfl rfl ?_ | refine WC.exit ?_ | refine blk_hit ?_ | refine blk_miss rfl ?_ | refine WC.ret ?_)
    refine WL.known (d := 13) (congrArg (fun z => some (Value.int .u64 z)) (u64_of_nat (s := r) (by omega))) ?_
    refine WL.callP rfl rfl rfl rfl rfl ent69 (tz_any r hr0 (by omega) _ hT') ?_
    have hat : (ints (els s))[i]? = some (.int .i64 (tz r : Nat)) := by
      have h1 : ((els s).drop i)[0]? = some (tz r) := by rw [hd, hstep]; rfl
      simp only [List.getElem?_drop, Nat.add_zero] at h1
      simp [ints, h1]
    refine WL.yld rfl rfl rfl rfl (hround i _ w' hat hI) ?_
    rintro v w2 ⟨rfl, hI2⟩
    repeat (first | refine WC.seq ?_ | refine WC.reg ?_ | refine WL.pure rfl rfl rfl ?_ | refine WL.nil ?_ | refine WC.skip ?_ | refine WC.block ?_ | refine WC.condT rfl ?_ | refine WC.condF rfl ?_ | refine WL.off rfl rfl rfl ?_ | refine WL.off0 rfl rfl ?_ | refine WC.exit ?_ | refine blk_hit ?_ | refine blk_miss rfl ?_ | refine WC.ret ?_)
    have hlt : r &&& (r - 1) < 65536 := and_pred_lt hr
    have e1 : bits .and .i64 (r : Int) (IntKind.i64.wrap ((r : Int) - 1)) = ((r &&& (r - 1) : Nat) : Int) := by
      rw [wrap_i64_in (by omega) (by omega), show (r : Int) - 1 = ((r - 1 : Nat) : Int) by omega, and_i64 (by omega) (by omega)]
    have e2 : (els r).length = (els (r &&& (r - 1))).length + 1 := by rw [hstep]; rfl
    refine ⟨(i + 1, r &&& (r - 1)), by show (els (r &&& (r - 1))).length < (els r).length; omega, ⟨rfl, congrArg (fun z => some (Value.int .i64 z)) e1, rfl⟩, hI2, hlt, ?_, by omega⟩
    rw [← List.drop_drop, hd, hstep]; rfl
  · have hr0 : r = 0 := by simpa using h
    subst hr0
    repeat (first | refine WC.seq ?_ | refine WC.reg ?_ | refine WL.pure rfl rfl rfl ?_ | refine WL.nil ?_ | refine WC.skip ?_ | refine WC.block ?_ | refine WC.condT rfl ?_ | refine WC.condF rfl ?_ | refine WL.off rfl rfl rfl ?_ | refine WL.off0 rfl rfl ?_ | refine WC.exit ?_ | refine blk_hit ?_ | refine blk_miss rfl ?_ | refine WC.ret ?_)
    refine Res.zero rfl rfl ?_
    rw [els_zero] at hl
    have : i = (ints (els s)).length := by simp [ints]; simpa using hl
    rw [← this]; exact hI

/-- What 'all' hands back. -/
theorem all_any (s : Nat) (w : World) : Ret Tryd.prog 56 [.int .i64 s] w fun v w' => ∃ b, NewB w b (.cells #[.int .i64 s] 76 (0, 0)) w' ∧ v = .func (.func 70) #[] #[.pointer (some ⟨b, 0, none⟩)] := by
  refine enter Tryd.func56 rfl rfl ⟨rfl, rfl⟩ rfl ?_
  repeat (first | refine WC.seq ?_ | refine WC.reg ?_ | refine WL.pure rfl rfl rfl ?_ | refine WL.nil ?_ | refine WC.skip ?_ | refine WC.block ?_ | refine WC.condT rfl ?_ | refine WC.condF rfl ?_ | refine WL.off rfl rfl rfl ?_ | refine WL.off0 rfl rfl ?_ | refine WC.exit ?_ | refine blk_hit ?_ | refine blk_miss rfl ?_ | refine WC.ret ?_)
  refine WL.box rfl rfl rfl ?_
  intro b w1 hb
  repeat (first | refine WC.seq ?_ | refine WC.reg ?_ | refine WL.pure rfl rfl rfl ?_ | refine WL.nil ?_ | refine WC.skip ?_ | refine WC.block ?_ | refine WC.condT rfl ?_ | refine WC.condF rfl ?_ | refine WL.off rfl rfl rfl ?_ | refine WL.off0 rfl rfl ?_ | refine WC.exit ?_ | refine blk_hit ?_ | refine blk_miss rfl ?_ | refine WC.ret ?_)
  exact Res.one rfl rfl rfl ⟨b, hb, rfl⟩
end Go.Proofs.YtdnkkflpgebfbaaDoor

/- The list of a set. -/
namespace Go.Proofs.YtdnkkflpgebfbaaDoor
open Go.W Go.Tree
set_option maxRecDepth 100000
attribute [local irreducible] WC WL WQ WS

/-- A list of one's own that has been made. -/
def Made (w : World) (xs : List Value) (v : Value) (w' : World) : Prop :=
  ∃ a cap, v = .slice a xs.length cap ∧ Hp w w' [.row 3 1 (.slice a xs.length cap) xs.length xs]

theorem els_le (s : Nat) : (els s).length ≤ 16 := by
  rw [els]; exact Nat.le_trans (List.length_filter_le _ _) (by simp)

theorem appendSeq_any (c : Addr) (s : Nat) (hs : s < 65536) (w : World) (hT : Tb w) (hc : w.cell? c = some (.int .i64 s)) :
    Ret Tryd.prog 73 [.slice none 0 0, .func (.func 70) #[] #[.pointer (some c)]] w (Made w (ints (els s))) := by
  have hlen := els_le s
  refine enterM Tryd.func73 rfl rfl ⟨rfl, rfl⟩ rfl ?_
  repeat (first | refine WC.seq ?_ | refine WC.reg ?_ | refine WL.pure rfl rfl rfl ?_ | refine WL.nil ?_ | refine WC.skip ?_ | refine WC.block ?_ | refine WC.condT rfl ?_ | refine WC.condF rfl ?_ | refine WL.off rfl rfl rfl ?_ | refine WL.off0 rfl rfl ?_ | refine WC.exit ?_ | refine blk_hit ?_ | refine blk_miss rfl ?_ | refine WC.ret ?_)
  refine WL.box rfl rfl rfl ?_
  intro b w1 hb
  have hp1 := ((Hp.start w).new hb).nilrow 3 1
  repeat (first | refine WC.seq ?_ | refine WC.reg ?_ | refine WL.pure rfl rfl rfl ?_ | refine WL.nil ?_ | refine WC.skip ?_ | refine WC.block ?_ | refine WC.condT rfl ?_ | refine WC.condF rfl ?_ | refine WL.off rfl rfl rfl ?_ | refine WL.off0 rfl rfl ?_ | refine WC.exit ?_ | refine blk_hit ?_ | refine blk_miss rfl ?_ | refine WC.ret ?_)
  refine WC.rangeF (ints (els s)) (Nat × Option Addr × Nat) (fun (i, a, cap) => [.row 3 1 (.slice a i cap) i ((ints (els s)).take i), .blk b (.cells #[.slice a i cap] 32 (0, 0))]) (fun i s => s.1 = i) (0, none, 0)
    [(2, .pointer (some ⟨b, 0, none⟩))] rfl ent70 rfl ⟨rfl, trivial⟩ hp1 rfl ?_ ?_ ?_
  · intro w2 hp2
    exact all1_iter c s hs w w2 hT (cell_below hp2.below hc)
  · rintro _ x ⟨i, a, cap⟩ l D o w2 hx rfl hp2
    simp only at hx
    have hi : i < (ints (els s)).length := (List.getElem?_eq_some_iff.1 hx).1
    have hi' : i < 16 := by simp [ints] at hi; omega
    obtain ⟨y, rfl⟩ : ∃ y : Nat, x = .int .i64 y := by
      simp only [ints, List.getElem?_map, Option.map_eq_some_iff] at hx
      obtain ⟨y, _, rfl⟩ := hx
      exact ⟨y, rfl⟩
    repeat (first | refine WC.seq ?_ | refine WC.reg ?_ | refine WL.pure rfl rfl rfl ?_ | refine WL.nil ?_ | refine WC.skip ?_ | refine WC.block ?_ | refine WC.condT rfl ?_ | refine WC.condF rfl ?_ | refine WL.off rfl rfl rfl ?_ | refine WL.off0 rfl rfl ?_ | refine WC.exit ?_ | refine blk_hit ?_ | refine blk_miss rfl ?_ | refine WC.ret ?_)
    refine ⟨_, hp2, fun o' w3 hp3 => ?_⟩
    repeat (first | refine WC.seq ?_ | refine WC.reg ?_ | refine WL.pure rfl rfl rfl ?_ | refine WL.nil ?_ | refine WC.skip ?_ | refine WC.block ?_ | refine WC.condT rfl ?_ | refine WC.condF rfl ?_ | refine WL.off rfl rfl rfl ?_ | refine WL.off0 rfl rfl ?_ | refine WC.exit ?_ | refine blk_hit ?_ | refine blk_miss rfl ?_ | refine WC.ret ?_)
    refine WL.loadB rfl rfl rfl rfl rfl (hp3.obj 3 rfl) rfl ?_
    repeat (first | refine WC.seq ?_ | refine WC.reg ?_ | refine WL.pure rfl rfl rfl ?_ | refine WL.nil ?_ | refine WC.skip ?_ | refine WC.block ?_ | refine WC.condT rfl ?_ | refine WC.condF rfl ?_ | refine WL.off rfl rfl rfl ?_ | refine WL.off0 rfl rfl ?_ | refine WC.exit ?_ | refine blk_hit ?_ | refine blk_miss rfl ?_ | refine WC.ret ?_)
    refine WL.buildS (cs := [.int .i64 y]) rfl rfl rfl rfl rfl rfl rfl rfl rfl ?_
    intro b2 w4 hb2
    have hp4 := hp3.new hb2
    refine WL.append 3 hp4 rfl rfl rfl rfl rfl Nat.zero_lt_one rfl rfl rfl (news := [.int .i64 y]) ?_ rfl ?_ ?_ ?_ ?_
    · exact Sl.of_obj (hp4.obj 0 rfl) (fun q u hq => by simpa using hq)
    · exact Cells.cons rfl Cells.nil
    · unfold maxLen; omega
    · show (i + 1) * 8 ≤ _; omega
    intro a' cap' w5 hp5 hg5
    refine WL.store rfl rfl rfl rfl rfl rfl (hp5.obj 4 rfl) Nat.zero_lt_one (fun w6 hw6 => ?_)
    have hp6 := hp5.set 4 rfl rfl hw6
    repeat (first | refine WC.seq ?_ | refine WC.reg ?_ | refine WL.pure rfl rfl rfl ?_ | refine WL.nil ?_ | refine WC.skip ?_ | refine WC.block ?_ | refine WC.condT rfl ?_ | refine WC.condF rfl ?_ | refine WL.off rfl rfl rfl ?_ | refine WL.off0 rfl rfl ?_ | refine WC.exit ?_ | refine blk_hit ?_ | refine blk_miss rfl ?_ | refine WC.ret ?_)
    refine ⟨(i + 1, a', cap'), rfl, ?_⟩
    have := hp6.tail
    dsimp only
    rw [List.take_add_one, hx]
    exact this
  · rintro ⟨_, a, cap⟩ D w2 rfl hp2
    repeat (first | refine WC.seq ?_ | refine WC.reg ?_ | refine WL.pure rfl rfl rfl ?_ | refine WL.nil ?_ | refine WC.skip ?_ | refine WC.block ?_ | refine WC.condT rfl ?_ | refine WC.condF rfl ?_ | refine WL.off rfl rfl rfl ?_ | refine WL.off0 rfl rfl ?_ | refine WC.exit ?_ | refine blk_hit ?_ | refine blk_miss rfl ?_ | refine WC.ret ?_)
    refine WL.loadB rfl rfl rfl rfl rfl (hp2.obj 2 rfl) rfl ?_
    repeat (first | refine WC.seq ?_ | refine WC.reg ?_ | refine WL.pure rfl rfl rfl ?_ | refine WL.nil ?_ | refine WC.skip ?_ | refine WC.block ?_ | refine WC.condT rfl ?_ | refine WC.condF rfl ?_ | refine WL.off rfl rfl rfl ?_ | refine WL.off0 rfl rfl ?_ | refine WC.exit ?_ | refine blk_hit ?_ | refine blk_miss rfl ?_ | refine WC.ret ?_)
    refine ResM.one rfl rfl rfl hp2.single (fun w3 hp3 => ⟨a, cap, rfl, ?_⟩)
    have := hp3.swap.tail
    rw [List.take_length] at this
    exact this

theorem collect_any (c : Addr) (s : Nat) (hs : s < 65536) (w : World) (hT : Tb w) (hc : w.cell? c = some (.int .i64 s)) :
    Ret Tryd.prog 66 [.func (.func 70) #[] #[.pointer (some c)]] w (Made w (ints (els s))) := by
  refine enter Tryd.func66 rfl rfl ⟨rfl, rfl⟩ rfl ?_
  repeat (first | refine WC.seq ?_ | refine WC.reg ?_ | refine WL.pure rfl rfl rfl ?_ | refine WL.nil ?_ | refine WC.skip ?_ | refine WC.block ?_ | refine WC.condT rfl ?_ | refine WC.condF rfl ?_ | refine WL.off rfl rfl rfl ?_ | refine WL.off0 rfl rfl ?_ | refine WC.exit ?_ | refine blk_hit ?_ | refine blk_miss rfl ?_ | refine WC.ret ?_)
  refine WL.call rfl rfl rfl rfl rfl ent73 (appendSeq_any c s hs w hT hc) ?_
  intro v w' hm
  repeat (first | refine WC.seq ?_ | refine WC.reg ?_ | refine WL.pure rfl rfl rfl ?_ | refine WL.nil ?_ | refine WC.skip ?_ | refine WC.block ?_ | refine WC.condT rfl ?_ | refine WC.condF rfl ?_ | refine WL.off rfl rfl rfl ?_ | refine WL.off0 rfl rfl ?_ | refine WC.exit ?_ | refine blk_hit ?_ | refine blk_miss rfl ?_ | refine WC.ret ?_)
  exact Res.one rfl rfl rfl hm

theorem listed_any (s : Nat) (hs : s < 65536) (w : World) (hT : Tb w) :
    Ret Tryd.prog 45 [.int .i64 s] w (Made w (ints (els s))) := by
  refine enter Tryd.func45 rfl rfl ⟨rfl, rfl⟩ rfl ?_
  repeat (first | refine WC.seq ?_ | refine WC.reg ?_ | refine WL.pure rfl rfl rfl ?_ | refine WL.nil ?_ | refine WC.skip ?_ | refine WC.block ?_ | refine WC.condT rfl ?_ | refine WC.condF rfl ?_ | refine WL.off rfl rfl rfl ?_ | refine WL.off0 rfl rfl ?_ | refine WC.exit ?_ | refine blk_hit ?_ | refine blk_miss rfl ?_ | refine WC.ret ?_)
  refine WL.call rfl rfl rfl rfl rfl ent56 (all_any s w) ?_
  rintro _ w1 ⟨b, hb, rfl⟩
  have hp1 := (Hp.start w).new hb
  refine WL.call rfl rfl rfl rfl rfl ent66 (collect_any _ s hs w1 (hT.below hp1.below) (cell_of_obj hb.at_ rfl)) ?_
  rintro _ w2 ⟨a, cap, rfl, hp2⟩
  repeat (first | refine WC.seq ?_ | refine WC.reg ?_ | refine WL.pure rfl rfl rfl ?_ | refine WL.nil ?_ | refine WC.skip ?_ | refine WC.block ?_ | refine WC.condT rfl ?_ | refine WC.condF rfl ?_ | refine WL.off rfl rfl rfl ?_ | refine WL.off0 rfl rfl ?_ | refine WC.exit ?_ | refine blk_hit ?_ | refine blk_miss rfl ?_ | refine WC.ret ?_)
  exact Res.one rfl rfl rfl ⟨a, cap, rfl, (hp1.comb hp2).swap.tail⟩
end Go.Proofs.YtdnkkflpgebfbaaDoor

/- The walk of 'widths'. -/
namespace Go.Proofs.YtdnkkflpgebfbaaDoor
open Go.W Go.Tree
set_option maxRecDepth 100000
attribute [local irreducible] WC WL WQ WS

theorem full_i64 {n : Nat} (hn : n ≤ 14) : IntKind.i64.wrap (shl .i64 1 n - 1) = (full n : Nat) := by
  have h1 := shl_one (v := n) (by omega)
  have h2 : 2 ^ n ≤ 2 ^ 14 := Nat.pow_le_pow_right (by decide) hn
  have h3 := Nat.two_pow_pos n
  rw [h1, wrap_i64_in (by omega) (by omega)]
  unfold full; omega

theorem widths_any (ga : Option Addr) (cap : Nat) (g : List Nat) (w : World) (hs : Sl w ga (ints g)) (hT : Tb w) (hg : Gr g) :
    Ret Tryd.prog 68 [.slice ga g.length cap] w fun v w' =>
      ∃ b, Hp w w' [.blk b (.cells (zs (wdRow g 0)).toArray 3 (0, 0))] ∧ v = .slice (some ⟨b, 0, none⟩) (2 ^ g.length) (2 ^ g.length) := by
  have hn := hg.len
  have hp14 : 2 ^ g.length ≤ 2 ^ 14 := Nat.pow_le_pow_right (by decide) hn
  have hpos := Nat.two_pow_pos g.length
  have hfull : full g.length + 1 = 2 ^ g.length := by unfold full; omega
  refine enterM Tryd.func68 rfl rfl ⟨rfl, rfl⟩ rfl ?_
  repeat (first | refine WC.seq ?_ | refine WC.reg ?_ | refine WL.pure rfl rfl rfl ?_ | refine WL.nil ?_ | refine WC.skip ?_ | refine WC.block ?_ | refine WC.condT rfl ?_ | refine WC.condF rfl ?_ | refine WL.off rfl rfl rfl ?_ | refine WL.off0 rfl rfl ?_ | refine WC.exit ?_ | refine blk_hit ?_ | refine blk_miss rfl ?_ | refine WC.ret ?_)
  refine WL.box rfl rfl rfl ?_
  intro bg w1 hbg
  have hp1 := (Hp.start w).new hbg
  repeat (first | refine WC.seq ?_ | refine WC.reg ?_ | refine WL.pure rfl rfl rfl ?_ | refine WL.nil ?_ | refine WC.skip ?_ | refine WC.block ?_ | refine WC.condT rfl ?_ | refine WC.condF rfl ?_ | refine WL.off rfl rfl rfl ?_ | refine WL.off0 rfl rfl ?_ | refine WC.exit ?_ | refine blk_hit ?_ | refine blk_miss rfl ?_ | refine WC.ret ?_)
  refine WL.loadB rfl rfl rfl rfl rfl (hp1.obj 0 rfl) rfl ?_
  repeat (first | refine WC.seq ?_ | refine WC.reg ?_ | refine WL.pure rfl rfl rfl ?_ | refine WL.nil ?_ | refine WC.skip ?_ | refine WC.block ?_ | refine WC.condT rfl ?_ | refine WC.condF rfl ?_ | refine WL.off rfl rfl rfl ?_ | refine WL.off0 rfl rfl ?_ | refine WC.exit ?_ | refine blk_hit ?_ | refine blk_miss rfl ?_ | refine WC.ret ?_)
  have e0 := full_i64 hn
  have e1 : IntKind.i64.wrap (IntKind.i64.wrap (shl .i64 1 g.length - 1) + 1) = ((2 ^ g.length : Nat) : Int) := by rw [e0, wrap_i64_in (by omega) (by omega)]; omega
  refine WL.known (d := 3) (congrArg (fun z => some (Value.int .i64 z)) e0) ?_
  refine WL.known (d := 13) (congrArg (fun z => some (Value.int .i64 z)) e1) ?_
  refine WL.make (m := 2 ^ g.length) rfl rfl rfl rfl rfl rfl rfl rfl ?_ ?_ ?_
  · show 8 * 2 ^ g.length ≤ _; omega
  · unfold maxLen; omega
  intro b w2 hb
  have hz : (List.replicate (2 ^ g.length) ti3.zero) = zs (List.replicate (2 ^ g.length) 0) := by simp only [zs, List.map_replicate]; rfl
  rw [hz] at hb
  have hp2 := hp1.new hb
  refine WL.var rfl rfl rfl (fun _ => rfl) rfl rfl (by intro y hy; simp [Value.cells] at hy; subst hy; rfl) ?_
  intro b4 w3 hb4
  have hp3 := hp2.new hb4
  repeat (first | refine WC.seq ?_ | refine WC.reg ?_ | refine WL.pure rfl rfl rfl ?_ | refine WL.nil ?_ | refine WC.skip ?_ | refine WC.block ?_ | refine WC.condT rfl ?_ | refine WC.condF rfl ?_ | refine WL.off rfl rfl rfl ?_ | refine WL.off0 rfl rfl ?_ | refine WC.exit ?_ | refine blk_hit ?_ | refine blk_miss rfl ?_ | refine WC.ret ?_)
  refine WL.loadB rfl rfl rfl rfl rfl (hp3.obj 0 rfl) rfl ?_
  repeat (first | refine WC.seq ?_ | refine WC.reg ?_ | refine WL.pure rfl rfl rfl ?_ | refine WL.nil ?_ | refine WC.skip ?_ | refine WC.block ?_ | refine WC.condT rfl ?_ | refine WC.condF rfl ?_ | refine WL.off rfl rfl rfl ?_ | refine WL.off0 rfl rfl ?_ | refine WC.exit ?_ | refine blk_hit ?_ | refine blk_miss rfl ?_ | refine WC.ret ?_)
  have hfl : full g.length < 2 ^ g.length := full_lt _
  refine WL.ix1 rfl rfl rfl rfl rfl rfl rfl hfl ?_
  refine WL.store rfl rfl rfl rfl rfl rfl (hp3.obj 1 rfl) (by simp [zs]; omega) (fun w4 hw4 => ?_)
  rw [Nat.zero_add, zs_set, wdRow_start] at hw4
  have hp4 := hp3.set 1 rfl rfl hw4
  repeat (first | refine WC.seq ?_ | refine WC.reg ?_ | refine WL.pure rfl rfl rfl ?_ | refine WL.nil ?_ | refine WC.skip ?_ | refine WC.block ?_ | refine WC.condT rfl ?_ | refine WC.condF rfl ?_ | refine WL.off rfl rfl rfl ?_ | refine WL.off0 rfl rfl ?_ | refine WC.exit ?_ | refine blk_hit ?_ | refine blk_miss rfl ?_ | refine WC.ret ?_)
  refine WL.var rfl rfl rfl (fun _ => rfl) rfl rfl (by intro y hy; simp [Value.cells] at hy; subst hy; rfl) ?_
  intro b5 w5 hb5
  have hp5 := (hp4.new hb5).none'
  repeat (first | refine WC.seq ?_ | refine WC.reg ?_ | refine WL.pure rfl rfl rfl ?_ | refine WL.nil ?_ | refine WC.skip ?_ | refine WC.block ?_ | refine WC.condT rfl ?_ | refine WC.condF rfl ?_ | refine WL.off rfl rfl rfl ?_ | refine WL.off0 rfl rfl ?_ | refine WC.exit ?_ | refine blk_hit ?_ | refine blk_miss rfl ?_ | refine WC.ret ?_)
  refine WC.loop (Int × Nat × List Nat) (fun (G, b5, ds) => [(1000000000, enc ds), (1, .pointer (some ⟨bg, 0, none⟩)), (3, .int .i64 (full g.length : Nat)), (4, .pointer (some ⟨b4, 0, none⟩)), (5, .pointer (some ⟨b5, 0, none⟩))])
    (fun (G, b5, ds) w' => -1 ≤ G ∧ G < full g.length ∧ Hp w w' [.many (dfrs ds), .blk b5 (.cells #[.int .i64 G] 76 (0, 0)), .blk b4 (.cells #[.slice (some ⟨b, 0, none⟩) (2 ^ g.length) (2 ^ g.length)] 32 (0, 0)),
      .blk b (.cells (zs (wdRow g (G + 1).toNat)).toArray 3 (0, 0)), .blk bg (.cells #[.slice ga g.length cap] 68 (0, 0))]) (fun (G, _, _) => (G + 1).toNat) ((full g.length : Nat) - 1, b5, [])
    ⟨rfl, rfl, rfl, rfl, rfl⟩ ⟨by omega, by omega, ?_⟩ ?_
  · rw [show IntKind.i64.wrap (((full g.length : Nat) : Int) - 1) = ((full g.length : Nat) : Int) - 1 by rw [IntKind.wrap_i64]; omega] at hp5
    rw [show (((full g.length : Nat) : Int) - 1 + 1).toNat = full g.length by omega]
    exact hp5
  rintro ⟨G, b5, ds⟩ w' ⟨hG1, hG2, hp⟩
  repeat (first | refine WC.seq ?_ | refine WC.reg ?_ | refine WL.pure rfl rfl rfl ?_ | refine WL.nil ?_ | refine WC.skip ?_ | refine WC.block ?_ | refine WC.condT rfl ?_ | refine WC.condF rfl ?_ | refine WL.off rfl rfl rfl ?_ | refine WL.off0 rfl rfl ?_ | refine WC.exit ?_ | refine blk_hit ?_ | refine blk_miss rfl ?_ | refine WC.ret ?_)
  refine WL.loadB rfl rfl rfl rfl rfl (hp.obj 1 rfl) rfl ?_
  repeat (first | refine WC.seq ?_ | refine WC.reg ?_ | refine WL.pure rfl rfl rfl ?_ | refine WL.nil ?_ | refine WC.skip ?_ | refine WC.block ?_ | refine WC.condT rfl ?_ | refine WC.condF rfl ?_ | refine WL.off rfl rfl rfl ?_ | refine WL.off0 rfl rfl ?_ | refine WC.exit ?_ | refine blk_hit ?_ | refine blk_miss rfl ?_ | refine WC.ret ?_)
  refine WC.cond rfl (fun hc => ?_) (fun hc => ?_)
  · have hG0 : 0 ≤ G := by simpa using hc
    obtain ⟨S, rfl⟩ := Int.eq_ofNat_of_zero_le hG0
    have hS : S < full g.length := by omega
    rw [show ((S : Int) + 1).toNat = S + 1 by omega] at hp
    have hS14 : S < 16384 := by omega
    generalize hcc : bd (full g.length) S = c
    have hc14 : c < 16384 := by rw [← hcc]; exact Nat.lt_of_le_of_lt (bd_le _ _) (by omega)
    repeat (first | refine WC.seq ?_ | refine WC.reg ?_ | refine WL.pure rfl rfl rfl ?_ | refine WL.nil ?_ | refine WC.skip ?_ | refine WC.block ?_ | refine WC.condT rfl ?_ | refine WC.condF rfl ?_ | refine WL.off rfl rfl rfl ?_ | refine WL.off0 rfl rfl ?_ | refine WC.exit ?_ | refine blk_hit ?_ | refine blk_miss rfl ?_ | refine WC.ret ?_)
    refine WL.loadB rfl rfl rfl rfl rfl (hp.obj 4 rfl) rfl ?_
    repeat (first | refine WC.seq ?_ | refine WC.reg ?_ | refine WL.pure rfl rfl rfl ?_ | refine WL.nil ?_ | refine WC.skip ?_ | refine WC.block ?_ | refine WC.condT rfl ?_ | refine WC.condF rfl ?_ | refine WL.off rfl rfl rfl ?_ | refine WL.off0 rfl rfl ?_ | refine WC.exit ?_ | refine blk_hit ?_ | refine blk_miss rfl ?_ | refine WC.ret ?_)
    refine WL.var rfl rfl rfl (fun _ => rfl) rfl rfl (by intro y hy; simp [Value.cells] at hy; subst hy; rfl) ?_
    intro b6 w6 hb6
    have hp6 := hp.new hb6
    repeat (first | refine WC.seq ?_ | refine WC.reg ?_ | refine WL.pure rfl rfl rfl ?_ | refine WL.nil ?_ | refine WC.skip ?_ | refine WC.block ?_ | refine WC.condT rfl ?_ | refine WC.condF rfl ?_ | refine WL.off rfl rfl rfl ?_ | refine WL.off0 rfl rfl ?_ | refine WC.exit ?_ | refine blk_hit ?_ | refine blk_miss rfl ?_ | refine WC.ret ?_)
    refine WL.loadB rfl rfl rfl rfl rfl (hp6.obj 2 rfl) rfl ?_
    repeat (first | refine WC.seq ?_ | refine WC.reg ?_ | refine WL.pure rfl rfl rfl ?_ | refine WL.nil ?_ | refine WC.skip ?_ | refine WC.block ?_ | refine WC.condT rfl ?_ | refine WC.condF rfl ?_ | refine WL.off rfl rfl rfl ?_ | refine WL.off0 rfl rfl ?_ | refine WC.exit ?_ | refine blk_hit ?_ | refine blk_miss rfl ?_ | refine WC.ret ?_)
    have e2 : bits .andNot .i64 ((full g.length : Nat) : Int) (S : Int) = ((c : Nat) : Int) := by rw [andNot_i64 (by omega) (by omega), hcc]
    refine WL.known (d := 28) (congrArg (fun z => some (Value.int .i64 z)) e2) ?_
    refine WL.call rfl rfl rfl rfl rfl ent56 (all_any _ _) ?_
    rintro _ w7 ⟨b7, hb7, rfl⟩
    have hp7 := hp6.new hb7
    repeat (first | refine WC.seq ?_ | refine WC.reg ?_ | refine WL.pure rfl rfl rfl ?_ | refine WL.nil ?_ | refine WC.skip ?_ | refine WC.block ?_ | refine WC.condT rfl ?_ | refine WC.condF rfl ?_ | refine WL.off rfl rfl rfl ?_ | refine WL.off0 rfl rfl ?_ | refine WC.exit ?_ | refine blk_hit ?_ | refine blk_miss rfl ?_ | refine WC.ret ?_)
    refine WC.rangeF (ints (els c)) Int (fun best => [.blk b7 (.cells #[.int .i64 c] 76 (0, 0)), .blk b6 (.cells #[.int .i64 best] 3 (0, 0)), .many (dfrs ds), .blk b5 (.cells #[.int .i64 (S : Nat)] 76 (0, 0)), .blk b4 (.cells #[.slice (some ⟨b, 0, none⟩) (2 ^ g.length) (2 ^ g.length)] 32 (0, 0)),
      .blk b (.cells (zs (wdRow g (S + 1))).toArray 3 (0, 0)), .blk bg (.cells #[.slice ga g.length cap] 68 (0, 0))])
      (fun i best => best = ((els c).take i).foldl (wdStep g S (wd g)) g.length) g.length
      [(1, .pointer (some ⟨bg, 0, none⟩)), (3, .int .i64 (full g.length : Nat)), (4, .pointer (some ⟨b4, 0, none⟩)), (5, .pointer (some ⟨b5, 0, none⟩)), (6, .pointer (some ⟨b6, 0, none⟩))]
      rfl ent70 rfl ⟨rfl, rfl, rfl, rfl, rfl, trivial⟩ hp7 rfl ?_ ?_ ?_
    · intro w8 hp8
      exact all1_iter _ c (by omega) w w8 hT (cell_of_obj (hp8.obj 0 rfl) rfl)
    · rintro i x best l D o w8 hx hbest hp8
      obtain ⟨v, hv, rfl⟩ : ∃ v : Nat, (els c)[i]? = some v ∧ x = .int .i64 v := by
        simp only [ints, List.getElem?_map, Option.map_eq_some_iff] at hx
        obtain ⟨y, h1, rfl⟩ := hx
        exact ⟨y, h1, rfl⟩
      obtain ⟨hvn, hvS⟩ := (mem_compl hn).1 (by rw [hcc]; exact List.mem_of_getElem? hv)
      have hor : S ||| 2 ^ v < 2 ^ g.length := or_pow_lt (by omega) hvn
      have hlat := lat_lt hg hvn (gone := S)
      repeat (first | refine WC.seq ?_ | refine WC.reg ?_ | refine WL.pure rfl rfl rfl ?_ | refine WL.nil ?_ | refine WC.skip ?_ | refine WC.block ?_ | refine WC.condT rfl ?_ | refine WC.condF rfl ?_ | refine WL.off rfl rfl rfl ?_ | refine WL.off0 rfl rfl ?_ | refine WC.exit ?_ | refine blk_hit ?_ | refine blk_miss rfl ?_ | refine WC.ret ?_)
      refine ⟨_, hp8, fun o' w9 hp9 => ?_⟩
      repeat (first | refine WC.seq ?_ | refine WC.reg ?_ | refine WL.pure rfl rfl rfl ?_ | refine WL.nil ?_ | refine WC.skip ?_ | refine WC.block ?_ | refine WC.condT rfl ?_ | refine WC.condF rfl ?_ | refine WL.off rfl rfl rfl ?_ | refine WL.off0 rfl rfl ?_ | refine WC.exit ?_ | refine blk_hit ?_ | refine blk_miss rfl ?_ | refine WC.ret ?_)
      refine WC.regS 15 mixed (by kernel_rfl) rfl rfl (fun wa hwa hha => ?_)
      have hpa := hp9.keep hwa
      have hTa : Tb wa := hT.below hpa.below
      have hsa := hs.hp hpa
      repeat (first | refine WS.pure rfl rfl rfl ?_ | refine WS.off rfl rfl rfl ?_ | refine WS.nil ?_)
      refine WS.loadB rfl rfl rfl rfl rfl (hpa.obj 3 rfl) rfl ?_
      refine WS.loadB rfl rfl rfl rfl rfl (hpa.obj 8 rfl) rfl ?_
      refine WS.loadB rfl rfl rfl rfl rfl (hpa.obj 5 rfl) rfl ?_
      repeat (first | refine WS.pure rfl rfl rfl ?_ | refine WS.off rfl rfl rfl ?_ | refine WS.nil ?_)
      refine WS.call rfl rfl rfl rfl rfl ent55 (later_any ga cap g S v wa hsa hTa hg hvn hS14) ?_
      refine WS.call rfl rfl rfl rfl rfl ent41 (size_any _ (by omega) _) ?_
      refine WS.loadB rfl rfl rfl rfl rfl (hpa.obj 6 rfl) rfl ?_
      refine WS.loadB rfl rfl rfl rfl rfl (hpa.obj 5 rfl) rfl ?_
      repeat (first | refine WS.pure rfl rfl rfl ?_ | refine WS.off rfl rfl rfl ?_ | refine WS.nil ?_)
      have e3 : bits .or .i64 (S : Int) (shl .i64 1 v) = ((S ||| 2 ^ v : Nat) : Int) := by rw [shl_one (by omega), or_i64 (by omega) (by have := Nat.pow_lt_pow_right (a := 2) (by decide) hvn; omega)]
      refine WS.known (d := 41) (congrArg (fun z => some (Value.int .i64 z)) e3) ?_
      refine WS.ix1 rfl rfl rfl rfl rfl rfl rfl hor ?_
      have hgt : S + 1 ≤ S ||| 2 ^ v := by
        rcases Nat.lt_or_ge S (S ||| 2 ^ v) with h | h
        · exact h
        · have h1 : S ||| 2 ^ v = S := Nat.le_antisymm h Nat.left_le_or
          have h2 : (S ||| 2 ^ v).testBit v = true := by simp
          rw [h1, hvS] at h2; cases h2
      refine WS.loadB rfl rfl rfl rfl rfl (hpa.obj 7 rfl) (v := .int .i64 (wd g (S ||| 2 ^ v))) (by rw [nth_eq, Nat.zero_add]; exact wdRow_at hor hgt) ?_
      repeat (first | refine WS.pure rfl rfl rfl ?_ | refine WS.off rfl rfl rfl ?_ | refine WS.nil ?_)
      refine WL.store rfl rfl rfl rfl rfl rfl (hpa.obj 3 rfl) Nat.zero_lt_one (fun wb hwb => ?_)
      have hpb := hpa.set 3 rfl rfl hwb
      repeat (first | refine WC.seq ?_ | refine WC.reg ?_ | refine WL.pure rfl rfl rfl ?_ | refine WL.nil ?_ | refine WC.skip ?_ | refine WC.block ?_ | refine WC.condT rfl ?_ | refine WC.condF rfl ?_ | refine WL.off rfl rfl rfl ?_ | refine WL.off0 rfl rfl ?_ | refine WC.exit ?_ | refine blk_hit ?_ | refine blk_miss rfl ?_ | refine WC.ret ?_)
      refine ⟨_, ?_, hpb⟩
      rw [List.take_add_one, hv, List.foldl_append, ← hbest]
      rfl
    · rintro best D w8 hbest hp8
      have hbest : best = wd g S := by
        rw [wd_eq hn (by omega), hcc, hbest]
        congr 1
        exact List.take_of_length_le (by simp [ints])
      subst hbest
      repeat (first | refine WC.seq ?_ | refine WC.reg ?_ | refine WL.pure rfl rfl rfl ?_ | refine WL.nil ?_ | refine WC.skip ?_ | refine WC.block ?_ | refine WC.condT rfl ?_ | refine WC.condF rfl ?_ | refine WL.off rfl rfl rfl ?_ | refine WL.off0 rfl rfl ?_ | refine WC.exit ?_ | refine blk_hit ?_ | refine blk_miss rfl ?_ | refine WC.ret ?_)
      refine WL.loadB rfl rfl rfl rfl rfl (hp8.obj 5 rfl) rfl ?_
      refine WL.loadB rfl rfl rfl rfl rfl (hp8.obj 4 rfl) rfl ?_
      refine WL.loadB rfl rfl rfl rfl rfl (hp8.obj 2 rfl) rfl ?_
      refine WL.ix1 rfl rfl rfl rfl rfl rfl rfl (j := S) (by omega) ?_
      refine WL.store rfl rfl rfl rfl rfl rfl (hp8.obj 6 rfl) (by simp [zs, wdRow]; omega) (fun w9 hw9 => ?_)
      rw [Nat.zero_add, zs_set, wdRow_next (by omega)] at hw9
      have hp9 := hp8.set 6 rfl rfl hw9
      repeat (first | refine WC.seq ?_ | refine WC.reg ?_ | refine WL.pure rfl rfl rfl ?_ | refine WL.nil ?_ | refine WC.skip ?_ | refine WC.block ?_ | refine WC.condT rfl ?_ | refine WC.condF rfl ?_ | refine WL.off rfl rfl rfl ?_ | refine WL.off0 rfl rfl ?_ | refine WC.exit ?_ | refine blk_hit ?_ | refine blk_miss rfl ?_ | refine WC.ret ?_)
      refine WL.loadB rfl rfl rfl rfl rfl (hp9.obj 4 rfl) rfl ?_
      repeat (first | refine WC.seq ?_ | refine WC.reg ?_ | refine WL.pure rfl rfl rfl ?_ | refine WL.nil ?_ | refine WC.skip ?_ | refine WC.block ?_ | refine WC.condT rfl ?_ | refine WC.condF rfl ?_ | refine WL.off rfl rfl rfl ?_ | refine WL.off0 rfl rfl ?_ | refine WC.exit ?_ | refine blk_hit ?_ | refine blk_miss rfl ?_ | refine WC.ret ?_)
      refine WL.var rfl rfl rfl (fun _ => rfl) rfl rfl (by intro y hy; simp [Value.cells] at hy; subst hy; rfl) ?_
      intro b5' wc hb5'
      have hpc := hp9.new hb5'
      repeat (first | refine WC.seq ?_ | refine WC.reg ?_ | refine WL.pure rfl rfl rfl ?_ | refine WL.nil ?_ | refine WC.skip ?_ | refine WC.block ?_ | refine WC.condT rfl ?_ | refine WC.condF rfl ?_ | refine WL.off rfl rfl rfl ?_ | refine WL.off0 rfl rfl ?_ | refine WC.exit ?_ | refine blk_hit ?_ | refine blk_miss rfl ?_ | refine WC.ret ?_)
      refine WL.loadB rfl rfl rfl rfl rfl (hpc.obj 0 rfl) rfl ?_
      repeat (first | refine WC.seq ?_ | refine WC.reg ?_ | refine WL.pure rfl rfl rfl ?_ | refine WL.nil ?_ | refine WC.skip ?_ | refine WC.block ?_ | refine WC.condT rfl ?_ | refine WC.condF rfl ?_ | refine WL.off rfl rfl rfl ?_ | refine WL.off0 rfl rfl ?_ | refine WC.exit ?_ | refine blk_hit ?_ | refine blk_miss rfl ?_ | refine WC.ret ?_)
      refine WL.store rfl rfl rfl rfl rfl rfl (hpc.obj 0 rfl) Nat.zero_lt_one (fun wd' hwd' => ?_)
      have hpd := hpc.set 0 rfl rfl hwd'
      rw [show IntKind.i64.wrap ((S : Int) - 1) = (S : Int) - 1 by rw [IntKind.wrap_i64]; omega] at hpd
      repeat (first | refine WC.seq ?_ | refine WC.reg ?_ | refine WL.pure rfl rfl rfl ?_ | refine WL.nil ?_ | refine WC.skip ?_ | refine WC.block ?_ | refine WC.condT rfl ?_ | refine WC.condF rfl ?_ | refine WL.off rfl rfl rfl ?_ | refine WL.off0 rfl rfl ?_ | refine WC.exit ?_ | refine blk_hit ?_ | refine blk_miss rfl ?_ | refine WC.ret ?_)
      have hpe := Hp.join (hpd.pick [1, 4, 0, 6, 7, 8] (by decide))
      refine ⟨((S : Int) - 1, b5', D :: ds), by show ((S : Int) - 1 + 1).toNat < ((S : Int) + 1).toNat; omega, ⟨rfl, rfl, rfl, rfl, ?_⟩, by omega, by omega, ?_⟩
      · show dec (enc (D :: ds)) = dec (enc (D :: dec (enc ds)))
        rw [dec_enc ds]
      · rw [show ((S : Int) - 1 + 1).toNat = S by omega]
        exact hpe
  · have hG0 : G = -1 := by simp at hc; omega
    subst hG0
    repeat (first | refine WC.seq ?_ | refine WC.reg ?_ | refine WL.pure rfl rfl rfl ?_ | refine WL.nil ?_ | refine WC.skip ?_ | refine WC.block ?_ | refine WC.condT rfl ?_ | refine WC.condF rfl ?_ | refine WL.off rfl rfl rfl ?_ | refine WL.off0 rfl rfl ?_ | refine WC.exit ?_ | refine blk_hit ?_ | refine blk_miss rfl ?_ | refine WC.ret ?_)
    refine WL.loadB rfl rfl rfl rfl rfl (hp.obj 2 rfl) rfl ?_
    repeat (first | refine WC.seq ?_ | refine WC.reg ?_ | refine WL.pure rfl rfl rfl ?_ | refine WL.nil ?_ | refine WC.skip ?_ | refine WC.block ?_ | refine WC.condT rfl ?_ | refine WC.condF rfl ?_ | refine WL.off rfl rfl rfl ?_ | refine WL.off0 rfl rfl ?_ | refine WC.exit ?_ | refine blk_hit ?_ | refine blk_miss rfl ?_ | refine WC.ret ?_)
    refine ResM.one (dec_enc ds) rfl rfl hp (fun w6 hp6 => ⟨b, hp6.perm [2] rfl (by decide), rfl⟩)
end Go.Proofs.YtdnkkflpgebfbaaDoor

/- The walk of 'best'. -/
namespace Go.Proofs.YtdnkkflpgebfbaaDoor
open Go.W Go.Tree
set_option maxRecDepth 100000
attribute [local irreducible] WC WL WQ WS

theorem ints_append (xs ys : List Nat) : ints (xs ++ ys) = ints xs ++ ints ys := by simp [ints]

theorem best_any (ga : Option Addr) (cap : Nat) (g : List Nat) (w : World) (hs : Sl w ga (ints g)) (hT : Tb w) (hg : Gr g) :
    Ret Tryd.prog 54 [.slice ga g.length cap] w fun v w' =>
      ∃ a cap', Hp w w' [.row 3 1 (.slice a g.length cap') g.length (ints (bestO g))] ∧ v = .tuple #[.slice a g.length cap', .int .i64 (wd g 0)] := by
  have hn := hg.len
  have hp14 : 2 ^ g.length ≤ 2 ^ 14 := Nat.pow_le_pow_right (by decide) hn
  have hpos := Nat.two_pow_pos g.length
  refine enter Tryd.func54 rfl rfl ⟨rfl, rfl⟩ rfl ?_
  repeat (first | refine WC.seq ?_ | refine WC.reg ?_ | refine WL.pure rfl rfl rfl ?_ | refine WL.nil ?_ | refine WC.skip ?_ | refine WC.block ?_ | refine WC.condT rfl ?_ | refine WC.condF rfl ?_ | refine WL.off rfl rfl rfl ?_ | refine WL.off0 rfl rfl ?_ | refine WC.exit ?_ | refine blk_hit ?_ | refine blk_miss rfl ?_ | refine WC.ret ?_)
  refine WL.call rfl rfl rfl rfl rfl ent68 (widths_any ga cap g w hs hT hg) ?_
  rintro _ w1 ⟨b, hp1, rfl⟩
  have hp1 := hp1.nilrow 3 1
  have hat : ∀ (S : Nat), S < 2 ^ g.length → ∀ w' L, Hp w w' L → nth L 1 = some (.blk b (.cells (zs (wdRow g 0)).toArray 3 (0, 0))) → w'.cell? ⟨b, 0 + S, none⟩ = some (.int .i64 (wd g S)) := by
    intro S hS w' L hp h1
    refine cell_of_obj (hp.obj 1 h1) ?_
    have := wdRow_at (g := g) hS (Nat.zero_le S)
    simpa using this
  repeat (first | refine WC.seq ?_ | refine WC.reg ?_ | refine WL.pure rfl rfl rfl ?_ | refine WL.nil ?_ | refine WC.skip ?_ | refine WC.block ?_ | refine WC.condT rfl ?_ | refine WC.condF rfl ?_ | refine WL.off rfl rfl rfl ?_ | refine WL.off0 rfl rfl ?_ | refine WC.exit ?_ | refine blk_hit ?_ | refine blk_miss rfl ?_ | refine WC.ret ?_)
  refine WC.loop (Nat × List Nat × Option Addr × Nat) (fun (S, ord, a, c) => [(0, .slice ga g.length cap), (4, .slice (some ⟨b, 0, none⟩) (2 ^ g.length) (2 ^ g.length)), (5, .slice a ord.length c), (6, .int .i64 (S : Nat))])
    (fun (S, ord, a, c) w' => S < 2 ^ g.length ∧ ord.length = card S ∧ wd g S ≤ wd g 0 ∧ ord ++ bestF g (g.length - ord.length) S = bestO g ∧
      Hp w w' [.row 3 1 (.slice a ord.length c) ord.length (ints ord), .blk b (.cells (zs (wdRow g 0)).toArray 3 (0, 0))]) (fun (S, ord, a, c) => g.length - ord.length) (0, [], none, 0)
    ⟨rfl, rfl, rfl, rfl, rfl⟩ ⟨hpos, by rw [card_zero]; rfl, Int.le_refl _, rfl, hp1⟩ ?_
  rintro ⟨S, ord, a, c⟩ w2 ⟨hS, hcard, hwS, hord, hp⟩
  have hS14 : S < 16384 := by omega
  repeat (first | refine WC.seq ?_ | refine WC.reg ?_ | refine WL.pure rfl rfl rfl ?_ | refine WL.nil ?_ | refine WC.skip ?_ | refine WC.block ?_ | refine WC.condT rfl ?_ | refine WC.condF rfl ?_ | refine WL.off rfl rfl rfl ?_ | refine WL.off0 rfl rfl ?_ | refine WC.exit ?_ | refine blk_hit ?_ | refine blk_miss rfl ?_ | refine WC.ret ?_)
  refine WC.cond rfl (fun hc => ?_) (fun hc => ?_)
  · have hlt : ord.length < g.length := by simp at hc; omega
    have hne : S ≠ full g.length := by
      intro e
      have := card_full (n := g.length) (by omega)
      rw [e] at hcard
      unfold full at hcard
      omega
    repeat (first | refine WC.seq ?_ | refine WC.reg ?_ | refine WL.pure rfl rfl rfl ?_ | refine WL.nil ?_ | refine WC.skip ?_ | refine WC.block ?_ | refine WC.condT rfl ?_ | refine WC.condF rfl ?_ | refine WL.off rfl rfl rfl ?_ | refine WL.off0 rfl rfl ?_ | refine WC.exit ?_ | refine blk_hit ?_ | refine blk_miss rfl ?_ | refine WC.ret ?_)
    refine WC.loop Nat (fun v => [(0, .slice ga g.length cap), (4, .slice (some ⟨b, 0, none⟩) (2 ^ g.length) (2 ^ g.length)), (5, .slice a ord.length c), (6, .int .i64 (S : Nat)), (16, .int .i64 (g.length : Nat)), (17, .int .i64 (v : Nat))])
      (fun v w' => v ≤ g.length ∧ (∀ u, u < v → fine g S u = false) ∧ Hp w w' [.row 3 1 (.slice a ord.length c) ord.length (ints ord), .blk b (.cells (zs (wdRow g 0)).toArray 3 (0, 0))]) (fun v => g.length - v) 0
      ⟨rfl, rfl, rfl, rfl, rfl, rfl, rfl⟩ ⟨Nat.zero_le _, (fun u hu => by omega), hp⟩ ?_
    rintro v w3 ⟨hv, hno, hp3⟩
    repeat (first | refine WC.seq ?_ | refine WC.reg ?_ | refine WL.pure rfl rfl rfl ?_ | refine WL.nil ?_ | refine WC.skip ?_ | refine WC.block ?_ | refine WC.condT rfl ?_ | refine WC.condF rfl ?_ | refine WL.off rfl rfl rfl ?_ | refine WL.off0 rfl rfl ?_ | refine WC.exit ?_ | refine blk_hit ?_ | refine blk_miss rfl ?_ | refine WC.ret ?_)
    refine WC.cond rfl (fun hc2 => ?_) (fun hc2 => ?_)
    · have hv : v < g.length := by simp at hc2; omega
      have hor : S ||| 2 ^ v < 2 ^ g.length := or_pow_lt hS hv
      have hpv : 2 ^ v < 16384 := lt_pow16 hn (Nat.pow_lt_pow_right (by decide) hv)
      have hlat := lat_lt hg hv (gone := S)
      have e3 : bits .or .i64 (S : Int) (shl .i64 1 v) = ((S ||| 2 ^ v : Nat) : Int) := by rw [shl_one (by omega), or_i64 (by omega) (by omega)]
      have step : IntKind.i64.wrap ((v : Int) + 1) = ((v + 1 : Nat) : Int) := by rw [wrap_i64_in (by omega) (by omega)]; omega
      have no : fine g S v = false → ∀ u, u < v + 1 → fine g S u = false := fun h u hu => by
        rcases Nat.lt_or_ge u v with h1 | h1
        · exact hno u h1
        · rw [show u = v by omega]; exact h
      repeat (first | refine WC.seq ?_ | refine WC.reg ?_ | refine WL.pure rfl rfl rfl ?_ | refine WL.nil ?_ | refine WC.skip ?_ | refine WC.block ?_ | refine WC.condT rfl ?_ | refine WC.condF rfl ?_ | refine WL.off rfl rfl rfl ?_ | refine WL.off0 rfl rfl ?_ | refine WC.exit ?_ | refine blk_hit ?_ | refine blk_miss rfl ?_ | refine WC.ret ?_)
      refine WC.regQ (fun w4 => Hp w w4 [.row 3 1 (.slice a ord.length c) ord.length (ints ord), .blk b (.cells (zs (wdRow g 0)).toArray 3 (0, 0))]) mixed (by kernel_rfl) (fun w4 hw4 => hp3.keep hw4) ?_
      repeat (first | refine WQ.pure rfl rfl rfl ?_ | refine WQ.off rfl rfl rfl ?_ | refine WQ.nil ?_)
      refine WQ.call rfl rfl rfl rfl rfl ent44 (fun w4 h4 => (has_any S v (by omega) w4).mono fun u w5 ⟨h5, h6⟩ => ⟨h5, by rw [h6]; exact h4⟩) ?_
      refine WQ.split 22 rfl (fun hb => ?_) (fun hb => ?_)
      · repeat (first | refine WQ.pure rfl rfl rfl ?_ | refine WQ.off rfl rfl rfl ?_ | refine WQ.nil ?_)
        intro w4 hp4
        repeat (first | refine WC.seq ?_ | refine WC.reg ?_ | refine WL.pure rfl rfl rfl ?_ | refine WL.nil ?_ | refine WC.skip ?_ | refine WC.block ?_ | refine WC.condT rfl ?_ | refine WC.condF rfl ?_ | refine WL.off rfl rfl rfl ?_ | refine WL.off0 rfl rfl ?_ | refine WC.exit ?_ | refine blk_hit ?_ | refine blk_miss rfl ?_ | refine WC.ret ?_)
        exact ⟨v + 1, by show g.length - (v + 1) < g.length - v; omega, ⟨rfl, rfl, rfl, rfl, rfl, congrArg (fun z => some (Value.int .i64 z)) step, rfl⟩, by omega, no (by simp [fine, hb]), hp4⟩
      repeat (first | refine WQ.pure rfl rfl rfl ?_ | refine WQ.off rfl rfl rfl ?_ | refine WQ.nil ?_)
      refine WQ.call rfl rfl rfl rfl rfl ent55 (fun w4 h4 => (later_any ga cap g S v w4 (hs.hp h4) (hT.below h4.below) hg hv hS14).mono fun u w5 ⟨h5, h6⟩ => ⟨h5, by rw [h6]; exact h4⟩) ?_
      refine WQ.call rfl rfl rfl rfl rfl ent41 (fun w4 h4 => (size_any _ (by omega) w4).mono fun u w5 ⟨h5, h6⟩ => ⟨h5, by rw [h6]; exact h4⟩) ?_
      repeat (first | refine WQ.pure rfl rfl rfl ?_ | refine WQ.off rfl rfl rfl ?_ | refine WQ.nil ?_)
      refine WQ.ixload (j := 0) rfl (fun _ => rfl) rfl rfl rfl rfl rfl rfl rfl hpos rfl rfl (fun w4 h4 => hat 0 hpos w4 _ h4 rfl) ?_
      refine WQ.pure rfl rfl rfl ?_
      refine WQ.split 33 rfl (fun hb1 => ?_) (fun hb1 => ?_)
      · repeat (first | refine WQ.pure rfl rfl rfl ?_ | refine WQ.off rfl rfl rfl ?_ | refine WQ.nil ?_)
        refine WQ.known (d := 40) (congrArg (fun z => some (Value.int .i64 z)) e3) ?_
        refine WQ.ixload rfl (fun _ => rfl) rfl rfl rfl rfl rfl rfl rfl hor rfl rfl (fun w4 h4 => hat _ hor w4 _ h4 rfl) ?_
        repeat (first | refine WQ.pure rfl rfl rfl ?_ | refine WQ.off rfl rfl rfl ?_ | refine WQ.nil ?_)
        refine WQ.ixload (j := 0) rfl (fun _ => rfl) rfl rfl rfl rfl rfl rfl rfl hpos rfl rfl (fun w4 h4 => hat 0 hpos w4 _ h4 rfl) ?_
        repeat (first | refine WQ.pure rfl rfl rfl ?_ | refine WQ.off rfl rfl rfl ?_ | refine WQ.nil ?_)
        intro w4 hp4
        repeat (first | refine WC.seq ?_ | refine WC.reg ?_ | refine WL.pure rfl rfl rfl ?_ | refine WL.nil ?_ | refine WC.skip ?_ | refine WC.block ?_ | refine WC.condT rfl ?_ | refine WC.condF rfl ?_ | refine WL.off rfl rfl rfl ?_ | refine WL.off0 rfl rfl ?_ | refine WC.exit ?_ | refine blk_hit ?_ | refine blk_miss rfl ?_ | refine WC.ret ?_)
        refine WC.cond rfl (fun hb2 => ?_) (fun hb2 => ?_)
        · have hf : fine g S v = true := fine_iff.2 ⟨hb, by simpa using hb1, by simpa using hb2⟩
          repeat (first | refine WC.seq ?_ | refine WC.reg ?_ | refine WL.pure rfl rfl rfl ?_ | refine WL.nil ?_ | refine WC.skip ?_ | refine WC.block ?_ | refine WC.condT rfl ?_ | refine WC.condF rfl ?_ | refine WL.off rfl rfl rfl ?_ | refine WL.off0 rfl rfl ?_ | refine WC.exit ?_ | refine blk_hit ?_ | refine blk_miss rfl ?_ | refine WC.ret ?_)
          refine WL.buildS (cs := [.int .i64 v]) rfl rfl rfl rfl rfl rfl rfl rfl rfl ?_
          intro b2 w5 hb2'
          have hp5 := hp4.new hb2'
          refine WL.append 1 hp5 rfl rfl rfl rfl rfl Nat.zero_lt_one rfl rfl rfl (news := [.int .i64 v]) ?_ rfl ?_ ?_ ?_ ?_
          · exact Sl.of_obj (hp5.obj 0 rfl) (fun q u hq => by simpa using hq)
          · exact Cells.cons rfl Cells.nil
          · unfold maxLen; omega
          · show (ord.length + 1) * 8 ≤ _; omega
          intro a' cap' w6 hp6 hg6
          repeat (first | refine WC.seq ?_ | refine WC.reg ?_ | refine WL.pure rfl rfl rfl ?_ | refine WL.nil ?_ | refine WC.skip ?_ | refine WC.block ?_ | refine WC.condT rfl ?_ | refine WC.condF rfl ?_ | refine WL.off rfl rfl rfl ?_ | refine WL.off0 rfl rfl ?_ | refine WC.exit ?_ | refine blk_hit ?_ | refine blk_miss rfl ?_ | refine WC.ret ?_)
          have hF := find_at hv hf hno
          refine ⟨(S ||| 2 ^ v, ord ++ [v], a', cap'), ?_, ⟨rfl, rfl, ?_, congrArg (fun z => some (Value.int .i64 z)) e3, rfl⟩, hor, ?_, (fine_iff.1 hf).2.2, ?_, ?_⟩
          · show g.length - (ord ++ [v]).length < g.length - ord.length
            rw [List.length_append, List.length_singleton]; omega
          · rw [List.length_append, List.length_singleton]; rfl
          · rw [List.length_append, List.length_singleton, hcard, card_add hn hS hv hb]
          · rw [List.length_append, List.length_singleton, ← hord, List.append_assoc]
            congr 1
            rw [show g.length - ord.length = (g.length - (ord.length + 1)) + 1 by omega, bestF, hF]
            rfl
          · have := hp6.tail
            rw [List.length_append, List.length_singleton, ints_append]
            exact this
        · repeat (first | refine WC.seq ?_ | refine WC.reg ?_ | refine WL.pure rfl rfl rfl ?_ | refine WL.nil ?_ | refine WC.skip ?_ | refine WC.block ?_ | refine WC.condT rfl ?_ | refine WC.condF rfl ?_ | refine WL.off rfl rfl rfl ?_ | refine WL.off0 rfl rfl ?_ | refine WC.exit ?_ | refine blk_hit ?_ | refine blk_miss rfl ?_ | refine WC.ret ?_)
          refine ⟨v + 1, by show g.length - (v + 1) < g.length - v; omega, ⟨rfl, rfl, rfl, rfl, rfl, congrArg (fun z => some (Value.int .i64 z)) step, rfl⟩, by omega, no ?_, hp4⟩
          have : ¬ wd g (S ||| 2 ^ v) ≤ wd g 0 := by simpa using hb2
          simp [fine, this]
      · repeat (first | refine WQ.pure rfl rfl rfl ?_ | refine WQ.off rfl rfl rfl ?_ | refine WQ.nil ?_)
        intro w4 hp4
        repeat (first | refine WC.seq ?_ | refine WC.reg ?_ | refine WL.pure rfl rfl rfl ?_ | refine WL.nil ?_ | refine WC.skip ?_ | refine WC.block ?_ | refine WC.condT rfl ?_ | refine WC.condF rfl ?_ | refine WL.off rfl rfl rfl ?_ | refine WL.off0 rfl rfl ?_ | refine WC.exit ?_ | refine blk_hit ?_ | refine blk_miss rfl ?_ | refine WC.ret ?_)
        refine ⟨v + 1, by show g.length - (v + 1) < g.length - v; omega, ⟨rfl, rfl, rfl, rfl, rfl, congrArg (fun z => some (Value.int .i64 z)) step, rfl⟩, by omega, no ?_, hp4⟩
        have : ¬ (pc (lat g S v) : Int) ≤ wd g 0 := by simpa using hb1
        simp [fine, this]
    · exfalso
      have hv : g.length ≤ v := by simp at hc2; omega
      obtain ⟨u, hu, h1, h2, h3⟩ := exists_best hg hS hne hwS
      have := hno u (by omega)
      rw [fine_iff.2 ⟨h1, h2, h3⟩] at this
      cases this
  · have hle := card_le (s := S) (n := g.length) (by omega) hS
    have hlen : ord.length = g.length := by simp at hc; omega
    have hO : ord = bestO g := by
      rw [hlen, Nat.sub_self] at hord
      simpa [bestF] using hord
    repeat (first | refine WC.seq ?_ | refine WC.reg ?_ | refine WL.pure rfl rfl rfl ?_ | refine WL.nil ?_ | refine WC.skip ?_ | refine WC.block ?_ | refine WC.condT rfl ?_ | refine WC.condF rfl ?_ | refine WL.off rfl rfl rfl ?_ | refine WL.off0 rfl rfl ?_ | refine WC.exit ?_ | refine blk_hit ?_ | refine blk_miss rfl ?_ | refine WC.ret ?_)
    refine WC.regQ (fun w4 => Hp w w4 [.row 3 1 (.slice a ord.length c) ord.length (ints ord), .blk b (.cells (zs (wdRow g 0)).toArray 3 (0, 0))]) mixed (by kernel_rfl) (fun w4 hw4 => hp.keep hw4) ?_
    repeat (first | refine WQ.pure rfl rfl rfl ?_ | refine WQ.off rfl rfl rfl ?_ | refine WQ.nil ?_)
    refine WQ.ixload (j := 0) rfl (fun _ => rfl) rfl rfl rfl rfl rfl rfl rfl hpos rfl rfl (fun w4 h4 => hat 0 hpos w4 _ h4 rfl) ?_
    repeat (first | refine WQ.pure rfl rfl rfl ?_ | refine WQ.off rfl rfl rfl ?_ | refine WQ.nil ?_)
    intro w4 hp4
    repeat (first | refine WC.seq ?_ | refine WC.reg ?_ | refine WL.pure rfl rfl rfl ?_ | refine WL.nil ?_ | refine WC.skip ?_ | refine WC.block ?_ | refine WC.condT rfl ?_ | refine WC.condF rfl ?_ | refine WL.off rfl rfl rfl ?_ | refine WL.off0 rfl rfl ?_ | refine WC.exit ?_ | refine blk_hit ?_ | refine blk_miss rfl ?_ | refine WC.ret ?_)
    refine Res.two rfl rfl rfl rfl ⟨a, c, ?_, ?_⟩
    · rw [← hO, ← hlen]; exact hp4.swap.tail
    · rw [hlen]
end Go.Proofs.YtdnkkflpgebfbaaDoor

/- The walk of 'free'. -/
namespace Go.Proofs.YtdnkkflpgebfbaaDoor
open Go.W Go.Tree
set_option maxRecDepth 100000
attribute [local irreducible] WC WL WQ WS

theorem free_any (ga : Option Addr) (cap n : Nat) (fv : Nat) (ca : Value) (p : Nat → Nat → Bool) (w : World) (hT : Tb w) (hn : n ≤ 14) (hE : Ents Tryd.prog fv)
    (hfine : ∀ w', RowKit.Below w.heap.size w w' → ∀ u v, u < n → v < n → Ret Tryd.prog fv [.int .i64 (u : Nat), .int .i64 (v : Nat), ca] w' fun r w'' => r = .bool (p u v) ∧ w'' = w') :
    Ret Tryd.prog 42 [.slice ga n cap, .func (.func fv) #[] #[ca]] w fun v w' =>
      ∃ b, Hp w w' [.blk b (.cells (bls (frRow p n (2 ^ n))).toArray 4 (0, 0))] ∧ v = .slice (some ⟨b, 0, none⟩) (2 ^ n) (2 ^ n) := by
  have hp14 : 2 ^ n ≤ 2 ^ 14 := Nat.pow_le_pow_right (by decide) hn
  have hpos := Nat.two_pow_pos n
  refine enterM Tryd.func42 rfl rfl ⟨rfl, rfl⟩ rfl ?_
  repeat (first | refine WC.seq ?_ | refine WC.reg ?_ | refine WL.pure rfl rfl rfl ?_ | refine WL.nil ?_ | refine WC.skip ?_ | refine WC.block ?_ | refine WC.condT rfl ?_ | refine WC.condF rfl ?_ | refine WL.off rfl rfl rfl ?_ | refine WL.off0 rfl rfl ?_ | refine WC.exit ?_ | refine blk_hit ?_ | refine blk_miss rfl ?_ | refine WC.ret ?_)
  refine WL.box rfl rfl rfl ?_
  intro b3 w1 hb3
  have hp1 := (Hp.start w).new hb3
  repeat (first | refine WC.seq ?_ | refine WC.reg ?_ | refine WL.pure rfl rfl rfl ?_ | refine WL.nil ?_ | refine WC.skip ?_ | refine WC.block ?_ | refine WC.condT rfl ?_ | refine WC.condF rfl ?_ | refine WL.off rfl rfl rfl ?_ | refine WL.off0 rfl rfl ?_ | refine WC.exit ?_ | refine blk_hit ?_ | refine blk_miss rfl ?_ | refine WC.ret ?_)
  have e0 : shl .i64 1 n = ((2 ^ n : Nat) : Int) := shl_one (by omega)
  refine WL.known (d := 12) (congrArg (fun z => some (Value.int .i64 z)) e0) ?_
  refine WL.make (m := 2 ^ n) rfl rfl rfl rfl rfl rfl rfl rfl ?_ ?_ ?_
  · show 1 * 2 ^ n ≤ _; omega
  · unfold maxLen; omega
  intro b w2 hb
  have hz : (List.replicate (2 ^ n) ti4.zero) = bls (List.replicate (2 ^ n) false) := by simp only [bls, List.map_replicate]; rfl
  rw [hz, frRow_zero p] at hb
  have hp2 := hp1.new hb
  refine WL.var rfl rfl rfl (fun _ => rfl) rfl rfl (by intro y hy; simp [Value.cells] at hy; subst hy; rfl) ?_
  intro b5 w3 hb5
  have hp3 := (hp2.new hb5).none'
  repeat (first | refine WC.seq ?_ | refine WC.reg ?_ | refine WL.pure rfl rfl rfl ?_ | refine WL.nil ?_ | refine WC.skip ?_ | refine WC.block ?_ | refine WC.condT rfl ?_ | refine WC.condF rfl ?_ | refine WL.off rfl rfl rfl ?_ | refine WL.off0 rfl rfl ?_ | refine WC.exit ?_ | refine blk_hit ?_ | refine blk_miss rfl ?_ | refine WC.ret ?_)
  refine WL.loadB rfl rfl rfl rfl rfl (hp3.obj 1 rfl) rfl ?_
  repeat (first | refine WC.seq ?_ | refine WC.reg ?_ | refine WL.pure rfl rfl rfl ?_ | refine WL.nil ?_ | refine WC.skip ?_ | refine WC.block ?_ | refine WC.condT rfl ?_ | refine WC.condF rfl ?_ | refine WL.off rfl rfl rfl ?_ | refine WL.off0 rfl rfl ?_ | refine WC.exit ?_ | refine blk_hit ?_ | refine blk_miss rfl ?_ | refine WC.ret ?_)
  refine WC.loop (Nat × List Nat) (fun (i, ds) => [(1000000000, enc ds), (3, .pointer (some ⟨b3, 0, none⟩)), (5, .pointer (some ⟨b5, 0, none⟩)), (15, .int .i64 (2 ^ n : Nat)), (16, .int .i64 (i : Nat))])
    (fun (i, ds) w' => i ≤ 2 ^ n ∧ Hp w w' [.many (dfrs ds), .blk b5 (.cells #[.slice (some ⟨b, 0, none⟩) (2 ^ n) (2 ^ n)] 74 (0, 0)), .blk b (.cells (bls (frRow p n i)).toArray 4 (0, 0)), .blk b3 (.cells #[.func (.func fv) #[] #[ca]] 80 (0, 0))])
    (fun (i, ds) => 2 ^ n - i) (0, []) ⟨rfl, rfl, rfl, rfl, rfl⟩ ⟨Nat.zero_le _, hp3⟩ ?_
  rintro ⟨i, ds⟩ w' ⟨hi, hp⟩
  repeat (first | refine WC.seq ?_ | refine WC.reg ?_ | refine WL.pure rfl rfl rfl ?_ | refine WL.nil ?_ | refine WC.skip ?_ | refine WC.block ?_ | refine WC.condT rfl ?_ | refine WC.condF rfl ?_ | refine WL.off rfl rfl rfl ?_ | refine WL.off0 rfl rfl ?_ | refine WC.exit ?_ | refine blk_hit ?_ | refine blk_miss rfl ?_ | refine WC.ret ?_)
  refine WC.cond rfl (fun hc => ?_) (fun hc => ?_)
  · have hi : i < 2 ^ n := by have := of_decide_eq_true hc; omega
    have step : IntKind.i64.wrap ((i : Int) + 1) = ((i + 1 : Nat) : Int) := by rw [wrap_i64_in (by omega) (by omega)]; omega
    repeat (first | refine WC.seq ?_ | refine WC.reg ?_ | refine WL.pure rfl rfl rfl ?_ | refine WL.nil ?_ | refine WC.skip ?_ | refine WC.block ?_ | refine WC.condT rfl ?_ | refine WC.condF rfl ?_ | refine WL.off rfl rfl rfl ?_ | refine WL.off0 rfl rfl ?_ | refine WC.exit ?_ | refine blk_hit ?_ | refine blk_miss rfl ?_ | refine WC.ret ?_)
    refine WL.var rfl rfl rfl (fun _ => rfl) rfl rfl (by intro y hy; simp [Value.cells] at hy; subst hy; rfl) ?_
    intro b6 w4 hb6
    have hp4 := hp.new hb6
    repeat (first | refine WC.seq ?_ | refine WC.reg ?_ | refine WL.pure rfl rfl rfl ?_ | refine WL.nil ?_ | refine WC.skip ?_ | refine WC.block ?_ | refine WC.condT rfl ?_ | refine WC.condF rfl ?_ | refine WL.off rfl rfl rfl ?_ | refine WL.off0 rfl rfl ?_ | refine WC.exit ?_ | refine blk_hit ?_ | refine blk_miss rfl ?_ | refine WC.ret ?_)
    refine WL.loadB rfl rfl rfl rfl rfl (hp4.obj 0 rfl) rfl ?_
    repeat (first | refine WC.seq ?_ | refine WC.reg ?_ | refine WL.pure rfl rfl rfl ?_ | refine WL.nil ?_ | refine WC.skip ?_ | refine WC.block ?_ | refine WC.condT rfl ?_ | refine WC.condF rfl ?_ | refine WL.off rfl rfl rfl ?_ | refine WL.off0 rfl rfl ?_ | refine WC.exit ?_ | refine blk_hit ?_ | refine blk_miss rfl ?_ | refine WC.ret ?_)
    refine WC.cond rfl (fun h0 => ?_) (fun h0 => ?_)
    · have h0 : i = 0 := by simpa using h0
      subst h0
      repeat (first | refine WC.seq ?_ | refine WC.reg ?_ | refine WL.pure rfl rfl rfl ?_ | refine WL.nil ?_ | refine WC.skip ?_ | refine WC.block ?_ | refine WC.condT rfl ?_ | refine WC.condF rfl ?_ | refine WL.off rfl rfl rfl ?_ | refine WL.off0 rfl rfl ?_ | refine WC.exit ?_ | refine blk_hit ?_ | refine blk_miss rfl ?_ | refine WC.ret ?_)
      refine WL.loadB rfl rfl rfl rfl rfl (hp4.obj 2 rfl) rfl ?_
      refine WL.loadB rfl rfl rfl rfl rfl (hp4.obj 0 rfl) rfl ?_
      refine WL.ix1 (j := 0) rfl rfl rfl rfl rfl rfl rfl hpos ?_
      refine WL.store rfl rfl rfl rfl rfl rfl (hp4.obj 3 rfl) (by simp [bls, frRow]; omega) (fun w5 hw5 => ?_)
      rw [Nat.zero_add, bls_set, show true = fr p 0 from (fr_zero p).symm, frRow_next hpos] at hw5
      have hp5 := (hp4.set 3 rfl rfl hw5).tail
      repeat (first | refine WC.seq ?_ | refine WC.reg ?_ | refine WL.pure rfl rfl rfl ?_ | refine WL.nil ?_ | refine WC.skip ?_ | refine WC.block ?_ | refine WC.condT rfl ?_ | refine WC.condF rfl ?_ | refine WL.off rfl rfl rfl ?_ | refine WL.off0 rfl rfl ?_ | refine WC.exit ?_ | refine blk_hit ?_ | refine blk_miss rfl ?_ | refine WC.ret ?_)
      exact ⟨(1, ds), by show 2 ^ n - 1 < 2 ^ n - 0; omega, ⟨rfl, rfl, rfl, rfl, rfl⟩, hpos, hp5⟩
    · have h0 : i ≠ 0 := by simpa using h0
      have hi16 : i < 65536 := by omega
      obtain ⟨htz, _, _⟩ := tz_spec h0 (by omega)
      have htzn : tz i < n := lt_of_testBit hi htz
      have hS' : i &&& (i - 1) < i := and_pred_lt' h0
      generalize hc' : i &&& (i - 1) = c at hS'
      have e1 : bits .and .i64 (i : Int) (IntKind.i64.wrap ((i : Int) - 1)) = ((c : Nat) : Int) := by
        rw [wrap_i64_in (by omega) (by omega), show (i : Int) - 1 = ((i - 1 : Nat) : Int) by omega, and_i64 (by omega) (by omega), hc']
      repeat (first | refine WC.seq ?_ | refine WC.reg ?_ | refine WL.pure rfl rfl rfl ?_ | refine WL.nil ?_ | refine WC.skip ?_ | refine WC.block ?_ | refine WC.condT rfl ?_ | refine WC.condF rfl ?_ | refine WL.off rfl rfl rfl ?_ | refine WL.off0 rfl rfl ?_ | refine WC.exit ?_ | refine blk_hit ?_ | refine blk_miss rfl ?_ | refine WC.ret ?_)
      refine WL.call rfl rfl rfl rfl rfl ent45 (listed_any i hi16 w4 (hT.below hp4.below)) ?_
      rintro _ w5 ⟨a8, c8, rfl, hm8⟩
      have hp5 := (hp4.comb hm8)
      have hels : (ints (els i)).length ≠ 0 := by rw [els_step h0 hi16]; simp [ints]
      refine WL.ixload (j := 0) rfl (fun _ => rfl) rfl rfl rfl rfl rfl rfl rfl (by omega) rfl rfl (Sl.of_row (hp5.at 0 rfl)) (v := .int .i64 (tz i : Nat)) (by rw [els_step h0 hi16]; rfl) ?_
      intro p8
      refine WL.var rfl rfl rfl (fun _ => rfl) rfl rfl (by intro y hy; simp [Value.cells] at hy; subst hy; rfl) ?_
      intro b8 w6 hb8
      have hp6 := hp5.tail.new hb8
      repeat (first | refine WC.seq ?_ | refine WC.reg ?_ | refine WL.pure rfl rfl rfl ?_ | refine WL.nil ?_ | refine WC.skip ?_ | refine WC.block ?_ | refine WC.condT rfl ?_ | refine WC.condF rfl ?_ | refine WL.off rfl rfl rfl ?_ | refine WL.off0 rfl rfl ?_ | refine WC.exit ?_ | refine blk_hit ?_ | refine blk_miss rfl ?_ | refine WC.ret ?_)
      refine WC.regS 10 mixed (by kernel_rfl) rfl rfl (fun wa hwa hha => ?_)
      have hpa := hp6.keep hwa
      refine WS.loadB rfl rfl rfl rfl rfl (hpa.obj 3 rfl) rfl ?_
      refine WS.loadB rfl rfl rfl rfl rfl (hpa.obj 1 rfl) rfl ?_
      refine WS.loadB rfl rfl rfl rfl rfl (hpa.obj 3 rfl) rfl ?_
      repeat (first | refine WS.pure rfl rfl rfl ?_ | refine WS.off rfl rfl rfl ?_ | refine WS.nil ?_)
      refine WS.known (d := 35) (congrArg (fun z => some (Value.int .i64 z)) e1) ?_
      refine WS.ix1 rfl rfl rfl rfl rfl rfl rfl (j := c) (by omega) ?_
      refine WS.loadB rfl rfl rfl rfl rfl (hpa.obj 4 rfl) (v := .bool (fr p c)) (by rw [nth_eq, Nat.zero_add]; exact frRow_at (by omega) hS') ?_
      refine WS.ix1 rfl rfl rfl rfl rfl rfl rfl (j := i) hi ?_
      repeat (first | refine WS.pure rfl rfl rfl ?_ | refine WS.off rfl rfl rfl ?_ | refine WS.nil ?_)
      refine WL.store rfl rfl rfl rfl rfl rfl (hpa.obj 4 rfl) (by simp [bls, frRow]; omega) (fun wb hwb => ?_)
      rw [Nat.zero_add, bls_set] at hwb
      have hpb := hpa.set 4 rfl rfl hwb
      repeat (first | refine WC.seq ?_ | refine WC.reg ?_ | refine WL.pure rfl rfl rfl ?_ | refine WL.nil ?_ | refine WC.skip ?_ | refine WC.block ?_ | refine WC.condT rfl ?_ | refine WC.condF rfl ?_ | refine WL.off rfl rfl rfl ?_ | refine WL.off0 rfl rfl ?_ | refine WC.exit ?_ | refine blk_hit ?_ | refine blk_miss rfl ?_ | refine WC.ret ?_)
      have e1' := e1
      refine WL.known (d := 42) (congrArg (fun z => some (Value.int .i64 z)) e1) ?_
      refine WL.call rfl rfl rfl rfl rfl ent56 (all_any _ _) ?_
      rintro _ w7 ⟨b7, hb7, rfl⟩
      have hp7 := hpb.new hb7
      repeat (first | refine WC.seq ?_ | refine WC.reg ?_ | refine WL.pure rfl rfl rfl ?_ | refine WL.nil ?_ | refine WC.skip ?_ | refine WC.block ?_ | refine WC.condT rfl ?_ | refine WC.condF rfl ?_ | refine WL.off rfl rfl rfl ?_ | refine WL.off0 rfl rfl ?_ | refine WC.exit ?_ | refine blk_hit ?_ | refine blk_miss rfl ?_ | refine WC.ret ?_)
      refine WC.rangeF (ints (els c)) Bool (fun q => [.blk b7 (.cells #[.int .i64 c] 76 (0, 0)), .blk b8 (.cells #[.int .i64 (tz i : Nat)] 3 (0, 0)), .blk b6 (.cells #[.int .i64 (i : Nat)] 3 (0, 0)), .many (dfrs ds),
        .blk b5 (.cells #[.slice (some ⟨b, 0, none⟩) (2 ^ n) (2 ^ n)] 74 (0, 0)), .blk b (.cells (bls ((frRow p n i).set i q)).toArray 4 (0, 0)), .blk b3 (.cells #[.func (.func fv) #[] #[ca]] 80 (0, 0))])
        (fun k q => q = (fr p c && ((els c).take k).all (p (tz i)))) (fr p c)
        [(3, .pointer (some ⟨b3, 0, none⟩)), (5, .pointer (some ⟨b5, 0, none⟩)), (6, .pointer (some ⟨b6, 0, none⟩)), (8, .pointer (some ⟨b8, 0, none⟩))]
        rfl ent70 rfl ⟨rfl, rfl, rfl, rfl, trivial⟩ hp7 (by simp) ?_ ?_ ?_
      · intro w8 hp8
        exact all1_iter _ c (by omega) w w8 hT (cell_of_obj (hp8.obj 0 rfl) rfl)
      · rintro k x q l D o w8 hx hq hp8
        obtain ⟨v, hv, rfl⟩ : ∃ v : Nat, (els c)[k]? = some v ∧ x = .int .i64 v := by
          simp only [ints, List.getElem?_map, Option.map_eq_some_iff] at hx
          obtain ⟨y, h1, rfl⟩ := hx
          exact ⟨y, h1, rfl⟩
        have hvn : v < n := lt_of_testBit (n := n) (s := c) (by omega) (mem_els.1 (List.mem_of_getElem? hv)).2
        have hlen : i < ((frRow p n i).set i q).length := by simp [frRow]; omega
        repeat (first | refine WC.seq ?_ | refine WC.reg ?_ | refine WL.pure rfl rfl rfl ?_ | refine WL.nil ?_ | refine WC.skip ?_ | refine WC.block ?_ | refine WC.condT rfl ?_ | refine WC.condF rfl ?_ | refine WL.off rfl rfl rfl ?_ | refine WL.off0 rfl rfl ?_ | refine WC.exit ?_ | refine blk_hit ?_ | refine blk_miss rfl ?_ | refine WC.ret ?_)
        refine ⟨_, hp8, fun o' w9 hp9 => ?_⟩
        repeat (first | refine WC.seq ?_ | refine WC.reg ?_ | refine WL.pure rfl rfl rfl ?_ | refine WL.nil ?_ | refine WC.skip ?_ | refine WC.block ?_ | refine WC.condT rfl ?_ | refine WC.condF rfl ?_ | refine WL.off rfl rfl rfl ?_ | refine WL.off0 rfl rfl ?_ | refine WC.exit ?_ | refine blk_hit ?_ | refine blk_miss rfl ?_ | refine WC.ret ?_)
        refine WC.regS 13 mixed (by kernel_rfl) rfl rfl (fun wc hwc hhc => ?_)
        have hpc := hp9.keep hwc
        refine WS.loadB rfl rfl rfl rfl rfl (hpc.obj 6 rfl) rfl ?_
        refine WS.loadB rfl rfl rfl rfl rfl (hpc.obj 4 rfl) rfl ?_
        refine WS.loadB rfl rfl rfl rfl rfl (hpc.obj 6 rfl) rfl ?_
        refine WS.loadB rfl rfl rfl rfl rfl (hpc.obj 4 rfl) rfl ?_
        refine WS.ix1 rfl rfl rfl rfl rfl rfl rfl (j := i) hi ?_
        refine WS.loadB rfl rfl rfl rfl rfl (hpc.obj 7 rfl) (v := .bool q) (by rw [nth_eq, Nat.zero_add]; simp [bls, frRow, hi]) ?_
        have fin : ∀ q', q' = (q && p (tz i) v) → ∀ wd', SetB wc b (.cells ((bls ((frRow p n i).set i q)).toArray.setIfInBounds (0 + i) (.bool q')) 4 (0, 0)) wd' →
            ∃ s', s' = (fr p c && ((els c).take (k + 1)).all (p (tz i))) ∧ Hp w wd' (.blk l (.loop o') :: .blk D dfr :: [.blk b7 (.cells #[.int .i64 c] 76 (0, 0)), .blk b8 (.cells #[.int .i64 (tz i : Nat)] 3 (0, 0)), .blk b6 (.cells #[.int .i64 (i : Nat)] 3 (0, 0)), .many (dfrs ds),
        .blk b5 (.cells #[.slice (some ⟨b, 0, none⟩) (2 ^ n) (2 ^ n)] 74 (0, 0)), .blk b (.cells (bls ((frRow p n i).set i s')).toArray 4 (0, 0)), .blk b3 (.cells #[.func (.func fv) #[] #[ca]] 80 (0, 0))]) := by
          intro q' hq' wd' hwd'
          rw [Nat.zero_add, bls_set, List.set_set] at hwd'
          refine ⟨q', ?_, hpc.set 7 rfl rfl hwd'⟩
          rw [hq', hq, List.take_add_one, hv, List.all_append]
          simp [Bool.and_assoc]
        repeat (first | refine WS.pure rfl rfl rfl ?_ | refine WS.off rfl rfl rfl ?_ | refine WS.nil ?_)
        refine WS.split 51 rfl (fun hq1 => ?_) (fun hq1 => ?_)
        · refine WS.loadB rfl rfl rfl rfl rfl (hpc.obj 8 rfl) rfl ?_
          refine WS.loadB rfl rfl rfl rfl rfl (hpc.obj 3 rfl) rfl ?_
          repeat (first | refine WS.pure rfl rfl rfl ?_ | refine WS.off rfl rfl rfl ?_ | refine WS.nil ?_)
          refine WS.call rfl rfl rfl rfl rfl hE (hfine wc hpc.below _ _ htzn hvn) ?_
          repeat (first | refine WS.pure rfl rfl rfl ?_ | refine WS.off rfl rfl rfl ?_ | refine WS.nil ?_)
          refine WS.ix1 rfl rfl rfl rfl rfl rfl rfl (j := i) hi ?_
          repeat (first | refine WS.pure rfl rfl rfl ?_ | refine WS.off rfl rfl rfl ?_ | refine WS.nil ?_)
          refine WL.store rfl rfl rfl rfl rfl rfl (hpc.obj 7 rfl) (by simp [bls, frRow]; omega) (fun wd' hwd' => ?_)
          repeat (first | refine WC.seq ?_ | refine WC.reg ?_ | refine WL.pure rfl rfl rfl ?_ | refine WL.nil ?_ | refine WC.skip ?_ | refine WC.block ?_ | refine WC.condT rfl ?_ | refine WC.condF rfl ?_ | refine WL.off rfl rfl rfl ?_ | refine WL.off0 rfl rfl ?_ | refine WC.exit ?_ | refine blk_hit ?_ | refine blk_miss rfl ?_ | refine WC.ret ?_)
          exact fin _ (by rw [hq1, Bool.true_and]) _ hwd'
        · repeat (first | refine WS.pure rfl rfl rfl ?_ | refine WS.off rfl rfl rfl ?_ | refine WS.nil ?_)
          refine WS.ix1 rfl rfl rfl rfl rfl rfl rfl (j := i) hi ?_
          repeat (first | refine WS.pure rfl rfl rfl ?_ | refine WS.off rfl rfl rfl ?_ | refine WS.nil ?_)
          refine WL.store rfl rfl rfl rfl rfl rfl (hpc.obj 7 rfl) (by simp [bls, frRow]; omega) (fun wd' hwd' => ?_)
          repeat (first | refine WC.seq ?_ | refine WC.reg ?_ | refine WL.pure rfl rfl rfl ?_ | refine WL.nil ?_ | refine WC.skip ?_ | refine WC.block ?_ | refine WC.condT rfl ?_ | refine WC.condF rfl ?_ | refine WL.off rfl rfl rfl ?_ | refine WL.off0 rfl rfl ?_ | refine WC.exit ?_ | refine blk_hit ?_ | refine blk_miss rfl ?_ | refine WC.ret ?_)
          exact fin _ (by rw [hq1, Bool.false_and]) _ hwd'
      · rintro q D w8 hq hp8
        have hq : q = fr p i := by
          rw [fr_step p h0 hi16, hc', hq, List.take_of_length_le (by simp [ints])]
        subst hq
        rw [frRow_next hi] at hp8
        have hpe := Hp.join (hp8.pick [0, 4, 5, 6, 7] (by decide))
        repeat (first | refine WC.seq ?_ | refine WC.reg ?_ | refine WL.pure rfl rfl rfl ?_ | refine WL.nil ?_ | refine WC.skip ?_ | refine WC.block ?_ | refine WC.condT rfl ?_ | refine WC.condF rfl ?_ | refine WL.off rfl rfl rfl ?_ | refine WL.off0 rfl rfl ?_ | refine WC.exit ?_ | refine blk_hit ?_ | refine blk_miss rfl ?_ | refine WC.ret ?_)
        refine ⟨(i + 1, D :: ds), by show 2 ^ n - (i + 1) < 2 ^ n - i; omega, ⟨rfl, rfl, rfl, congrArg (fun z => some (Value.int .i64 z)) step, ?_⟩, hi, hpe⟩
        show dec (enc (D :: ds)) = dec (enc (D :: dec (enc ds)))
        rw [dec_enc ds]
  · have hi : i = 2 ^ n := by have := of_decide_eq_false hc; omega
    subst hi
    repeat (first | refine WC.seq ?_ | refine WC.reg ?_ | refine WL.pure rfl rfl rfl ?_ | refine WL.nil ?_ | refine WC.skip ?_ | refine WC.block ?_ | refine WC.condT rfl ?_ | refine WC.condF rfl ?_ | refine WL.off rfl rfl rfl ?_ | refine WL.off0 rfl rfl ?_ | refine WC.exit ?_ | refine blk_hit ?_ | refine blk_miss rfl ?_ | refine WC.ret ?_)
    refine WL.loadB rfl rfl rfl rfl rfl (hp.obj 1 rfl) rfl ?_
    repeat (first | refine WC.seq ?_ | refine WC.reg ?_ | refine WL.pure rfl rfl rfl ?_ | refine WL.nil ?_ | refine WC.skip ?_ | refine WC.block ?_ | refine WC.condT rfl ?_ | refine WC.condF rfl ?_ | refine WL.off rfl rfl rfl ?_ | refine WL.off0 rfl rfl ?_ | refine WC.exit ?_ | refine blk_hit ?_ | refine blk_miss rfl ?_ | refine WC.ret ?_)
    exact ResM.one (dec_enc ds) rfl rfl hp (fun w6 hp6 => ⟨b, hp6.pick [1] (by decide), rfl⟩)
end Go.Proofs.YtdnkkflpgebfbaaDoor

/- The walks of 'apart', 'Apart', 'Compare', 'Clique'. -/
namespace Go.Proofs.YtdnkkflpgebfbaaDoor
open Go.W Go.Tree
set_option maxRecDepth 100000
attribute [local irreducible] WC WL WQ WS

theorem graph_hp {w w' : World} {n : Int} {es : List Ed} {v : Value} {g : List Nat} (h : GraphIs w n es v w') (hg : mkG n es = some g) :
    ∃ b, Hp w w' [.blk b (.cells (ints g).toArray 76 (0, 0))] ∧ v = .tuple #[.slice (some ⟨b, 0, none⟩) g.length g.length, .bool true] := by
  obtain ⟨hb, h⟩ := h
  rw [hg] at h
  obtain ⟨b, h1, h2, h3⟩ := h
  exact ⟨b, ⟨hb, fun x hx => by simp only [List.mem_singleton] at hx; subst hx; exact ⟨h1, h2⟩, List.pairwise_singleton _ _⟩, h3⟩
theorem graph_none {w w' : World} {n : Int} {es : List Ed} {v : Value} (h : GraphIs w n es v w') (hg : mkG n es = none) :
    Hp w w' [] ∧ v = .tuple #[.slice none 0 0, .bool false] := by
  obtain ⟨hb, h⟩ := h
  rw [hg] at h
  exact ⟨⟨hb, (fun x hx => by cases hx), List.Pairwise.nil⟩, h⟩

theorem apart1_any (ga : Option Addr) (cap : Nat) (g : List Nat) (bg : Nat) (w : World) (hs : Sl w ga (ints g)) (hg : Gr g) (hb : w.heap[bg]? = some (.cells #[.slice ga g.length cap] 68 (0, 0))) (u v : Nat) (hu : u < g.length) :
    Ret Tryd.prog 64 [.int .i64 u, .int .i64 v, .pointer (some ⟨bg, 0, none⟩)] w fun r w' => r = .bool (!nb g u v) ∧ w' = w := by
  have hgu := lt_pow16 hg.len (hg.lt u)
  refine enter Tryd.func64 rfl rfl ⟨rfl, rfl⟩ rfl ?_
  repeat (first | refine WC.seq ?_ | refine WC.reg ?_ | refine WL.pure rfl rfl rfl ?_ | refine WL.nil ?_ | refine WC.skip ?_ | refine WC.block ?_ | refine WC.condT rfl ?_ | refine WC.condF rfl ?_ | refine WL.off rfl rfl rfl ?_ | refine WL.off0 rfl rfl ?_ | refine WC.exit ?_ | refine blk_hit ?_ | refine blk_miss rfl ?_ | refine WC.ret ?_)
  refine WL.loadB rfl rfl rfl rfl rfl hb rfl ?_
  repeat (first | refine WC.seq ?_ | refine WC.reg ?_ | refine WL.pure rfl rfl rfl ?_ | refine WL.nil ?_ | refine WC.skip ?_ | refine WC.block ?_ | refine WC.condT rfl ?_ | refine WC.condF rfl ?_ | refine WL.off rfl rfl rfl ?_ | refine WL.off0 rfl rfl ?_ | refine WC.exit ?_ | refine blk_hit ?_ | refine blk_miss rfl ?_ | refine WC.ret ?_)
  refine WL.ixload rfl (fun _ => rfl) rfl rfl rfl rfl rfl rfl rfl hu rfl rfl hs (ints_at hu) ?_
  intro p
  repeat (first | refine WC.seq ?_ | refine WC.reg ?_ | refine WL.pure rfl rfl rfl ?_ | refine WL.nil ?_ | refine WC.skip ?_ | refine WC.block ?_ | refine WC.condT rfl ?_ | refine WC.condF rfl ?_ | refine WL.off rfl rfl rfl ?_ | refine WL.off0 rfl rfl ?_ | refine WC.exit ?_ | refine blk_hit ?_ | refine blk_miss rfl ?_ | refine WC.ret ?_)
  refine WL.callP rfl rfl rfl rfl rfl ent44 (has_any _ _ (by omega) _) ?_
  repeat (first | refine WC.seq ?_ | refine WC.reg ?_ | refine WL.pure rfl rfl rfl ?_ | refine WL.nil ?_ | refine WC.skip ?_ | refine WC.block ?_ | refine WC.condT rfl ?_ | refine WC.condF rfl ?_ | refine WL.off rfl rfl rfl ?_ | refine WL.off0 rfl rfl ?_ | refine WC.exit ?_ | refine blk_hit ?_ | refine blk_miss rfl ?_ | refine WC.ret ?_)
  exact Res.one rfl rfl rfl ⟨rfl, rfl⟩

theorem clique1_any (ga : Option Addr) (cap : Nat) (g : List Nat) (bg : Nat) (w : World) (hs : Sl w ga (ints g)) (hg : Gr g) (hb : w.heap[bg]? = some (.cells #[.slice ga g.length cap] 68 (0, 0))) (u v : Nat) (hu : u < g.length) :
    Ret Tryd.prog 43 [.int .i64 u, .int .i64 v, .pointer (some ⟨bg, 0, none⟩)] w fun r w' => r = .bool (nb g u v) ∧ w' = w := by
  have hgu := lt_pow16 hg.len (hg.lt u)
  refine enter Tryd.func43 rfl rfl ⟨rfl, rfl⟩ rfl ?_
  repeat (first | refine WC.seq ?_ | refine WC.reg ?_ | refine WL.pure rfl rfl rfl ?_ | refine WL.nil ?_ | refine WC.skip ?_ | refine WC.block ?_ | refine WC.condT rfl ?_ | refine WC.condF rfl ?_ | refine WL.off rfl rfl rfl ?_ | refine WL.off0 rfl rfl ?_ | refine WC.exit ?_ | refine blk_hit ?_ | refine blk_miss rfl ?_ | refine WC.ret ?_)
  refine WL.loadB rfl rfl rfl rfl rfl hb rfl ?_
  repeat (first | refine WC.seq ?_ | refine WC.reg ?_ | refine WL.pure rfl rfl rfl ?_ | refine WL.nil ?_ | refine WC.skip ?_ | refine WC.block ?_ | refine WC.condT rfl ?_ | refine WC.condF rfl ?_ | refine WL.off rfl rfl rfl ?_ | refine WL.off0 rfl rfl ?_ | refine WC.exit ?_ | refine blk_hit ?_ | refine blk_miss rfl ?_ | refine WC.ret ?_)
  refine WL.ixload rfl (fun _ => rfl) rfl rfl rfl rfl rfl rfl rfl hu rfl rfl hs (ints_at hu) ?_
  intro p
  repeat (first | refine WC.seq ?_ | refine WC.reg ?_ | refine WL.pure rfl rfl rfl ?_ | refine WL.nil ?_ | refine WC.skip ?_ | refine WC.block ?_ | refine WC.condT rfl ?_ | refine WC.condF rfl ?_ | refine WL.off rfl rfl rfl ?_ | refine WL.off0 rfl rfl ?_ | refine WC.exit ?_ | refine blk_hit ?_ | refine blk_miss rfl ?_ | refine WC.ret ?_)
  refine WL.callP rfl rfl rfl rfl rfl ent44 (has_any _ _ (by omega) _) ?_
  repeat (first | refine WC.seq ?_ | refine WC.reg ?_ | refine WL.pure rfl rfl rfl ?_ | refine WL.nil ?_ | refine WC.skip ?_ | refine WC.block ?_ | refine WC.condT rfl ?_ | refine WC.condF rfl ?_ | refine WL.off rfl rfl rfl ?_ | refine WL.off0 rfl rfl ?_ | refine WC.exit ?_ | refine blk_hit ?_ | refine blk_miss rfl ?_ | refine WC.ret ?_)
  exact Res.one rfl rfl rfl ⟨rfl, rfl⟩

def ap (g : List Nat) (u v : Nat) : Bool := !nb g u v

theorem apart_any (ga : Option Addr) (cap : Nat) (g : List Nat) (w : World) (hs : Sl w ga (ints g)) (hT : Tb w) (hg : Gr g) :
    Ret Tryd.prog 40 [.slice ga g.length cap] w fun v w' =>
      ∃ b, Hp w w' [.blk b (.cells (bls (frRow (ap g) g.length (2 ^ g.length))).toArray 4 (0, 0))] ∧ v = .slice (some ⟨b, 0, none⟩) (2 ^ g.length) (2 ^ g.length) := by
  refine enter Tryd.func40 rfl rfl ⟨rfl, rfl⟩ rfl ?_
  repeat (first | refine WC.seq ?_ | refine WC.reg ?_ | refine WL.pure rfl rfl rfl ?_ | refine WL.nil ?_ | refine WC.skip ?_ | refine WC.block ?_ | refine WC.condT rfl ?_ | refine WC.condF rfl ?_ | refine WL.off rfl rfl rfl ?_ | refine WL.off0 rfl rfl ?_ | refine WC.exit ?_ | refine blk_hit ?_ | refine blk_miss rfl ?_ | refine WC.ret ?_)
  refine WL.box rfl rfl rfl ?_
  intro bg w1 hbg
  have hp1 := (Hp.start w).new hbg
  repeat (first | refine WC.seq ?_ | refine WC.reg ?_ | refine WL.pure rfl rfl rfl ?_ | refine WL.nil ?_ | refine WC.skip ?_ | refine WC.block ?_ | refine WC.condT rfl ?_ | refine WC.condF rfl ?_ | refine WL.off rfl rfl rfl ?_ | refine WL.off0 rfl rfl ?_ | refine WC.exit ?_ | refine blk_hit ?_ | refine blk_miss rfl ?_ | refine WC.ret ?_)
  refine WL.loadB rfl rfl rfl rfl rfl (hp1.obj 0 rfl) rfl ?_
  repeat (first | refine WC.seq ?_ | refine WC.reg ?_ | refine WL.pure rfl rfl rfl ?_ | refine WL.nil ?_ | refine WC.skip ?_ | refine WC.block ?_ | refine WC.condT rfl ?_ | refine WC.condF rfl ?_ | refine WL.off rfl rfl rfl ?_ | refine WL.off0 rfl rfl ?_ | refine WC.exit ?_ | refine blk_hit ?_ | refine blk_miss rfl ?_ | refine WC.ret ?_)
  refine WL.call rfl rfl rfl rfl rfl ent42 (free_any ga cap g.length _ _ (ap g) w1 (hT.below hp1.below) hg.len ent64 ?_) ?_
  · intro w2 hb2 u v hu hv
    have hp2 := hp1.call hb2
    exact apart1_any ga cap g bg w2 (hs.hp hp2) hg (hp2.obj 0 rfl) u v hu
  rintro _ w2 ⟨b, hp2, rfl⟩
  repeat (first | refine WC.seq ?_ | refine WC.reg ?_ | refine WL.pure rfl rfl rfl ?_ | refine WL.nil ?_ | refine WC.skip ?_ | refine WC.block ?_ | refine WC.condT rfl ?_ | refine WC.condF rfl ?_ | refine WL.off rfl rfl rfl ?_ | refine WL.off0 rfl rfl ?_ | refine WC.exit ?_ | refine blk_hit ?_ | refine blk_miss rfl ?_ | refine WC.ret ?_)
  exact Res.one rfl rfl rfl ⟨b, (hp1.comb hp2).pick [0] (by decide), rfl⟩

/-- What 'Apart' hands back. -/
def apV (n : Int) (es : List Ed) : Value := match mkG n es with
  | none => .tuple #[.int .i64 0, .int .i64 0, .int .i64 2]
  | some g => .tuple #[.int .i64 (apR (ap g) (2 ^ g.length)).1, .int .i64 (apR (ap g) (2 ^ g.length)).2, .int .i64 0]

theorem Apart_any (ea : Option Addr) (cap : Nat) (n : Int) (es : List Ed) (w : World) (hs : Sl w ea (prs es)) (hlen : es.length ≤ 4611686018427387904) (hT : Tb w) :
    Ret Tryd.prog 16 [.int .i64 n, .slice ea es.length cap] w fun v w' => Hp w w' [] ∧ v = apV n es := by
  refine enter Tryd.func16 rfl rfl ⟨rfl, rfl⟩ rfl ?_
  repeat (first | refine WC.seq ?_ | refine WC.reg ?_ | refine WL.pure rfl rfl rfl ?_ | refine WL.nil ?_ | refine WC.skip ?_ | refine WC.block ?_ | refine WC.condT rfl ?_ | refine WC.condF rfl ?_ | refine WL.off rfl rfl rfl ?_ | refine WL.off0 rfl rfl ?_ | refine WC.exit ?_ | refine blk_hit ?_ | refine blk_miss rfl ?_ | refine WC.ret ?_)
  refine WL.call rfl rfl rfl rfl rfl ent38 (newGraph_any ea cap n es w hs hlen) ?_
  intro v1 w1 hG
  cases hmk : mkG n es with
  | none =>
    obtain ⟨hp1, rfl⟩ := graph_none hG hmk
    repeat (first | refine WC.seq ?_ | refine WC.reg ?_ | refine WL.pure rfl rfl rfl ?_ | refine WL.nil ?_ | refine WC.skip ?_ | refine WC.block ?_ | refine WC.condT rfl ?_ | refine WC.condF rfl ?_ | refine WL.off rfl rfl rfl ?_ | refine WL.off0 rfl rfl ?_ | refine WC.exit ?_ | refine blk_hit ?_ | refine blk_miss rfl ?_ | refine WC.ret ?_)
    exact Res.three rfl rfl rfl rfl rfl ⟨hp1, by rw [apV, hmk]⟩
  | some g =>
    obtain ⟨hg, _, _, _, _⟩ := mkG_gr hmk
    have hn := hg.len
    have hp14 : 2 ^ g.length ≤ 2 ^ 14 := Nat.pow_le_pow_right (by decide) hn
    obtain ⟨bg, hp1, rfl⟩ := graph_hp hG hmk
    repeat (first | refine WC.seq ?_ | refine WC.reg ?_ | refine WL.pure rfl rfl rfl ?_ | refine WL.nil ?_ | refine WC.skip ?_ | refine WC.block ?_ | refine WC.condT rfl ?_ | refine WC.condF rfl ?_ | refine WL.off rfl rfl rfl ?_ | refine WL.off0 rfl rfl ?_ | refine WC.exit ?_ | refine blk_hit ?_ | refine blk_miss rfl ?_ | refine WC.ret ?_)
    refine WL.call rfl rfl rfl rfl rfl ent40 (apart_any _ _ g w1 (Sl.of_obj (hp1.obj 0 rfl) (fun i u h => by simpa using h)) (hT.below hp1.below) hg) ?_
    rintro _ w2 ⟨b, hp2, rfl⟩
    have hp2 := hp1.comb hp2
    repeat (first | refine WC.seq ?_ | refine WC.reg ?_ | refine WL.pure rfl rfl rfl ?_ | refine WL.nil ?_ | refine WC.skip ?_ | refine WC.block ?_ | refine WC.condT rfl ?_ | refine WC.condF rfl ?_ | refine WL.off rfl rfl rfl ?_ | refine WL.off0 rfl rfl ?_ | refine WC.exit ?_ | refine blk_hit ?_ | refine blk_miss rfl ?_ | refine WC.ret ?_)
    refine WC.loop (Nat × Nat × Nat) (fun (i, c, m) => [(9, .int .i64 (c : Nat)), (10, .int .i64 (m : Nat)), (22, .slice (some ⟨b, 0, none⟩) (2 ^ g.length) (2 ^ g.length)), (23, .int .i64 (2 ^ g.length : Nat)), (24, .int .i64 (i : Nat))])
      (fun (i, c, m) w' => i ≤ 2 ^ g.length ∧ (c, m) = apR (ap g) i ∧ Hp w w' [.blk b (.cells (bls (frRow (ap g) g.length (2 ^ g.length))).toArray 4 (0, 0)), .blk bg (.cells (ints g).toArray 76 (0, 0))]) (fun (i, c, m) => 2 ^ g.length - i) (0, 0, 0)
      ⟨rfl, rfl, rfl, rfl, rfl, rfl⟩ ⟨Nat.zero_le _, rfl, hp2⟩ ?_
    rintro ⟨i, c, m⟩ w3 ⟨hi, hcm, hp3⟩
    have hci : c ≤ i := by have := apR_le (ap g) i; rw [← hcm] at this; exact this
    repeat (first | refine WC.seq ?_ | refine WC.reg ?_ | refine WL.pure rfl rfl rfl ?_ | refine WL.nil ?_ | refine WC.skip ?_ | refine WC.block ?_ | refine WC.condT rfl ?_ | refine WC.condF rfl ?_ | refine WL.off rfl rfl rfl ?_ | refine WL.off0 rfl rfl ?_ | refine WC.exit ?_ | refine blk_hit ?_ | refine blk_miss rfl ?_ | refine WC.ret ?_)
    refine WC.cond rfl (fun hc => ?_) (fun hc => ?_)
    · have hi : i < 2 ^ g.length := by have := of_decide_eq_true hc; omega
      have step : IntKind.i64.wrap ((i : Int) + 1) = ((i + 1 : Nat) : Int) := by rw [wrap_i64_in (by omega) (by omega)]; omega
      have step2 : IntKind.i64.wrap ((c : Int) + 1) = ((c + 1 : Nat) : Int) := by rw [wrap_i64_in (by omega) (by omega)]; omega
      repeat (first | refine WC.seq ?_ | refine WC.reg ?_ | refine WL.pure rfl rfl rfl ?_ | refine WL.nil ?_ | refine WC.skip ?_ | refine WC.block ?_ | refine WC.condT rfl ?_ | refine WC.condF rfl ?_ | refine WL.off rfl rfl rfl ?_ | refine WL.off0 rfl rfl ?_ | refine WC.exit ?_ | refine blk_hit ?_ | refine blk_miss rfl ?_ | refine WC.ret ?_)
      refine WL.ixload rfl (fun _ => rfl) rfl rfl rfl rfl rfl rfl rfl hi rfl rfl (Sl.of_obj (hp3.obj 0 rfl) (cs := bls (frRow (ap g) g.length (2 ^ g.length))) (fun i u h => by simpa using h)) (v := .bool (fr (ap g) i)) (frRow_at hi hi) ?_
      intro p
      repeat (first | refine WC.seq ?_ | refine WC.reg ?_ | refine WL.pure rfl rfl rfl ?_ | refine WL.nil ?_ | refine WC.skip ?_ | refine WC.block ?_ | refine WC.condT rfl ?_ | refine WC.condF rfl ?_ | refine WL.off rfl rfl rfl ?_ | refine WL.off0 rfl rfl ?_ | refine WC.exit ?_ | refine blk_hit ?_ | refine blk_miss rfl ?_ | refine WC.ret ?_)
      refine WC.cond rfl (fun hf => ?_) (fun hf => ?_)
      · repeat (first | refine WC.seq ?_ | refine WC.reg ?_ | refine WL.pure rfl rfl rfl ?_ | refine WL.nil ?_ | refine WC.skip ?_ | refine WC.block ?_ | refine WC.condT rfl ?_ | refine WC.condF rfl ?_ | refine WL.off rfl rfl rfl ?_ | refine WL.off0 rfl rfl ?_ | refine WC.exit ?_ | refine blk_hit ?_ | refine blk_miss rfl ?_ | refine WC.ret ?_)
        refine WL.callP rfl rfl rfl rfl rfl ent41 (size_any i (by omega) _) ?_
        repeat (first | refine WC.seq ?_ | refine WC.reg ?_ | refine WL.pure rfl rfl rfl ?_ | refine WL.nil ?_ | refine WC.skip ?_ | refine WC.block ?_ | refine WC.condT rfl ?_ | refine WC.condF rfl ?_ | refine WL.off rfl rfl rfl ?_ | refine WL.off0 rfl rfl ?_ | refine WC.exit ?_ | refine blk_hit ?_ | refine blk_miss rfl ?_ | refine WC.ret ?_)
        refine ⟨(i + 1, c + 1, max m (pc i)), by show 2 ^ g.length - (i + 1) < 2 ^ g.length - i; omega, ⟨congrArg (fun z => some (Value.int .i64 z)) step2, congrArg (fun z => some (Value.int .i64 z)) (by omega), rfl, rfl, congrArg (fun z => some (Value.int .i64 z)) step, rfl⟩, by omega, ?_, hp3⟩
        rw [apR_succ, ← hcm, apStep, if_pos hf]
      · repeat (first | refine WC.seq ?_ | refine WC.reg ?_ | refine WL.pure rfl rfl rfl ?_ | refine WL.nil ?_ | refine WC.skip ?_ | refine WC.block ?_ | refine WC.condT rfl ?_ | refine WC.condF rfl ?_ | refine WL.off rfl rfl rfl ?_ | refine WL.off0 rfl rfl ?_ | refine WC.exit ?_ | refine blk_hit ?_ | refine blk_miss rfl ?_ | refine WC.ret ?_)
        refine ⟨(i + 1, c, m), by show 2 ^ g.length - (i + 1) < 2 ^ g.length - i; omega, ⟨rfl, rfl, rfl, rfl, congrArg (fun z => some (Value.int .i64 z)) step, rfl⟩, by omega, ?_, hp3⟩
        rw [apR_succ, ← hcm, apStep, if_neg (by rw [hf]; decide)]
    · have hi : i = 2 ^ g.length := by have := of_decide_eq_false hc; omega
      subst hi
      repeat (first | refine WC.seq ?_ | refine WC.reg ?_ | refine WL.pure rfl rfl rfl ?_ | refine WL.nil ?_ | refine WC.skip ?_ | refine WC.block ?_ | refine WC.condT rfl ?_ | refine WC.condF rfl ?_ | refine WL.off rfl rfl rfl ?_ | refine WL.off0 rfl rfl ?_ | refine WC.exit ?_ | refine blk_hit ?_ | refine blk_miss rfl ?_ | refine WC.ret ?_)
      refine Res.three rfl rfl rfl rfl rfl ⟨hp3.nil', ?_⟩
      simp only [apV, hmk, ← hcm]
end Go.Proofs.YtdnkkflpgebfbaaDoor

/- The walks of 'Compare' and 'Clique'. -/
namespace Go.Proofs.YtdnkkflpgebfbaaDoor
open Go.W Go.Tree
set_option maxRecDepth 100000
attribute [local irreducible] WC WL WQ WS

theorem nan_any (a : Int) : Pur Tryd.prog 74 [.int .i64 a] (.bool false) := by
  intro w
  refine enter Tryd.func74 rfl rfl ⟨rfl, rfl⟩ rfl ?_
  repeat (first | refine WC.seq ?_ | refine WC.reg ?_ | refine WL.pure rfl rfl rfl ?_ | refine WL.nil ?_ | refine WC.skip ?_ | refine WC.block ?_ | refine WC.condT rfl ?_ | refine WC.condF rfl ?_ | refine WL.off rfl rfl rfl ?_ | refine WL.off0 rfl rfl ?_ | refine WC.exit ?_ | refine blk_hit ?_ | refine blk_miss rfl ?_ | refine WC.ret ?_)
  exact Res.one rfl rfl rfl ⟨by simp, rfl⟩
theorem cmp_any (a b : Nat) : Pur Tryd.prog 67 [.int .i64 a, .int .i64 b] (.int .i64 (if a < b then -1 else if b < a then 1 else 0)) := by
  intro w
  refine enter Tryd.func67 rfl rfl ⟨rfl, rfl⟩ rfl ?_
  repeat (first | refine WC.seq ?_ | refine WC.reg ?_ | refine WL.pure rfl rfl rfl ?_ | refine WL.nil ?_ | refine WC.skip ?_ | refine WC.block ?_ | refine WC.condT rfl ?_ | refine WC.condF rfl ?_ | refine WL.off rfl rfl rfl ?_ | refine WL.off0 rfl rfl ?_ | refine WC.exit ?_ | refine blk_hit ?_ | refine blk_miss rfl ?_ | refine WC.ret ?_)
  refine WL.callP rfl rfl rfl rfl rfl ent74 (nan_any _ _) ?_
  repeat (first | refine WC.seq ?_ | refine WC.reg ?_ | refine WL.pure rfl rfl rfl ?_ | refine WL.nil ?_ | refine WC.skip ?_ | refine WC.block ?_ | refine WC.condT rfl ?_ | refine WC.condF rfl ?_ | refine WL.off rfl rfl rfl ?_ | refine WL.off0 rfl rfl ?_ | refine WC.exit ?_ | refine blk_hit ?_ | refine blk_miss rfl ?_ | refine WC.ret ?_)
  refine WL.callP rfl rfl rfl rfl rfl ent74 (nan_any _ _) ?_
  repeat (first | refine WC.seq ?_ | refine WC.reg ?_ | refine WL.pure rfl rfl rfl ?_ | refine WL.nil ?_ | refine WC.skip ?_ | refine WC.block ?_ | refine WC.condT rfl ?_ | refine WC.condF rfl ?_ | refine WL.off rfl rfl rfl ?_ | refine WL.off0 rfl rfl ?_ | refine WC.exit ?_ | refine blk_hit ?_ | refine blk_miss rfl ?_ | refine WC.ret ?_)
  refine WC.cond rfl (fun h => ?_) (fun h => ?_)
  · have h : a < b := by have := of_decide_eq_true h; omega
    repeat (first | refine WC.seq ?_ | refine WC.reg ?_ | refine WL.pure rfl rfl rfl ?_ | refine WL.nil ?_ | refine WC.skip ?_ | refine WC.block ?_ | refine WC.condT rfl ?_ | refine WC.condF rfl ?_ | refine WL.off rfl rfl rfl ?_ | refine WL.off0 rfl rfl ?_ | refine WC.exit ?_ | refine blk_hit ?_ | refine blk_miss rfl ?_ | refine WC.ret ?_)
    exact Res.one rfl rfl rfl ⟨by rw [if_pos h], rfl⟩
  have h : ¬ a < b := by have := of_decide_eq_false h; omega
  repeat (first | refine WC.seq ?_ | refine WC.reg ?_ | refine WL.pure rfl rfl rfl ?_ | refine WL.nil ?_ | refine WC.skip ?_ | refine WC.block ?_ | refine WC.condT rfl ?_ | refine WC.condF rfl ?_ | refine WL.off rfl rfl rfl ?_ | refine WL.off0 rfl rfl ?_ | refine WC.exit ?_ | refine blk_hit ?_ | refine blk_miss rfl ?_ | refine WC.ret ?_)
  refine WC.cond rfl (fun h2 => ?_) (fun h2 => ?_)
  · have h2 : b < a := by have := of_decide_eq_true h2; omega
    repeat (first | refine WC.seq ?_ | refine WC.reg ?_ | refine WL.pure rfl rfl rfl ?_ | refine WL.nil ?_ | refine WC.skip ?_ | refine WC.block ?_ | refine WC.condT rfl ?_ | refine WC.condF rfl ?_ | refine WL.off rfl rfl rfl ?_ | refine WL.off0 rfl rfl ?_ | refine WC.exit ?_ | refine blk_hit ?_ | refine blk_miss rfl ?_ | refine WC.ret ?_)
    exact Res.one rfl rfl rfl ⟨by rw [if_neg h, if_pos h2], rfl⟩
  have h2 : ¬ b < a := by have := of_decide_eq_false h2; omega
  repeat (first | refine WC.seq ?_ | refine WC.reg ?_ | refine WL.pure rfl rfl rfl ?_ | refine WL.nil ?_ | refine WC.skip ?_ | refine WC.block ?_ | refine WC.condT rfl ?_ | refine WC.condF rfl ?_ | refine WL.off rfl rfl rfl ?_ | refine WL.off0 rfl rfl ?_ | refine WC.exit ?_ | refine blk_hit ?_ | refine blk_miss rfl ?_ | refine WC.ret ?_)
  exact Res.one rfl rfl rfl ⟨by rw [if_neg h, if_neg h2], rfl⟩

theorem compare_any (aa ba : Option Addr) (ca cb : Nat) (xs ys : List Nat) (w : World) (hx : Sl w aa (ints xs)) (hy : Sl w ba (ints ys)) (hxl : xs.length ≤ 4611686018427387904) :
    Ret Tryd.prog 46 [.slice aa xs.length ca, .slice ba ys.length cb] w fun v w' => v = .int .i64 (cmpL xs ys) ∧ w' = w := by
  refine enter Tryd.func46 rfl rfl ⟨rfl, rfl⟩ rfl ?_
  repeat (first | refine WC.seq ?_ | refine WC.reg ?_ | refine WL.pure rfl rfl rfl ?_ | refine WL.nil ?_ | refine WC.skip ?_ | refine WC.block ?_ | refine WC.condT rfl ?_ | refine WC.condF rfl ?_ | refine WL.off rfl rfl rfl ?_ | refine WL.off0 rfl rfl ?_ | refine WC.exit ?_ | refine blk_hit ?_ | refine blk_miss rfl ?_ | refine WC.ret ?_)
  refine WC.loop Nat (fun i => [(0, .slice aa xs.length ca), (1, .slice ba ys.length cb), (9, .slice aa xs.length ca), (10, .int .i64 (xs.length : Nat)), (11, .int .i64 (i : Nat))])
    (fun i w' => w' = w ∧ i ≤ xs.length ∧ i ≤ ys.length ∧ cmpL xs ys = cmpL (xs.drop i) (ys.drop i)) (fun i => xs.length - i) 0 ⟨rfl, rfl, rfl, rfl, rfl, rfl⟩ ⟨rfl, Nat.zero_le _, Nat.zero_le _, rfl⟩ ?_
  rintro i w' ⟨rfl, hi, hj, hd⟩
  repeat (first | refine WC.seq ?_ | refine WC.reg ?_ | refine WL.pure rfl rfl rfl ?_ | refine WL.nil ?_ | refine WC.skip ?_ | refine WC.block ?_ | refine WC.condT rfl ?_ | refine WC.condF rfl ?_ | refine WL.off rfl rfl rfl ?_ | refine WL.off0 rfl rfl ?_ | refine WC.exit ?_ | refine blk_hit ?_ | refine blk_miss rfl ?_ | refine WC.ret ?_)
  refine WC.cond rfl (fun hc => ?_) (fun hc => ?_)
  · have hi : i < xs.length := by have := of_decide_eq_true hc; omega
    have step : IntKind.i64.wrap ((i : Int) + 1) = ((i + 1 : Nat) : Int) := by rw [wrap_i64_in (by omega) (by omega)]; omega
    have d1 : xs.drop i = xs.getD i 0 :: xs.drop (i + 1) := by rw [List.drop_eq_getElem_cons hi]; simp [hi]
    repeat (first | refine WC.seq ?_ | refine WC.reg ?_ | refine WL.pure rfl rfl rfl ?_ | refine WL.nil ?_ | refine WC.skip ?_ | refine WC.block ?_ | refine WC.condT rfl ?_ | refine WC.condF rfl ?_ | refine WL.off rfl rfl rfl ?_ | refine WL.off0 rfl rfl ?_ | refine WC.exit ?_ | refine blk_hit ?_ | refine blk_miss rfl ?_ | refine WC.ret ?_)
    refine WL.ixload rfl (fun _ => rfl) rfl rfl rfl rfl rfl rfl rfl hi rfl rfl hx (ints_at hi) ?_
    intro p
    repeat (first | refine WC.seq ?_ | refine WC.reg ?_ | refine WL.pure rfl rfl rfl ?_ | refine WL.nil ?_ | refine WC.skip ?_ | refine WC.block ?_ | refine WC.condT rfl ?_ | refine WC.condF rfl ?_ | refine WL.off rfl rfl rfl ?_ | refine WL.off0 rfl rfl ?_ | refine WC.exit ?_ | refine blk_hit ?_ | refine blk_miss rfl ?_ | refine WC.ret ?_)
    refine WC.cond rfl (fun h1 => ?_) (fun h1 => ?_)
    · have h1 : ys.length ≤ i := by have := of_decide_eq_true h1; omega
      repeat (first | refine WC.seq ?_ | refine WC.reg ?_ | refine WL.pure rfl rfl rfl ?_ | refine WL.nil ?_ | refine WC.skip ?_ | refine WC.block ?_ | refine WC.condT rfl ?_ | refine WC.condF rfl ?_ | refine WL.off rfl rfl rfl ?_ | refine WL.off0 rfl rfl ?_ | refine WC.exit ?_ | refine blk_hit ?_ | refine blk_miss rfl ?_ | refine WC.ret ?_)
      refine Res.one rfl rfl rfl ⟨?_, rfl⟩
      rw [hd, d1, List.drop_eq_nil_of_le h1, cmpL]
    have h1 : i < ys.length := by have := of_decide_eq_false h1; omega
    have d2 : ys.drop i = ys.getD i 0 :: ys.drop (i + 1) := by rw [List.drop_eq_getElem_cons h1]; simp [h1]
    repeat (first | refine WC.seq ?_ | refine WC.reg ?_ | refine WL.pure rfl rfl rfl ?_ | refine WL.nil ?_ | refine WC.skip ?_ | refine WC.block ?_ | refine WC.condT rfl ?_ | refine WC.condF rfl ?_ | refine WL.off rfl rfl rfl ?_ | refine WL.off0 rfl rfl ?_ | refine WC.exit ?_ | refine blk_hit ?_ | refine blk_miss rfl ?_ | refine WC.ret ?_)
    refine WL.ixload rfl (fun _ => rfl) rfl rfl rfl rfl rfl rfl rfl h1 rfl rfl hy (ints_at h1) ?_
    intro p2
    repeat (first | refine WC.seq ?_ | refine WC.reg ?_ | refine WL.pure rfl rfl rfl ?_ | refine WL.nil ?_ | refine WC.skip ?_ | refine WC.block ?_ | refine WC.condT rfl ?_ | refine WC.condF rfl ?_ | refine WL.off rfl rfl rfl ?_ | refine WL.off0 rfl rfl ?_ | refine WC.exit ?_ | refine blk_hit ?_ | refine blk_miss rfl ?_ | refine WC.ret ?_)
    refine WL.callP rfl rfl rfl rfl rfl ent67 (cmp_any _ _ _) ?_
    repeat (first | refine WC.seq ?_ | refine WC.reg ?_ | refine WL.pure rfl rfl rfl ?_ | refine WL.nil ?_ | refine WC.skip ?_ | refine WC.block ?_ | refine WC.condT rfl ?_ | refine WC.condF rfl ?_ | refine WL.off rfl rfl rfl ?_ | refine WL.off0 rfl rfl ?_ | refine WC.exit ?_ | refine blk_hit ?_ | refine blk_miss rfl ?_ | refine WC.ret ?_)
    rw [d1, d2, cmpL] at hd
    generalize xs.getD i 0 = a at *
    generalize ys.getD i 0 = b at *
    refine WC.cond rfl (fun h2 => ?_) (fun h2 => ?_)
    · repeat (first | refine WC.seq ?_ | refine WC.reg ?_ | refine WL.pure rfl rfl rfl ?_ | refine WL.nil ?_ | refine WC.skip ?_ | refine WC.block ?_ | refine WC.condT rfl ?_ | refine WC.condF rfl ?_ | refine WL.off rfl rfl rfl ?_ | refine WL.off0 rfl rfl ?_ | refine WC.exit ?_ | refine blk_hit ?_ | refine blk_miss rfl ?_ | refine WC.ret ?_)
      refine Res.one rfl rfl rfl ⟨?_, rfl⟩
      rw [hd]
      by_cases h3 : a < b
      · rw [if_pos h3, if_pos h3]
      · by_cases h4 : b < a
        · rw [if_neg h3, if_pos h4, if_neg h3, if_pos h4]
        · rw [if_neg h3, if_neg h4] at h2
          simp at h2
    · have h3 : ¬ a < b := fun h => by rw [if_pos h] at h2; simp at h2
      have h4 : ¬ b < a := fun h => by rw [if_neg h3, if_pos h] at h2; simp at h2
      rw [if_neg h3, if_neg h4] at hd
      repeat (first | refine WC.seq ?_ | refine WC.reg ?_ | refine WL.pure rfl rfl rfl ?_ | refine WL.nil ?_ | refine WC.skip ?_ | refine WC.block ?_ | refine WC.condT rfl ?_ | refine WC.condF rfl ?_ | refine WL.off rfl rfl rfl ?_ | refine WL.off0 rfl rfl ?_ | refine WC.exit ?_ | refine blk_hit ?_ | refine blk_miss rfl ?_ | refine WC.ret ?_)
      exact ⟨i + 1, by show xs.length - (i + 1) < xs.length - i; omega, ⟨rfl, rfl, rfl, rfl, congrArg (fun z => some (Value.int .i64 z)) step, rfl⟩, rfl, hi, h1, hd⟩
  · have hi : xs.length ≤ i := by have := of_decide_eq_false hc; omega
    have d1 : xs.drop i = [] := List.drop_eq_nil_of_le hi
    repeat (first | refine WC.seq ?_ | refine WC.reg ?_ | refine WL.pure rfl rfl rfl ?_ | refine WL.nil ?_ | refine WC.skip ?_ | refine WC.block ?_ | refine WC.condT rfl ?_ | refine WC.condF rfl ?_ | refine WL.off rfl rfl rfl ?_ | refine WL.off0 rfl rfl ?_ | refine WC.exit ?_ | refine blk_hit ?_ | refine blk_miss rfl ?_ | refine WC.ret ?_)
    refine WC.cond rfl (fun h1 => ?_) (fun h1 => ?_)
    · have h1 : xs.length < ys.length := by have := of_decide_eq_true h1; omega
      have d2 : ys.drop i = ys.getD i 0 :: ys.drop (i + 1) := by rw [List.drop_eq_getElem_cons (by omega)]; simp [show i < ys.length by omega]
      repeat (first | refine WC.seq ?_ | refine WC.reg ?_ | refine WL.pure rfl rfl rfl ?_ | refine WL.nil ?_ | refine WC.skip ?_ | refine WC.block ?_ | refine WC.condT rfl ?_ | refine WC.condF rfl ?_ | refine WL.off rfl rfl rfl ?_ | refine WL.off0 rfl rfl ?_ | refine WC.exit ?_ | refine blk_hit ?_ | refine blk_miss rfl ?_ | refine WC.ret ?_)
      exact Res.one rfl rfl rfl ⟨by rw [hd, d1, d2, cmpL], rfl⟩
    · have h1 : ¬ xs.length < ys.length := by have := of_decide_eq_false h1; omega
      have d2 : ys.drop i = [] := List.drop_eq_nil_of_le (by omega)
      repeat (first | refine WC.seq ?_ | refine WC.reg ?_ | refine WL.pure rfl rfl rfl ?_ | refine WL.nil ?_ | refine WC.skip ?_ | refine WC.block ?_ | refine WC.condT rfl ?_ | refine WC.condF rfl ?_ | refine WL.off rfl rfl rfl ?_ | refine WL.off0 rfl rfl ?_ | refine WC.exit ?_ | refine blk_hit ?_ | refine blk_miss rfl ?_ | refine WC.ret ?_)
      exact Res.one rfl rfl rfl ⟨by rw [hd, d1, d2, cmpL], rfl⟩

/-- What 'Clique' hands back. -/
def ClIs (w : World) (n : Int) (es : List Ed) (v : Value) (w' : World) : Prop := match mkG n es with
  | none => Hp w w' [] ∧ v = .tuple #[.slice none 0 0, .int .i64 2]
  | some g => ∃ a cap, Hp w w' [.row 3 1 (.slice a (clR (nb g) (2 ^ g.length)).length cap) (clR (nb g) (2 ^ g.length)).length (ints (clR (nb g) (2 ^ g.length)))] ∧ v = .tuple #[.slice a (clR (nb g) (2 ^ g.length)).length cap, .int .i64 0]

theorem Clique_any (ea : Option Addr) (cap : Nat) (n : Int) (es : List Ed) (w : World) (hs : Sl w ea (prs es)) (hlen : es.length ≤ 4611686018427387904) (hT : Tb w) :
    Ret Tryd.prog 17 [.int .i64 n, .slice ea es.length cap] w (ClIs w n es) := by
  refine enter Tryd.func17 rfl rfl ⟨rfl, rfl⟩ rfl ?_
  repeat (first | refine WC.seq ?_ | refine WC.reg ?_ | refine WL.pure rfl rfl rfl ?_ | refine WL.nil ?_ | refine WC.skip ?_ | refine WC.block ?_ | refine WC.condT rfl ?_ | refine WC.condF rfl ?_ | refine WL.off rfl rfl rfl ?_ | refine WL.off0 rfl rfl ?_ | refine WC.exit ?_ | refine blk_hit ?_ | refine blk_miss rfl ?_ | refine WC.ret ?_)
  refine WL.call rfl rfl rfl rfl rfl ent38 (newGraph_any ea cap n es w hs hlen) ?_
  intro v1 w1 hG
  cases hmk : mkG n es with
  | none =>
    obtain ⟨hp1, rfl⟩ := graph_none hG hmk
    repeat (first | refine WC.seq ?_ | refine WC.reg ?_ | refine WL.pure rfl rfl rfl ?_ | refine WL.nil ?_ | refine WC.skip ?_ | refine WC.block ?_ | refine WC.condT rfl ?_ | refine WC.condF rfl ?_ | refine WL.off rfl rfl rfl ?_ | refine WL.off0 rfl rfl ?_ | refine WC.exit ?_ | refine blk_hit ?_ | refine blk_miss rfl ?_ | refine WC.ret ?_)
    refine WL.var rfl rfl rfl (fun _ => rfl) rfl rfl (by intro y hy; simp [Value.cells] at hy; subst hy; rfl) ?_
    intro b6 w2 hb6
    have hp2 := hp1.new hb6
    repeat (first | refine WC.seq ?_ | refine WC.reg ?_ | refine WL.pure rfl rfl rfl ?_ | refine WL.nil ?_ | refine WC.skip ?_ | refine WC.block ?_ | refine WC.condT rfl ?_ | refine WC.condF rfl ?_ | refine WL.off rfl rfl rfl ?_ | refine WL.off0 rfl rfl ?_ | refine WC.exit ?_ | refine blk_hit ?_ | refine blk_miss rfl ?_ | refine WC.ret ?_)
    refine Res.two rfl rfl rfl rfl ?_
    unfold ClIs
    rw [hmk]
    exact ⟨hp2.nil', rfl⟩
  | some g =>
    obtain ⟨hg, _, _, _, _⟩ := mkG_gr hmk
    have hn := hg.len
    have hp14 : 2 ^ g.length ≤ 2 ^ 14 := Nat.pow_le_pow_right (by decide) hn
    obtain ⟨bg, hp1, rfl⟩ := graph_hp hG hmk
    repeat (first | refine WC.seq ?_ | refine WC.reg ?_ | refine WL.pure rfl rfl rfl ?_ | refine WL.nil ?_ | refine WC.skip ?_ | refine WC.block ?_ | refine WC.condT rfl ?_ | refine WC.condF rfl ?_ | refine WL.off rfl rfl rfl ?_ | refine WL.off0 rfl rfl ?_ | refine WC.exit ?_ | refine blk_hit ?_ | refine blk_miss rfl ?_ | refine WC.ret ?_)
    refine WL.var rfl rfl rfl (fun _ => rfl) rfl rfl (by intro y hy; simp [Value.cells] at hy; subst hy; rfl) ?_
    intro b6 w2 hb6
    have hp2 := hp1.new hb6
    have hsg : Sl w2 (some ⟨bg, 0, none⟩) (ints g) := Sl.of_obj (hp2.obj 1 rfl) (fun i u h => by simpa using h)
    repeat (first | refine WC.seq ?_ | refine WC.reg ?_ | refine WL.pure rfl rfl rfl ?_ | refine WL.nil ?_ | refine WC.skip ?_ | refine WC.block ?_ | refine WC.condT rfl ?_ | refine WC.condF rfl ?_ | refine WL.off rfl rfl rfl ?_ | refine WL.off0 rfl rfl ?_ | refine WC.exit ?_ | refine blk_hit ?_ | refine blk_miss rfl ?_ | refine WC.ret ?_)
    refine WL.loadB rfl rfl rfl rfl rfl (hp2.obj 0 rfl) rfl ?_
    repeat (first | refine WC.seq ?_ | refine WC.reg ?_ | refine WL.pure rfl rfl rfl ?_ | refine WL.nil ?_ | refine WC.skip ?_ | refine WC.block ?_ | refine WC.condT rfl ?_ | refine WC.condF rfl ?_ | refine WL.off rfl rfl rfl ?_ | refine WL.off0 rfl rfl ?_ | refine WC.exit ?_ | refine blk_hit ?_ | refine blk_miss rfl ?_ | refine WC.ret ?_)
    refine WL.call rfl rfl rfl rfl rfl ent42 (free_any (some ⟨bg, 0, none⟩) g.length g.length _ _ (nb g) w2 (hT.below hp2.below) hn ent43 ?_) ?_
    · intro w3 hb3 u v hu hv
      exact clique1_any _ _ g b6 w3 (hsg.below hb3) hg ((hp2.call hb3).obj 0 rfl) u v hu
    rintro _ w3 ⟨b, hp3, rfl⟩
    have hp3 := (hp2.comb hp3).nilrow 3 1
    repeat (first | refine WC.seq ?_ | refine WC.reg ?_ | refine WL.pure rfl rfl rfl ?_ | refine WL.nil ?_ | refine WC.skip ?_ | refine WC.block ?_ | refine WC.condT rfl ?_ | refine WC.condF rfl ?_ | refine WL.off rfl rfl rfl ?_ | refine WL.off0 rfl rfl ?_ | refine WC.exit ?_ | refine blk_hit ?_ | refine blk_miss rfl ?_ | refine WC.ret ?_)
    refine WC.loop (Nat × List Nat × Option Addr × Nat) (fun (i, best, a, c) => [(8, .slice a best.length c), (22, .slice (some ⟨b, 0, none⟩) (2 ^ g.length) (2 ^ g.length)), (23, .int .i64 (2 ^ g.length : Nat)), (24, .int .i64 (i : Nat))])
      (fun (i, best, a, c) w' => i ≤ 2 ^ g.length ∧ best = clR (nb g) i ∧ Hp w w' [.row 3 1 (.slice a best.length c) best.length (ints best), .blk b (.cells (bls (frRow (nb g) g.length (2 ^ g.length))).toArray 4 (0, 0))]) (fun (i, best, a, c) => 2 ^ g.length - i) (0, [], none, 0)
      ⟨rfl, rfl, rfl, rfl, rfl⟩ ⟨Nat.zero_le _, rfl, hp3.pick [0, 1] (by decide)⟩ ?_
    rintro ⟨i, best, a, c⟩ w4 ⟨hi, hbest, hp4⟩
    repeat (first | refine WC.seq ?_ | refine WC.reg ?_ | refine WL.pure rfl rfl rfl ?_ | refine WL.nil ?_ | refine WC.skip ?_ | refine WC.block ?_ | refine WC.condT rfl ?_ | refine WC.condF rfl ?_ | refine WL.off rfl rfl rfl ?_ | refine WL.off0 rfl rfl ?_ | refine WC.exit ?_ | refine blk_hit ?_ | refine blk_miss rfl ?_ | refine WC.ret ?_)
    refine WC.cond rfl (fun hc => ?_) (fun hc => ?_)
    · have hi : i < 2 ^ g.length := by have := of_decide_eq_true hc; omega
      have step : IntKind.i64.wrap ((i : Int) + 1) = ((i + 1 : Nat) : Int) := by rw [wrap_i64_in (by omega) (by omega)]; omega
      repeat (first | refine WC.seq ?_ | refine WC.reg ?_ | refine WL.pure rfl rfl rfl ?_ | refine WL.nil ?_ | refine WC.skip ?_ | refine WC.block ?_ | refine WC.condT rfl ?_ | refine WC.condF rfl ?_ | refine WL.off rfl rfl rfl ?_ | refine WL.off0 rfl rfl ?_ | refine WC.exit ?_ | refine blk_hit ?_ | refine blk_miss rfl ?_ | refine WC.ret ?_)
      refine WL.ixload rfl (fun _ => rfl) rfl rfl rfl rfl rfl rfl rfl hi rfl rfl (Sl.of_obj (hp4.obj 1 rfl) (cs := bls (frRow (nb g) g.length (2 ^ g.length))) (fun i u h => by simpa using h)) (v := .bool (fr (nb g) i)) (frRow_at hi hi) ?_
      intro p
      repeat (first | refine WC.seq ?_ | refine WC.reg ?_ | refine WL.pure rfl rfl rfl ?_ | refine WL.nil ?_ | refine WC.skip ?_ | refine WC.block ?_ | refine WC.condT rfl ?_ | refine WC.condF rfl ?_ | refine WL.off rfl rfl rfl ?_ | refine WL.off0 rfl rfl ?_ | refine WC.exit ?_ | refine blk_hit ?_ | refine blk_miss rfl ?_ | refine WC.ret ?_)
      refine WC.cond rfl (fun hf => ?_) (fun hf => ?_)
      · have hf : fr (nb g) i = false := by simpa using hf
        repeat (first | refine WC.seq ?_ | refine WC.reg ?_ | refine WL.pure rfl rfl rfl ?_ | refine WL.nil ?_ | refine WC.skip ?_ | refine WC.block ?_ | refine WC.condT rfl ?_ | refine WC.condF rfl ?_ | refine WL.off rfl rfl rfl ?_ | refine WL.off0 rfl rfl ?_ | refine WC.exit ?_ | refine blk_hit ?_ | refine blk_miss rfl ?_ | refine WC.ret ?_)
        refine ⟨(i + 1, best, a, c), by show 2 ^ g.length - (i + 1) < 2 ^ g.length - i; omega, ⟨rfl, rfl, rfl, congrArg (fun z => some (Value.int .i64 z)) step, rfl⟩, by omega, ?_, hp4⟩
        rw [clR_succ, ← hbest, clStep, hf]; rfl
      have hf : fr (nb g) i = true := by simpa using hf
      repeat (first | refine WC.seq ?_ | refine WC.reg ?_ | refine WL.pure rfl rfl rfl ?_ | refine WL.nil ?_ | refine WC.skip ?_ | refine WC.block ?_ | refine WC.condT rfl ?_ | refine WC.condF rfl ?_ | refine WL.off rfl rfl rfl ?_ | refine WL.off0 rfl rfl ?_ | refine WC.exit ?_ | refine blk_hit ?_ | refine blk_miss rfl ?_ | refine WC.ret ?_)
      refine WL.call rfl rfl rfl rfl rfl ent45 (listed_any i (by omega) w4 (hT.below hp4.below)) ?_
      rintro _ w5 ⟨a5, c5, rfl, hp5⟩
      have hp5 := hp4.comb hp5
      have hlen5 : (ints (els i)).length = (els i).length := by simp [ints]
      rw [hlen5] at hp5 ⊢
      have hel := els_le i
      have yes : (best.length < (els i).length ∨ (els i).length = best.length ∧ cmpL (els i) best < 0) → els i = clR (nb g) (i + 1) := by
        intro h; rw [clR_succ, ← hbest, clStep, if_pos hf, if_pos h]
      have no : ¬ (best.length < (els i).length ∨ (els i).length = best.length ∧ cmpL (els i) best < 0) → best = clR (nb g) (i + 1) := by
        intro h; rw [clR_succ, ← hbest, clStep, if_pos hf, if_neg h]
      repeat (first | refine WC.seq ?_ | refine WC.reg ?_ | refine WL.pure rfl rfl rfl ?_ | refine WL.nil ?_ | refine WC.skip ?_ | refine WC.block ?_ | refine WC.condT rfl ?_ | refine WC.condF rfl ?_ | refine WL.off rfl rfl rfl ?_ | refine WL.off0 rfl rfl ?_ | refine WC.exit ?_ | refine blk_hit ?_ | refine blk_miss rfl ?_ | refine WC.ret ?_)
      refine WL.split 38 rfl (fun h1 => ?_) (fun h1 => ?_)
      · have h1 : best.length < (els i).length := by have := of_decide_eq_true h1; omega
        repeat (first | refine WC.seq ?_ | refine WC.reg ?_ | refine WL.pure rfl rfl rfl ?_ | refine WL.nil ?_ | refine WC.skip ?_ | refine WC.block ?_ | refine WC.condT rfl ?_ | refine WC.condF rfl ?_ | refine WL.off rfl rfl rfl ?_ | refine WL.off0 rfl rfl ?_ | refine WC.exit ?_ | refine blk_hit ?_ | refine blk_miss rfl ?_ | refine WC.ret ?_)
        exact ⟨(i + 1, els i, a5, c5), by show 2 ^ g.length - (i + 1) < 2 ^ g.length - i; omega, ⟨rfl, rfl, rfl, congrArg (fun z => some (Value.int .i64 z)) step, rfl⟩, by omega, yes (.inl h1), hp5.pick [0, 2] (by decide)⟩
      have h1 : ¬ best.length < (els i).length := by have := of_decide_eq_false h1; omega
      repeat (first | refine WC.seq ?_ | refine WC.reg ?_ | refine WL.pure rfl rfl rfl ?_ | refine WL.nil ?_ | refine WC.skip ?_ | refine WC.block ?_ | refine WC.condT rfl ?_ | refine WC.condF rfl ?_ | refine WL.off rfl rfl rfl ?_ | refine WL.off0 rfl rfl ?_ | refine WC.exit ?_ | refine blk_hit ?_ | refine blk_miss rfl ?_ | refine WC.ret ?_)
      refine WL.split 44 rfl (fun h2 => ?_) (fun h2 => ?_)
      · have h2 : (els i).length = best.length := by simp at h2; omega
        repeat (first | refine WC.seq ?_ | refine WC.reg ?_ | refine WL.pure rfl rfl rfl ?_ | refine WL.nil ?_ | refine WC.skip ?_ | refine WC.block ?_ | refine WC.condT rfl ?_ | refine WC.condF rfl ?_ | refine WL.off rfl rfl rfl ?_ | refine WL.off0 rfl rfl ?_ | refine WC.exit ?_ | refine blk_hit ?_ | refine blk_miss rfl ?_ | refine WC.ret ?_)
        refine WL.callP rfl rfl rfl rfl rfl ent46 (compare_any a5 a c5 c (els i) best w5 (Sl.of_row (hp5.at 0 rfl)) (Sl.of_row (hp5.at 1 rfl)) (by omega)) ?_
        repeat (first | refine WC.seq ?_ | refine WC.reg ?_ | refine WL.pure rfl rfl rfl ?_ | refine WL.nil ?_ | refine WC.skip ?_ | refine WC.block ?_ | refine WC.condT rfl ?_ | refine WC.condF rfl ?_ | refine WL.off rfl rfl rfl ?_ | refine WL.off0 rfl rfl ?_ | refine WC.exit ?_ | refine blk_hit ?_ | refine blk_miss rfl ?_ | refine WC.ret ?_)
        refine WC.cond rfl (fun h3 => ?_) (fun h3 => ?_)
        · have h3 : cmpL (els i) best < 0 := of_decide_eq_true h3
          repeat (first | refine WC.seq ?_ | refine WC.reg ?_ | refine WL.pure rfl rfl rfl ?_ | refine WL.nil ?_ | refine WC.skip ?_ | refine WC.block ?_ | refine WC.condT rfl ?_ | refine WC.condF rfl ?_ | refine WL.off rfl rfl rfl ?_ | refine WL.off0 rfl rfl ?_ | refine WC.exit ?_ | refine blk_hit ?_ | refine blk_miss rfl ?_ | refine WC.ret ?_)
          exact ⟨(i + 1, els i, a5, c5), by show 2 ^ g.length - (i + 1) < 2 ^ g.length - i; omega, ⟨rfl, rfl, rfl, congrArg (fun z => some (Value.int .i64 z)) step, rfl⟩, by omega, yes (.inr ⟨h2, h3⟩), hp5.pick [0, 2] (by decide)⟩
        · have h3 : ¬ cmpL (els i) best < 0 := of_decide_eq_false h3
          repeat (first | refine WC.seq ?_ | refine WC.reg ?_ | refine WL.pure rfl rfl rfl ?_ | refine WL.nil ?_ | refine WC.skip ?_ | refine WC.block ?_ | refine WC.condT rfl ?_ | refine WC.condF rfl ?_ | refine WL.off rfl rfl rfl ?_ | refine WL.off0 rfl rfl ?_ | refine WC.exit ?_ | refine blk_hit ?_ | refine blk_miss rfl ?_ | refine WC.ret ?_)
          exact ⟨(i + 1, best, a, c), by show 2 ^ g.length - (i + 1) < 2 ^ g.length - i; omega, ⟨rfl, rfl, rfl, congrArg (fun z => some (Value.int .i64 z)) step, rfl⟩, by omega, no (fun h => h.elim h1 (fun h => h3 h.2)), hp5.tail⟩
      · have h2 : (els i).length ≠ best.length := by simp at h2; omega
        repeat (first | refine WC.seq ?_ | refine WC.reg ?_ | refine WL.pure rfl rfl rfl ?_ | refine WL.nil ?_ | refine WC.skip ?_ | refine WC.block ?_ | refine WC.condT rfl ?_ | refine WC.condF rfl ?_ | refine WL.off rfl rfl rfl ?_ | refine WL.off0 rfl rfl ?_ | refine WC.exit ?_ | refine blk_hit ?_ | refine blk_miss rfl ?_ | refine WC.ret ?_)
        exact ⟨(i + 1, best, a, c), by show 2 ^ g.length - (i + 1) < 2 ^ g.length - i; omega, ⟨rfl, rfl, rfl, congrArg (fun z => some (Value.int .i64 z)) step, rfl⟩, by omega, no (fun h => h.elim h1 (fun h => h2 h.1)), hp5.tail⟩
    · have hi : i = 2 ^ g.length := by have := of_decide_eq_false hc; omega
      subst hi
      repeat (first | refine WC.seq ?_ | refine WC.reg ?_ | refine WL.pure rfl rfl rfl ?_ | refine WL.nil ?_ | refine WC.skip ?_ | refine WC.block ?_ | refine WC.condT rfl ?_ | refine WC.condF rfl ?_ | refine WL.off rfl rfl rfl ?_ | refine WL.off0 rfl rfl ?_ | refine WC.exit ?_ | refine blk_hit ?_ | refine blk_miss rfl ?_ | refine WC.ret ?_)
      refine Res.two rfl rfl rfl rfl ?_
      unfold ClIs
      rw [hmk]
      subst hbest
      exact ⟨a, c, hp4.pick [0] (by decide), rfl⟩
end Go.Proofs.YtdnkkflpgebfbaaDoor

/- The walk of 'parted'. -/
namespace Go.Proofs.YtdnkkflpgebfbaaDoor
open Go.W Go.Tree
set_option maxRecDepth 100000
attribute [local irreducible] WC WL WQ WS

theorem Hp.rot {w0 w : World} (A B C : List Ent) (h : Hp w0 w (A ++ (B ++ C))) : Hp w0 w (B ++ (A ++ C)) := by
  have p := List.perm_append_comm_assoc A B C
  exact ⟨h.below, fun x hx => h.sat x (p.mem_iff.2 hx), (p.pairwise_iff (fun {a b} h => Apart.symm h)).1 h.dist⟩

def clsV (xs : List Int) : Value := .agg (zs xs).toArray
theorem zs_at {xs : List Int} {i : Nat} (h : i < xs.length) : (zs xs).toArray[i]? = some (.int .i64 (xs.getD i 0)) := by
  simp [zs, h]
theorem clsV_one {xs : List Int} : ∀ v ∈ ((zs xs).toArray).toList, v.oneCell' = true := by
  intro v hv
  simp only [zs, List.mem_map] at hv
  obtain ⟨x, _, rfl⟩ := hv
  rfl

theorem cls_size' (free : Nat → Bool) (S : Nat) : (zs (cls free S)).toArray.size = 15 := by simp [zs, cls_len]
theorem cls_size (free : Nat → Bool) (S : Nat) : (clsV (cls free S)).cells.size = 15 := cls_size' free S
theorem store_all {arr vs : Array Value} {m : Nat} (h : vs.size = m) (h2 : arr.size = m := by rfl) : (arr.toList.take 0 ++ vs.toList ++ arr.toList.drop (0 + vs.size)).toArray = vs := by
  rw [List.take_zero, List.nil_append, Nat.zero_add, h, List.drop_eq_nil_of_le (by simp [h2]), List.append_nil]

section
variable (w0 : World) (p : Nat → Nat → Bool) (n bm b4 b3 b5 bf : Nat)
def core (es : Array MapEntry) (c : Nat) : List Ent :=
  [.blk bm (.map es c), .blk b4 (.cells #[.map (some bm)] 98 (0, 0)), .blk b3 (.cells #[.slice (some ⟨bf, 0, none⟩) (2 ^ n) (2 ^ n)] 74 (0, 0)),
   .blk b5 (.cells #[.func (.func 63) #[] #[.pointer (some ⟨b4, 0, none⟩), .pointer (some ⟨b3, 0, none⟩), .pointer (some ⟨b5, 0, none⟩)]] 99 (0, 0)),
   .blk bf (.cells (bls (frRow p n (2 ^ n))).toArray 4 (0, 0))]
def VV (S : Nat) : Value := clsV (cls (fr p) S)

theorem part1_any (hn : n ≤ 14) : ∀ (S : Nat), S < 2 ^ n → ∀ (LF : List Ent) (es : Array MapEntry) (c : Nat) (w : World), Hp w0 w (core p n bm b4 b3 b5 bf es c ++ LF) → MapOK (VV p) es → Has es 0 →
    Ret Tryd.prog 63 [.int .i64 S, .pointer (some ⟨b4, 0, none⟩), .pointer (some ⟨b3, 0, none⟩), .pointer (some ⟨b5, 0, none⟩)] w fun v w' =>
      v = clsV (cls (fr p) S) ∧ ∃ es' c', MapOK (VV p) es' ∧ Has es' 0 ∧ Hp w0 w' (core p n bm b4 b3 b5 bf es' c' ++ LF) := by
  have hp14 : 2 ^ n ≤ 2 ^ 14 := Nat.pow_le_pow_right (by decide) hn
  intro S
  induction S using Nat.strongRecOn with
  | _ S ih =>
  intro hS LF es c w hp hok hz
  have hS14 : S < 16384 := by omega
  refine enter Tryd.func63 rfl rfl ⟨rfl, rfl⟩ rfl ?_
  repeat (first | refine WC.seq ?_ | refine WC.reg ?_ | refine WL.pure rfl rfl rfl ?_ | refine WL.nil ?_ | refine WC.skip ?_ | refine WC.block ?_ | refine WC.condT rfl ?_ | refine WC.condF rfl ?_ | refine WL.off rfl rfl rfl ?_ | refine WL.off0 rfl rfl ?_ | refine WC.exit ?_ | refine blk_hit ?_ | refine blk_miss rfl ?_ | refine WC.ret ?_)
  refine WL.alloc rfl rfl rfl ?_
  intro bo w1 hbo
  have hp1 := hp.new hbo
  repeat (first | refine WC.seq ?_ | refine WC.reg ?_ | refine WL.pure rfl rfl rfl ?_ | refine WL.nil ?_ | refine WC.skip ?_ | refine WC.block ?_ | refine WC.condT rfl ?_ | refine WC.condF rfl ?_ | refine WL.off rfl rfl rfl ?_ | refine WL.off0 rfl rfl ?_ | refine WC.exit ?_ | refine blk_hit ?_ | refine blk_miss rfl ?_ | refine WC.ret ?_)
  refine WL.loadB rfl rfl rfl rfl rfl (hp1.obj 2 rfl) rfl ?_
  repeat (first | refine WC.seq ?_ | refine WC.reg ?_ | refine WL.pure rfl rfl rfl ?_ | refine WL.nil ?_ | refine WC.skip ?_ | refine WC.block ?_ | refine WC.condT rfl ?_ | refine WC.condF rfl ?_ | refine WL.off rfl rfl rfl ?_ | refine WL.off0 rfl rfl ?_ | refine WC.exit ?_ | refine blk_hit ?_ | refine blk_miss rfl ?_ | refine WC.ret ?_)
  refine WL.lookup (V := VV p) rfl rfl rfl rfl rfl rfl rfl rfl (hp1.obj 1 rfl) hok ?_ (fun hno => ?_)
  · repeat (first | refine WC.seq ?_ | refine WC.reg ?_ | refine WL.pure rfl rfl rfl ?_ | refine WL.nil ?_ | refine WC.skip ?_ | refine WC.block ?_ | refine WC.condT rfl ?_ | refine WC.condF rfl ?_ | refine WL.off rfl rfl rfl ?_ | refine WL.off0 rfl rfl ?_ | refine WC.exit ?_ | refine blk_hit ?_ | refine blk_miss rfl ?_ | refine WC.ret ?_)
    refine WL.var (v := VV p S) rfl rfl rfl (fun _ => rfl) (cls_size _ _) rfl clsV_one ?_
    intro b6 w2 hb6
    have hp2 := hp1.new hb6
    repeat (first | refine WC.seq ?_ | refine WC.reg ?_ | refine WL.pure rfl rfl rfl ?_ | refine WL.nil ?_ | refine WC.skip ?_ | refine WC.block ?_ | refine WC.condT rfl ?_ | refine WC.condF rfl ?_ | refine WL.off rfl rfl rfl ?_ | refine WL.off0 rfl rfl ?_ | refine WC.exit ?_ | refine blk_hit ?_ | refine blk_miss rfl ?_ | refine WC.ret ?_)
    refine WL.loadN (cs := zs (cls (fr p) S)) rfl rfl rfl rfl rfl (by rw [zs_len, cls_len]; rfl) (fun j v hj => cell_of_obj (hp2.obj 0 rfl) (by rw [Nat.zero_add]; simpa [VV, clsV, Value.cells] using hj)) ?_
    refine WL.storeN rfl rfl rfl rfl (cls_size _ _) clsV_one (hp2.obj 1 rfl) (by rw [cls_size' (fr p) S]; exact Nat.le_refl 15) (store_all (cls_size' (fr p) S)) (fun w3 hw3 => ?_)
    have hp3 := hp2.set 1 rfl rfl hw3
    repeat (first | refine WC.seq ?_ | refine WC.reg ?_ | refine WL.pure rfl rfl rfl ?_ | refine WL.nil ?_ | refine WC.skip ?_ | refine WC.block ?_ | refine WC.condT rfl ?_ | refine WC.condF rfl ?_ | refine WL.off rfl rfl rfl ?_ | refine WL.off0 rfl rfl ?_ | refine WC.exit ?_ | refine blk_hit ?_ | refine blk_miss rfl ?_ | refine WC.ret ?_)
    exact Res.cell rfl rfl rfl rfl (cls_size _ _) rfl (hp3.obj 1 rfl) ⟨rfl, es, c, hok, hz, hp3.tail.tail⟩
  have h0 : S ≠ 0 := by intro h; subst h; exact hno hz
  have hneg := neg_and h0 hS14
  have hlow : 2 ^ tz S < 2 ^ n := Nat.pow_lt_pow_right (by decide) (lt_of_testBit hS (tz_spec h0 (by omega)).1)
  have hrst := rst_lt h0 hS14
  have e10 : bits .andNot .i64 (S : Int) (bits .and .i64 (S : Int) (IntKind.i64.wrap (0 - (S : Int)))) = ((rst S : Nat) : Int) := by
    rw [hneg, andNot_i64 (by omega) (by omega)]; rfl
  repeat (first | refine WC.seq ?_ | refine WC.reg ?_ | refine WL.pure rfl rfl rfl ?_ | refine WL.nil ?_ | refine WC.skip ?_ | refine WC.block ?_ | refine WC.condT rfl ?_ | refine WC.condF rfl ?_ | refine WL.off rfl rfl rfl ?_ | refine WL.off0 rfl rfl ?_ | refine WC.exit ?_ | refine blk_hit ?_ | refine blk_miss rfl ?_ | refine WC.ret ?_)
  refine WL.var rfl rfl rfl (fun _ => rfl) rfl rfl (by decide) ?_
  intro b6 w2 hb6
  have hp2 := hp1.new hb6
  repeat (first | refine WC.seq ?_ | refine WC.reg ?_ | refine WL.pure rfl rfl rfl ?_ | refine WL.nil ?_ | refine WC.skip ?_ | refine WC.block ?_ | refine WC.condT rfl ?_ | refine WC.condF rfl ?_ | refine WL.off rfl rfl rfl ?_ | refine WL.off0 rfl rfl ?_ | refine WC.exit ?_ | refine blk_hit ?_ | refine blk_miss rfl ?_ | refine WC.ret ?_)
  refine WL.alloc rfl rfl rfl ?_
  intro b8 w3 hb8
  have hp3 := hp2.new hb8
  repeat (first | refine WC.seq ?_ | refine WC.reg ?_ | refine WL.pure rfl rfl rfl ?_ | refine WL.nil ?_ | refine WC.skip ?_ | refine WC.block ?_ | refine WC.condT rfl ?_ | refine WC.condF rfl ?_ | refine WL.off rfl rfl rfl ?_ | refine WL.off0 rfl rfl ?_ | refine WC.exit ?_ | refine blk_hit ?_ | refine blk_miss rfl ?_ | refine WC.ret ?_)
  refine WC.loop (Nat × List Int × Array MapEntry × Nat) (fun (part, out, es, c) => [(0, .int .i64 (S : Nat)), (1, .pointer (some ⟨b4, 0, none⟩)), (2, .pointer (some ⟨b3, 0, none⟩)), (3, .pointer (some ⟨b5, 0, none⟩)), (5, .pointer (some ⟨bo, 0, none⟩)), (8, .pointer (some ⟨b8, 0, none⟩)),
      (9, .int .i64 (low S : Nat)), (10, .int .i64 (rst S : Nat)), (11, .int .i64 (part : Nat))])
    (fun (part, out, es, c) w' => part < 2 ^ n ∧ out.length = 15 ∧ cls (fr p) S = (subsR (rst S) part).foldl (clStepF (fr p) S (cls (fr p))) out ∧ MapOK (VV p) es ∧ Has es 0 ∧
      Hp w0 w' (.blk b8 (.cells (zs out).toArray 72 (0, 0)) :: .blk b6 (.cells ti72.zero.cells 72 (0, 0)) :: .blk bo (.cells ti72.zero.cells 72 (0, 0)) :: (core p n bm b4 b3 b5 bf es c ++ LF)))
    (fun (part, _, _, _) => part) (rst S, zero15, es, c)
    ⟨rfl, rfl, rfl, rfl, rfl, rfl, congrArg (fun z => some (Value.int .i64 z)) hneg, congrArg (fun z => some (Value.int .i64 z)) e10, congrArg (fun z => some (Value.int .i64 z)) e10, rfl⟩ ⟨by omega, rfl, cls_eq h0 hS14, hok, hz, hp3⟩ ?_
  rintro ⟨part, out, es1, c1⟩ w4 ⟨hpart, hout, hcls, hok1, hz1, hp4⟩
  have hidx : part ||| low S < 2 ^ n := Nat.or_lt_two_pow hpart hlow
  have elow : low S < 2 ^ n := hlow
  have e37 : bits .or .i64 (part : Int) ((low S : Nat) : Int) = ((part ||| low S : Nat) : Int) := or_i64 (by omega) (by omega)
  repeat (first | refine WC.seq ?_ | refine WC.reg ?_ | refine WL.pure rfl rfl rfl ?_ | refine WL.nil ?_ | refine WC.skip ?_ | refine WC.block ?_ | refine WC.condT rfl ?_ | refine WC.condF rfl ?_ | refine WL.off rfl rfl rfl ?_ | refine WL.off0 rfl rfl ?_ | refine WC.exit ?_ | refine blk_hit ?_ | refine blk_miss rfl ?_ | refine WC.ret ?_)
  refine WL.loadB rfl rfl rfl rfl rfl (hp4.obj 5 rfl) rfl ?_
  repeat (first | refine WC.seq ?_ | refine WC.reg ?_ | refine WL.pure rfl rfl rfl ?_ | refine WL.nil ?_ | refine WC.skip ?_ | refine WC.block ?_ | refine WC.condT rfl ?_ | refine WC.condF rfl ?_ | refine WL.off rfl rfl rfl ?_ | refine WL.off0 rfl rfl ?_ | refine WC.exit ?_ | refine blk_hit ?_ | refine blk_miss rfl ?_ | refine WC.ret ?_)
  refine WL.known (d := 37) (congrArg (fun z => some (Value.int .i64 z)) e37) ?_
  refine WL.ixload rfl (fun _ => rfl) rfl rfl rfl rfl rfl rfl rfl hidx rfl rfl (Sl.of_obj (hp4.obj 7 rfl) (cs := bls (frRow p n (2 ^ n))) (fun i u h => by simpa using h)) (v := .bool (fr p (part ||| low S))) (frRow_at hidx hidx) ?_
  intro p2
  repeat (first | refine WC.seq ?_ | refine WC.reg ?_ | refine WL.pure rfl rfl rfl ?_ | refine WL.nil ?_ | refine WC.skip ?_ | refine WC.block ?_ | refine WC.condT rfl ?_ | refine WC.condF rfl ?_ | refine WL.off rfl rfl rfl ?_ | refine WL.off0 rfl rfl ?_ | refine WC.exit ?_ | refine blk_hit ?_ | refine blk_miss rfl ?_ | refine WC.ret ?_)
  have hbd : bd (rst S) part < S := Nat.lt_of_le_of_lt (bd_le _ _) hrst
  refine WC.mid (List Int × Array MapEntry × Nat) (fun _ => [(0, .int .i64 (S : Nat)), (1, .pointer (some ⟨b4, 0, none⟩)), (2, .pointer (some ⟨b3, 0, none⟩)), (3, .pointer (some ⟨b5, 0, none⟩)), (5, .pointer (some ⟨bo, 0, none⟩)), (8, .pointer (some ⟨b8, 0, none⟩)),
      (9, .int .i64 (low S : Nat)), (10, .int .i64 (rst S : Nat)), (11, .int .i64 (part : Nat))])
    (fun (out', es, c) w' => out' = clStepF (fr p) S (cls (fr p)) out part ∧ MapOK (VV p) es ∧ Has es 0 ∧
      Hp w0 w' (.blk b8 (.cells (zs out').toArray 72 (0, 0)) :: .blk b6 (.cells ti72.zero.cells 72 (0, 0)) :: .blk bo (.cells ti72.zero.cells 72 (0, 0)) :: (core p n bm b4 b3 b5 bf es c ++ LF))) ?_ ?_
  · refine WC.cond rfl (fun hf => ?_) (fun hf => ?_)
    · repeat (first | refine WC.seq ?_ | refine WC.reg ?_ | refine WL.pure rfl rfl rfl ?_ | refine WL.nil ?_ | refine WC.skip ?_ | refine WC.block ?_ | refine WC.condT rfl ?_ | refine WC.condF rfl ?_ | refine WL.off rfl rfl rfl ?_ | refine WL.off0 rfl rfl ?_ | refine WC.exit ?_ | refine blk_hit ?_ | refine blk_miss rfl ?_ | refine WC.ret ?_)
      refine WL.loadB rfl rfl rfl rfl rfl (hp4.obj 6 rfl) rfl ?_
      repeat (first | refine WC.seq ?_ | refine WC.reg ?_ | refine WL.pure rfl rfl rfl ?_ | refine WL.nil ?_ | refine WC.skip ?_ | refine WC.block ?_ | refine WC.condT rfl ?_ | refine WC.condF rfl ?_ | refine WL.off rfl rfl rfl ?_ | refine WL.off0 rfl rfl ?_ | refine WC.exit ?_ | refine blk_hit ?_ | refine blk_miss rfl ?_ | refine WC.ret ?_)
      have e43 : bits .andNot .i64 ((rst S : Nat) : Int) (part : Int) = ((bd (rst S) part : Nat) : Int) := andNot_i64 (by omega) (by omega)
      refine WL.known (d := 43) (congrArg (fun z => some (Value.int .i64 z)) e43) ?_
      refine WL.call rfl rfl rfl rfl rfl ent63 (ih _ hbd (by omega) (.blk b8 (.cells (zs out).toArray 72 (0, 0)) :: .blk b6 (.cells ti72.zero.cells 72 (0, 0)) :: .blk bo (.cells ti72.zero.cells 72 (0, 0)) :: LF) es1 c1 w4 (Hp.rot [_, _, _] (core p n bm b4 b3 b5 bf es1 c1) LF hp4) hok1 hz1) ?_
      rintro _ w5 ⟨rfl, es2, c2, hok2, hz2, hp5⟩
      have hp5 := Hp.rot (core p n bm b4 b3 b5 bf es2 c2) [_, _, _] LF hp5
      have htop : ∀ k, 0 < (cls (fr p) (bd (rst S) part)).getD k 0 → k + 1 < 15 := by
        intro k hk
        have h1 := cls_top (by omega) hk
        have h2 := card_rst h0 hS14
        have h3 := card_sub (rst S) part
        have h4 : card S ≤ 14 := card_le (by decide) hS14
        omega
      have hcl := cls_len (fr p) (bd (rst S) part)
      have hcs : clStepF (fr p) S (cls (fr p)) out part = addP out (cls (fr p) (bd (rst S) part)) 15 := by
        rw [clStepF, if_pos hf]; rfl
      generalize cls (fr p) (bd (rst S) part) = cc at *
      repeat (first | refine WC.seq ?_ | refine WC.reg ?_ | refine WL.pure rfl rfl rfl ?_ | refine WL.nil ?_ | refine WC.skip ?_ | refine WC.block ?_ | refine WC.condT rfl ?_ | refine WC.condF rfl ?_ | refine WL.off rfl rfl rfl ?_ | refine WL.off0 rfl rfl ?_ | refine WC.exit ?_ | refine blk_hit ?_ | refine blk_miss rfl ?_ | refine WC.ret ?_)
      refine WC.loop (Nat × List Int) (fun (k, o) => [(0, .int .i64 (S : Nat)), (1, .pointer (some ⟨b4, 0, none⟩)), (2, .pointer (some ⟨b3, 0, none⟩)), (3, .pointer (some ⟨b5, 0, none⟩)), (5, .pointer (some ⟨bo, 0, none⟩)), (8, .pointer (some ⟨b8, 0, none⟩)),
          (9, .int .i64 (low S : Nat)), (10, .int .i64 (rst S : Nat)), (11, .int .i64 (part : Nat)), (44, clsV cc), (45, .int .i64 (k : Nat))])
        (fun (k, o) w' => k ≤ 15 ∧ o = addP out cc k ∧
          Hp w0 w' (.blk b8 (.cells (zs o).toArray 72 (0, 0)) :: .blk b6 (.cells ti72.zero.cells 72 (0, 0)) :: .blk bo (.cells ti72.zero.cells 72 (0, 0)) :: (core p n bm b4 b3 b5 bf es2 c2 ++ LF)))
        (fun (k, _) => 15 - k) (0, out) ⟨rfl, rfl, rfl, rfl, rfl, rfl, rfl, rfl, rfl, rfl, rfl, rfl⟩ ⟨by omega, rfl, hp5⟩ ?_
      rintro ⟨k, o⟩ w6 ⟨hk, ho, hp6⟩
      have hol : o.length = 15 := by rw [ho, addP_len, hout]
      repeat (first | refine WC.seq ?_ | refine WC.reg ?_ | refine WL.pure rfl rfl rfl ?_ | refine WL.nil ?_ | refine WC.skip ?_ | refine WC.block ?_ | refine WC.condT rfl ?_ | refine WC.condF rfl ?_ | refine WL.off rfl rfl rfl ?_ | refine WL.off0 rfl rfl ?_ | refine WC.exit ?_ | refine blk_hit ?_ | refine blk_miss rfl ?_ | refine WC.ret ?_)
      refine WC.cond rfl (fun hc => ?_) (fun hc => ?_)
      · have hk : k < 15 := by have := of_decide_eq_true hc; omega
        have step : IntKind.i64.wrap ((k : Int) + 1) = ((k + 1 : Nat) : Int) := by rw [wrap_i64_in (by omega) (by omega)]; omega
        repeat (first | refine WC.seq ?_ | refine WC.reg ?_ | refine WL.pure rfl rfl rfl ?_ | refine WL.nil ?_ | refine WC.skip ?_ | refine WC.block ?_ | refine WC.condT rfl ?_ | refine WC.condF rfl ?_ | refine WL.off rfl rfl rfl ?_ | refine WL.off0 rfl rfl ?_ | refine WC.exit ?_ | refine blk_hit ?_ | refine blk_miss rfl ?_ | refine WC.ret ?_)
        refine WL.ixV rfl rfl rfl rfl rfl rfl rfl rfl hk (zs_at (by omega)) ?_
        repeat (first | refine WC.seq ?_ | refine WC.reg ?_ | refine WL.pure rfl rfl rfl ?_ | refine WL.nil ?_ | refine WC.skip ?_ | refine WC.block ?_ | refine WC.condT rfl ?_ | refine WC.condF rfl ?_ | refine WL.off rfl rfl rfl ?_ | refine WL.off0 rfl rfl ?_ | refine WC.exit ?_ | refine blk_hit ?_ | refine blk_miss rfl ?_ | refine WC.ret ?_)
        refine WC.cond rfl (fun hpos => ?_) (fun hpos => ?_)
        · have hpos : 0 < cc.getD k 0 := of_decide_eq_true hpos
          have hk1 := htop k hpos
          repeat (first | refine WC.seq ?_ | refine WC.reg ?_ | refine WL.pure rfl rfl rfl ?_ | refine WL.nil ?_ | refine WC.skip ?_ | refine WC.block ?_ | refine WC.condT rfl ?_ | refine WC.condF rfl ?_ | refine WL.off rfl rfl rfl ?_ | refine WL.off0 rfl rfl ?_ | refine WC.exit ?_ | refine blk_hit ?_ | refine blk_miss rfl ?_ | refine WC.ret ?_)
          refine WL.known (d := 52) (congrArg (fun z => some (Value.int .i64 z)) step) ?_
          refine WL.ixA1 rfl rfl rfl rfl rfl rfl rfl hk1 ?_
          refine WL.loadB rfl rfl rfl rfl rfl (hp6.obj 0 rfl) (v := .int .i64 (o.getD (k + 1) 0)) (by rw [nth_eq, Nat.zero_add]; simpa using zs_at (xs := o) (i := k + 1) (by omega)) ?_
          repeat (first | refine WC.seq ?_ | refine WC.reg ?_ | refine WL.pure rfl rfl rfl ?_ | refine WL.nil ?_ | refine WC.skip ?_ | refine WC.block ?_ | refine WC.condT rfl ?_ | refine WC.condF rfl ?_ | refine WL.off rfl rfl rfl ?_ | refine WL.off0 rfl rfl ?_ | refine WC.exit ?_ | refine blk_hit ?_ | refine blk_miss rfl ?_ | refine WC.ret ?_)
          refine WL.ixA1 rfl rfl rfl rfl rfl rfl rfl hk1 ?_
          refine WL.store rfl rfl rfl rfl rfl rfl (hp6.obj 0 rfl) (by simp [zs]; omega) (fun w7 hw7 => ?_)
          rw [Nat.zero_add, zs_set] at hw7
          have hp7 := hp6.set 0 rfl rfl hw7
          repeat (first | refine WC.seq ?_ | refine WC.reg ?_ | refine WL.pure rfl rfl rfl ?_ | refine WL.nil ?_ | refine WC.skip ?_ | refine WC.block ?_ | refine WC.condT rfl ?_ | refine WC.condF rfl ?_ | refine WL.off rfl rfl rfl ?_ | refine WL.off0 rfl rfl ?_ | refine WC.exit ?_ | refine blk_hit ?_ | refine blk_miss rfl ?_ | refine WC.ret ?_)
          refine ⟨(k + 1, addAt o (k + 1) (cc.getD k 0)), by show 15 - (k + 1) < 15 - k; omega, ⟨rfl, rfl, rfl, rfl, rfl, rfl, rfl, rfl, rfl, rfl, congrArg (fun z => some (Value.int .i64 z)) step, rfl⟩, by omega, ?_, hp7⟩
          rw [addP_succ, ← ho, addStep, if_pos hpos]
        · have hpos : ¬ 0 < cc.getD k 0 := of_decide_eq_false hpos
          repeat (first | refine WC.seq ?_ | refine WC.reg ?_ | refine WL.pure rfl rfl rfl ?_ | refine WL.nil ?_ | refine WC.skip ?_ | refine WC.block ?_ | refine WC.condT rfl ?_ | refine WC.condF rfl ?_ | refine WL.off rfl rfl rfl ?_ | refine WL.off0 rfl rfl ?_ | refine WC.exit ?_ | refine blk_hit ?_ | refine blk_miss rfl ?_ | refine WC.ret ?_)
          refine ⟨(k + 1, o), by show 15 - (k + 1) < 15 - k; omega, ⟨rfl, rfl, rfl, rfl, rfl, rfl, rfl, rfl, rfl, rfl, congrArg (fun z => some (Value.int .i64 z)) step, rfl⟩, by omega, ?_, hp6⟩
          rw [addP_succ, ← ho, addStep, if_neg hpos]
      · have hk : k = 15 := by have := of_decide_eq_false hc; omega
        subst hk
        repeat (first | refine WC.seq ?_ | refine WC.reg ?_ | refine WL.pure rfl rfl rfl ?_ | refine WL.nil ?_ | refine WC.skip ?_ | refine WC.block ?_ | refine WC.condT rfl ?_ | refine WC.condF rfl ?_ | refine WL.off rfl rfl rfl ?_ | refine WL.off0 rfl rfl ?_ | refine WC.exit ?_ | refine blk_hit ?_ | refine blk_miss rfl ?_ | refine WC.ret ?_)
        exact ⟨(o, es2, c2), ⟨rfl, rfl, rfl, rfl, rfl, rfl, rfl, rfl, rfl, rfl⟩, by rw [ho, hcs], hok2, hz2, hp6⟩
    · repeat (first | refine WC.seq ?_ | refine WC.reg ?_ | refine WL.pure rfl rfl rfl ?_ | refine WL.nil ?_ | refine WC.skip ?_ | refine WC.block ?_ | refine WC.condT rfl ?_ | refine WC.condF rfl ?_ | refine WL.off rfl rfl rfl ?_ | refine WL.off0 rfl rfl ?_ | refine WC.exit ?_ | refine blk_hit ?_ | refine blk_miss rfl ?_ | refine WC.ret ?_)
      exact ⟨(out, es1, c1), ⟨rfl, rfl, rfl, rfl, rfl, rfl, rfl, rfl, rfl, rfl⟩, by rw [clStepF, if_neg (by rw [hf]; decide)], hok1, hz1, hp4⟩
  · rintro ⟨out', es2, c2⟩ e2 w5 hsub ⟨ho', hok2, hz2, hp5⟩
    refine WC.sub hsub ?_
    repeat (first | refine WC.seq ?_ | refine WC.reg ?_ | refine WL.pure rfl rfl rfl ?_ | refine WL.nil ?_ | refine WC.skip ?_ | refine WC.block ?_ | refine WC.condT rfl ?_ | refine WC.condF rfl ?_ | refine WL.off rfl rfl rfl ?_ | refine WL.off0 rfl rfl ?_ | refine WC.exit ?_ | refine blk_hit ?_ | refine blk_miss rfl ?_ | refine WC.ret ?_)
    refine WC.cond rfl (fun hq => ?_) (fun hq => ?_)
    · have hq : part = 0 := by simpa using hq
      subst hq
      have hfin : cls (fr p) S = out' := by rw [hcls, subsR_zero, ho']; rfl
      have hol : (zs out').toArray.size = 15 := by rw [← hfin]; exact cls_size' _ _
      have hcell : ∀ w' : World, w'.heap[b8]? = some (.cells (zs out').toArray 72 (0, 0)) → ∀ (j : Nat) (v : Value), (zs out')[j]? = some v → w'.cell? ⟨b8, 0 + j, none⟩ = some v :=
        fun w' h j v hj => cell_of_obj h (by rw [Nat.zero_add]; simpa using hj)
      repeat (first | refine WC.seq ?_ | refine WC.reg ?_ | refine WL.pure rfl rfl rfl ?_ | refine WL.nil ?_ | refine WC.skip ?_ | refine WC.block ?_ | refine WC.condT rfl ?_ | refine WC.condF rfl ?_ | refine WL.off rfl rfl rfl ?_ | refine WL.off0 rfl rfl ?_ | refine WC.exit ?_ | refine blk_hit ?_ | refine blk_miss rfl ?_ | refine WC.ret ?_)
      refine WL.loadB rfl rfl rfl rfl rfl (hp5.obj 4 rfl) rfl ?_
      repeat (first | refine WC.seq ?_ | refine WC.reg ?_ | refine WL.pure rfl rfl rfl ?_ | refine WL.nil ?_ | refine WC.skip ?_ | refine WC.block ?_ | refine WC.condT rfl ?_ | refine WC.condF rfl ?_ | refine WL.off rfl rfl rfl ?_ | refine WL.off0 rfl rfl ?_ | refine WC.exit ?_ | refine blk_hit ?_ | refine blk_miss rfl ?_ | refine WC.ret ?_)
      refine WL.loadN (cs := zs out') rfl rfl rfl rfl rfl (show (zs out').length = 15 by simpa using hol) (hcell _ (hp5.obj 0 rfl)) ?_
      refine WL.mapSet (V := VV p) rfl rfl rfl rfl rfl rfl rfl (by rw [VV, hfin]; rfl) (hp5.obj 3 rfl) hok2 (fun es3 c3 w6 hok3 _ hmono hw6 => ?_)
      have hp6 := hp5.set 3 rfl rfl hw6
      repeat (first | refine WC.seq ?_ | refine WC.reg ?_ | refine WL.pure rfl rfl rfl ?_ | refine WL.nil ?_ | refine WC.skip ?_ | refine WC.block ?_ | refine WC.condT rfl ?_ | refine WC.condF rfl ?_ | refine WL.off rfl rfl rfl ?_ | refine WL.off0 rfl rfl ?_ | refine WC.exit ?_ | refine blk_hit ?_ | refine blk_miss rfl ?_ | refine WC.ret ?_)
      refine WL.loadN (cs := zs out') rfl rfl rfl rfl rfl (show (zs out').length = 15 by simpa using hol) (hcell _ (hp6.obj 0 rfl)) ?_
      refine WL.storeN rfl rfl rfl rfl hol clsV_one (hp6.obj 2 rfl) (by rw [hol]; exact Nat.le_refl 15) (store_all hol) (fun w7 hw7 => ?_)
      have hp7 := hp6.set 2 rfl rfl hw7
      repeat (first | refine WC.seq ?_ | refine WC.reg ?_ | refine WL.pure rfl rfl rfl ?_ | refine WL.nil ?_ | refine WC.skip ?_ | refine WC.block ?_ | refine WC.condT rfl ?_ | refine WC.condF rfl ?_ | refine WL.off rfl rfl rfl ?_ | refine WL.off0 rfl rfl ?_ | refine WC.exit ?_ | refine blk_hit ?_ | refine blk_miss rfl ?_ | refine WC.ret ?_)
      exact Res.cell rfl rfl rfl rfl hol rfl (hp7.obj 2 rfl) ⟨by rw [hfin]; rfl, es3, c3, hok3, hmono 0 hz2, hp7.tail.tail.tail⟩
    · have hq : part ≠ 0 := by simpa using hq
      have e33 : bits .and .i64 (IntKind.i64.wrap ((part : Int) - 1)) ((rst S : Nat) : Int) = (((part - 1) &&& rst S : Nat) : Int) := by
        rw [wrap_i64_in (by omega) (by omega), show (part : Int) - 1 = ((part - 1 : Nat) : Int) by omega, and_i64 (by omega) (by omega)]
      have hle : (part - 1) &&& rst S ≤ part - 1 := Nat.and_le_left
      have hlen' : out'.length = 15 := by
        rw [ho', clStepF]
        split
        · rw [addC, addP_len]; exact hout
        · exact hout
      repeat (first | refine WC.seq ?_ | refine WC.reg ?_ | refine WL.pure rfl rfl rfl ?_ | refine WL.nil ?_ | refine WC.skip ?_ | refine WC.block ?_ | refine WC.condT rfl ?_ | refine WC.condF rfl ?_ | refine WL.off rfl rfl rfl ?_ | refine WL.off0 rfl rfl ?_ | refine WC.exit ?_ | refine blk_hit ?_ | refine blk_miss rfl ?_ | refine WC.ret ?_)
      refine ⟨((part - 1) &&& rst S, out', es2, c2), by show (part - 1) &&& rst S < part; omega, ⟨rfl, rfl, rfl, rfl, rfl, rfl, rfl, rfl, congrArg (fun z => some (Value.int .i64 z)) e33, rfl⟩, by omega, hlen', ?_, hok2, hz2, hp5⟩
      rw [hcls, subsR_step hq, List.foldl_cons, ← ho']
end
end Go.Proofs.YtdnkkflpgebfbaaDoor

/- The walks of 'parted' and 'Colour'. -/
namespace Go.Proofs.YtdnkkflpgebfbaaDoor
open Go.W Go.Tree
set_option maxRecDepth 100000
attribute [local irreducible] WC WL WQ WS

theorem full_i64' {n : Nat} (hn : n ≤ 14) : IntKind.i64.wrap (shl .i64 1 n - 1) = (full n : Nat) := by
  have h1 := shl_one (v := n) (by omega)
  have h2 : 2 ^ n ≤ 2 ^ 14 := Nat.pow_le_pow_right (by decide) hn
  have h3 := Nat.two_pow_pos n
  rw [h1, wrap_i64_in (by omega) (by omega)]
  unfold full; omega

theorem parted_any (ga : Option Addr) (cap : Nat) (g : List Nat) (w : World) (hs : Sl w ga (ints g)) (hT : Tb w) (hg : Gr g) :
    Ret Tryd.prog 39 [.slice ga g.length cap] w fun v w' => v = clsV (cls (fr (ap g)) (full g.length)) ∧ Hp w w' [] := by
  have hn := hg.len
  refine enter Tryd.func39 rfl rfl ⟨rfl, rfl⟩ rfl ?_
  repeat (first | refine WC.seq ?_ | refine WC.reg ?_ | refine WL.pure rfl rfl rfl ?_ | refine WL.nil ?_ | refine WC.skip ?_ | refine WC.block ?_ | refine WC.condT rfl ?_ | refine WC.condF rfl ?_ | refine WL.off rfl rfl rfl ?_ | refine WL.off0 rfl rfl ?_ | refine WC.exit ?_ | refine blk_hit ?_ | refine blk_miss rfl ?_ | refine WC.ret ?_)
  refine WL.alloc rfl rfl rfl ?_
  intro bo w1 hbo
  have hp1 := (Hp.start w).new hbo
  repeat (first | refine WC.seq ?_ | refine WC.reg ?_ | refine WL.pure rfl rfl rfl ?_ | refine WL.nil ?_ | refine WC.skip ?_ | refine WC.block ?_ | refine WC.condT rfl ?_ | refine WC.condF rfl ?_ | refine WL.off rfl rfl rfl ?_ | refine WL.off0 rfl rfl ?_ | refine WC.exit ?_ | refine blk_hit ?_ | refine blk_miss rfl ?_ | refine WC.ret ?_)
  refine WL.call rfl rfl rfl rfl rfl ent40 (apart_any ga cap g w1 (hs.hp hp1) (hT.below hp1.below) hg) ?_
  rintro _ w2 ⟨bf, hp2, rfl⟩
  have hp2 := hp1.comb hp2
  refine WL.var rfl rfl rfl (fun _ => rfl) rfl rfl (by intro y hy; simp [Value.cells] at hy; subst hy; rfl) ?_
  intro b3 w3 hb3
  have hp3 := hp2.new hb3
  repeat (first | refine WC.seq ?_ | refine WC.reg ?_ | refine WL.pure rfl rfl rfl ?_ | refine WL.nil ?_ | refine WC.skip ?_ | refine WC.block ?_ | refine WC.condT rfl ?_ | refine WC.condF rfl ?_ | refine WL.off rfl rfl rfl ?_ | refine WL.off0 rfl rfl ?_ | refine WC.exit ?_ | refine blk_hit ?_ | refine blk_miss rfl ?_ | refine WC.ret ?_)
  refine WL.makeMap rfl rfl ?_
  intro bm w4 hbm
  have hp4 := hp3.new hbm
  refine WL.buildA rfl rfl rfl rfl rfl rfl ?_
  refine WL.mapIns (V := VV (ap g)) (S := 0) (es := #[]) rfl rfl rfl rfl rfl rfl rfl (by rw [VV, cls_zero]; rfl) (hp4.obj 0 rfl) (fun x hx => by cases hx) (fun es c w5 hok hz _ hw5 => ?_)
  have hp5 := hp4.set 0 rfl rfl hw5
  repeat (first | refine WC.seq ?_ | refine WC.reg ?_ | refine WL.pure rfl rfl rfl ?_ | refine WL.nil ?_ | refine WC.skip ?_ | refine WC.block ?_ | refine WC.condT rfl ?_ | refine WC.condF rfl ?_ | refine WL.off rfl rfl rfl ?_ | refine WL.off0 rfl rfl ?_ | refine WC.exit ?_ | refine blk_hit ?_ | refine blk_miss rfl ?_ | refine WC.ret ?_)
  refine WL.var rfl rfl rfl (fun _ => rfl) rfl rfl (by intro y hy; simp [Value.cells] at hy; subst hy; rfl) ?_
  intro b4 w6 hb4
  have hp6 := hp5.new hb4
  repeat (first | refine WC.seq ?_ | refine WC.reg ?_ | refine WL.pure rfl rfl rfl ?_ | refine WL.nil ?_ | refine WC.skip ?_ | refine WC.block ?_ | refine WC.condT rfl ?_ | refine WC.condF rfl ?_ | refine WL.off rfl rfl rfl ?_ | refine WL.off0 rfl rfl ?_ | refine WC.exit ?_ | refine blk_hit ?_ | refine blk_miss rfl ?_ | refine WC.ret ?_)
  refine WL.alloc rfl rfl rfl ?_
  intro b5 w7 hb5
  have hp7 := hp6.new hb5
  repeat (first | refine WC.seq ?_ | refine WC.reg ?_ | refine WL.pure rfl rfl rfl ?_ | refine WL.nil ?_ | refine WC.skip ?_ | refine WC.block ?_ | refine WC.condT rfl ?_ | refine WC.condF rfl ?_ | refine WL.off rfl rfl rfl ?_ | refine WL.off0 rfl rfl ?_ | refine WC.exit ?_ | refine blk_hit ?_ | refine blk_miss rfl ?_ | refine WC.ret ?_)
  refine WL.store rfl rfl rfl rfl rfl rfl (hp7.obj 0 rfl) Nat.zero_lt_one (fun w8 hw8 => ?_)
  have hp8 := hp7.set 0 rfl rfl hw8
  repeat (first | refine WC.seq ?_ | refine WC.reg ?_ | refine WL.pure rfl rfl rfl ?_ | refine WL.nil ?_ | refine WC.skip ?_ | refine WC.block ?_ | refine WC.condT rfl ?_ | refine WC.condF rfl ?_ | refine WL.off rfl rfl rfl ?_ | refine WL.off0 rfl rfl ?_ | refine WC.exit ?_ | refine blk_hit ?_ | refine blk_miss rfl ?_ | refine WC.ret ?_)
  refine WC.regS 5 mixed (by kernel_rfl) rfl rfl (fun w9 hw9 hh9 => ?_)
  have hp9 := hp8.keep hw9
  refine WS.loadB rfl rfl rfl rfl rfl (hp9.obj 0 rfl) rfl ?_
  repeat (first | refine WS.pure rfl rfl rfl ?_ | refine WS.off rfl rfl rfl ?_ | refine WS.nil ?_)
  refine WL.known (d := 16) (congrArg (fun z => some (Value.int .i64 z)) (full_i64' hn)) ?_
  refine WL.call rfl rfl rfl rfl rfl ent63 (part1_any w (ap g) g.length bm b4 b3 b5 bf hn (full g.length) (full_lt _) [.blk bo _] es c w9 (hp9.pick [2, 1, 3, 0, 4, 5] (by decide)) hok hz) ?_
  rintro _ wa ⟨rfl, es', c', hok', hz', hpa⟩
  refine WL.storeN rfl rfl rfl rfl (cls_size _ _) clsV_one (hpa.obj 5 rfl) (by rw [cls_size' _ _]; exact Nat.le_refl 15) (store_all (cls_size' _ _)) (fun wb hwb => ?_)
  have hpb := hpa.set 5 rfl rfl hwb
  repeat (first | refine WC.seq ?_ | refine WC.reg ?_ | refine WL.pure rfl rfl rfl ?_ | refine WL.nil ?_ | refine WC.skip ?_ | refine WC.block ?_ | refine WC.condT rfl ?_ | refine WC.condF rfl ?_ | refine WL.off rfl rfl rfl ?_ | refine WL.off0 rfl rfl ?_ | refine WC.exit ?_ | refine blk_hit ?_ | refine blk_miss rfl ?_ | refine WC.ret ?_)
  exact Res.cell rfl rfl rfl rfl (cls_size _ _) rfl (hpb.obj 5 rfl) ⟨rfl, hpb.nil'⟩

/-- What 'Colour' hands back. -/
def colV (n : Int) (es : List Ed) (k : Int) : Value := match mkG n es with
  | none => .tuple #[.int .i64 0, .int .i64 2]
  | some g => if k < 0 ∨ 8 < k then .tuple #[.int .i64 0, .int .i64 2] else .tuple #[.int .i64 (colP (cls (fr (ap g)) (full g.length)) k 15), .int .i64 0]

theorem Colour_any (ea : Option Addr) (cap : Nat) (n : Int) (es : List Ed) (k : Int) (w : World) (hs : Sl w ea (prs es)) (hlen : es.length ≤ 4611686018427387904) (hT : Tb w) :
    Ret Tryd.prog 14 [.int .i64 n, .slice ea es.length cap, .int .i64 k] w fun v w' => Hp w w' [] ∧ v = colV n es k := by
  refine enter Tryd.func14 rfl rfl ⟨rfl, rfl⟩ rfl ?_
  repeat (first | refine WC.seq ?_ | refine WC.reg ?_ | refine WL.pure rfl rfl rfl ?_ | refine WL.nil ?_ | refine WC.skip ?_ | refine WC.block ?_ | refine WC.condT rfl ?_ | refine WC.condF rfl ?_ | refine WL.off rfl rfl rfl ?_ | refine WL.off0 rfl rfl ?_ | refine WC.exit ?_ | refine blk_hit ?_ | refine blk_miss rfl ?_ | refine WC.ret ?_)
  refine WL.call rfl rfl rfl rfl rfl ent38 (newGraph_any ea cap n es w hs hlen) ?_
  intro v1 w1 hG
  cases hmk : mkG n es with
  | none =>
    obtain ⟨hp1, rfl⟩ := graph_none hG hmk
    repeat (first | refine WC.seq ?_ | refine WC.reg ?_ | refine WL.pure rfl rfl rfl ?_ | refine WL.nil ?_ | refine WC.skip ?_ | refine WC.block ?_ | refine WC.condT rfl ?_ | refine WC.condF rfl ?_ | refine WL.off rfl rfl rfl ?_ | refine WL.off0 rfl rfl ?_ | refine WC.exit ?_ | refine blk_hit ?_ | refine blk_miss rfl ?_ | refine WC.ret ?_)
    exact Res.two rfl rfl rfl rfl ⟨hp1, by rw [colV, hmk]⟩
  | some g =>
    obtain ⟨hg, _, _, _, _⟩ := mkG_gr hmk
    obtain ⟨bg, hp1, rfl⟩ := graph_hp hG hmk
    repeat (first | refine WC.seq ?_ | refine WC.reg ?_ | refine WL.pure rfl rfl rfl ?_ | refine WL.nil ?_ | refine WC.skip ?_ | refine WC.block ?_ | refine WC.condT rfl ?_ | refine WC.condF rfl ?_ | refine WL.off rfl rfl rfl ?_ | refine WL.off0 rfl rfl ?_ | refine WC.exit ?_ | refine blk_hit ?_ | refine blk_miss rfl ?_ | refine WC.ret ?_)
    refine WL.split 26 rfl (fun h1 => ?_) (fun h1 => ?_)
    · have h1 : k < 0 := of_decide_eq_true h1
      repeat (first | refine WC.seq ?_ | refine WC.reg ?_ | refine WL.pure rfl rfl rfl ?_ | refine WL.nil ?_ | refine WC.skip ?_ | refine WC.block ?_ | refine WC.condT rfl ?_ | refine WC.condF rfl ?_ | refine WL.off rfl rfl rfl ?_ | refine WL.off0 rfl rfl ?_ | refine WC.exit ?_ | refine blk_hit ?_ | refine blk_miss rfl ?_ | refine WC.ret ?_)
      exact Res.two rfl rfl rfl rfl ⟨hp1.nil', by simp only [colV, hmk]; rw [if_pos (.inl h1)]⟩
    have h1 : ¬ k < 0 := of_decide_eq_false h1
    repeat (first | refine WC.seq ?_ | refine WC.reg ?_ | refine WL.pure rfl rfl rfl ?_ | refine WL.nil ?_ | refine WC.skip ?_ | refine WC.block ?_ | refine WC.condT rfl ?_ | refine WC.condF rfl ?_ | refine WL.off rfl rfl rfl ?_ | refine WL.off0 rfl rfl ?_ | refine WC.exit ?_ | refine blk_hit ?_ | refine blk_miss rfl ?_ | refine WC.ret ?_)
    refine WC.cond rfl (fun h2 => ?_) (fun h2 => ?_)
    · have h2 : 8 < k := of_decide_eq_true h2
      repeat (first | refine WC.seq ?_ | refine WC.reg ?_ | refine WL.pure rfl rfl rfl ?_ | refine WL.nil ?_ | refine WC.skip ?_ | refine WC.block ?_ | refine WC.condT rfl ?_ | refine WC.condF rfl ?_ | refine WL.off rfl rfl rfl ?_ | refine WL.off0 rfl rfl ?_ | refine WC.exit ?_ | refine blk_hit ?_ | refine blk_miss rfl ?_ | refine WC.ret ?_)
      exact Res.two rfl rfl rfl rfl ⟨hp1.nil', by simp only [colV, hmk]; rw [if_pos (.inr h2)]⟩
    have h2 : ¬ 8 < k := of_decide_eq_false h2
    repeat (first | refine WC.seq ?_ | refine WC.reg ?_ | refine WL.pure rfl rfl rfl ?_ | refine WL.nil ?_ | refine WC.skip ?_ | refine WC.block ?_ | refine WC.condT rfl ?_ | refine WC.condF rfl ?_ | refine WL.off rfl rfl rfl ?_ | refine WL.off0 rfl rfl ?_ | refine WC.exit ?_ | refine blk_hit ?_ | refine blk_miss rfl ?_ | refine WC.ret ?_)
    refine WL.call rfl rfl rfl rfl rfl ent39 (parted_any _ _ g w1 (Sl.of_obj (hp1.obj 0 rfl) (fun i u h => by simpa using h)) (hT.below hp1.below) hg) ?_
    rintro _ w2 ⟨rfl, hp2⟩
    have hp2 := (hp1.comb hp2).nil'
    have hcl := cls_len (fr (ap g)) (full g.length)
    have hval : colV n es k = .tuple #[.int .i64 (colP (cls (fr (ap g)) (full g.length)) k 15), .int .i64 0] := by
      simp only [colV, hmk]; rw [if_neg (fun h => h.elim h1 h2)]
    generalize cls (fr (ap g)) (full g.length) = c at *
    repeat (first | refine WC.seq ?_ | refine WC.reg ?_ | refine WL.pure rfl rfl rfl ?_ | refine WL.nil ?_ | refine WC.skip ?_ | refine WC.block ?_ | refine WC.condT rfl ?_ | refine WC.condF rfl ?_ | refine WL.off rfl rfl rfl ?_ | refine WL.off0 rfl rfl ?_ | refine WC.exit ?_ | refine blk_hit ?_ | refine blk_miss rfl ?_ | refine WC.ret ?_)
    refine WC.loop Nat (fun j => [(2, .int .i64 k), (10, .int .i64 (colP c k j)), (31, clsV c), (32, .int .i64 (j : Nat))]) (fun j w' => j ≤ 15 ∧ Hp w w' []) (fun j => 15 - j) 0 ⟨rfl, rfl, rfl, rfl, rfl⟩ ⟨by omega, hp2⟩ ?_
    rintro j w3 ⟨hj, hp3⟩
    repeat (first | refine WC.seq ?_ | refine WC.reg ?_ | refine WL.pure rfl rfl rfl ?_ | refine WL.nil ?_ | refine WC.skip ?_ | refine WC.block ?_ | refine WC.condT rfl ?_ | refine WC.condF rfl ?_ | refine WL.off rfl rfl rfl ?_ | refine WL.off0 rfl rfl ?_ | refine WC.exit ?_ | refine blk_hit ?_ | refine blk_miss rfl ?_ | refine WC.ret ?_)
    refine WC.cond rfl (fun hc => ?_) (fun hc => ?_)
    · have hj : j < 15 := by have := of_decide_eq_true hc; omega
      have step : IntKind.i64.wrap ((j : Int) + 1) = ((j + 1 : Nat) : Int) := by rw [wrap_i64_in (by omega) (by omega)]; omega
      repeat (first | refine WC.seq ?_ | refine WC.reg ?_ | refine WL.pure rfl rfl rfl ?_ | refine WL.nil ?_ | refine WC.skip ?_ | refine WC.block ?_ | refine WC.condT rfl ?_ | refine WC.condF rfl ?_ | refine WL.off rfl rfl rfl ?_ | refine WL.off0 rfl rfl ?_ | refine WC.exit ?_ | refine blk_hit ?_ | refine blk_miss rfl ?_ | refine WC.ret ?_)
      refine WL.ixV rfl rfl rfl rfl rfl rfl rfl rfl hj (zs_at (by omega)) ?_
      repeat (first | refine WC.seq ?_ | refine WC.reg ?_ | refine WL.pure rfl rfl rfl ?_ | refine WL.nil ?_ | refine WC.skip ?_ | refine WC.block ?_ | refine WC.condT rfl ?_ | refine WC.condF rfl ?_ | refine WL.off rfl rfl rfl ?_ | refine WL.off0 rfl rfl ?_ | refine WC.exit ?_ | refine blk_hit ?_ | refine blk_miss rfl ?_ | refine WC.ret ?_)
      refine WC.loop Nat (fun i => [(2, .int .i64 k), (10, .int .i64 (colP c k j)), (31, clsV c), (32, .int .i64 (j : Nat)), (12, .int .i64 (fallP k i (c.getD j 0))), (36, .int .i64 (j : Nat)), (37, .int .i64 (i : Nat))])
        (fun i w' => i ≤ j ∧ Hp w w' []) (fun i => j - i) 0 ⟨rfl, rfl, rfl, rfl, rfl, rfl, rfl, rfl⟩ ⟨by omega, hp3⟩ ?_
      rintro i w4 ⟨hi, hp4⟩
      repeat (first | refine WC.seq ?_ | refine WC.reg ?_ | refine WL.pure rfl rfl rfl ?_ | refine WL.nil ?_ | refine WC.skip ?_ | refine WC.block ?_ | refine WC.condT rfl ?_ | refine WC.condF rfl ?_ | refine WL.off rfl rfl rfl ?_ | refine WL.off0 rfl rfl ?_ | refine WC.exit ?_ | refine blk_hit ?_ | refine blk_miss rfl ?_ | refine WC.ret ?_)
      refine WC.cond rfl (fun hc2 => ?_) (fun hc2 => ?_)
      · have hi : i < j := by have := of_decide_eq_true hc2; omega
        have step2 : IntKind.i64.wrap ((i : Int) + 1) = ((i + 1 : Nat) : Int) := by rw [wrap_i64_in (by omega) (by omega)]; omega
        repeat (first | refine WC.seq ?_ | refine WC.reg ?_ | refine WL.pure rfl rfl rfl ?_ | refine WL.nil ?_ | refine WC.skip ?_ | refine WC.block ?_ | refine WC.condT rfl ?_ | refine WC.condF rfl ?_ | refine WL.off rfl rfl rfl ?_ | refine WL.off0 rfl rfl ?_ | refine WC.exit ?_ | refine blk_hit ?_ | refine blk_miss rfl ?_ | refine WC.ret ?_)
        exact ⟨i + 1, by show j - (i + 1) < j - i; omega, ⟨rfl, rfl, rfl, rfl, congrArg (fun z => some (Value.int .i64 z)) (fallP_succ k i _).symm, rfl, congrArg (fun z => some (Value.int .i64 z)) step2, rfl⟩, by omega, hp4⟩
      · have hi : i = j := by have := of_decide_eq_false hc2; omega
        subst hi
        repeat (first | refine WC.seq ?_ | refine WC.reg ?_ | refine WL.pure rfl rfl rfl ?_ | refine WL.nil ?_ | refine WC.skip ?_ | refine WC.block ?_ | refine WC.condT rfl ?_ | refine WC.condF rfl ?_ | refine WL.off rfl rfl rfl ?_ | refine WL.off0 rfl rfl ?_ | refine WC.exit ?_ | refine blk_hit ?_ | refine blk_miss rfl ?_ | refine WC.ret ?_)
        exact ⟨i + 1, by show 15 - (i + 1) < 15 - i; omega, ⟨rfl, congrArg (fun z => some (Value.int .i64 z)) (colP_succ c k i).symm, rfl, congrArg (fun z => some (Value.int .i64 z)) step, rfl⟩, by omega, hp4⟩
    · have hj : j = 15 := by have := of_decide_eq_false hc; omega
      subst hj
      repeat (first | refine WC.seq ?_ | refine WC.reg ?_ | refine WL.pure rfl rfl rfl ?_ | refine WL.nil ?_ | refine WC.skip ?_ | refine WC.block ?_ | refine WC.condT rfl ?_ | refine WC.condF rfl ?_ | refine WL.off rfl rfl rfl ?_ | refine WL.off0 rfl rfl ?_ | refine WC.exit ?_ | refine blk_hit ?_ | refine blk_miss rfl ?_ | refine WC.ret ?_)
      exact Res.two rfl rfl rfl rfl ⟨hp3, hval.symm⟩
end Go.Proofs.YtdnkkflpgebfbaaDoor
