/- The walk of 'parted'. -/
import Derived.Test.YtdnkkflpgebfbaaDoorL10
import Derived.Test.YtdnkkflpgebfbaaDoorPa
import Derived.Test.YtdnkkflpgebfbaaDoorW6
namespace Go.Proofs.YtdnkkflpgebfbaaDoor
open Go.W Go.Tree
set_option maxRecDepth 100000
attribute [local irreducible] WC WL WQ WS

theorem Hp.rot {w0 w : World} (A B C : List Ent) (h : Hp w0 w (A ++ (B ++ C))) : Hp w0 w (B ++ (A ++ C)) := by
  have p := List.perm_append_comm_assoc A B C
  exact ⟨h.below, fun x hx => h.sat x (p.mem_iff.2 hx), (p.pairwise_iff (fun {a b} h => Apart.symm h)).1 h.dist⟩

def clsV (xs : List Int) : Value := .agg (zs xs).toArray
theorem zs_at {xs : List Int} {i : Nat} (h : i < xs.length) : (zs xs).toArray[i]? = some (.int .i64 (xs.getD i 0)) := by
  simp [zs, h]
theorem clsV_one {xs : List Int} : ∀ v ∈ ((zs xs).toArray).toList, v.oneCell' = true := by
  intro v hv
  simp only [zs, List.mem_map] at hv
  obtain ⟨x, _, rfl⟩ := hv
  rfl

theorem cls_size' (free : Nat → Bool) (S : Nat) : (zs (cls free S)).toArray.size = 15 := by simp [zs, cls_len]
theorem cls_size (free : Nat → Bool) (S : Nat) : (clsV (cls free S)).cells.size = 15 := cls_size' free S
theorem store_all {arr vs : Array Value} {m : Nat} (h : vs.size = m) (h2 : arr.size = m := by rfl) : (arr.toList.take 0 ++ vs.toList ++ arr.toList.drop (0 + vs.size)).toArray = vs := by
  rw [List.take_zero, List.nil_append, Nat.zero_add, h, List.drop_eq_nil_of_le (by simp [h2]), List.append_nil]

section
variable (w0 : World) (p : Nat → Nat → Bool) (n bm b4 b3 b5 bf : Nat)
def core (es : Array MapEntry) (c : Nat) : List Ent :=
  [.blk bm (.map es c), .blk b4 (.cells #[.map (some bm)] 98 (0, 0)), .blk b3 (.cells #[.slice (some ⟨bf, 0, none⟩) (2 ^ n) (2 ^ n)] 74 (0, 0)),
   .blk b5 (.cells #[.func (.func 63) #[] #[.pointer (some ⟨b4, 0, none⟩), .pointer (some ⟨b3, 0, none⟩), .pointer (some ⟨b5, 0, none⟩)]] 99 (0, 0)),
   .blk bf (.cells (bls (frRow p n (2 ^ n))).toArray 4 (0, 0))]
def VV (S : Nat) : Value := clsV (cls (fr p) S)

theorem part1_any (hn : n ≤ 14) : ∀ (S : Nat), S < 2 ^ n → ∀ (LF : List Ent) (es : Array MapEntry) (c : Nat) (w : World), Hp w0 w (core p n bm b4 b3 b5 bf es c ++ LF) → MapOK (VV p) es → Has es 0 →
    Ret Tryd.prog 63 [.int .i64 S, .pointer (some ⟨b4, 0, none⟩), .pointer (some ⟨b3, 0, none⟩), .pointer (some ⟨b5, 0, none⟩)] w fun v w' =>
      v = clsV (cls (fr p) S) ∧ ∃ es' c', MapOK (VV p) es' ∧ Has es' 0 ∧ Hp w0 w' (core p n bm b4 b3 b5 bf es' c' ++ LF) := by
  have hp14 : 2 ^ n ≤ 2 ^ 14 := Nat.pow_le_pow_right (by decide) hn
  intro S
  induction S using Nat.strongRecOn with
  | _ S ih =>
  intro hS LF es c w hp hok hz
  have hS14 : S < 16384 := by omega
  refine enter Tryd.func63 rfl rfl ⟨rfl, rfl⟩ rfl ?_
  repeat (first | refine WC.seq ?_ | refine WC.reg ?_ | refine WL.pure rfl rfl rfl ?_ | refine WL.nil ?_ | refine WC.skip ?_ | refine WC.block ?_ | refine WC.condT rfl ?_ | refine WC.condF rfl ?_ | refine WL.off rfl rfl rfl ?_ | refine WL.off0 rfl rfl ?_ | refine WC.exit ?_ | refine blk_hit ?_ | refine blk_miss rfl ?_ | refine WC.ret ?_)
  refine WL.alloc rfl rfl rfl ?_
  intro bo w1 hbo
  have hp1 := hp.new hbo
  repeat (first | refine WC.seq ?_ | refine WC.reg ?_ | refine WL.pure rfl rfl rfl ?_ | refine WL.nil ?_ | refine WC.skip ?_ | refine WC.block ?_ | refine WC.condT rfl ?_ | refine WC.condF rfl ?_ | refine WL.off rfl rfl rfl ?_ | refine WL.off0 rfl rfl ?_ | refine WC.exit ?_ | refine blk_hit ?_ | refine blk_miss rfl ?_ | refine WC.ret ?_)
  refine WL.loadB rfl rfl rfl rfl rfl (hp1.obj 2 rfl) rfl ?_
  repeat (first | refine WC.seq ?_ | refine WC.reg ?_ | refine WL.pure rfl rfl rfl ?_ | refine WL.nil ?_ | refine WC.skip ?_ | refine WC.block ?_ | refine WC.condT rfl ?_ | refine WC.condF rfl ?_ | refine WL.off rfl rfl rfl ?_ | refine WL.off0 rfl rfl ?_ | refine WC.exit ?_ | refine blk_hit ?_ | refine blk_miss rfl ?_ | refine WC.ret ?_)
  refine WL.lookup (V := VV p) rfl rfl rfl rfl rfl rfl rfl rfl (hp1.obj 1 rfl) hok ?_ (fun hno => ?_)
  · repeat (first | refine WC.seq ?_ | refine WC.reg ?_ | refine WL.pure rfl rfl rfl ?_ | refine WL.nil ?_ | refine WC.skip ?_ | refine WC.block ?_ | refine WC.condT rfl ?_ | refine WC.condF rfl ?_ | refine WL.off rfl rfl rfl ?_ | refine WL.off0 rfl rfl ?_ | refine WC.exit ?_ | refine blk_hit ?_ | refine blk_miss rfl ?_ | refine WC.ret ?_)
    refine WL.var (v := VV p S) rfl rfl rfl (fun _ => rfl) (cls_size _ _) rfl clsV_one ?_
    intro b6 w2 hb6
    have hp2 := hp1.new hb6
    repeat (first | refine WC.seq ?_ | refine WC.reg ?_ | refine WL.pure rfl rfl rfl ?_ | refine WL.nil ?_ | refine WC.skip ?_ | refine WC.block ?_ | refine WC.condT rfl ?_ | refine WC.condF rfl ?_ | refine WL.off rfl rfl rfl ?_ | refine WL.off0 rfl rfl ?_ | refine WC.exit ?_ | refine blk_hit ?_ | refine blk_miss rfl ?_ | refine WC.ret ?_)
    refine WL.loadN (cs := zs (cls (fr p) S)) rfl rfl rfl rfl rfl (by rw [zs_len, cls_len]; rfl) (fun j v hj => cell_of_obj (hp2.obj 0 rfl) (by rw [Nat.zero_add]; simpa [VV, clsV, Value.cells] using hj)) ?_
    refine WL.storeN rfl rfl rfl rfl (cls_size _ _) clsV_one (hp2.obj 1 rfl) (by rw [cls_size' (fr p) S]; exact Nat.le_refl 15) (store_all (cls_size' (fr p) S)) (fun w3 hw3 => ?_)
    have hp3 := hp2.set 1 rfl rfl hw3
    repeat (first | refine WC.seq ?_ | refine WC.reg ?_ | refine WL.pure rfl rfl rfl ?_ | refine WL.nil ?_ | refine WC.skip ?_ | refine WC.block ?_ | refine WC.condT rfl ?_ | refine WC.condF rfl ?_ | refine WL.off rfl rfl rfl ?_ | refine WL.off0 rfl rfl ?_ | refine WC.exit ?_ | refine blk_hit ?_ | refine blk_miss rfl ?_ | refine WC.ret ?_)
    exact Res.cell rfl rfl rfl rfl (cls_size _ _) rfl (hp3.obj 1 rfl) ⟨rfl, es, c, hok, hz, hp3.tail.tail⟩
  have h0 : S ≠ 0 := by intro h; subst h; exact hno hz
  have hneg := neg_and h0 hS14
  have hlow : 2 ^ tz S < 2 ^ n := Nat.pow_lt_pow_right (by decide) (lt_of_testBit hS (tz_spec h0 (by omega)).1)
  have hrst := rst_lt h0 hS14
  have e10 : bits .andNot .i64 (S : Int) (bits .and .i64 (S : Int) (IntKind.i64.wrap (0 - (S : Int)))) = ((rst S : Nat) : Int) := by
    rw [hneg, andNot_i64 (by omega) (by omega)]; rfl
  repeat (first | refine WC.seq ?_ | refine WC.reg ?_ | refine WL.pure rfl rfl rfl ?_ | refine WL.nil ?_ | refine WC.skip ?_ | refine WC.block ?_ | refine WC.condT rfl ?_ | refine WC.condF rfl ?_ | refine WL.off rfl rfl rfl ?_ | refine WL.off0 rfl rfl ?_ | refine WC.exit ?_ | refine blk_hit ?_ | refine blk_miss rfl ?_ | refine WC.ret ?_)
  refine WL.var rfl rfl rfl (fun _ => rfl) rfl rfl (by decide) ?_
  intro b6 w2 hb6
  have hp2 := hp1.new hb6
  repeat (first | refine WC.seq ?_ | refine WC.reg ?_ | refine WL.pure rfl rfl rfl ?_ | refine WL.nil ?_ | refine WC.skip ?_ | refine WC.block ?_ | refine WC.condT rfl ?_ | refine WC.condF rfl ?_ | refine WL.off rfl rfl rfl ?_ | refine WL.off0 rfl rfl ?_ | refine WC.exit ?_ | refine blk_hit ?_ | refine blk_miss rfl ?_ | refine WC.ret ?_)
  refine WL.alloc rfl rfl rfl ?_
  intro b8 w3 hb8
  have hp3 := hp2.new hb8
  repeat (first | refine WC.seq ?_ | refine WC.reg ?_ | refine WL.pure rfl rfl rfl ?_ | refine WL.nil ?_ | refine WC.skip ?_ | refine WC.block ?_ | refine WC.condT rfl ?_ | refine WC.condF rfl ?_ | refine WL.off rfl rfl rfl ?_ | refine WL.off0 rfl rfl ?_ | refine WC.exit ?_ | refine blk_hit ?_ | refine blk_miss rfl ?_ | refine WC.ret ?_)
  refine WC.loop (Nat × List Int × Array MapEntry × Nat) (fun (part, out, es, c) => [(0, .int .i64 (S : Nat)), (1, .pointer (some ⟨b4, 0, none⟩)), (2, .pointer (some ⟨b3, 0, none⟩)), (3, .pointer (some ⟨b5, 0, none⟩)), (5, .pointer (some ⟨bo, 0, none⟩)), (8, .pointer (some ⟨b8, 0, none⟩)),
      (9, .int .i64 (low S : Nat)), (10, .int .i64 (rst S : Nat)), (11, .int .i64 (part : Nat))])
    (fun (part, out, es, c) w' => part < 2 ^ n ∧ out.length = 15 ∧ cls (fr p) S = (subsR (rst S) part).foldl (clStepF (fr p) S (cls (fr p))) out ∧ MapOK (VV p) es ∧ Has es 0 ∧
      Hp w0 w' (.blk b8 (.cells (zs out).toArray 72 (0, 0)) :: .blk b6 (.cells ti72.zero.cells 72 (0, 0)) :: .blk bo (.cells ti72.zero.cells 72 (0, 0)) :: (core p n bm b4 b3 b5 bf es c ++ LF)))
    (fun (part, _, _, _) => part) (rst S, zero15, es, c)
    ⟨rfl, rfl, rfl, rfl, rfl, rfl, congrArg (fun z => some (Value.int .i64 z)) hneg, congrArg (fun z => some (Value.int .i64 z)) e10, congrArg (fun z => some (Value.int .i64 z)) e10, rfl⟩ ⟨by omega, rfl, cls_eq h0 hS14, hok, hz, hp3⟩ ?_
  rintro ⟨part, out, es1, c1⟩ w4 ⟨hpart, hout, hcls, hok1, hz1, hp4⟩
  have hidx : part ||| low S < 2 ^ n := Nat.or_lt_two_pow hpart hlow
  have elow : low S < 2 ^ n := hlow
  have e37 : bits .or .i64 (part : Int) ((low S : Nat) : Int) = ((part ||| low S : Nat) : Int) := or_i64 (by omega) (by omega)
  repeat (first | refine WC.seq ?_ | refine WC.reg ?_ | refine WL.pure rfl rfl rfl ?_ | refine WL.nil ?_ | refine WC.skip ?_ | refine WC.block ?_ | refine WC.condT rfl ?_ | refine WC.condF rfl ?_ | refine WL.off rfl rfl rfl ?_ | refine WL.off0 rfl rfl ?_ | refine WC.exit ?_ | refine blk_hit ?_ | refine blk_miss rfl ?_ | refine WC.ret ?_)
  refine WL.loadB rfl rfl rfl rfl rfl (hp4.obj 5 rfl) rfl ?_
  repeat (first | refine WC.seq ?_ | refine WC.reg ?_ | refine WL.pure rfl rfl rfl ?_ | refine WL.nil ?_ | refine WC.skip ?_ | refine WC.block ?_ | refine WC.condT rfl ?_ | refine WC.condF rfl ?_ | refine WL.off rfl rfl rfl ?_ | refine WL.off0 rfl rfl ?_ | refine WC.exit ?_ | refine blk_hit ?_ | refine blk_miss rfl ?_ | refine WC.ret ?_)
  refine WL.known (d := 37) (congrArg (fun z => some (Value.int .i64 z)) e37) ?_
  refine WL.ixload rfl (fun _ => rfl) rfl rfl rfl rfl rfl rfl rfl hidx rfl rfl (Sl.of_obj (hp4.obj 7 rfl) (cs := bls (frRow p n (2 ^ n))) (fun i u h => by simpa using h)) (v := .bool (fr p (part ||| low S))) (frRow_at hidx hidx) ?_
  intro p2
  repeat (first | refine WC.seq ?_ | refine WC.reg ?_ | refine WL.pure rfl rfl rfl ?_ | refine WL.nil ?_ | refine WC.skip ?_ | refine WC.block ?_ | refine WC.condT rfl ?_ | refine WC.condF rfl ?_ | refine WL.off rfl rfl rfl ?_ | refine WL.off0 rfl rfl ?_ | refine WC.exit ?_ | refine blk_hit ?_ | refine blk_miss rfl ?_ | refine WC.ret ?_)
  have hbd : bd (rst S) part < S := Nat.lt_of_le_of_lt (bd_le _ _) hrst
  refine WC.mid (List Int × Array MapEntry × Nat) (fun _ => [(0, .int .i64 (S : Nat)), (1, .pointer (some ⟨b4, 0, none⟩)), (2, .pointer (some ⟨b3, 0, none⟩)), (3, .pointer (some ⟨b5, 0, none⟩)), (5, .pointer (some ⟨bo, 0, none⟩)), (8, .pointer (some ⟨b8, 0, none⟩)),
      (9, .int .i64 (low S : Nat)), (10, .int .i64 (rst S : Nat)), (11, .int .i64 (part : Nat))])
    (fun (out', es, c) w' => out' = clStepF (fr p) S (cls (fr p)) out part ∧ MapOK (VV p) es ∧ Has es 0 ∧
      Hp w0 w' (.blk b8 (.cells (zs out').toArray 72 (0, 0)) :: .blk b6 (.cells ti72.zero.cells 72 (0, 0)) :: .blk bo (.cells ti72.zero.cells 72 (0, 0)) :: (core p n bm b4 b3 b5 bf es c ++ LF))) ?_ ?_
  · refine WC.cond rfl (fun hf => ?_) (fun hf => ?_)
    · repeat (first | refine WC.seq ?_ | refine WC.reg ?_ | refine WL.pure rfl rfl rfl ?_ | refine WL.nil ?_ | refine WC.skip ?_ | refine WC.block ?_ | refine WC.condT rfl ?_ | refine WC.condF rfl ?_ | refine WL.off rfl rfl rfl ?_ | refine WL.off0 rfl rfl ?_ | refine WC.exit ?_ | refine blk_hit ?_ | refine blk_miss rfl ?_ | refine WC.ret ?_)
      refine WL.loadB rfl rfl rfl rfl rfl (hp4.obj 6 rfl) rfl ?_
      repeat (first | refine WC.seq ?_ | refine WC.reg ?_ | refine WL.pure rfl rfl rfl ?_ | refine WL.nil ?_ | refine WC.skip ?_ | refine WC.block ?_ | refine WC.condT rfl ?_ | refine WC.condF rfl ?_ | refine WL.off rfl rfl rfl ?_ | refine WL.off0 rfl rfl ?_ | refine WC.exit ?_ | refine blk_hit ?_ | refine blk_miss rfl ?_ | refine WC.ret ?_)
      have e43 : bits .andNot .i64 ((rst S : Nat) : Int) (part : Int) = ((bd (rst S) part : Nat) : Int) := andNot_i64 (by omega) (by omega)
      refine WL.known (d := 43) (congrArg (fun z => some (Value.int .i64 z)) e43) ?_
      refine WL.call rfl rfl rfl rfl rfl ent63 (ih _ hbd (by omega) (.blk b8 (.cells (zs out).toArray 72 (0, 0)) :: .blk b6 (.cells ti72.zero.cells 72 (0, 0)) :: .blk bo (.cells ti72.zero.cells 72 (0, 0)) :: LF) es1 c1 w4 (Hp.rot [_, _, _] (core p n bm b4 b3 b5 bf es1 c1) LF hp4) hok1 hz1) ?_
      rintro _ w5 ⟨rfl, es2, c2, hok2, hz2, hp5⟩
      have hp5 := Hp.rot (core p n bm b4 b3 b5 bf es2 c2) [_, _, _] LF hp5
      have htop : ∀ k, 0 < (cls (fr p) (bd (rst S) part)).getD k 0 → k + 1 < 15 := by
        intro k hk
        have h1 := cls_top (by omega) hk
        have h2 := card_rst h0 hS14
        have h3 := card_sub (rst S) part
        have h4 : card S ≤ 14 := card_le (by decide) hS14
        omega
      have hcl := cls_len (fr p) (bd (rst S) part)
      have hcs : clStepF (fr p) S (cls (fr p)) out part = addP out (cls (fr p) (bd (rst S) part)) 15 := by
        rw [clStepF, if_pos hf]; rfl
      generalize cls (fr p) (bd (rst S) part) = cc at *
      repeat (first | refine WC.seq ?_ | refine WC.reg ?_ | refine WL.pure rfl rfl rfl ?_ | refine WL.nil ?_ | refine WC.skip ?_ | refine WC.block ?_ | refine WC.condT rfl ?_ | refine WC.condF rfl ?_ | refine WL.off rfl rfl rfl ?_ | refine WL.off0 rfl rfl ?_ | refine WC.exit ?_ | refine blk_hit ?_ | refine blk_miss rfl ?_ | refine WC.ret ?_)
      refine WC.loop (Nat × List Int) (fun (k, o) => [(0, .int .i64 (S : Nat)), (1, .pointer (some ⟨b4, 0, none⟩)), (2, .pointer (some ⟨b3, 0, none⟩)), (3, .pointer (some ⟨b5, 0, none⟩)), (5, .pointer (some ⟨bo, 0, none⟩)), (8, .pointer (some ⟨b8, 0, none⟩)),
          (9, .int .i64 (low S : Nat)), (10, .int .i64 (rst S : Nat)), (11, .int .i64 (part : Nat)), (44, clsV cc), (45, .int .i64 (k : Nat))])
        (fun (k, o) w' => k ≤ 15 ∧ o = addP out cc k ∧
          Hp w0 w' (.blk b8 (.cells (zs o).toArray 72 (0, 0)) :: .blk b6 (.cells ti72.zero.cells 72 (0, 0)) :: .blk bo (.cells ti72.zero.cells 72 (0, 0)) :: (core p n bm b4 b3 b5 bf es2 c2 ++ LF)))
        (fun (k, _) => 15 - k) (0, out) ⟨rfl, rfl, rfl, rfl, rfl, rfl, rfl, rfl, rfl, rfl, rfl, rfl⟩ ⟨by omega, rfl, hp5⟩ ?_
      rintro ⟨k, o⟩ w6 ⟨hk, ho, hp6⟩
      have hol : o.length = 15 := by rw [ho, addP_len, hout]
      repeat (first | refine WC.seq ?_ | refine WC.reg ?_ | refine WL.pure rfl rfl rfl ?_ | refine WL.nil ?_ | refine WC.skip ?_ | refine WC.block ?_ | refine WC.condT rfl ?_ | refine WC.condF rfl ?_ | refine WL.off rfl rfl rfl ?_ | refine WL.off0 rfl rfl ?_ | refine WC.exit ?_ | refine blk_hit ?_ | refine blk_miss rfl ?_ | refine WC.ret ?_)
      refine WC.cond rfl (fun hc => ?_) (fun hc => ?_)
      · have hk : k < 15 := by have := of_decide_eq_true hc; omega
        have step : IntKind.i64.wrap ((k : Int) + 1) = ((k + 1 : Nat) : Int) := by rw [wrap_i64_in (by omega) (by omega)]; omega
        repeat (first | refine WC.seq ?_ | refine WC.reg ?_ | refine WL.pure rfl rfl rfl ?_ | refine WL.nil ?_ | refine WC.skip ?_ | refine WC.block ?_ | refine WC.condT rfl ?_ | refine WC.condF rfl ?_ | refine WL.off rfl rfl rfl ?_ | refine WL.off0 rfl rfl ?_ | refine WC.exit ?_ | refine blk_hit ?_ | refine blk_miss rfl ?_ | refine WC.ret ?_)
        refine WL.ixV rfl rfl rfl rfl rfl rfl rfl rfl hk (zs_at (by omega)) ?_
        repeat (first | refine WC.seq ?_ | refine WC.reg ?_ | refine WL.pure rfl rfl rfl ?_ | refine WL.nil ?_ | refine WC.skip ?_ | refine WC.block ?_ | refine WC.condT rfl ?_ | refine WC.condF rfl ?_ | refine WL.off rfl rfl rfl ?_ | refine WL.off0 rfl rfl ?_ | refine WC.exit ?_ | refine blk_hit ?_ | refine blk_miss rfl ?_ | refine WC.ret ?_)
        refine WC.cond rfl (fun hpos => ?_) (fun hpos => ?_)
        · have hpos : 0 < cc.getD k 0 := of_decide_eq_true hpos
          have hk1 := htop k hpos
          repeat (first | refine WC.seq ?_ | refine WC.reg ?_ | refine WL.pure rfl rfl rfl ?_ | refine WL.nil ?_ | refine WC.skip ?_ | refine WC.block ?_ | refine WC.condT rfl ?_ | refine WC.condF rfl ?_ | refine WL.off rfl rfl rfl ?_ | refine WL.off0 rfl rfl ?_ | refine WC.exit ?_ | refine blk_hit ?_ | refine blk_miss rfl ?_ | refine WC.ret ?_)
          refine WL.known (d := 52) (congrArg (fun z => some (Value.int .i64 z)) step) ?_
          refine WL.ixA1 rfl rfl rfl rfl rfl rfl rfl hk1 ?_
          refine WL.loadB rfl rfl rfl rfl rfl (hp6.obj 0 rfl) (v := .int .i64 (o.getD (k + 1) 0)) (by rw [nth_eq, Nat.zero_add]; simpa using zs_at (xs := o) (i := k + 1) (by omega)) ?_
          repeat (first | refine WC.seq ?_ | refine WC.reg ?_ | refine WL.pure rfl rfl rfl ?_ | refine WL.nil ?_ | refine WC.skip ?_ | refine WC.block ?_ | refine WC.condT rfl ?_ | refine WC.condF rfl ?_ | refine WL.off rfl rfl rfl ?_ | refine WL.off0 rfl rfl ?_ | refine WC.exit ?_ | refine blk_hit ?_ | refine blk_miss rfl ?_ | refine WC.ret ?_)
          refine WL.ixA1 rfl rfl rfl rfl rfl rfl rfl hk1 ?_
          refine WL.store rfl rfl rfl rfl rfl rfl (hp6.obj 0 rfl) (by simp [zs]; omega) (fun w7 hw7 => ?_)
          rw [Nat.zero_add, zs_set] at hw7
          have hp7 := hp6.set 0 rfl rfl hw7
          repeat (first | refine WC.seq ?_ | refine WC.reg ?_ | refine WL.pure rfl rfl rfl ?_ | refine WL.nil ?_ | refine WC.skip ?_ | refine WC.block ?_ | refine WC.condT rfl ?_ | refine WC.condF rfl ?_ | refine WL.off rfl rfl rfl ?_ | refine WL.off0 rfl rfl ?_ | refine WC.exit ?_ | refine blk_hit ?_ | refine blk_miss rfl ?_ | refine WC.ret ?_)
          refine ⟨(k + 1, addAt o (k + 1) (cc.getD k 0)), by show 15 - (k + 1) < 15 - k; omega, ⟨rfl, rfl, rfl, rfl, rfl, rfl, rfl, rfl, rfl, rfl, congrArg (fun z => some (Value.int .i64 z)) step, rfl⟩, by omega, ?_, hp7⟩
          rw [addP_succ, ← ho, addStep, if_pos hpos]
        · have hpos : ¬ 0 < cc.getD k 0 := of_decide_eq_false hpos
          repeat (first | refine WC.seq ?_ | refine WC.reg ?_ | refine WL.pure rfl rfl rfl ?_ | refine WL.nil ?_ | refine WC.skip ?_ | refine WC.block ?_ | refine WC.condT rfl ?_ | refine WC.condF rfl ?_ | refine WL.off rfl rfl rfl ?_ | refine WL.off0 rfl rfl ?_ | refine WC.exit ?_ | refine blk_hit ?_ | refine blk_miss rfl ?_ | refine WC.ret ?_)
          refine ⟨(k + 1, o), by show 15 - (k + 1) < 15 - k; omega, ⟨rfl, rfl, rfl, rfl, rfl, rfl, rfl, rfl, rfl, rfl, congrArg (fun z => some (Value.int .i64 z)) step, rfl⟩, by omega, ?_, hp6⟩
          rw [addP_succ, ← ho, addStep, if_neg hpos]
      · have hk : k = 15 := by have := of_decide_eq_false hc; omega
        subst hk
        repeat (first | refine WC.seq ?_ | refine WC.reg ?_ | refine WL.pure rfl rfl rfl ?_ | refine WL.nil ?_ | refine WC.skip ?_ | refine WC.block ?_ | refine WC.condT rfl ?_ | refine WC.condF rfl ?_ | refine WL.off rfl rfl rfl ?_ | refine WL.off0 rfl rfl ?_ | refine WC.exit ?_ | refine blk_hit ?_ | refine blk_miss rfl ?_ | refine WC.ret ?_)
        exact ⟨(o, es2, c2), ⟨rfl, rfl, rfl, rfl, rfl, rfl, rfl, rfl, rfl, rfl⟩, by rw [ho, hcs], hok2, hz2, hp6⟩
    · repeat (first | refine WC.seq ?_ | refine WC.reg ?_ | refine WL.pure rfl rfl rfl ?_ | refine WL.nil ?_ | refine WC.skip ?_ | refine WC.block ?_ | refine WC.condT rfl ?_ | refine WC.condF rfl ?_ | refine WL.off rfl rfl rfl ?_ | refine WL.off0 rfl rfl ?_ | refine WC.exit ?_ | refine blk_hit ?_ | refine blk_miss rfl ?_ | refine WC.ret ?_)
      exact ⟨(out, es1, c1), ⟨rfl, rfl, rfl, rfl, rfl, rfl, rfl, rfl, rfl, rfl⟩, by rw [clStepF, if_neg (by rw [hf]; decide)], hok1, hz1, hp4⟩
  · rintro ⟨out', es2, c2⟩ e2 w5 hsub ⟨ho', hok2, hz2, hp5⟩
    refine WC.sub hsub ?_
    repeat (first | refine WC.seq ?_ | refine WC.reg ?_ | refine WL.pure rfl rfl rfl ?_ | refine WL.nil ?_ | refine WC.skip ?_ | refine WC.block ?_ | refine WC.condT rfl ?_ | refine WC.condF rfl ?_ | refine WL.off rfl rfl rfl ?_ | refine WL.off0 rfl rfl ?_ | refine WC.exit ?_ | refine blk_hit ?_ | refine blk_miss rfl ?_ | refine WC.ret ?_)
    refine WC.cond rfl (fun hq => ?_) (fun hq => ?_)
    · have hq : part = 0 := by simpa using hq
      subst hq
      have hfin : cls (fr p) S = out' := by rw [hcls, subsR_zero, ho']; rfl
      have hol : (zs out').toArray.size = 15 := by rw [← hfin]; exact cls_size' _ _
      have hcell : ∀ w' : World, w'.heap[b8]? = some (.cells (zs out').toArray 72 (0, 0)) → ∀ (j : Nat) (v : Value), (zs out')[j]? = some v → w'.cell? ⟨b8, 0 + j, none⟩ = some v :=
        fun w' h j v hj => cell_of_obj h (by rw [Nat.zero_add]; simpa using hj)
      repeat (first | refine WC.seq ?_ | refine WC.reg ?_ | refine WL.pure rfl rfl rfl ?_ | refine WL.nil ?_ | refine WC.skip ?_ | refine WC.block ?_ | refine WC.condT rfl ?_ | refine WC.condF rfl ?_ | refine WL.off rfl rfl rfl ?_ | refine WL.off0 rfl rfl ?_ | refine WC.exit ?_ | refine blk_hit ?_ | refine blk_miss rfl ?_ | refine WC.ret ?_)
      refine WL.loadB rfl rfl rfl rfl rfl (hp5.obj 4 rfl) rfl ?_
      repeat (first | refine WC.seq ?_ | refine WC.reg ?_ | refine WL.pure rfl rfl rfl ?_ | refine WL.nil ?_ | refine WC.skip ?_ | refine WC.block ?_ | refine WC.condT rfl ?_ | refine WC.condF rfl ?_ | refine WL.off rfl rfl rfl ?_ | refine WL.off0 rfl rfl ?_ | refine WC.exit ?_ | refine blk_hit ?_ | refine blk_miss rfl ?_ | refine WC.ret ?_)
      refine WL.loadN (cs := zs out') rfl rfl rfl rfl rfl (show (zs out').length = 15 by simpa using hol) (hcell _ (hp5.obj 0 rfl)) ?_
      refine WL.mapSet (V := VV p) rfl rfl rfl rfl rfl rfl rfl (by rw [VV, hfin]; rfl) (hp5.obj 3 rfl) hok2 (fun es3 c3 w6 hok3 _ hmono hw6 => ?_)
      have hp6 := hp5.set 3 rfl rfl hw6
      repeat (first | refine WC.seq ?_ | refine WC.reg ?_ | refine WL.pure rfl rfl rfl ?_ | refine WL.nil ?_ | refine WC.skip ?_ | refine WC.block ?_ | refine WC.condT rfl ?_ | refine WC.condF rfl ?_ | refine WL.off rfl rfl rfl ?_ | refine WL.off0 rfl rfl ?_ | refine WC.exit ?_ | refine blk_hit ?_ | refine blk_miss rfl ?_ | refine WC.ret ?_)
      refine WL.loadN (cs := zs out') rfl rfl rfl rfl rfl (show (zs out').length = 15 by simpa using hol) (hcell _ (hp6.obj 0 rfl)) ?_
      refine WL.storeN rfl rfl rfl rfl hol clsV_one (hp6.obj 2 rfl) (by rw [hol]; exact Nat.le_refl 15) (store_all hol) (fun w7 hw7 => ?_)
      have hp7 := hp6.set 2 rfl rfl hw7
      repeat (first | refine WC.seq ?_ | refine WC.reg ?_ | refine WL.pure rfl rfl rfl ?_ | refine WL.nil ?_ | refine WC.skip ?_ | refine WC.block ?_ | refine WC.condT rfl ?_ | refine WC.condF rfl ?_ | refine WL.off rfl rfl rfl ?_ | refine WL.off0 rfl rfl ?_ | refine WC.exit ?_ | refine blk_hit ?_ | refine blk_miss rfl ?_ | refine WC.ret ?_)
      exact Res.cell rfl rfl rfl rfl hol rfl (hp7.obj 2 rfl) ⟨by rw [hfin]; rfl, es3, c3, hok3, hmono 0 hz2, hp7.tail.tail.tail⟩
    · have hq : part ≠ 0 := by simpa using hq
      have e33 : bits .and .i64 (IntKind.i64.wrap ((part : Int) - 1)) ((rst S : Nat) : Int) = (((part - 1) &&& rst S : Nat) : Int) := by
        rw [wrap_i64_in (by omega) (by omega), show (part : Int) - 1 = ((part - 1 : Nat) : Int) by omega, and_i64 (by omega) (by omega)]
      have hle : (part - 1) &&& rst S ≤ part - 1 := Nat.and_le_left
      have hlen' : out'.length = 15 := by
        rw [ho', clStepF]
        split
        · rw [addC, addP_len]; exact hout
        · exact hout
      repeat (first | refine WC.seq ?_ | refine WC.reg ?_ | refine WL.pure rfl rfl rfl ?_ | refine WL.nil ?_ | refine WC.skip ?_ | refine WC.block ?_ | refine WC.condT rfl ?_ | refine WC.condF rfl ?_ | refine WL.off rfl rfl rfl ?_ | refine WL.off0 rfl rfl ?_ | refine WC.exit ?_ | refine blk_hit ?_ | refine blk_miss rfl ?_ | refine WC.ret ?_)
      refine ⟨((part - 1) &&& rst S, out', es2, c2), by show (part - 1) &&& rst S < part; omega, ⟨rfl, rfl, rfl, rfl, rfl, rfl, rfl, rfl, congrArg (fun z => some (Value.int .i64 z)) e33, rfl⟩, by omega, hlen', ?_, hok2, hz2, hp5⟩
      rw [hcls, subsR_step hq, List.foldl_cons, ← ho']
end
end Go.Proofs.YtdnkkflpgebfbaaDoor
