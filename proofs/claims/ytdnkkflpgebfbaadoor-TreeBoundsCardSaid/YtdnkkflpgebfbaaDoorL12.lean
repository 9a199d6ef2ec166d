/- The walks of 'parted' and 'Colour'. -/
import Derived.Test.YtdnkkflpgebfbaaDoorL11
namespace Go.Proofs.YtdnkkflpgebfbaaDoor
open Go.W Go.Tree
set_option maxRecDepth 100000
attribute [local irreducible] WC WL WQ WS

theorem full_i64' {n : Nat} (hn : n ≤ 14) : IntKind.i64.wrap (shl .i64 1 n - 1) = (full n : Nat) := by
  have h1 := shl_one (v := n) (by omega)
  have h2 : 2 ^ n ≤ 2 ^ 14 := Nat.pow_le_pow_right (by decide) hn
  have h3 := Nat.two_pow_pos n
  rw [h1, wrap_i64_in (by omega) (by omega)]
  unfold full; omega

theorem parted_any (ga : Option Addr) (cap : Nat) (g : List Nat) (w : World) (hs : Sl w ga (ints g)) (hT : Tb w) (hg : Gr g) :
    Ret Tryd.prog 39 [.slice ga g.length cap] w fun v w' => v = clsV (cls (fr (ap g)) (full g.length)) ∧ Hp w w' [] := by
  have hn := hg.len
  refine enter Tryd.func39 rfl rfl ⟨rfl, rfl⟩ rfl ?_
  repeat (first | refine WC.seq ?_ | refine WC.reg ?_ | refine WL.pure rfl rfl rfl ?_ | refine WL.nil ?_ | refine WC.skip ?_ | refine WC.block ?_ | refine WC.condT rfl ?_ | refine WC.condF rfl ?_ | refine WL.off rfl rfl rfl ?_ | refine WL.off0 rfl rfl ?_ | refine WC.exit ?_ | refine blk_hit ?_ | refine blk_miss rfl ?_ | refine WC.ret ?_)
  refine WL.alloc rfl rfl rfl ?_
  intro bo w1 hbo
  have hp1 := (Hp.start w).new hbo
  repeat (first | refine WC.seq ?_ | refine WC.reg ?_ | refine WL.pure rfl rfl rfl ?_ | refine WL.nil ?_ | refine WC.skip ?_ | refine WC.block ?_ | refine WC.condT rfl ?_ | refine WC.condF rfl ?_ | refine WL.off rfl rfl rfl ?_ | refine WL.off0 rfl rfl ?_ | refine WC.exit ?_ | refine blk_hit ?_ | refine blk_miss rfl ?_ | refine WC.ret ?_)
  refine WL.call rfl rfl rfl rfl rfl ent40 (apart_any ga cap g w1 (hs.hp hp1) (hT.below hp1.below) hg) ?_
  rintro _ w2 ⟨bf, hp2, rfl⟩
  have hp2 := hp1.comb hp2
  refine WL.var rfl rfl rfl (fun _ => rfl) rfl rfl (by intro y hy; simp [Value.cells] at hy; subst hy; rfl) ?_
  intro b3 w3 hb3
  have hp3 := hp2.new hb3
  repeat (first | refine WC.seq ?_ | refine WC.reg ?_ | refine WL.pure rfl rfl rfl ?_ | refine WL.nil ?_ | refine WC.skip ?_ | refine WC.block ?_ | refine WC.condT rfl ?_ | refine WC.condF rfl ?_ | refine WL.off rfl rfl rfl ?_ | refine WL.off0 rfl rfl ?_ | refine WC.exit ?_ | refine blk_hit ?_ | refine blk_miss rfl ?_ | refine WC.ret ?_)
  refine WL.makeMap rfl rfl ?_
  intro bm w4 hbm
  have hp4 := hp3.new hbm
  refine WL.buildA rfl rfl rfl rfl rfl rfl ?_
  refine WL.mapIns (V := VV (ap g)) (S := 0) (es := #[]) rfl rfl rfl rfl rfl rfl rfl (by rw [VV, cls_zero]; rfl) (hp4.obj 0 rfl) (fun x hx => by cases hx) (fun es c w5 hok hz _ hw5 => ?_)
  have hp5 := hp4.set 0 rfl rfl hw5
  repeat (first | refine WC.seq ?_ | refine WC.reg ?_ | refine WL.pure rfl rfl rfl ?_ | refine WL.nil ?_ | refine WC.skip ?_ | refine WC.block ?_ | refine WC.condT rfl ?_ | refine WC.condF rfl ?_ | refine WL.off rfl rfl rfl ?_ | refine WL.off0 rfl rfl ?_ | refine WC.exit ?_ | refine blk_hit ?_ | refine blk_miss rfl ?_ | refine WC.ret ?_)
  refine WL.var rfl rfl rfl (fun _ => rfl) rfl rfl (by intro y hy; simp [Value.cells] at hy; subst hy; rfl) ?_
  intro b4 w6 hb4
  have hp6 := hp5.new hb4
  repeat (first | refine WC.seq ?_ | refine WC.reg ?_ | refine WL.pure rfl rfl rfl ?_ | refine WL.nil ?_ | refine WC.skip ?_ | refine WC.block ?_ | refine WC.condT rfl ?_ | refine WC.condF rfl ?_ | refine WL.off rfl rfl rfl ?_ | refine WL.off0 rfl rfl ?_ | refine WC.exit ?_ | refine blk_hit ?_ | refine blk_miss rfl ?_ | refine WC.ret ?_)
  refine WL.alloc rfl rfl rfl ?_
  intro b5 w7 hb5
  have hp7 := hp6.new hb5
  repeat (first | refine WC.seq ?_ | refine WC.reg ?_ | refine WL.pure rfl rfl rfl ?_ | refine WL.nil ?_ | refine WC.skip ?_ | refine WC.block ?_ | refine WC.condT rfl ?_ | refine WC.condF rfl ?_ | refine WL.off rfl rfl rfl ?_ | refine WL.off0 rfl rfl ?_ | refine WC.exit ?_ | refine blk_hit ?_ | refine blk_miss rfl ?_ | refine WC.ret ?_)
  refine WL.store rfl rfl rfl rfl rfl rfl (hp7.obj 0 rfl) Nat.zero_lt_one (fun w8 hw8 => ?_)
  have hp8 := hp7.set 0 rfl rfl hw8
  repeat (first | refine WC.seq ?_ | refine WC.reg ?_ | refine WL.pure rfl rfl rfl ?_ | refine WL.nil ?_ | refine WC.skip ?_ | refine WC.block ?_ | refine WC.condT rfl ?_ | refine WC.condF rfl ?_ | refine WL.off rfl rfl rfl ?_ | refine WL.off0 rfl rfl ?_ | refine WC.exit ?_ | refine blk_hit ?_ | refine blk_miss rfl ?_ | refine WC.ret ?_)
  refine WC.regS 5 mixed (by kernel_rfl) rfl rfl (fun w9 hw9 hh9 => ?_)
  have hp9 := hp8.keep hw9
  refine WS.loadB rfl rfl rfl rfl rfl (hp9.obj 0 rfl) rfl ?_
  repeat (first | refine WS.pure rfl rfl rfl ?_ | refine WS.off rfl rfl rfl ?_ | refine WS.nil ?_)
  refine WL.known (d := 16) (congrArg (fun z => some (Value.int .i64 z)) (full_i64' hn)) ?_
  refine WL.call rfl rfl rfl rfl rfl ent63 (part1_any w (ap g) g.length bm b4 b3 b5 bf hn (full g.length) (full_lt _) [.blk bo _] es c w9 (hp9.pick [2, 1, 3, 0, 4, 5] (by decide)) hok hz) ?_
  rintro _ wa ⟨rfl, es', c', hok', hz', hpa⟩
  refine WL.storeN rfl rfl rfl rfl (cls_size _ _) clsV_one (hpa.obj 5 rfl) (by rw [cls_size' _ _]; exact Nat.le_refl 15) (store_all (cls_size' _ _)) (fun wb hwb => ?_)
  have hpb := hpa.set 5 rfl rfl hwb
  repeat (first | refine WC.seq ?_ | refine WC.reg ?_ | refine WL.pure rfl rfl rfl ?_ | refine WL.nil ?_ | refine WC.skip ?_ | refine WC.block ?_ | refine WC.condT rfl ?_ | refine WC.condF rfl ?_ | refine WL.off rfl rfl rfl ?_ | refine WL.off0 rfl rfl ?_ | refine WC.exit ?_ | refine blk_hit ?_ | refine blk_miss rfl ?_ | refine WC.ret ?_)
  exact Res.cell rfl rfl rfl rfl (cls_size _ _) rfl (hpb.obj 5 rfl) ⟨rfl, hpb.nil'⟩

def fallP (k : Int) (many : Nat) (ways : Int) : Int := (List.range many).foldl (fun x i => IntKind.i64.wrap (x * max 0 (IntKind.i64.wrap (k - (i : Nat))))) ways
theorem fallP_succ (k : Int) (m : Nat) (x : Int) : fallP k (m + 1) x = IntKind.i64.wrap (fallP k m x * max 0 (IntKind.i64.wrap (k - (m : Nat)))) := by simp [fallP, List.range_succ]
def colP (c : List Int) (k : Int) (j : Nat) : Int := (List.range j).foldl (fun s m => IntKind.i64.wrap (s + fallP k m (c.getD m 0))) 0
theorem colP_succ (c : List Int) (k : Int) (j : Nat) : colP c k (j + 1) = IntKind.i64.wrap (colP c k j + fallP k j (c.getD j 0)) := by simp [colP, List.range_succ]
/-- What 'Colour' hands back. -/
def colV (n : Int) (es : List Ed) (k : Int) : Value := match mkG n es with
  | none => .tuple #[.int .i64 0, .int .i64 2]
  | some g => if k < 0 ∨ 8 < k then .tuple #[.int .i64 0, .int .i64 2] else .tuple #[.int .i64 (colP (cls (fr (ap g)) (full g.length)) k 15), .int .i64 0]

theorem Colour_any (ea : Option Addr) (cap : Nat) (n : Int) (es : List Ed) (k : Int) (w : World) (hs : Sl w ea (prs es)) (hlen : es.length ≤ 4611686018427387904) (hT : Tb w) :
    Ret Tryd.prog 14 [.int .i64 n, .slice ea es.length cap, .int .i64 k] w fun v w' => Hp w w' [] ∧ v = colV n es k := by
  refine enter Tryd.func14 rfl rfl ⟨rfl, rfl⟩ rfl ?_
  repeat (first | refine WC.seq ?_ | refine WC.reg ?_ | refine WL.pure rfl rfl rfl ?_ | refine WL.nil ?_ | refine WC.skip ?_ | refine WC.block ?_ | refine WC.condT rfl ?_ | refine WC.condF rfl ?_ | refine WL.off rfl rfl rfl ?_ | refine WL.off0 rfl rfl ?_ | refine WC.exit ?_ | refine blk_hit ?_ | refine blk_miss rfl ?_ | refine WC.ret ?_)
  refine WL.call rfl rfl rfl rfl rfl ent38 (newGraph_any ea cap n es w hs hlen) ?_
  intro v1 w1 hG
  cases hmk : mkG n es with
  | none =>
    obtain ⟨hp1, rfl⟩ := graph_none hG hmk
    repeat (first | refine WC.seq ?_ | refine WC.reg ?_ | refine WL.pure rfl rfl rfl ?_ | refine WL.nil ?_ | refine WC.skip ?_ | refine WC.block ?_ | refine WC.condT rfl ?_ | refine WC.condF rfl ?_ | refine WL.off rfl rfl rfl ?_ | refine WL.off0 rfl rfl ?_ | refine WC.exit ?_ | refine blk_hit ?_ | refine blk_miss rfl ?_ | refine WC.ret ?_)
    exact Res.two rfl rfl rfl rfl ⟨hp1, by rw [colV, hmk]⟩
  | some g =>
    obtain ⟨hg, _, _, _, _⟩ := mkG_gr hmk
    obtain ⟨bg, hp1, rfl⟩ := graph_hp hG hmk
    repeat (first | refine WC.seq ?_ | refine WC.reg ?_ | refine WL.pure rfl rfl rfl ?_ | refine WL.nil ?_ | refine WC.skip ?_ | refine WC.block ?_ | refine WC.condT rfl ?_ | refine WC.condF rfl ?_ | refine WL.off rfl rfl rfl ?_ | refine WL.off0 rfl rfl ?_ | refine WC.exit ?_ | refine blk_hit ?_ | refine blk_miss rfl ?_ | refine WC.ret ?_)
    refine WL.split 26 rfl (fun h1 => ?_) (fun h1 => ?_)
    · have h1 : k < 0 := of_decide_eq_true h1
      repeat (first | refine WC.seq ?_ | refine WC.reg ?_ | refine WL.pure rfl rfl rfl ?_ | refine WL.nil ?_ | refine WC.skip ?_ | refine WC.block ?_ | refine WC.condT rfl ?_ | refine WC.condF rfl ?_ | refine WL.off rfl rfl rfl ?_ | refine WL.off0 rfl rfl ?_ | refine WC.exit ?_ | refine blk_hit ?_ | refine blk_miss rfl ?_ | refine WC.ret ?_)
      exact Res.two rfl rfl rfl rfl ⟨hp1.nil', by simp only [colV, hmk]; rw [if_pos (.inl h1)]⟩
    have h1 : ¬ k < 0 := of_decide_eq_false h1
    repeat (first | refine WC.seq ?_ | refine WC.reg ?_ | refine WL.pure rfl rfl rfl ?_ | refine WL.nil ?_ | refine WC.skip ?_ | refine WC.block ?_ | refine WC.condT rfl ?_ | refine WC.condF rfl ?_ | refine WL.off rfl rfl rfl ?_ | refine WL.off0 rfl rfl ?_ | refine WC.exit ?_ | refine blk_hit ?_ | refine blk_miss rfl ?_ | refine WC.ret ?_)
    refine WC.cond rfl (fun h2 => ?_) (fun h2 => ?_)
    · have h2 : 8 < k := of_decide_eq_true h2
      repeat (first | refine WC.seq ?_ | refine WC.reg ?_ | refine WL.pure rfl rfl rfl ?_ | refine WL.nil ?_ | refine WC.skip ?_ | refine WC.block ?_ | refine WC.condT rfl ?_ | refine WC.condF rfl ?_ | refine WL.off rfl rfl rfl ?_ | refine WL.off0 rfl rfl ?_ | refine WC.exit ?_ | refine blk_hit ?_ | refine blk_miss rfl ?_ | refine WC.ret ?_)
      exact Res.two rfl rfl rfl rfl ⟨hp1.nil', by simp only [colV, hmk]; rw [if_pos (.inr h2)]⟩
    have h2 : ¬ 8 < k := of_decide_eq_false h2
    repeat (first | refine WC.seq ?_ | refine WC.reg ?_ | refine WL.pure rfl rfl rfl ?_ | refine WL.nil ?_ | refine WC.skip ?_ | refine WC.block ?_ | refine WC.condT rfl ?_ | refine WC.condF rfl ?_ | refine WL.off rfl rfl rfl ?_ | refine WL.off0 rfl rfl ?_ | refine WC.exit ?_ | refine blk_hit ?_ | refine blk_miss rfl ?_ | refine WC.ret ?_)
    refine WL.call rfl rfl rfl rfl rfl ent39 (parted_any _ _ g w1 (Sl.of_obj (hp1.obj 0 rfl) (fun i u h => by simpa using h)) (hT.below hp1.below) hg) ?_
    rintro _ w2 ⟨rfl, hp2⟩
    have hp2 := (hp1.comb hp2).nil'
    have hcl := cls_len (fr (ap g)) (full g.length)
    have hval : colV n es k = .tuple #[.int .i64 (colP (cls (fr (ap g)) (full g.length)) k 15), .int .i64 0] := by
      simp only [colV, hmk]; rw [if_neg (fun h => h.elim h1 h2)]
    generalize cls (fr (ap g)) (full g.length) = c at *
    repeat (first | refine WC.seq ?_ | refine WC.reg ?_ | refine WL.pure rfl rfl rfl ?_ | refine WL.nil ?_ | refine WC.skip ?_ | refine WC.block ?_ | refine WC.condT rfl ?_ | refine WC.condF rfl ?_ | refine WL.off rfl rfl rfl ?_ | refine WL.off0 rfl rfl ?_ | refine WC.exit ?_ | refine blk_hit ?_ | refine blk_miss rfl ?_ | refine WC.ret ?_)
    refine WC.loop Nat (fun j => [(2, .int .i64 k), (10, .int .i64 (colP c k j)), (31, clsV c), (32, .int .i64 (j : Nat))]) (fun j w' => j ≤ 15 ∧ Hp w w' []) (fun j => 15 - j) 0 ⟨rfl, rfl, rfl, rfl, rfl⟩ ⟨by omega, hp2⟩ ?_
    rintro j w3 ⟨hj, hp3⟩
    repeat (first | refine WC.seq ?_ | refine WC.reg ?_ | refine WL.pure rfl rfl rfl ?_ | refine WL.nil ?_ | refine WC.skip ?_ | refine WC.block ?_ | refine WC.condT rfl ?_ | refine WC.condF rfl ?_ | refine WL.off rfl rfl rfl ?_ | refine WL.off0 rfl rfl ?_ | refine WC.exit ?_ | refine blk_hit ?_ | refine blk_miss rfl ?_ | refine WC.ret ?_)
    refine WC.cond rfl (fun hc => ?_) (fun hc => ?_)
    · have hj : j < 15 := by have := of_decide_eq_true hc; omega
      have step : IntKind.i64.wrap ((j : Int) + 1) = ((j + 1 : Nat) : Int) := by rw [wrap_i64_in (by omega) (by omega)]; omega
      repeat (first | refine WC.seq ?_ | refine WC.reg ?_ | refine WL.pure rfl rfl rfl ?_ | refine WL.nil ?_ | refine WC.skip ?_ | refine WC.block ?_ | refine WC.condT rfl ?_ | refine WC.condF rfl ?_ | refine WL.off rfl rfl rfl ?_ | refine WL.off0 rfl rfl ?_ | refine WC.exit ?_ | refine blk_hit ?_ | refine blk_miss rfl ?_ | refine WC.ret ?_)
      refine WL.ixV rfl rfl rfl rfl rfl rfl rfl rfl hj (zs_at (by omega)) ?_
      repeat (first | refine WC.seq ?_ | refine WC.reg ?_ | refine WL.pure rfl rfl rfl ?_ | refine WL.nil ?_ | refine WC.skip ?_ | refine WC.block ?_ | refine WC.condT rfl ?_ | refine WC.condF rfl ?_ | refine WL.off rfl rfl rfl ?_ | refine WL.off0 rfl rfl ?_ | refine WC.exit ?_ | refine blk_hit ?_ | refine blk_miss rfl ?_ | refine WC.ret ?_)
      refine WC.loop Nat (fun i => [(2, .int .i64 k), (10, .int .i64 (colP c k j)), (31, clsV c), (32, .int .i64 (j : Nat)), (12, .int .i64 (fallP k i (c.getD j 0))), (36, .int .i64 (j : Nat)), (37, .int .i64 (i : Nat))])
        (fun i w' => i ≤ j ∧ Hp w w' []) (fun i => j - i) 0 ⟨rfl, rfl, rfl, rfl, rfl, rfl, rfl, rfl⟩ ⟨by omega, hp3⟩ ?_
      rintro i w4 ⟨hi, hp4⟩
      repeat (first | refine WC.seq ?_ | refine WC.reg ?_ | refine WL.pure rfl rfl rfl ?_ | refine WL.nil ?_ | refine WC.skip ?_ | refine WC.block ?_ | refine WC.condT rfl ?_ | refine WC.condF rfl ?_ | refine WL.off rfl rfl rfl ?_ | refine WL.off0 rfl rfl ?_ | refine WC.exit ?_ | refine blk_hit ?_ | refine blk_miss rfl ?_ | refine WC.ret ?_)
      refine WC.cond rfl (fun hc2 => ?_) (fun hc2 => ?_)
      · have hi : i < j := by have := of_decide_eq_true hc2; omega
        have step2 : IntKind.i64.wrap ((i : Int) + 1) = ((i + 1 : Nat) : Int) := by rw [wrap_i64_in (by omega) (by omega)]; omega
        repeat (first | refine WC.seq ?_ | refine WC.reg ?_ | refine WL.pure rfl rfl rfl ?_ | refine WL.nil ?_ | refine WC.skip ?_ | refine WC.block ?_ | refine WC.condT rfl ?_ | refine WC.condF rfl ?_ | refine WL.off rfl rfl rfl ?_ | refine WL.off0 rfl rfl ?_ | refine WC.exit ?_ | refine blk_hit ?_ | refine blk_miss rfl ?_ | refine WC.ret ?_)
        exact ⟨i + 1, by show j - (i + 1) < j - i; omega, ⟨rfl, rfl, rfl, rfl, congrArg (fun z => some (Value.int .i64 z)) (fallP_succ k i _).symm, rfl, congrArg (fun z => some (Value.int .i64 z)) step2, rfl⟩, by omega, hp4⟩
      · have hi : i = j := by have := of_decide_eq_false hc2; omega
        subst hi
        repeat (first | refine WC.seq ?_ | refine WC.reg ?_ | refine WL.pure rfl rfl rfl ?_ | refine WL.nil ?_ | refine WC.skip ?_ | refine WC.block ?_ | refine WC.condT rfl ?_ | refine WC.condF rfl ?_ | refine WL.off rfl rfl rfl ?_ | refine WL.off0 rfl rfl ?_ | refine WC.exit ?_ | refine blk_hit ?_ | refine blk_miss rfl ?_ | refine WC.ret ?_)
        exact ⟨i + 1, by show 15 - (i + 1) < 15 - i; omega, ⟨rfl, congrArg (fun z => some (Value.int .i64 z)) (colP_succ c k i).symm, rfl, congrArg (fun z => some (Value.int .i64 z)) step, rfl⟩, by omega, hp4⟩
    · have hj : j = 15 := by have := of_decide_eq_false hc; omega
      subst hj
      repeat (first | refine WC.seq ?_ | refine WC.reg ?_ | refine WL.pure rfl rfl rfl ?_ | refine WL.nil ?_ | refine WC.skip ?_ | refine WC.block ?_ | refine WC.condT rfl ?_ | refine WC.condF rfl ?_ | refine WL.off rfl rfl rfl ?_ | refine WL.off0 rfl rfl ?_ | refine WC.exit ?_ | refine blk_hit ?_ | refine blk_miss rfl ?_ | refine WC.ret ?_)
      exact Res.two rfl rfl rfl rfl ⟨hp3, hval.symm⟩
end Go.Proofs.YtdnkkflpgebfbaaDoor
