/- The walk of the reference's order. -/
import Derived.Test.YtdnkkflpgebfbaaDoorL18
import Derived.Test.YtdnkkflpgebfbaaDoorL14
namespace Go.Proofs.YtdnkkflpgebfbaaDoor
open Go.W Go.Tree
set_option maxRecDepth 100000
attribute [local irreducible] WC WL WQ WS WH

def rordV (g : List Nat) (o : List Int) : Value := if o.length ≠ g.length then .tuple #[.int .i64 0, .bool false] else match ordL g o 0 (-1) with
  | none => .tuple #[.int .i64 0, .bool false]
  | some k => .tuple #[.int .i64 k, .bool true]

theorem ROrder_any (ea oa : Option Addr) (cap oc : Nat) (g : List Nat) (es : List Ed) (o : List Int) (w : World) (hs : Sl w ea (prs es)) (hlen : es.length ≤ 4611686018427387904) (ho : Sl w oa (zs o)) (hmk : mkG (g.length : Nat) es = some g) :
    Ret Tryd.prog 32 [.int .i64 (g.length : Nat), .slice ea es.length cap, .slice oa o.length oc] w fun v w' => Hp w w' [] ∧ v = rordV g o := by
  obtain ⟨hg, _, _, _, _⟩ := mkG_gr hmk
  have hn := hg.len
  have hp14 : 2 ^ g.length ≤ 2 ^ 14 := Nat.pow_le_pow_right (by decide) hn
  refine enter Tryd.func32 rfl rfl ⟨rfl, rfl⟩ rfl ?_
  repeat (first | refine WC.seq ?_ | refine WC.reg ?_ | refine WL.pure rfl rfl rfl ?_ | refine WL.nil ?_ | refine WC.skip ?_ | refine WC.block ?_ | refine WC.condT rfl ?_ | refine WC.condF rfl ?_ | refine WL.off rfl rfl rfl ?_ | refine WL.off0 rfl rfl ?_ | refine WC.exit ?_ | refine blk_hit ?_ | refine blk_miss rfl ?_ | refine WC.ret ?_)
  refine WC.cond rfl (fun h0 => ?_) (fun h0 => ?_)
  · have h0 : o.length ≠ g.length := by intro h; rw [h] at h0; simp at h0
    repeat (first | refine WC.seq ?_ | refine WC.reg ?_ | refine WL.pure rfl rfl rfl ?_ | refine WL.nil ?_ | refine WC.skip ?_ | refine WC.block ?_ | refine WC.condT rfl ?_ | refine WC.condF rfl ?_ | refine WL.off rfl rfl rfl ?_ | refine WL.off0 rfl rfl ?_ | refine WC.exit ?_ | refine blk_hit ?_ | refine blk_miss rfl ?_ | refine WC.ret ?_)
    exact Res.two rfl rfl rfl rfl ⟨Hp.start w, by rw [rordV, if_pos h0]⟩
  have h0 : o.length = g.length := by simp at h0; omega
  have hval : rordV g o = match ordL g o 0 (-1) with
      | none => .tuple #[.int .i64 0, .bool false]
      | some k => .tuple #[.int .i64 k, .bool true] := by rw [rordV, if_neg (fun h => h h0)]
  have hbadv : vl g.length o 0 = false → rordV g o = .tuple #[.int .i64 0, .bool false] := by
    intro h
    rw [hval]
    have := ordL_some (g := g) o 0 (-1)
    rw [h] at this
    cases hx : ordL g o 0 (-1) with
    | none => rfl
    | some k => rw [hx] at this; cases this
  repeat (first | refine WC.seq ?_ | refine WC.reg ?_ | refine WL.pure rfl rfl rfl ?_ | refine WL.nil ?_ | refine WC.skip ?_ | refine WC.block ?_ | refine WC.condT rfl ?_ | refine WC.condF rfl ?_ | refine WL.off rfl rfl rfl ?_ | refine WL.off0 rfl rfl ?_ | refine WC.exit ?_ | refine blk_hit ?_ | refine blk_miss rfl ?_ | refine WC.ret ?_)
  refine WC.loop (Nat × Nat) (fun (i, S) => [(0, .int .i64 (g.length : Nat)), (1, .slice ea es.length cap), (2, .slice oa o.length oc), (8, .int .i64 (S : Nat)), (9, .int .i64 (i : Nat))])
    (fun (i, S) w' => w' = w ∧ i ≤ g.length ∧ S < 2 ^ g.length ∧ vl g.length o 0 = vl g.length (o.drop i) S) (fun (i, _) => g.length - i) (0, 0) ⟨rfl, rfl, rfl, rfl, rfl, rfl⟩ ⟨rfl, Nat.zero_le _, Nat.two_pow_pos _, rfl⟩ ?_
  rintro ⟨i, S⟩ w1 ⟨rfl, hi, hS, hvl⟩
  repeat (first | refine WC.seq ?_ | refine WC.reg ?_ | refine WL.pure rfl rfl rfl ?_ | refine WL.nil ?_ | refine WC.skip ?_ | refine WC.block ?_ | refine WC.condT rfl ?_ | refine WC.condF rfl ?_ | refine WL.off rfl rfl rfl ?_ | refine WL.off0 rfl rfl ?_ | refine WC.exit ?_ | refine blk_hit ?_ | refine blk_miss rfl ?_ | refine WC.ret ?_)
  refine WC.cond rfl (fun hc => ?_) (fun hc => ?_)
  · have hi : i < g.length := by have := of_decide_eq_true hc; omega
    have hio : i < o.length := by omega
    have step : IntKind.i64.wrap ((i : Int) + 1) = ((i + 1 : Nat) : Int) := by rw [wrap_i64_in (by omega) (by omega)]; omega
    have hdrop : o.drop i = o.getD i 0 :: o.drop (i + 1) := by rw [List.drop_eq_getElem_cons hio]; simp [hio]
    have hget := zs_get hio
    rw [hdrop, vl] at hvl
    generalize o.getD i 0 = v at *
    have bad : (v < 0 ∨ (g.length : Int) ≤ v ∨ S.testBit v.toNat = true) → rordV g o = .tuple #[.int .i64 0, .bool false] := fun h => by
      rw [if_pos h] at hvl; exact hbadv hvl
    repeat (first | refine WC.seq ?_ | refine WC.reg ?_ | refine WL.pure rfl rfl rfl ?_ | refine WL.nil ?_ | refine WC.skip ?_ | refine WC.block ?_ | refine WC.condT rfl ?_ | refine WC.condF rfl ?_ | refine WL.off rfl rfl rfl ?_ | refine WL.off0 rfl rfl ?_ | refine WC.exit ?_ | refine blk_hit ?_ | refine blk_miss rfl ?_ | refine WC.ret ?_)
    refine WL.ixload rfl (fun _ => rfl) rfl rfl rfl rfl rfl rfl rfl hio rfl rfl ho hget ?_
    intro p
    repeat (first | refine WC.seq ?_ | refine WC.reg ?_ | refine WL.pure rfl rfl rfl ?_ | refine WL.nil ?_ | refine WC.skip ?_ | refine WC.block ?_ | refine WC.condT rfl ?_ | refine WC.condF rfl ?_ | refine WL.off rfl rfl rfl ?_ | refine WL.off0 rfl rfl ?_ | refine WC.exit ?_ | refine blk_hit ?_ | refine blk_miss rfl ?_ | refine WC.ret ?_)
    refine WL.split 27 rfl (fun q1 => ?_) (fun q1 => ?_)
    · repeat (first | refine WC.seq ?_ | refine WC.reg ?_ | refine WL.pure rfl rfl rfl ?_ | refine WL.nil ?_ | refine WC.skip ?_ | refine WC.block ?_ | refine WC.condT rfl ?_ | refine WC.condF rfl ?_ | refine WL.off rfl rfl rfl ?_ | refine WL.off0 rfl rfl ?_ | refine WC.exit ?_ | refine blk_hit ?_ | refine blk_miss rfl ?_ | refine WC.ret ?_)
      exact Res.two rfl rfl rfl rfl ⟨Hp.start _, (bad (.inl (of_decide_eq_true q1))).symm⟩
    have q1 : ¬ v < 0 := of_decide_eq_false q1
    repeat (first | refine WC.seq ?_ | refine WC.reg ?_ | refine WL.pure rfl rfl rfl ?_ | refine WL.nil ?_ | refine WC.skip ?_ | refine WC.block ?_ | refine WC.condT rfl ?_ | refine WC.condF rfl ?_ | refine WL.off rfl rfl rfl ?_ | refine WL.off0 rfl rfl ?_ | refine WC.exit ?_ | refine blk_hit ?_ | refine blk_miss rfl ?_ | refine WC.ret ?_)
    refine WL.ixload rfl (fun _ => rfl) rfl rfl rfl rfl rfl rfl rfl hio rfl rfl ho hget ?_
    intro p2
    repeat (first | refine WC.seq ?_ | refine WC.reg ?_ | refine WL.pure rfl rfl rfl ?_ | refine WL.nil ?_ | refine WC.skip ?_ | refine WC.block ?_ | refine WC.condT rfl ?_ | refine WC.condF rfl ?_ | refine WL.off rfl rfl rfl ?_ | refine WL.off0 rfl rfl ?_ | refine WC.exit ?_ | refine blk_hit ?_ | refine blk_miss rfl ?_ | refine WC.ret ?_)
    refine WL.split 35 rfl (fun q2 => ?_) (fun q2 => ?_)
    · repeat (first | refine WC.seq ?_ | refine WC.reg ?_ | refine WL.pure rfl rfl rfl ?_ | refine WL.nil ?_ | refine WC.skip ?_ | refine WC.block ?_ | refine WC.condT rfl ?_ | refine WC.condF rfl ?_ | refine WL.off rfl rfl rfl ?_ | refine WL.off0 rfl rfl ?_ | refine WC.exit ?_ | refine blk_hit ?_ | refine blk_miss rfl ?_ | refine WC.ret ?_)
      exact Res.two rfl rfl rfl rfl ⟨Hp.start _, (bad (.inr (.inl (of_decide_eq_true q2)))).symm⟩
    have q2 : ¬ (g.length : Int) ≤ v := of_decide_eq_false q2
    obtain ⟨v, rfl⟩ := Int.eq_ofNat_of_zero_le (show 0 ≤ v by omega)
    have hv : v < g.length := by omega
    simp only [Int.toNat_natCast] at bad hvl
    repeat (first | refine WC.seq ?_ | refine WC.reg ?_ | refine WL.pure rfl rfl rfl ?_ | refine WL.nil ?_ | refine WC.skip ?_ | refine WC.block ?_ | refine WC.condT rfl ?_ | refine WC.condF rfl ?_ | refine WL.off rfl rfl rfl ?_ | refine WL.off0 rfl rfl ?_ | refine WC.exit ?_ | refine blk_hit ?_ | refine blk_miss rfl ?_ | refine WC.ret ?_)
    refine WL.ixload rfl (fun _ => rfl) rfl rfl rfl rfl rfl rfl rfl hio rfl rfl ho hget ?_
    intro p3
    refine WL.callP rfl rfl rfl rfl rfl ent51 (Has_any S v (by omega) _) ?_
    repeat (first | refine WC.seq ?_ | refine WC.reg ?_ | refine WL.pure rfl rfl rfl ?_ | refine WL.nil ?_ | refine WC.skip ?_ | refine WC.block ?_ | refine WC.condT rfl ?_ | refine WC.condF rfl ?_ | refine WL.off rfl rfl rfl ?_ | refine WL.off0 rfl rfl ?_ | refine WC.exit ?_ | refine blk_hit ?_ | refine blk_miss rfl ?_ | refine WC.ret ?_)
    refine WC.cond rfl (fun q3 => ?_) (fun q3 => ?_)
    · repeat (first | refine WC.seq ?_ | refine WC.reg ?_ | refine WL.pure rfl rfl rfl ?_ | refine WL.nil ?_ | refine WC.skip ?_ | refine WC.block ?_ | refine WC.condT rfl ?_ | refine WC.condF rfl ?_ | refine WL.off rfl rfl rfl ?_ | refine WL.off0 rfl rfl ?_ | refine WC.exit ?_ | refine blk_hit ?_ | refine blk_miss rfl ?_ | refine WC.ret ?_)
      exact Res.two rfl rfl rfl rfl ⟨Hp.start _, (bad (.inr (.inr q3))).symm⟩
    rw [if_neg (fun h => h.elim q1 (fun h => h.elim q2 (fun h => by rw [q3] at h; cases h)))] at hvl
    repeat (first | refine WC.seq ?_ | refine WC.reg ?_ | refine WL.pure rfl rfl rfl ?_ | refine WL.nil ?_ | refine WC.skip ?_ | refine WC.block ?_ | refine WC.condT rfl ?_ | refine WC.condF rfl ?_ | refine WL.off rfl rfl rfl ?_ | refine WL.off0 rfl rfl ?_ | refine WC.exit ?_ | refine blk_hit ?_ | refine blk_miss rfl ?_ | refine WC.ret ?_)
    refine WL.ixload rfl (fun _ => rfl) rfl rfl rfl rfl rfl rfl rfl hio rfl rfl ho hget ?_
    intro p4
    refine WL.callP rfl rfl rfl rfl rfl ent52 (bit_any v (by omega) _) ?_
    repeat (first | refine WC.seq ?_ | refine WC.reg ?_ | refine WL.pure rfl rfl rfl ?_ | refine WL.nil ?_ | refine WC.skip ?_ | refine WC.block ?_ | refine WC.condT rfl ?_ | refine WC.condF rfl ?_ | refine WL.off rfl rfl rfl ?_ | refine WL.off0 rfl rfl ?_ | refine WC.exit ?_ | refine blk_hit ?_ | refine blk_miss rfl ?_ | refine WC.ret ?_)
    have hpv := Nat.pow_lt_pow_right (a := 2) (by decide) hv
    exact ⟨(i + 1, S ||| 2 ^ v), by show g.length - (i + 1) < g.length - i; omega, ⟨rfl, rfl, rfl, congrArg (fun z => some (Value.int .i64 z)) (or_i64 (a := S) (b := 2 ^ v) (by omega) (by omega)), congrArg (fun z => some (Value.int .i64 z)) step, rfl⟩, rfl, hi, or_pow_lt hS hv, hvl⟩
  · have hi : i = g.length := by have := of_decide_eq_false hc; omega
    rw [List.drop_eq_nil_of_le (by omega), vl] at hvl
    obtain ⟨K, hK⟩ : ∃ K, ordL g o 0 (-1) = some K := by
      have := ordL_some (g := g) o 0 (-1)
      rw [hvl] at this
      exact Option.isSome_iff_exists.1 this
    rw [hK] at hval
    clear hbadv hvl hS
    repeat (first | refine WC.seq ?_ | refine WC.reg ?_ | refine WL.pure rfl rfl rfl ?_ | refine WL.nil ?_ | refine WC.skip ?_ | refine WC.block ?_ | refine WC.condT rfl ?_ | refine WC.condF rfl ?_ | refine WL.off rfl rfl rfl ?_ | refine WL.off0 rfl rfl ?_ | refine WC.exit ?_ | refine blk_hit ?_ | refine blk_miss rfl ?_ | refine WC.ret ?_)
    refine WL.call rfl rfl rfl rfl rfl ent50 (Neighbors_any ea cap g es w1 hs hlen hmk) ?_
    rintro _ w2 ⟨bn, hp2, rfl⟩
    repeat (first | refine WC.seq ?_ | refine WC.reg ?_ | refine WL.pure rfl rfl rfl ?_ | refine WL.nil ?_ | refine WC.skip ?_ | refine WC.block ?_ | refine WC.condT rfl ?_ | refine WC.condF rfl ?_ | refine WL.off rfl rfl rfl ?_ | refine WL.off0 rfl rfl ?_ | refine WC.exit ?_ | refine blk_hit ?_ | refine blk_miss rfl ?_ | refine WC.ret ?_)
    refine WC.loop (Nat × Nat × Int) (fun (i, S, k) => [(0, .int .i64 (g.length : Nat)), (2, .slice oa o.length oc), (8, .int .i64 (S : Nat)), (10, .slice (some ⟨bn, 0, none⟩) g.length g.length), (11, .int .i64 k), (12, .int .i64 (i : Nat))])
      (fun (i, S, k) w' => i ≤ g.length ∧ S < 2 ^ g.length ∧ ordL g (o.drop i) S k = some K ∧ Hp w1 w' [.blk bn (.cells (ints g).toArray 3 (0, 0))]) (fun (i, _) => g.length - i) (0, 0, -1) ⟨rfl, rfl, rfl, rfl, rfl, rfl, rfl⟩ ⟨Nat.zero_le _, Nat.two_pow_pos _, hK, hp2⟩ ?_
    rintro ⟨i, S, k⟩ w3 ⟨hi, hS, hr, hp3⟩
    repeat (first | refine WC.seq ?_ | refine WC.reg ?_ | refine WL.pure rfl rfl rfl ?_ | refine WL.nil ?_ | refine WC.skip ?_ | refine WC.block ?_ | refine WC.condT rfl ?_ | refine WC.condF rfl ?_ | refine WL.off rfl rfl rfl ?_ | refine WL.off0 rfl rfl ?_ | refine WC.exit ?_ | refine blk_hit ?_ | refine blk_miss rfl ?_ | refine WC.ret ?_)
    refine WC.cond rfl (fun hc => ?_) (fun hc => ?_)
    · have hi : i < g.length := by have := of_decide_eq_true hc; omega
      have hio : i < o.length := by omega
      have step : IntKind.i64.wrap ((i : Int) + 1) = ((i + 1 : Nat) : Int) := by rw [wrap_i64_in (by omega) (by omega)]; omega
      have hdrop : o.drop i = o.getD i 0 :: o.drop (i + 1) := by rw [List.drop_eq_getElem_cons hio]; simp [hio]
      have hget := zs_get hio
      rw [hdrop, ordL] at hr
      generalize o.getD i 0 = v at *
      split at hr
      · cases hr
      rename_i hv3
      simp only [not_or] at hv3
      obtain ⟨q1, q2, q3⟩ := hv3
      obtain ⟨v, rfl⟩ := Int.eq_ofNat_of_zero_le (show 0 ≤ v by omega)
      have hv : v < g.length := by omega
      have hpv := Nat.pow_lt_pow_right (a := 2) (by decide) hv
      simp only [Int.toNat_natCast] at hr
      repeat (first | refine WC.seq ?_ | refine WC.reg ?_ | refine WL.pure rfl rfl rfl ?_ | refine WL.nil ?_ | refine WC.skip ?_ | refine WC.block ?_ | refine WC.condT rfl ?_ | refine WC.condF rfl ?_ | refine WL.off rfl rfl rfl ?_ | refine WL.off0 rfl rfl ?_ | refine WC.exit ?_ | refine blk_hit ?_ | refine blk_miss rfl ?_ | refine WC.ret ?_)
      refine WL.ixload rfl (fun _ => rfl) rfl rfl rfl rfl rfl rfl rfl hio rfl rfl (ho.hp hp3) hget ?_
      intro p
      refine WL.call rfl rfl rfl rfl rfl ent59 (rlater_any _ _ g S v w3 (Sl.of_obj (hp3.obj 0 rfl) (fun i u h => by simpa using h)) hg hv (by omega)) ?_
      rintro _ w4 ⟨rfl, hp4⟩
      have hp4 := hp3.call hp4.below
      repeat (first | refine WC.seq ?_ | refine WC.reg ?_ | refine WL.pure rfl rfl rfl ?_ | refine WL.nil ?_ | refine WC.skip ?_ | refine WC.block ?_ | refine WC.condT rfl ?_ | refine WC.condF rfl ?_ | refine WL.off rfl rfl rfl ?_ | refine WL.off0 rfl rfl ?_ | refine WC.exit ?_ | refine blk_hit ?_ | refine blk_miss rfl ?_ | refine WC.ret ?_)
      refine WL.ixload rfl (fun _ => rfl) rfl rfl rfl rfl rfl rfl rfl hio rfl rfl (ho.hp hp4) hget ?_
      intro p2
      refine WL.callP rfl rfl rfl rfl rfl ent52 (bit_any v (by omega) _) ?_
      repeat (first | refine WC.seq ?_ | refine WC.reg ?_ | refine WL.pure rfl rfl rfl ?_ | refine WL.nil ?_ | refine WC.skip ?_ | refine WC.block ?_ | refine WC.condT rfl ?_ | refine WC.condF rfl ?_ | refine WL.off rfl rfl rfl ?_ | refine WL.off0 rfl rfl ?_ | refine WC.exit ?_ | refine blk_hit ?_ | refine blk_miss rfl ?_ | refine WC.ret ?_)
      exact ⟨(i + 1, S ||| 2 ^ v, max k (pc (lat g S v) : Nat)), by show g.length - (i + 1) < g.length - i; omega, ⟨rfl, rfl, congrArg (fun z => some (Value.int .i64 z)) (or_i64 (a := S) (b := 2 ^ v) (by omega) (by omega)), rfl, rfl, congrArg (fun z => some (Value.int .i64 z)) step, rfl⟩, hi, or_pow_lt hS hv, hr, hp4⟩
    · have hi : i = g.length := by have := of_decide_eq_false hc; omega
      rw [List.drop_eq_nil_of_le (by omega), ordL] at hr
      simp only [Option.some.injEq] at hr
      subst hr
      repeat (first | refine WC.seq ?_ | refine WC.reg ?_ | refine WL.pure rfl rfl rfl ?_ | refine WL.nil ?_ | refine WC.skip ?_ | refine WC.block ?_ | refine WC.condT rfl ?_ | refine WC.condF rfl ?_ | refine WL.off rfl rfl rfl ?_ | refine WL.off0 rfl rfl ?_ | refine WC.exit ?_ | refine blk_hit ?_ | refine blk_miss rfl ?_ | refine WC.ret ?_)
      exact Res.two rfl rfl rfl rfl ⟨hp3.nil', hval.symm⟩
end Go.Proofs.YtdnkkflpgebfbaaDoor
