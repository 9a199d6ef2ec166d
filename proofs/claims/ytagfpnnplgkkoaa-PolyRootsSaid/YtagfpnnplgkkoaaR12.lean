/- The walks of the reference's test of a polynomial, and of its sum. -/
import Derived.Test.YtagfpnnplgkkoaaR11
namespace Go.Proofs.Ytagfpnnplgkkoaa
open Go.W Go.Poly Go.Tree
set_option maxRecDepth 100000
attribute [local irreducible] WC WL WQ WS WH

theorem RPoly_any (p : Nat) (fa : Option Addr) (fc : Nat) (f : List Int) (w : World) (hs : Sl w fa (zs f)) :
    Ret Try.prog 20 [.int .i64 (p : Nat), .slice fa f.length fc] w fun u w' => u = .bool (polyB p f) ∧ w' = w := by
  refine enter Try.func20 rfl rfl ⟨rfl, rfl⟩ rfl ?_
  repeat (first | refine WC.seq ?_ | refine WC.reg ?_ | refine WL.pure rfl rfl rfl ?_ | refine WL.nil ?_ | refine WC.skip ?_ | refine WC.block ?_ | refine WC.condT rfl ?_ | refine WC.condF rfl ?_ | refine WL.off rfl rfl rfl ?_ | refine WL.off0 rfl rfl ?_ | refine WC.exit ?_ | refine blk_hit ?_ | refine blk_miss rfl ?_ | refine WC.ret ?_)
  refine WC.cond rfl (fun h1 => ?_) (fun h1 => ?_)
  · have h1 : ¬ f.length ≤ 33 := by have := of_decide_eq_true h1; omega
    repeat (first | refine WC.seq ?_ | refine WC.reg ?_ | refine WL.pure rfl rfl rfl ?_ | refine WL.nil ?_ | refine WC.skip ?_ | refine WC.block ?_ | refine WC.condT rfl ?_ | refine WC.condF rfl ?_ | refine WL.off rfl rfl rfl ?_ | refine WL.off0 rfl rfl ?_ | refine WC.exit ?_ | refine blk_hit ?_ | refine blk_miss rfl ?_ | refine WC.ret ?_)
    exact Res.one rfl rfl rfl ⟨by rw [polyB, decide_eq_false h1]; rfl, rfl⟩
  have h1 : f.length ≤ 33 := by have := of_decide_eq_false h1; omega
  repeat (first | refine WC.seq ?_ | refine WC.reg ?_ | refine WL.pure rfl rfl rfl ?_ | refine WL.nil ?_ | refine WC.skip ?_ | refine WC.block ?_ | refine WC.condT rfl ?_ | refine WC.condF rfl ?_ | refine WL.off rfl rfl rfl ?_ | refine WL.off0 rfl rfl ?_ | refine WC.exit ?_ | refine blk_hit ?_ | refine blk_miss rfl ?_ | refine WC.ret ?_)
  refine WC.loop Nat (fun i => [(0, .int .i64 (p : Nat)), (1, .slice fa f.length fc), (5, .int .i64 (i : Nat))])
    (fun i w' => w' = w ∧ i ≤ f.length ∧ ((f.take i).any fun c => decide (c < 0) || decide ((p : Int) ≤ c)) = false) (fun i => f.length - i) 0 ⟨rfl, rfl, rfl, rfl⟩ ⟨rfl, Nat.zero_le _, rfl⟩ ?_
  rintro i w1 ⟨rfl, hi, hno⟩
  repeat (first | refine WC.seq ?_ | refine WC.reg ?_ | refine WL.pure rfl rfl rfl ?_ | refine WL.nil ?_ | refine WC.skip ?_ | refine WC.block ?_ | refine WC.condT rfl ?_ | refine WC.condF rfl ?_ | refine WL.off rfl rfl rfl ?_ | refine WL.off0 rfl rfl ?_ | refine WC.exit ?_ | refine blk_hit ?_ | refine blk_miss rfl ?_ | refine WC.ret ?_)
  refine WC.cond rfl (fun hc => ?_) (fun hc => ?_)
  · have hi : i < f.length := by have := of_decide_eq_true hc; omega
    have step : IntKind.i64.wrap ((i : Int) + 1) = ((i + 1 : Nat) : Int) := by rw [wrap_i64_in (by omega) (by omega)]; omega
    repeat (first | refine WC.seq ?_ | refine WC.skip ?_ | refine WC.block ?_)
    refine WC.mid Bool (fun r => [(0, .int .i64 (p : Nat)), (1, .slice fa f.length fc), (5, .int .i64 (i : Nat)), (27, .bool r)]) (fun r w' => w' = w1 ∧ r = (decide (f[i] < 0) || decide ((p : Int) ≤ f[i]))) ?_ ?_
    · repeat (first | refine WC.seq ?_ | refine WC.reg ?_ | refine WL.pure rfl rfl rfl ?_ | refine WL.nil ?_ | refine WC.skip ?_ | refine WC.block ?_ | refine WC.condT rfl ?_ | refine WC.condF rfl ?_ | refine WL.off rfl rfl rfl ?_ | refine WL.off0 rfl rfl ?_ | refine WC.exit ?_ | refine blk_hit ?_ | refine blk_miss rfl ?_ | refine WC.ret ?_)
      refine WL.ixload rfl (fun _ => rfl) rfl rfl rfl rfl rfl rfl rfl hi rfl rfl hs (zget hi) ?_
      intro pa
      repeat (first | refine WC.seq ?_ | refine WC.reg ?_ | refine WL.pure rfl rfl rfl ?_ | refine WL.nil ?_ | refine WC.skip ?_ | refine WC.block ?_ | refine WC.condT rfl ?_ | refine WC.condF rfl ?_ | refine WL.off rfl rfl rfl ?_ | refine WL.off0 rfl rfl ?_ | refine WC.exit ?_ | refine blk_hit ?_ | refine blk_miss rfl ?_ | refine WC.ret ?_)
      refine WL.split 20 rfl (fun h2 => ?_) (fun h2 => ?_)
      · repeat (first | refine WC.seq ?_ | refine WC.reg ?_ | refine WL.pure rfl rfl rfl ?_ | refine WL.nil ?_ | refine WC.skip ?_ | refine WC.block ?_ | refine WC.condT rfl ?_ | refine WC.condF rfl ?_ | refine WL.off rfl rfl rfl ?_ | refine WL.off0 rfl rfl ?_ | refine WC.exit ?_ | refine blk_hit ?_ | refine blk_miss rfl ?_ | refine WC.ret ?_)
        exact ⟨_, ⟨rfl, rfl, rfl, rfl, rfl⟩, rfl, by rw [h2]; rfl⟩
      · repeat (first | refine WC.seq ?_ | refine WC.reg ?_ | refine WL.pure rfl rfl rfl ?_ | refine WL.nil ?_ | refine WC.skip ?_ | refine WC.block ?_ | refine WC.condT rfl ?_ | refine WC.condF rfl ?_ | refine WL.off rfl rfl rfl ?_ | refine WL.off0 rfl rfl ?_ | refine WC.exit ?_ | refine blk_hit ?_ | refine blk_miss rfl ?_ | refine WC.ret ?_)
        refine WL.ixload rfl (fun _ => rfl) rfl rfl rfl rfl rfl rfl rfl hi rfl rfl hs (zget hi) ?_
        intro pb
        repeat (first | refine WC.seq ?_ | refine WC.reg ?_ | refine WL.pure rfl rfl rfl ?_ | refine WL.nil ?_ | refine WC.skip ?_ | refine WC.block ?_ | refine WC.condT rfl ?_ | refine WC.condF rfl ?_ | refine WL.off rfl rfl rfl ?_ | refine WL.off0 rfl rfl ?_ | refine WC.exit ?_ | refine blk_hit ?_ | refine blk_miss rfl ?_ | refine WC.ret ?_)
        exact ⟨_, ⟨rfl, rfl, rfl, rfl, rfl⟩, rfl, by rw [h2]; rfl⟩
    rintro r e2 w2 hsub ⟨rfl, hr⟩
    refine WC.sub hsub ?_
    clear hsub
    refine WC.cond rfl (fun hq => ?_) (fun hq => ?_)
    · have hany : (f.any fun c => decide (c < 0) || decide ((p : Int) ≤ c)) = true := List.any_eq_true.2 ⟨f[i], List.getElem_mem hi, by rw [← hr]; exact hq⟩
      repeat (first | refine WC.seq ?_ | refine WC.reg ?_ | refine WL.pure rfl rfl rfl ?_ | refine WL.nil ?_ | refine WC.skip ?_ | refine WC.block ?_ | refine WC.condT rfl ?_ | refine WC.condF rfl ?_ | refine WL.off rfl rfl rfl ?_ | refine WL.off0 rfl rfl ?_ | refine WC.exit ?_ | refine blk_hit ?_ | refine blk_miss rfl ?_ | refine WC.ret ?_)
      exact Res.one rfl rfl rfl ⟨by rw [polyB, hany]; simp, rfl⟩
    · repeat (first | refine WC.seq ?_ | refine WC.reg ?_ | refine WL.pure rfl rfl rfl ?_ | refine WL.nil ?_ | refine WC.skip ?_ | refine WC.block ?_ | refine WC.condT rfl ?_ | refine WC.condF rfl ?_ | refine WL.off rfl rfl rfl ?_ | refine WL.off0 rfl rfl ?_ | refine WC.exit ?_ | refine blk_hit ?_ | refine blk_miss rfl ?_ | refine WC.ret ?_)
      refine ⟨i + 1, by show f.length - (i + 1) < f.length - i; omega, ⟨rfl, rfl, congrArg (fun z => some (Value.int .i64 z)) step, rfl⟩, rfl, hi, ?_⟩
      rw [List.take_succ_eq_append_getElem hi, List.any_append, hno, List.any_cons, List.any_nil, ← hr, hq]
      rfl
  · have hi : f.length ≤ i := by have := of_decide_eq_false hc; omega
    rw [List.take_of_length_le hi] at hno
    repeat (first | refine WC.seq ?_ | refine WC.reg ?_ | refine WL.pure rfl rfl rfl ?_ | refine WL.nil ?_ | refine WC.skip ?_ | refine WC.block ?_ | refine WC.condT rfl ?_ | refine WC.condF rfl ?_ | refine WL.off rfl rfl rfl ?_ | refine WL.off0 rfl rfl ?_ | refine WC.exit ?_ | refine blk_hit ?_ | refine blk_miss rfl ?_ | refine WC.ret ?_)
    refine WL.split 31 rfl (fun h3 => ?_) (fun h3 => ?_)
    · have h3 : f.length = 0 := by
        have : (f.length : Int) = 0 := by simpa using h3
        omega
      repeat (first | refine WC.seq ?_ | refine WC.reg ?_ | refine WL.pure rfl rfl rfl ?_ | refine WL.nil ?_ | refine WC.skip ?_ | refine WC.block ?_ | refine WC.condT rfl ?_ | refine WC.condF rfl ?_ | refine WL.off rfl rfl rfl ?_ | refine WL.off0 rfl rfl ?_ | refine WC.exit ?_ | refine blk_hit ?_ | refine blk_miss rfl ?_ | refine WC.ret ?_)
      exact Res.one rfl rfl rfl ⟨by rw [polyB, hno, decide_eq_true h1, h3]; rfl, rfl⟩
    · have h3 : f.length ≠ 0 := by
        have : (f.length : Int) ≠ 0 := by simpa using h3
        omega
      have e1 : IntKind.i64.wrap ((f.length : Int) - 1) = ((f.length - 1 : Nat) : Int) := by rw [wrap_i64_in (by omega) (by omega)]; omega
      have hlt : f.length - 1 < f.length := by omega
      have hg : f.getD (f.length - 1) 0 = f[f.length - 1] := by rw [List.getD_eq_getElem?_getD, List.getElem?_eq_getElem hlt]; rfl
      repeat (first | refine WC.seq ?_ | refine WC.reg ?_ | refine WL.pure rfl rfl rfl ?_ | refine WL.nil ?_ | refine WC.skip ?_ | refine WC.block ?_ | refine WC.condT rfl ?_ | refine WC.condF rfl ?_ | refine WL.off rfl rfl rfl ?_ | refine WL.off0 rfl rfl ?_ | refine WC.exit ?_ | refine blk_hit ?_ | refine blk_miss rfl ?_ | refine WC.ret ?_)
      refine WL.known (d := 35) (congrArg (fun z => some (Value.int .i64 z)) e1) ?_
      refine WL.ixload rfl (fun _ => rfl) rfl rfl rfl rfl rfl rfl rfl hlt rfl rfl hs (zget hlt) ?_
      intro pa
      repeat (first | refine WC.seq ?_ | refine WC.reg ?_ | refine WL.pure rfl rfl rfl ?_ | refine WL.nil ?_ | refine WC.skip ?_ | refine WC.block ?_ | refine WC.condT rfl ?_ | refine WC.condF rfl ?_ | refine WL.off rfl rfl rfl ?_ | refine WL.off0 rfl rfl ?_ | refine WC.exit ?_ | refine blk_hit ?_ | refine blk_miss rfl ?_ | refine WC.ret ?_)
      refine Res.one rfl rfl rfl ⟨?_, rfl⟩
      have h4 : (f.length == 0) = false := by simpa using h3
      rw [polyB, hno, decide_eq_true h1, h4, hg]
      rfl

theorem at_any (fa : Option Addr) (fc : Nat) (f : List Nat) (i : Nat) (w : World) (hs : Sl w fa (ints f)) : Ret Try.prog 46 [.slice fa f.length fc, .int .i64 (i : Nat)] w fun u w' => u = .int .i64 (co f i : Nat) ∧ w' = w := by
  refine enter Try.func46 rfl rfl ⟨rfl, rfl⟩ rfl ?_
  repeat (first | refine WC.seq ?_ | refine WC.reg ?_ | refine WL.pure rfl rfl rfl ?_ | refine WL.nil ?_ | refine WC.skip ?_ | refine WC.block ?_ | refine WC.condT rfl ?_ | refine WC.condF rfl ?_ | refine WL.off rfl rfl rfl ?_ | refine WL.off0 rfl rfl ?_ | refine WC.exit ?_ | refine blk_hit ?_ | refine blk_miss rfl ?_ | refine WC.ret ?_)
  refine WC.cond rfl (fun h1 => ?_) (fun h1 => ?_)
  · have h1 : i < f.length := by have := of_decide_eq_true h1; omega
    repeat (first | refine WC.seq ?_ | refine WC.reg ?_ | refine WL.pure rfl rfl rfl ?_ | refine WL.nil ?_ | refine WC.skip ?_ | refine WC.block ?_ | refine WC.condT rfl ?_ | refine WC.condF rfl ?_ | refine WL.off rfl rfl rfl ?_ | refine WL.off0 rfl rfl ?_ | refine WC.exit ?_ | refine blk_hit ?_ | refine blk_miss rfl ?_ | refine WC.ret ?_)
    refine WL.ixload rfl (fun _ => rfl) rfl rfl rfl rfl rfl rfl rfl h1 rfl rfl hs (ints_at h1) ?_
    intro pa
    repeat (first | refine WC.seq ?_ | refine WC.reg ?_ | refine WL.pure rfl rfl rfl ?_ | refine WL.nil ?_ | refine WC.skip ?_ | refine WC.block ?_ | refine WC.condT rfl ?_ | refine WC.condF rfl ?_ | refine WL.off rfl rfl rfl ?_ | refine WL.off0 rfl rfl ?_ | refine WC.exit ?_ | refine blk_hit ?_ | refine blk_miss rfl ?_ | refine WC.ret ?_)
    exact Res.one rfl rfl rfl ⟨rfl, rfl⟩
  · have h1 : f.length ≤ i := by have := of_decide_eq_false h1; omega
    repeat (first | refine WC.seq ?_ | refine WC.reg ?_ | refine WL.pure rfl rfl rfl ?_ | refine WL.nil ?_ | refine WC.skip ?_ | refine WC.block ?_ | refine WC.condT rfl ?_ | refine WC.condF rfl ?_ | refine WL.off rfl rfl rfl ?_ | refine WL.off0 rfl rfl ?_ | refine WC.exit ?_ | refine blk_hit ?_ | refine blk_miss rfl ?_ | refine WC.ret ?_)
    exact Res.one rfl rfl rfl ⟨by rw [co_out h1]; rfl, rfl⟩

theorem RAdd_any (fa ga : Option Addr) (fc gc p : Nat) (f g : List Nat) (hp0 : 0 < p) (hp : p ≤ 1021) (hf : ∀ i, co f i < p) (hg : ∀ i, co g i < p) (hlf : f.length ≤ 1000) (hlg : g.length ≤ 1000) (w : World) (sf : Sl w fa (ints f)) (sg_ : Sl w ga (ints g)) :
    Ret Try.prog 22 [.int .i64 (p : Nat), .slice fa f.length fc, .slice ga g.length gc] w fun u w' => ∃ a c, u = .slice a (addL p f g).length c ∧ Hp w w' [.row 3 1 (.slice a (addL p f g).length c) (addL p f g).length (ints (addL p f g))] := by
  refine enter Try.func22 rfl rfl ⟨rfl, rfl⟩ rfl ?_
  have hmax : max ((f.length : Nat) : Int) ((g.length : Nat) : Int) = ((max f.length g.length : Nat) : Int) := by omega
  have hN : max f.length g.length ≤ 1000 := by omega
  have hadd : addL p f g = trimL (fl (max f.length g.length) fun i => (co f i + co g i) % p) := rfl
  generalize max f.length g.length = N at *
  have hp1 := (Hp.start w).nilrow 3 1
  repeat (first | refine WC.seq ?_ | refine WC.reg ?_ | refine WL.pure rfl rfl rfl ?_ | refine WL.nil ?_ | refine WC.skip ?_ | refine WC.block ?_ | refine WC.condT rfl ?_ | refine WC.condF rfl ?_ | refine WL.off rfl rfl rfl ?_ | refine WL.off0 rfl rfl ?_ | refine WC.exit ?_ | refine blk_hit ?_ | refine blk_miss rfl ?_ | refine WC.ret ?_)
  refine WC.loop (Nat × Option Addr × Nat) (fun (i, a, c) => [(0, .int .i64 (p : Nat)), (1, .slice fa f.length fc), (2, .slice ga g.length gc), (7, .slice a i c), (8, .int .i64 (i : Nat))])
    (fun (i, a, c) w' => i ≤ N ∧ Hp w w' [.row 3 1 (.slice a i c) i (ints (fl i fun m => (co f m + co g m) % p))]) (fun (i, _) => N - i) (0, none, 0) ⟨rfl, rfl, rfl, rfl, rfl, rfl⟩ ⟨Nat.zero_le _, hp1⟩ ?_
  rintro ⟨i, a, c⟩ w1 ⟨hi, hp1⟩
  repeat (first | refine WC.seq ?_ | refine WC.reg ?_ | refine WL.pure rfl rfl rfl ?_ | refine WL.nil ?_ | refine WC.skip ?_ | refine WC.block ?_ | refine WC.condT rfl ?_ | refine WC.condF rfl ?_ | refine WL.off rfl rfl rfl ?_ | refine WL.off0 rfl rfl ?_ | refine WC.exit ?_ | refine blk_hit ?_ | refine blk_miss rfl ?_ | refine WC.ret ?_)
  refine WC.cond rfl (fun hc => ?_) (fun hc => ?_)
  · have hi : i < N := by have := of_decide_eq_true hc; rw [hmax] at this; omega
    have step : IntKind.i64.wrap ((i : Int) + 1) = ((i + 1 : Nat) : Int) := by rw [wrap_i64_in (by omega) (by omega)]; omega
    have h1 := hf i
    have h2 := hg i
    have e1 : (IntKind.i64.wrap (((co f i : Nat) : Int) + ((co g i : Nat) : Int))).tmod (p : Int) = (((co f i + co g i) % p : Nat) : Int) := by
      rw [wrap_mid (by omega) (by omega), ← Int.natCast_add, ← Int.ofNat_tmod]
    repeat (first | refine WC.seq ?_ | refine WC.reg ?_ | refine WL.pure rfl rfl rfl ?_ | refine WL.nil ?_ | refine WC.skip ?_ | refine WC.block ?_ | refine WC.condT rfl ?_ | refine WC.condF rfl ?_ | refine WL.off rfl rfl rfl ?_ | refine WL.off0 rfl rfl ?_ | refine WC.exit ?_ | refine blk_hit ?_ | refine blk_miss rfl ?_ | refine WC.ret ?_)
    refine WL.callP rfl rfl rfl rfl rfl ent46 (at_any fa fc f i w1 (sf.hp hp1)) ?_
    repeat (first | refine WC.seq ?_ | refine WC.reg ?_ | refine WL.pure rfl rfl rfl ?_ | refine WL.nil ?_ | refine WC.skip ?_ | refine WC.block ?_ | refine WC.condT rfl ?_ | refine WC.condF rfl ?_ | refine WL.off rfl rfl rfl ?_ | refine WL.off0 rfl rfl ?_ | refine WC.exit ?_ | refine blk_hit ?_ | refine blk_miss rfl ?_ | refine WC.ret ?_)
    refine WL.callP rfl rfl rfl rfl rfl ent46 (at_any ga gc g i w1 (sg_.hp hp1)) ?_
    repeat (first | refine WC.seq ?_ | refine WC.reg ?_ | refine WL.pure rfl rfl rfl ?_ | refine WL.nil ?_ | refine WC.skip ?_ | refine WC.block ?_ | refine WC.condT rfl ?_ | refine WC.condF rfl ?_ | refine WL.off rfl rfl rfl ?_ | refine WL.off0 rfl rfl ?_ | refine WC.exit ?_ | refine blk_hit ?_ | refine blk_miss rfl ?_ | refine WC.ret ?_)
    refine WL.rem rfl rfl rfl rfl (by omega) ?_
    refine WL.known (d := 27) (congrArg (fun z => some (Value.int .i64 z)) e1) ?_
    refine WL.buildS (cs := [.int .i64 ((co f i + co g i) % p : Nat)]) rfl rfl rfl rfl rfl rfl rfl rfl rfl ?_
    intro bs w2 hbs
    have hp2 := hp1.new hbs
    refine WL.append 1 hp2 rfl rfl rfl rfl rfl Nat.zero_lt_one rfl rfl rfl (news := [.int .i64 ((co f i + co g i) % p : Nat)]) (Sl.of_obj (hp2.obj 0 rfl) (fun q u hq => by simpa using hq)) rfl (Cells.cons rfl Cells.nil) (by unfold maxLen; omega) (by show (i + 1) * 8 ≤ _; omega) ?_
    intro a' c' w3 hp3 hg3
    have hp3 := hp3.tail
    have hx : ints (fl i fun m => (co f m + co g m) % p) ++ [.int .i64 ((co f i + co g i) % p : Nat)] = ints (fl (i + 1) fun m => (co f m + co g m) % p) := by
      simp [ints, fl, List.range_succ]
    rw [hx] at hp3
    repeat (first | refine WC.seq ?_ | refine WC.reg ?_ | refine WL.pure rfl rfl rfl ?_ | refine WL.nil ?_ | refine WC.skip ?_ | refine WC.block ?_ | refine WC.condT rfl ?_ | refine WC.condF rfl ?_ | refine WL.off rfl rfl rfl ?_ | refine WL.off0 rfl rfl ?_ | refine WC.exit ?_ | refine blk_hit ?_ | refine blk_miss rfl ?_ | refine WC.ret ?_)
    exact ⟨(i + 1, a', c'), by show N - (i + 1) < N - i; omega, ⟨rfl, rfl, rfl, rfl, congrArg (fun z => some (Value.int .i64 z)) step, rfl⟩, hi, hp3⟩
  · have hi : i = N := by have := of_decide_eq_false hc; rw [hmax] at this; omega
    subst i
    generalize hs : (fl N fun i => (co f i + co g i) % p) = s at *
    have hsl : s.length = N := by rw [← hs, fl_len]
    rw [← hsl] at hp1 hN ⊢
    have htr := Rtrim_any a c s (row_cap (hp1.at 0 rfl)) (by omega) w1 (Sl.of_row (hp1.at 0 rfl))
    repeat (first | refine WC.seq ?_ | refine WC.reg ?_ | refine WL.pure rfl rfl rfl ?_ | refine WL.nil ?_ | refine WC.skip ?_ | refine WC.block ?_ | refine WC.condT rfl ?_ | refine WC.condF rfl ?_ | refine WL.off rfl rfl rfl ?_ | refine WL.off0 rfl rfl ?_ | refine WC.exit ?_ | refine blk_hit ?_ | refine blk_miss rfl ?_ | refine WC.ret ?_)
    refine WL.call rfl rfl rfl rfl rfl ent47 htr ?_
    rintro _ w2 ⟨b2, c2, rfl, hp2⟩
    have hp2 := (hp1.comb hp2).drop1
    repeat (first | refine WC.seq ?_ | refine WC.reg ?_ | refine WL.pure rfl rfl rfl ?_ | refine WL.nil ?_ | refine WC.skip ?_ | refine WC.block ?_ | refine WC.condT rfl ?_ | refine WC.condF rfl ?_ | refine WL.off rfl rfl rfl ?_ | refine WL.off0 rfl rfl ?_ | refine WC.exit ?_ | refine blk_hit ?_ | refine blk_miss rfl ?_ | refine WC.ret ?_)
    exact Res.one rfl rfl rfl ⟨b2, c2, by rw [hadd], by rw [hadd]; exact hp2⟩
end Go.Proofs.Ytagfpnnplgkkoaa
