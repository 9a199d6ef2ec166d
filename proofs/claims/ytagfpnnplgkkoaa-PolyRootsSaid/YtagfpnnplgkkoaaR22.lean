/- The walks of powers modulo a polynomial, and of what has no multiple factors. -/
import Derived.Test.YtagfpnnplgkkoaaR21
namespace Go.W
open Go.RowKit
theorem Hp.permP {w0 w : World} {L L' : List Ent} (h : Hp w0 w L) (p : L.Perm L') : Hp w0 w L' :=
  ⟨h.below, fun x hx => h.sat x (p.mem_iff.2 hx), (p.pairwise_iff (fun {_a _b} h => Apart.symm h)).1 h.dist⟩
theorem Hp.subl {w0 w : World} {L L' : List Ent} (h : Hp w0 w L) (p : L'.Sublist L) : Hp w0 w L' :=
  ⟨h.below, fun x hx => h.sat x (p.subset hx), h.dist.sublist p⟩
/-- An entry goes behind some others. -/
theorem Hp.behind {w0 w : World} {x : Ent} {A B : List Ent} (h : Hp w0 w (x :: (A ++ B))) : Hp w0 w (A ++ x :: B) := h.permP List.perm_middle.symm
end Go.W
namespace Go.Poly
open Go.W Go.Tree
theorem isPB_spec {p : Nat} {f : List Nat} (h : isPB p f = true) : IsP p f := by
  simp only [isPB, Bool.and_eq_true, List.all_eq_true, decide_eq_true_eq, Bool.or_eq_true, List.isEmpty_iff, bne_iff_ne, ne_eq] at h
  exact ⟨h.1, h.2⟩
theorem isPB_ok {p : Nat} {f : List Nat} (h : IsP p f) : isPB p f = true := by
  simp only [isPB, Bool.and_eq_true, List.all_eq_true, decide_eq_true_eq, Bool.or_eq_true, List.isEmpty_iff, bne_iff_ne, ne_eq]
  exact ⟨h.1, h.2⟩
theorem slope_isP {p : Nat} (hp0 : 0 < p) (f : List Nat) : IsP p (slopeL p f) := trim_isP (fl_lt fun _ _ => Nat.mod_lt _ hp0)
theorem slope_len (p : Nat) (f : List Nat) : (slopeL p f).length ≤ f.length - 1 := by
  unfold slopeL; refine Nat.le_trans (trim_le _) ?_; rw [fl_len]; exact Nat.le_refl _
theorem root_len {p : Nat} (hp : 2 ≤ p) (f : List Nat) : ((rootL p f).length - 1) * p ≤ f.length - 1 ∧ (rootL p f).length ≤ f.length := by
  unfold rootL
  rw [fl_len]
  have h1 := Nat.div_mul_le_self (f.length + p - 1) p
  generalize (f.length + p - 1) / p = m at *
  rcases Nat.eq_zero_or_pos m with h | h
  · subst h; simp
  · obtain ⟨k, rfl⟩ : ∃ k, m = k + 1 := ⟨m - 1, by omega⟩
    rw [Nat.add_sub_cancel]
    rw [Nat.succ_mul] at h1
    have h2 : k * 2 ≤ k * p := Nat.mul_le_mul_left _ hp
    omega
end Go.Poly
namespace Go.Proofs.Ytagfpnnplgkkoaa
open Go.W Go.Poly Go.Tree Go.RowKit
set_option maxRecDepth 100000
attribute [local irreducible] WC WL WQ WS WH

theorem power_pd (p e : Nat) (vf vm : Value) (f m : List Nat) (hpp : Pri p) (hp : p ≤ 1021) (hf : IsP p f) (hm : IsP p m) (hm0 : 1 < m.length) (hlf : f.length ≤ 400) (hlm : m.length ≤ 400) (he : e ≤ 1000000) (w : World) (sf : Pd w vf f) (sm : Pd w vm m) :
    Ret Try.prog 110 [.int .i64 (p : Nat), vf, .int .i64 (e : Nat), vm] w fun u w' => Hp w w' [Rw u (powL p f e m)] := by
  obtain ⟨R, hR0⟩ : ∃ R, powL p f e m = R := ⟨_, rfl⟩
  rw [hR0]
  refine enter Try.func110 rfl rfl ⟨rfl, rfl⟩ rfl ?_
  repeat (first | refine WC.seq ?_ | refine WC.reg ?_ | refine WL.pure rfl rfl rfl ?_ | refine WL.nil ?_ | refine WC.skip ?_ | refine WC.block ?_ | refine WC.condT rfl ?_ | refine WC.condF rfl ?_ | refine WL.off rfl rfl rfl ?_ | refine WL.off0 rfl rfl ?_ | refine WC.exit ?_ | refine blk_hit ?_ | refine blk_miss rfl ?_ | refine WC.ret ?_)
  refine WL.buildS (cs := ints [1]) rfl rfl rfl rfl rfl rfl rfl rfl rfl ?_
  intro b1 w1 hb1
  have hp1 := (Hp.start w).new hb1
  have hr1 : Hp w w1 [Rw (.slice (some ⟨b1, 0, none⟩) 1 1) [1]] := hp1.toRow (m := 1) (s := 1) rfl (by decide)
  repeat (first | refine WC.seq ?_ | refine WC.reg ?_ | refine WL.pure rfl rfl rfl ?_ | refine WL.nil ?_ | refine WC.skip ?_ | refine WC.block ?_ | refine WC.condT rfl ?_ | refine WC.condF rfl ?_ | refine WL.off rfl rfl rfl ?_ | refine WL.off0 rfl rfl ?_ | refine WC.exit ?_ | refine blk_hit ?_ | refine blk_miss rfl ?_ | refine WC.ret ?_)
  refine WC.loop (Nat × Value × Value × List Nat × List Nat × Nat) (fun (k, vo, vf, o, f, e) => [(0, .int .i64 (p : Nat)), (1, vf), (2, .int .i64 (e : Nat)), (3, vm), (9, vo)])
    (fun (k, vo, vf, o, f, e) w' => Hp w w' [Rw vo o] ∧ IsP p o ∧ IsP p f ∧ o.length ≤ 400 ∧ f.length ≤ 400 ∧ Pd w' vf f ∧ e ≤ k ∧ e ≤ 1000000 ∧ powN p m k o f e = R) (fun (k, _) => k) (e, _, vf, [1], f, e) ⟨rfl, rfl, rfl, rfl, rfl, rfl⟩
    ⟨hr1, isP_one hpp, hf, by simp, hlf, sf.hp hr1, Nat.le_refl _, he, hR0⟩ ?_
  rintro ⟨k, vo, vf, o, f, e⟩ w2 ⟨hp2, io, jf, lo, lf, sf, hk, he, hR⟩
  have so := Pd.row hp2 0 rfl
  repeat (first | refine WC.seq ?_ | refine WC.reg ?_ | refine WL.pure rfl rfl rfl ?_ | refine WL.nil ?_ | refine WC.skip ?_ | refine WC.block ?_ | refine WC.condT rfl ?_ | refine WC.condF rfl ?_ | refine WL.off rfl rfl rfl ?_ | refine WL.off0 rfl rfl ?_ | refine WC.exit ?_ | refine blk_hit ?_ | refine blk_miss rfl ?_ | refine WC.ret ?_)
  refine WC.cond rfl (fun h => ?_) (fun h => ?_)
  · have h : 0 < e := by have := of_decide_eq_true h; omega
    obtain ⟨k, rfl⟩ : ∃ j, k = j + 1 := ⟨k - 1, by omega⟩
    rw [powN, if_neg (by omega)] at hR
    have e1 : bits .and .i64 (e : Int) 1 = ((e % 2 : Nat) : Int) := by
      have := and_i64 (a := e) (b := 1) (by omega) (by omega)
      rw [Nat.and_one_is_mod] at this
      exact this
    have step : shr .i64 (e : Int) 1 = ((e / 2 : Nat) : Int) := by
      have := shr_i64 (a := e) (v := 1) (by omega)
      rw [Nat.pow_one] at this
      exact this
    have ml := mul_len_le p o f
    have ml2 := mul_len_le p f f
    have io2 := mul_isP hpp io jf
    have if2 := mul_isP hpp jf jf
    have r1 := rem_lt hpp io2 hm (by omega)
    have r2 := rem_lt hpp if2 hm (by omega)
    repeat (first | refine WC.seq ?_ | refine WC.reg ?_ | refine WL.pure rfl rfl rfl ?_ | refine WL.nil ?_ | refine WC.skip ?_ | refine WC.block ?_ | refine WC.condT rfl ?_ | refine WC.condF rfl ?_ | refine WL.off rfl rfl rfl ?_ | refine WL.off0 rfl rfl ?_ | refine WC.exit ?_ | refine blk_hit ?_ | refine blk_miss rfl ?_ | refine WC.ret ?_)
    refine WC.mid (Value × List Nat) (fun (vo', _) => [(0, .int .i64 (p : Nat)), (1, vf), (2, .int .i64 (e : Nat)), (3, vm), (9, vo')])
      (fun (vo', o') w' => Hp w w' [Rw vo' o'] ∧ Hp w2 w' [] ∧ IsP p o' ∧ o'.length ≤ 400 ∧ o' = if e % 2 = 1 then remL p (mulL p o f) m else o) ?_ ?_
    · refine WC.cond rfl (fun h1 => ?_) (fun h1 => ?_)
      · have h1 : e % 2 = 1 := by
          have : ((e % 2 : Nat) : Int) = 1 := by rw [← e1]; simpa using h1
          omega
        repeat (first | refine WC.seq ?_ | refine WC.reg ?_ | refine WL.pure rfl rfl rfl ?_ | refine WL.nil ?_ | refine WC.skip ?_ | refine WC.block ?_ | refine WC.condT rfl ?_ | refine WC.condF rfl ?_ | refine WL.off rfl rfl rfl ?_ | refine WL.off0 rfl rfl ?_ | refine WC.exit ?_ | refine blk_hit ?_ | refine blk_miss rfl ?_ | refine WC.ret ?_)
        refine WL.call rfl rfl rfl rfl rfl ent42 (mul_pd p vo vf o f hpp hp io jf (by omega) (by omega) w2 so sf) ?_
        rintro u3 w3 hp3
        repeat (first | refine WC.seq ?_ | refine WC.reg ?_ | refine WL.pure rfl rfl rfl ?_ | refine WL.nil ?_ | refine WC.skip ?_ | refine WC.block ?_ | refine WC.condT rfl ?_ | refine WC.condF rfl ?_ | refine WL.off rfl rfl rfl ?_ | refine WL.off0 rfl rfl ?_ | refine WC.exit ?_ | refine blk_hit ?_ | refine blk_miss rfl ?_ | refine WC.ret ?_)
        refine WL.call rfl rfl rfl rfl rfl ent48 (div_pd p u3 vm _ m hpp hp io2 hm (by omega) (by omega) (by omega) w3 (Pd.row hp3 0 rfl) ((sm.hp hp2).hp hp3)) ?_
        rintro _ w4 ⟨q, r, rfl, hp4⟩
        have hp4 := hp3.nil'.over hp4
        repeat (first | refine WC.seq ?_ | refine WC.reg ?_ | refine WL.pure rfl rfl rfl ?_ | refine WL.nil ?_ | refine WC.skip ?_ | refine WC.block ?_ | refine WC.condT rfl ?_ | refine WC.condF rfl ?_ | refine WL.off rfl rfl rfl ?_ | refine WL.off0 rfl rfl ?_ | refine WC.exit ?_ | refine blk_hit ?_ | refine blk_miss rfl ?_ | refine WC.ret ?_)
        exact ⟨(r, remL p (mulL p o f) m), ⟨rfl, rfl, rfl, rfl, rfl, rfl⟩, (hp2.nil'.over hp4).tail, hp4.nil', rem_isP hpp io2 hm (by omega), by omega, by rw [if_pos h1]⟩
      · have h1 : e % 2 ≠ 1 := by
          have : ((e % 2 : Nat) : Int) ≠ 1 := by rw [← e1]; simpa using h1
          omega
        repeat (first | refine WC.seq ?_ | refine WC.reg ?_ | refine WL.pure rfl rfl rfl ?_ | refine WL.nil ?_ | refine WC.skip ?_ | refine WC.block ?_ | refine WC.condT rfl ?_ | refine WC.condF rfl ?_ | refine WL.off rfl rfl rfl ?_ | refine WL.off0 rfl rfl ?_ | refine WC.exit ?_ | refine blk_hit ?_ | refine blk_miss rfl ?_ | refine WC.ret ?_)
        exact ⟨(vo, o), ⟨rfl, rfl, rfl, rfl, rfl, rfl⟩, hp2, Hp.start w2, io, lo, by rw [if_neg h1]⟩
    rintro ⟨vo', o'⟩ e3 w3 hsub ⟨hp3, hp23, io', lo', ho'⟩
    refine WC.sub hsub ?_
    clear hsub
    rw [← ho'] at hR
    have sf3 := sf.hp hp23
    have hm3 := sm.hp hp3
    repeat (first | refine WC.seq ?_ | refine WC.reg ?_ | refine WL.pure rfl rfl rfl ?_ | refine WL.nil ?_ | refine WC.skip ?_ | refine WC.block ?_ | refine WC.condT rfl ?_ | refine WC.condF rfl ?_ | refine WL.off rfl rfl rfl ?_ | refine WL.off0 rfl rfl ?_ | refine WC.exit ?_ | refine blk_hit ?_ | refine blk_miss rfl ?_ | refine WC.ret ?_)
    refine WL.call rfl rfl rfl rfl rfl ent42 (mul_pd p vf vf f f hpp hp jf jf (by omega) (by omega) w3 sf3 sf3) ?_
    rintro u4 w4 hp4
    have d4 := Pd.row hp4 0 rfl
    repeat (first | refine WC.seq ?_ | refine WC.reg ?_ | refine WL.pure rfl rfl rfl ?_ | refine WL.nil ?_ | refine WC.skip ?_ | refine WC.block ?_ | refine WC.condT rfl ?_ | refine WC.condF rfl ?_ | refine WL.off rfl rfl rfl ?_ | refine WL.off0 rfl rfl ?_ | refine WC.exit ?_ | refine blk_hit ?_ | refine blk_miss rfl ?_ | refine WC.ret ?_)
    refine WL.call rfl rfl rfl rfl rfl ent48 (div_pd p u4 vm _ m hpp hp if2 hm (by omega) (by omega) (by omega) w4 d4 (hm3.hp hp4)) ?_
    rintro _ w5 ⟨q, r, rfl, hp5⟩
    have hr := Pd.row hp5 1 rfl
    have hp5 := hp3.comb (hp4.nil'.over hp5.nil')
    repeat (first | refine WC.seq ?_ | refine WC.reg ?_ | refine WL.pure rfl rfl rfl ?_ | refine WL.nil ?_ | refine WC.skip ?_ | refine WC.block ?_ | refine WC.condT rfl ?_ | refine WC.condF rfl ?_ | refine WL.off rfl rfl rfl ?_ | refine WL.off0 rfl rfl ?_ | refine WC.exit ?_ | refine blk_hit ?_ | refine blk_miss rfl ?_ | refine WC.ret ?_)
    refine ⟨(k, vo', r, o', remL p (mulL p f f) m, e / 2), by show k < k + 1; omega, ⟨rfl, rfl, congrArg (fun z => some (Value.int .i64 z)) step, rfl, rfl, rfl⟩, hp5, io', rem_isP hpp if2 hm (by omega), lo', by omega, hr, by omega, by omega, hR⟩
  · have h : e = 0 := by have := of_decide_eq_false h; omega
    subst h
    have : o = R := by rw [← hR]; cases k <;> simp [powN]
    subst this
    repeat (first | refine WC.seq ?_ | refine WC.reg ?_ | refine WL.pure rfl rfl rfl ?_ | refine WL.nil ?_ | refine WC.skip ?_ | refine WC.block ?_ | refine WC.condT rfl ?_ | refine WC.condF rfl ?_ | refine WL.off rfl rfl rfl ?_ | refine WL.off0 rfl rfl ?_ | refine WC.exit ?_ | refine blk_hit ?_ | refine blk_miss rfl ?_ | refine WC.ret ?_)
    exact Res.one rfl rfl rfl hp2

theorem square_any (p : Nat) (hpp : Pri p) (hp : p ≤ 1021) (F : FuncId) (ca : Array Value) (σ : Type) (LF : Yds → σ → List Ent) (IV : Yds → σ → Prop) (w0 : World) (hE : Ents Try.prog F)
    (hF : ∀ (acc : Yds) (s : σ) (mine : List Ent) (v : Value) (g : List Nat) (t : Nat) (w' : World), acc.length ≤ 50000 → IV acc s → Hp w0 w' (LF acc s ++ Rw v g :: mine) → IsP p g → 1 < g.length → g.length ≤ 400 → t ≤ 1000000 →
      Ret Try.prog F ([v, .int .i64 (t : Nat)] ++ ca.toList) w' fun _ w'' => ∃ s', IV (acc ++ [(g, t)]) s' ∧ Hp w0 w'' (LF (acc ++ [(g, t)]) s' ++ mine)) :
    ∀ (n : Nat) (f : List Nat) (times : Nat) (acc : Yds) (s : σ) (mine : List Ent) (ys : Yds) (vf : Value) (w : World), f.length ≤ 400 → (f.length - 1) * times ≤ 400 → times ≤ 1000000 → acc.length + 402 * n ≤ 50000 → Pd w vf f → IV acc s → Hp w0 w (LF acc s ++ mine) → sqN p n f times = some ys →
      Ret Try.prog 81 [.int .i64 (p : Nat), vf, .int .i64 (times : Nat), .func (.func F) #[] ca] w fun _ w' => ∃ s', IV (acc ++ ys) s' ∧ Hp w0 w' (LF (acc ++ ys) s' ++ mine) ∧ (acc ++ ys).length ≤ acc.length + 402 * n
  | 0, f, times, acc, s, mine, ys, vf, w, _, _, _, _, _, _, _, hs => by simp [sqN] at hs
  | n + 1, f, times, acc, s, mine, ys, vf, w, hlf, hft, ht, hacc, sf, hI, hL, hs => by
    have hp0 := hpp.pos
    have sf' := sf
    obtain ⟨fa, fc, rfl, -⟩ := sf
    rw [sqN] at hs
    refine enter Try.func81 rfl rfl ⟨rfl, rfl⟩ rfl ?_
    repeat (first | refine WC.seq ?_ | refine WC.reg ?_ | refine WL.pure rfl rfl rfl ?_ | refine WL.nil ?_ | refine WC.skip ?_ | refine WC.block ?_ | refine WC.condT rfl ?_ | refine WC.condF rfl ?_ | refine WL.off rfl rfl rfl ?_ | refine WL.off0 rfl rfl ?_ | refine WC.exit ?_ | refine blk_hit ?_ | refine blk_miss rfl ?_ | refine WC.ret ?_)
    refine WC.cond rfl (fun h => ?_) (fun h => ?_)
    · have h : f.length ≤ 1 := by have := of_decide_eq_true h; omega
      rw [if_pos h] at hs
      obtain rfl := Option.some.inj hs
      repeat (first | refine WC.seq ?_ | refine WC.reg ?_ | refine WL.pure rfl rfl rfl ?_ | refine WL.nil ?_ | refine WC.skip ?_ | refine WC.block ?_ | refine WC.condT rfl ?_ | refine WC.condF rfl ?_ | refine WL.off rfl rfl rfl ?_ | refine WL.off0 rfl rfl ?_ | refine WC.exit ?_ | refine blk_hit ?_ | refine blk_miss rfl ?_ | refine WC.ret ?_)
      exact Res.zero rfl rfl ⟨s, by rw [List.append_nil]; exact hI, by rw [List.append_nil]; exact hL, by rw [List.append_nil]; omega⟩
    have h1 : 1 < f.length := by have := of_decide_eq_false h; omega
    clear h
    rw [if_neg (by omega)] at hs
    have ht2 : times ≤ 400 := Nat.le_trans (Nat.le_mul_of_pos_left times (by omega)) hft
    have htp : times * p ≤ 400 * 1021 := Nat.mul_le_mul ht2 hp
    have etp : IntKind.i64.wrap ((times : Int) * (p : Int)) = ((times * p : Nat) : Int) := by rw [← Int.natCast_mul]; exact wrap_mid (by omega) (by omega)
    cases hB : isPB p f with
    | false => rw [if_pos hB] at hs; cases hs
    | true =>
    rw [if_neg (by rw [hB]; exact Bool.noConfusion)] at hs
    have hf := isPB_spec hB
    have hdi := slope_isP hp0 f
    have hdl := slope_len p f
    repeat (first | refine WC.seq ?_ | refine WC.reg ?_ | refine WL.pure rfl rfl rfl ?_ | refine WL.nil ?_ | refine WC.skip ?_ | refine WC.block ?_ | refine WC.condT rfl ?_ | refine WC.condF rfl ?_ | refine WL.off rfl rfl rfl ?_ | refine WL.off0 rfl rfl ?_ | refine WC.exit ?_ | refine blk_hit ?_ | refine blk_miss rfl ?_ | refine WC.ret ?_)
    refine WL.call rfl rfl rfl rfl rfl ent88 (slope_pd p _ f hpp hp hf (by omega) w sf') ?_
    rintro vd w1 hp1
    have sd' := Pd.row hp1 0 rfl
    have sf1 := sf'.hp hp1
    have hL1 := hL.call hp1.below
    have sd := sd'
    obtain ⟨da, dc, rfl, -⟩ := sd
    repeat (first | refine WC.seq ?_ | refine WC.reg ?_ | refine WL.pure rfl rfl rfl ?_ | refine WL.nil ?_ | refine WC.skip ?_ | refine WC.block ?_ | refine WC.condT rfl ?_ | refine WC.condF rfl ?_ | refine WL.off rfl rfl rfl ?_ | refine WL.off0 rfl rfl ?_ | refine WC.exit ?_ | refine blk_hit ?_ | refine blk_miss rfl ?_ | refine WC.ret ?_)
    refine WC.cond rfl (fun h => ?_) (fun h => ?_)
    · have h : slopeL p f = [] := by
        have : ((slopeL p f).length : Int) = 0 := by simpa using h
        exact List.length_eq_zero_iff.1 (by omega)
      rw [if_pos h] at hs
      have hrl := root_len hpp.1 f
      repeat (first | refine WC.seq ?_ | refine WC.reg ?_ | refine WL.pure rfl rfl rfl ?_ | refine WL.nil ?_ | refine WC.skip ?_ | refine WC.block ?_ | refine WC.condT rfl ?_ | refine WC.condF rfl ?_ | refine WL.off rfl rfl rfl ?_ | refine WL.off0 rfl rfl ?_ | refine WC.exit ?_ | refine blk_hit ?_ | refine blk_miss rfl ?_ | refine WC.ret ?_)
      refine WL.call rfl rfl rfl rfl rfl ent102 (rootOf_pd p _ f hp0 hp (by omega) w1 sf1) ?_
      rintro vr w2 hp2
      have sr := Pd.row hp2 0 rfl
      have hL2 := hL1.call hp2.below
      have hb : ((rootL p f).length - 1) * (times * p) ≤ 400 := by
        rw [Nat.mul_left_comm, Nat.mul_comm times]
        refine Nat.le_trans (Nat.mul_le_mul_right _ hrl.1) hft
      repeat (first | refine WC.seq ?_ | refine WC.reg ?_ | refine WL.pure rfl rfl rfl ?_ | refine WL.nil ?_ | refine WC.skip ?_ | refine WC.block ?_ | refine WC.condT rfl ?_ | refine WC.condF rfl ?_ | refine WL.off rfl rfl rfl ?_ | refine WL.off0 rfl rfl ?_ | refine WC.exit ?_ | refine blk_hit ?_ | refine blk_miss rfl ?_ | refine WC.ret ?_)
      refine WL.known (d := 29) (congrArg (fun z => some (Value.int .i64 z)) etp) ?_
      refine WL.call rfl rfl rfl rfl rfl ent81 (square_any p hpp hp F ca σ LF IV w0 hE hF n (rootL p f) (times * p) acc s mine ys vr w2 (by omega) hb (by omega) (by omega) sr hI hL2 hs) ?_
      rintro _ w3 ⟨s', hI3, hL3, hlen⟩
      repeat (first | refine WC.seq ?_ | refine WC.reg ?_ | refine WL.pure rfl rfl rfl ?_ | refine WL.nil ?_ | refine WC.skip ?_ | refine WC.block ?_ | refine WC.condT rfl ?_ | refine WC.condF rfl ?_ | refine WL.off rfl rfl rfl ?_ | refine WL.off0 rfl rfl ?_ | refine WC.exit ?_ | refine blk_hit ?_ | refine blk_miss rfl ?_ | refine WC.ret ?_)
      exact Res.zero rfl rfl ⟨s', hI3, hL3, by omega⟩
    have hd0 : 0 < (slopeL p f).length := by
      have : ((slopeL p f).length : Int) ≠ 0 := by simpa using h
      omega
    rw [if_neg (by intro e; rw [e] at hd0; simp at hd0)] at hs
    have hgl := gcd_len hpp (slopeL p f).length f (slopeL p f) hf hdi hd0 (Nat.le_refl _)
    have hgi := gcd_isP hpp (slopeL p f).length f (slopeL p f) hf hdi
    rw [show gcdN p (slopeL p f).length f (slopeL p f) = gcdL p f (slopeL p f) from rfl] at hgl hgi
    repeat (first | refine WC.seq ?_ | refine WC.reg ?_ | refine WL.pure rfl rfl rfl ?_ | refine WL.nil ?_ | refine WC.skip ?_ | refine WC.block ?_ | refine WC.condT rfl ?_ | refine WC.condF rfl ?_ | refine WL.off rfl rfl rfl ?_ | refine WL.off0 rfl rfl ?_ | refine WC.exit ?_ | refine blk_hit ?_ | refine blk_miss rfl ?_ | refine WC.ret ?_)
    refine WL.call rfl rfl rfl rfl rfl ent87 (gcd_pd p _ _ f (slopeL p f) hpp hp hf hdi (by omega) (by omega) w1 sf1 sd') ?_
    rintro vr w2 hp2
    have sr := Pd.row hp2 0 rfl
    have hL2 := Hp.behind (A := LF acc s) (hL1.comb hp2)
    have hq0 := quo_isP hpp hf hgi (by omega)
    have hql := quo_le p f (g := gcdL p f (slopeL p f)) (by omega)
    generalize gcdL p f (slopeL p f) = rest at *
    repeat (first | refine WC.seq ?_ | refine WC.reg ?_ | refine WL.pure rfl rfl rfl ?_ | refine WL.nil ?_ | refine WC.skip ?_ | refine WC.block ?_ | refine WC.condT rfl ?_ | refine WC.condF rfl ?_ | refine WL.off rfl rfl rfl ?_ | refine WL.off0 rfl rfl ?_ | refine WC.exit ?_ | refine blk_hit ?_ | refine blk_miss rfl ?_ | refine WC.ret ?_)
    refine WL.call rfl rfl rfl rfl rfl ent103 (quotient_pd p _ _ f rest hpp hp hf hgi (by omega) (by omega) (by omega) w2 (sf1.hp hp2) sr) ?_
    rintro vw w3 hp3
    have hL3 := Hp.behind (A := LF acc s) (hL2.comb hp3)
    have hmid : ∃ W, sqW p times (f.length + 1) times (quoL p f rest) rest = W := ⟨_, rfl⟩
    obtain ⟨W, hW⟩ := hmid
    rw [hW] at hs
    have hgl2 := hgl.2
    generalize quoL p f rest = u at *
    clear sr hdi sd' sf1 sf'
    repeat (first | refine WC.seq ?_ | refine WC.reg ?_ | refine WL.pure rfl rfl rfl ?_ | refine WL.nil ?_ | refine WC.skip ?_ | refine WC.block ?_ | refine WC.condT rfl ?_ | refine WC.condF rfl ?_ | refine WL.off rfl rfl rfl ?_ | refine WL.off0 rfl rfl ?_ | refine WC.exit ?_ | refine blk_hit ?_ | refine blk_miss rfl ?_ | refine WC.ret ?_)
    refine WC.loop ((Nat × Nat × Value × Value) × (List Nat × List Nat × Yds × σ)) (fun ((m, k, vw, vr), _) => [(0, .int .i64 (p : Nat)), (2, .int .i64 (times : Nat)), (3, .func (.func F) #[] ca), (9, vr), (10, vw), (11, .int .i64 (k : Nat))])
      (fun ((m, k, vw, vr), (u, rest, out, s)) w' => IV (acc ++ out) s ∧ Hp w0 w' (LF (acc ++ out) s ++ Rw vw u :: Rw vr rest :: mine) ∧ IsP p u ∧ IsP p rest ∧ 0 < rest.length ∧ rest.length < f.length ∧ u.length ≤ 400 ∧ rest.length + (if 1 < u.length then 1 else 0) ≤ m ∧ m ≤ f.length + 1 ∧ k + times * m ≤ times * 402 + times ∧
        out.length + m ≤ f.length + 1 ∧ (out ++ (sqW p times m k u rest).1, (sqW p times m k u rest).2) = W) (fun ((m, _), _) => m) ((f.length + 1, times, vw, vr), (u, rest, [], s)) ⟨rfl, rfl, rfl, rfl, rfl, rfl, rfl⟩
      ⟨by rw [List.append_nil]; exact hI, by rw [List.append_nil]; exact hL3, hq0, hgi, by omega, by omega, by omega, by split <;> omega, Nat.le_refl _, by have : times * (f.length + 1) ≤ times * 402 := Nat.mul_le_mul_left _ (by omega); omega, by simp, by rw [hW, List.nil_append]⟩ ?_
    clear hI hL hL1 hL2 hL3 hp1 hp2 hp3 hW hq0 hgi hgl hgl2 hql hd0 h
    clear u rest vw vr
    rintro ⟨⟨m, k, vw, vr⟩, ⟨u, rest, out, s⟩⟩ w4 ⟨hI4, hL4, iu, ir, r0, rl, ul, hm, hmf, hk, hout, hW⟩
    have hwm := hL4.sat (Rw vw u) (by simp)
    have su' : Pd w4 vw u := Pd.row (hL4.permP List.perm_middle) 0 rfl
    have sr : Pd w4 vr rest := Pd.row ((hL4.permP List.perm_middle).tail.permP List.perm_middle) 0 rfl
    have su := su'
    obtain ⟨ua, uc, rfl, -⟩ := su
    repeat (first | refine WC.seq ?_ | refine WC.reg ?_ | refine WL.pure rfl rfl rfl ?_ | refine WL.nil ?_ | refine WC.skip ?_ | refine WC.block ?_ | refine WC.condT rfl ?_ | refine WC.condF rfl ?_ | refine WL.off rfl rfl rfl ?_ | refine WL.off0 rfl rfl ?_ | refine WC.exit ?_ | refine blk_hit ?_ | refine blk_miss rfl ?_ | refine WC.ret ?_)
    refine WC.cond rfl (fun h => ?_) (fun h => ?_)
    · have h : 1 < u.length := by have := of_decide_eq_true h; omega
      rw [if_pos h] at hm
      obtain ⟨m, rfl⟩ : ∃ j, m = j + 1 := ⟨m - 1, by omega⟩
      rw [sqW, if_pos h] at hW
      have yl := gcd_len hpp rest.length u rest iu ir r0 (Nat.le_refl _)
      have yi := gcd_isP hpp rest.length u rest iu ir
      rw [show gcdN p rest.length u rest = gcdL p u rest from rfl] at yl yi
      repeat (first | refine WC.seq ?_ | refine WC.reg ?_ | refine WL.pure rfl rfl rfl ?_ | refine WL.nil ?_ | refine WC.skip ?_ | refine WC.block ?_ | refine WC.condT rfl ?_ | refine WC.condF rfl ?_ | refine WL.off rfl rfl rfl ?_ | refine WL.off0 rfl rfl ?_ | refine WC.exit ?_ | refine blk_hit ?_ | refine blk_miss rfl ?_ | refine WC.ret ?_)
      refine WL.call rfl rfl rfl rfl rfl ent87 (gcd_pd p _ vr u rest hpp hp iu ir (by omega) (by omega) w4 su' sr) ?_
      rintro vy w5 hp5
      have sy := Pd.row hp5 0 rfl
      have hL5 := Hp.behind (A := LF (acc ++ out) s) (hL4.comb hp5)
      generalize gcdL p u rest = y at *
      have qi := quo_isP hpp iu yi yl.1
      have ql := quo_le p u yl.1
      have ri := quo_isP hpp ir yi yl.1
      have rle := quo_len (p := p) yl.2
      repeat (first | refine WC.seq ?_ | refine WC.reg ?_ | refine WL.pure rfl rfl rfl ?_ | refine WL.nil ?_ | refine WC.skip ?_ | refine WC.block ?_ | refine WC.condT rfl ?_ | refine WC.condF rfl ?_ | refine WL.off rfl rfl rfl ?_ | refine WL.off0 rfl rfl ?_ | refine WC.exit ?_ | refine blk_hit ?_ | refine blk_miss rfl ?_ | refine WC.ret ?_)
      refine WL.call rfl rfl rfl rfl rfl ent103 (quotient_pd p _ vy u y hpp hp iu yi yl.1 (by omega) (by omega) w5 (su'.hp hp5) sy) ?_
      rintro vq w6 hp6
      have sq' := Pd.row hp6 0 rfl
      have hL6 := Hp.behind (A := LF (acc ++ out) s) (hL5.comb hp6)
      generalize quoL p u y = q at *
      have hkb : k + times ≤ 400 * 403 := by
        have : times * 403 ≤ 400 * 403 := Nat.mul_le_mul_right _ ht2
        rw [Nat.mul_succ] at hk
        omega
      have sq := sq'
      obtain ⟨qa, qc, rfl, -⟩ := sq
      have step : IntKind.i64.wrap ((k : Int) + (times : Int)) = ((k + times : Nat) : Int) := by rw [wrap_mid (by omega) (by omega)]; omega
      repeat (first | refine WC.seq ?_ | refine WC.reg ?_ | refine WL.pure rfl rfl rfl ?_ | refine WL.nil ?_ | refine WC.skip ?_ | refine WC.block ?_ | refine WC.condT rfl ?_ | refine WC.condF rfl ?_ | refine WL.off rfl rfl rfl ?_ | refine WL.off0 rfl rfl ?_ | refine WC.exit ?_ | refine blk_hit ?_ | refine blk_miss rfl ?_ | refine WC.ret ?_)
      refine WC.mid (Yds × σ) (fun _ => [(0, .int .i64 (p : Nat)), (2, .int .i64 (times : Nat)), (3, .func (.func F) #[] ca), (9, vr), (10, .slice ua u.length uc), (11, .int .i64 (k : Nat)), (12, vy)])
        (fun (more, s') w' => IV (acc ++ (out ++ more)) s' ∧ Hp w0 w' (LF (acc ++ (out ++ more)) s' ++ (Rw vy y :: Rw vr rest :: mine)) ∧ more = (if 1 < q.length then [(q, k)] else [])) ?_ ?_
      · refine WC.cond rfl (fun h2 => ?_) (fun h2 => ?_)
        · have h2 : 1 < q.length := by have := of_decide_eq_true h2; omega
          repeat (first | refine WC.seq ?_ | refine WC.reg ?_ | refine WL.pure rfl rfl rfl ?_ | refine WL.nil ?_ | refine WC.skip ?_ | refine WC.block ?_ | refine WC.condT rfl ?_ | refine WC.condF rfl ?_ | refine WL.off rfl rfl rfl ?_ | refine WL.off0 rfl rfl ?_ | refine WC.exit ?_ | refine blk_hit ?_ | refine blk_miss rfl ?_ | refine WC.ret ?_)
          refine WL.call rfl rfl rfl rfl rfl hE (hF (acc ++ out) s _ _ q k w6 (by rw [List.length_append]; omega) hI4 hL6 qi h2 (by omega) (by omega)) ?_
          rintro _ w7 ⟨s', hI7, hL7⟩
          rw [List.append_assoc] at hI7 hL7
          repeat (first | refine WC.seq ?_ | refine WC.reg ?_ | refine WL.pure rfl rfl rfl ?_ | refine WL.nil ?_ | refine WC.skip ?_ | refine WC.block ?_ | refine WC.condT rfl ?_ | refine WC.condF rfl ?_ | refine WL.off rfl rfl rfl ?_ | refine WL.off0 rfl rfl ?_ | refine WC.exit ?_ | refine blk_hit ?_ | refine blk_miss rfl ?_ | refine WC.ret ?_)
          refine ⟨([(q, k)], s'), ⟨rfl, rfl, rfl, rfl, rfl, rfl, rfl, rfl⟩, hI7, hL7.subl ?_, by rw [if_pos h2]⟩
          exact (List.Sublist.refl _).append (List.Sublist.cons_cons _ (List.Sublist.cons _ (List.Sublist.refl _)))
        · have h2 : ¬ 1 < q.length := by have := of_decide_eq_false h2; omega
          repeat (first | refine WC.seq ?_ | refine WC.reg ?_ | refine WL.pure rfl rfl rfl ?_ | refine WL.nil ?_ | refine WC.skip ?_ | refine WC.block ?_ | refine WC.condT rfl ?_ | refine WC.condF rfl ?_ | refine WL.off rfl rfl rfl ?_ | refine WL.off0 rfl rfl ?_ | refine WC.exit ?_ | refine blk_hit ?_ | refine blk_miss rfl ?_ | refine WC.ret ?_)
          refine ⟨([], s), ⟨rfl, rfl, rfl, rfl, rfl, rfl, rfl, rfl⟩, by rw [List.append_nil]; exact hI4, ?_, by rw [if_neg h2]⟩
          simp only [List.append_nil]
          exact hL6.subl ((List.Sublist.refl _).append (List.Sublist.cons _ (List.Sublist.cons_cons _ (List.Sublist.cons _ (List.Sublist.refl _)))))
      rintro ⟨more, s'⟩ e7 w7 hsub ⟨hI7, hL7, hmore⟩
      refine WC.sub hsub ?_
      clear hsub
      have sy7 : Pd w7 vy y := Pd.row (hL7.permP List.perm_middle) 0 rfl
      have sr7 : Pd w7 vr rest := Pd.row ((hL7.permP List.perm_middle).tail.permP List.perm_middle) 0 rfl
      repeat (first | refine WC.seq ?_ | refine WC.reg ?_ | refine WL.pure rfl rfl rfl ?_ | refine WL.nil ?_ | refine WC.skip ?_ | refine WC.block ?_ | refine WC.condT rfl ?_ | refine WC.condF rfl ?_ | refine WL.off rfl rfl rfl ?_ | refine WL.off0 rfl rfl ?_ | refine WC.exit ?_ | refine blk_hit ?_ | refine blk_miss rfl ?_ | refine WC.ret ?_)
      refine WL.call rfl rfl rfl rfl rfl ent103 (quotient_pd p vr vy rest y hpp hp ir yi yl.1 (by omega) (by omega) w7 sr7 sy7) ?_
      rintro vr2 w8 hp8
      have hL8 := Hp.behind (A := LF (acc ++ (out ++ more)) s') (hL7.comb hp8)
      have hmore1 : more.length ≤ 1 := by rw [hmore]; split <;> simp
      rw [← hmore] at hW
      repeat (first | refine WC.seq ?_ | refine WC.reg ?_ | refine WL.pure rfl rfl rfl ?_ | refine WL.nil ?_ | refine WC.skip ?_ | refine WC.block ?_ | refine WC.condT rfl ?_ | refine WC.condF rfl ?_ | refine WL.off rfl rfl rfl ?_ | refine WL.off0 rfl rfl ?_ | refine WC.exit ?_ | refine blk_hit ?_ | refine blk_miss rfl ?_ | refine WC.ret ?_)
      refine ⟨((m, k + times, vy, vr2), (y, quoL p rest y, out ++ more, s')), by show m < m + 1; omega, ⟨rfl, rfl, rfl, rfl, rfl, congrArg (fun z => some (Value.int .i64 z)) step, rfl⟩, hI7, ?_, yi, ri, by omega, by omega, by omega, by split <;> omega, by omega, by rw [Nat.mul_succ] at hk; omega, by rw [List.length_append]; omega, ?_⟩
      · have hL9 := hL8.permP (List.Perm.append_left (LF (acc ++ (out ++ more)) s') (List.Perm.swap (Rw vy y) (Rw vr2 (quoL p rest y)) (Rw vr rest :: mine)))
        exact hL9.subl ((List.Sublist.refl _).append (List.Sublist.cons_cons _ (List.Sublist.cons_cons _ (List.Sublist.cons _ (List.Sublist.refl _)))))
      · rw [List.append_assoc]; exact hW
    · have h : ¬ 1 < u.length := by have := of_decide_eq_false h; omega
      have hW2 : (out, rest) = W := by
        rw [← hW]
        cases m with
        | zero => simp [sqW]
        | succ m => rw [sqW, if_neg h]; simp
      subst hW2
      simp only at hs
      have hrl := root_len hpp.1 rest
      repeat (first | refine WC.seq ?_ | refine WC.reg ?_ | refine WL.pure rfl rfl rfl ?_ | refine WL.nil ?_ | refine WC.skip ?_ | refine WC.block ?_ | refine WC.condT rfl ?_ | refine WC.condF rfl ?_ | refine WL.off rfl rfl rfl ?_ | refine WL.off0 rfl rfl ?_ | refine WC.exit ?_ | refine blk_hit ?_ | refine blk_miss rfl ?_ | refine WC.ret ?_)
      refine WL.call rfl rfl rfl rfl rfl ent102 (rootOf_pd p _ rest hp0 hp (by omega) w4 sr) ?_
      rintro vo w5 hp5
      have so := Pd.row hp5 0 rfl
      have hL5 := hL4.call hp5.below
      have hb : ((rootL p rest).length - 1) * (times * p) ≤ 400 := by
        rw [Nat.mul_left_comm, Nat.mul_comm times]
        refine Nat.le_trans (Nat.mul_le_mul_right _ hrl.1) (Nat.le_trans (Nat.mul_le_mul_right _ (by omega)) hft)
      cases hs2 : sqN p n (rootL p rest) (times * p) with
      | none => rw [hs2] at hs; cases hs
      | some l =>
      rw [hs2] at hs
      obtain rfl := Option.some.inj hs
      repeat (first | refine WC.seq ?_ | refine WC.reg ?_ | refine WL.pure rfl rfl rfl ?_ | refine WL.nil ?_ | refine WC.skip ?_ | refine WC.block ?_ | refine WC.condT rfl ?_ | refine WC.condF rfl ?_ | refine WL.off rfl rfl rfl ?_ | refine WL.off0 rfl rfl ?_ | refine WC.exit ?_ | refine blk_hit ?_ | refine blk_miss rfl ?_ | refine WC.ret ?_)
      refine WL.known (d := 73) (congrArg (fun z => some (Value.int .i64 z)) etp) ?_
      refine WL.call rfl rfl rfl rfl rfl ent81 (square_any p hpp hp F ca σ LF IV w0 hE hF n (rootL p rest) (times * p) (acc ++ out) s _ l vo w5 (by omega) hb (by omega) (by rw [List.length_append]; omega) so hI4 hL5 hs2) ?_
      rintro _ w6 ⟨s', hI6, hL6, hlen⟩
      rw [List.append_assoc] at hI6 hL6 hlen
      repeat (first | refine WC.seq ?_ | refine WC.reg ?_ | refine WL.pure rfl rfl rfl ?_ | refine WL.nil ?_ | refine WC.skip ?_ | refine WC.block ?_ | refine WC.condT rfl ?_ | refine WC.condF rfl ?_ | refine WL.off rfl rfl rfl ?_ | refine WL.off0 rfl rfl ?_ | refine WC.exit ?_ | refine blk_hit ?_ | refine blk_miss rfl ?_ | refine WC.ret ?_)
      exact Res.zero rfl rfl ⟨s', hI6, hL6.subl ((List.Sublist.refl _).append (List.Sublist.cons _ (List.Sublist.cons _ (List.Sublist.refl _)))), by simp only [List.length_append] at hlen ⊢; omega⟩
end Go.Proofs.Ytagfpnnplgkkoaa
