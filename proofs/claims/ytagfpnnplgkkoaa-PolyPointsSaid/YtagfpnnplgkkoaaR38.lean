/- The walks of the reference's multiples, common divisor, and of what it takes for one. -/
import Derived.Test.YtagfpnnplgkkoaaR36
import Derived.Test.YtagfpnnplgkkoaaQh
namespace Go.Poly
open Go.W Go.Tree
def rscL (p : Nat) (f : List Nat) (c : Nat) : List Nat := trimL (fl f.length fun i => co f i * c % p)
theorem rsc_isP {p : Nat} (hp0 : 0 < p) (f : List Nat) (c : Nat) : IsP p (rscL p f c) := trim_isP (fl_lt fun _ _ => Nat.mod_lt _ hp0)
theorem rsc_co {p : Nat} (f : List Nat) (c i : Nat) : co (rscL p f c) i = co f i * c % p := by
  unfold rscL
  rw [trim_co]
  by_cases h : i < f.length
  · rw [fl_co _ h]
  · rw [co_out (by rw [fl_len]; omega), co_out (by omega), Nat.zero_mul, Nat.zero_mod]
theorem const_cv (f : List Nat) (c i : Nat) : cv f [c] i = co f i * c := by
  rw [cv_range]
  have h2 : ∀ j, j < i → co f j * co [c] (i - j) = 0 := fun j hj => by rw [co_out (f := [c]) (by simp; omega), Nat.mul_zero]
  rw [sg_last h2, Nat.sub_self]; rfl
theorem rsc_eq {p : Nat} (hp : Pri p) {f : List Nat} (hf : IsP p f) {c : Nat} (h0 : 0 < c) (hc : c < p) : rscL p f c = scaleL p f c := by
  refine isP_ext (rsc_isP hp.pos f c) (scale_isP hp hf c) fun i => ?_
  rw [rsc_co, scaleL, const_of h0 hc, mul_co, const_cv]
theorem gcd_len33 {p : Nat} (hp : Pri p) {f g : List Nat} (hf : IsP p f) (hg : IsP p g) (lf : f.length ≤ 33) (lg : g.length ≤ 33) :
    (gcdL p f g).length ≤ 33 ∧ (bezL p f g).2.1.length ≤ 33 ∧ (bezL p f g).2.2.length ≤ 33 := by
  rcases Nat.eq_zero_or_pos g.length with h | h
  · have hg0 : g = [] := List.length_eq_zero_iff.1 h
    subst hg0
    obtain ⟨h1, h2⟩ := bez_nil_right hp hf
    rw [h1, h2]
    unfold gcdL
    rw [gcd_nil, monic_len hp hf]
    simp only [List.length_nil]
    omega
  · have hgl := (gcd_len hp g.length f g hf hg h (Nat.le_refl _)).2
    rw [show gcdN p g.length f g = gcdL p f g from rfl] at hgl
    rcases Nat.eq_zero_or_pos f.length with h2 | h2
    · have hf0 : f = [] := List.length_eq_zero_iff.1 h2
      subst hf0
      obtain ⟨h1, h2⟩ := bez_nil_left hp hg h
      rw [h1, h2]
      simp only [List.length_nil]
      omega
    · have := gcd_lens hp hf hg h2 h
      omega
end Go.Poly
namespace Go.Proofs.Ytagfpnnplgkkoaa
open Go.W Go.Poly Go.Tree Go.RowKit
set_option maxRecDepth 100000
attribute [local irreducible] WC WL WQ WS WH

theorem RScale_pd (p c : Nat) (vf : Value) (f : List Nat) (hp0 : 0 < p) (hp : p ≤ 1021) (hf : ∀ i, co f i < p) (hc : c < p) (hlf : f.length ≤ 1000) (w : World) (sf : Pd w vf f) :
    Ret Try.prog 57 [.int .i64 (p : Nat), vf, .int .i64 (c : Nat)] w fun u w' => Hp w w' [Rw u (rscL p f c)] := by
  obtain ⟨fa, fc, rfl, sl, _⟩ := sf
  refine enter Try.func57 rfl rfl ⟨rfl, rfl⟩ rfl ?_
  repeat (first | refine WC.seq ?_ | refine WC.reg ?_ | refine WL.pure rfl rfl rfl ?_ | refine WL.nil ?_ | refine WC.skip ?_ | refine WC.block ?_ | refine WC.condT rfl ?_ | refine WC.condF rfl ?_ | refine WL.off rfl rfl rfl ?_ | refine WL.off0 rfl rfl ?_ | refine WC.exit ?_ | refine blk_hit ?_ | refine blk_miss rfl ?_ | refine WC.ret ?_)
  refine WC.loop (Nat × Value) (fun (i, v) => [(0, .int .i64 (p : Nat)), (1, .slice fa f.length fc), (2, .int .i64 (c : Nat)), (7, v), (8, .int .i64 (i : Nat))])
    (fun (i, v) w' => i ≤ f.length ∧ Hp w w' [Rw v (fl i fun j => co f j * c % p)]) (fun (i, v) => f.length - i) (0, .slice none 0 0) ⟨rfl, rfl, rfl, rfl, rfl, rfl⟩ ⟨Nat.zero_le _, (Hp.start w).nilRw⟩ ?_
  rintro ⟨i, v⟩ w1 ⟨hi, hp1⟩
  repeat (first | refine WC.seq ?_ | refine WC.reg ?_ | refine WL.pure rfl rfl rfl ?_ | refine WL.nil ?_ | refine WC.skip ?_ | refine WC.block ?_ | refine WC.condT rfl ?_ | refine WC.condF rfl ?_ | refine WL.off rfl rfl rfl ?_ | refine WL.off0 rfl rfl ?_ | refine WC.exit ?_ | refine blk_hit ?_ | refine blk_miss rfl ?_ | refine WC.ret ?_)
  refine WC.cond rfl (fun h => ?_) (fun h => ?_)
  · have hi : i < f.length := by have := of_decide_eq_true h; omega
    have step : IntKind.i64.wrap ((i : Int) + 1) = ((i + 1 : Nat) : Int) := by rw [wrap_i64_in (by omega) (by omega)]; omega
    have e1 := mul_val hp0 hp (hf i) hc
    obtain ⟨va, vc, hv, -, -⟩ := Pd.row hp1 0 rfl
    rw [fl_len] at hv
    subst hv
    have hl0 : (fl i fun j => co f j * c % p).length = i := fl_len _ _
    simp only [Rw, hl0] at hp1
    repeat (first | refine WC.seq ?_ | refine WC.reg ?_ | refine WL.pure rfl rfl rfl ?_ | refine WL.nil ?_ | refine WC.skip ?_ | refine WC.block ?_ | refine WC.condT rfl ?_ | refine WC.condF rfl ?_ | refine WL.off rfl rfl rfl ?_ | refine WL.off0 rfl rfl ?_ | refine WC.exit ?_ | refine blk_hit ?_ | refine blk_miss rfl ?_ | refine WC.ret ?_)
    refine WL.ixload rfl (fun _ => rfl) rfl rfl rfl rfl rfl rfl rfl hi rfl rfl (sl.hp hp1) (ints_at hi) ?_
    intro pa
    repeat (first | refine WC.seq ?_ | refine WC.reg ?_ | refine WL.pure rfl rfl rfl ?_ | refine WL.nil ?_ | refine WC.skip ?_ | refine WC.block ?_ | refine WC.condT rfl ?_ | refine WC.condF rfl ?_ | refine WL.off rfl rfl rfl ?_ | refine WL.off0 rfl rfl ?_ | refine WC.exit ?_ | refine blk_hit ?_ | refine blk_miss rfl ?_ | refine WC.ret ?_)
    refine WL.rem rfl rfl rfl rfl (by omega) ?_
    refine WL.known (d := 23) (congrArg (fun z => some (Value.int .i64 z)) e1) ?_
    refine WL.buildS (cs := ints [co f i * c % p]) rfl rfl rfl rfl rfl rfl rfl rfl rfl ?_
    intro bs w2 hbs
    have hp2 := hp1.new hbs
    refine WL.append 1 hp2 rfl rfl rfl rfl rfl (by decide) rfl rfl rfl (news := ints [co f i * c % p]) (Sl.of_obj (hp2.obj 0 rfl) (fun q u hq => by simpa using hq)) rfl (ints_cells _) (by unfold maxLen; omega) (by show (i + 1) * 8 ≤ _; omega) ?_
    intro a' c' w3 hp3 hg3
    have e2 : ints (fl i fun j => co f j * c % p) ++ ints [co f i * c % p] = ints (fl (i + 1) fun j => co f j * c % p) := by
      simp [ints, fl, List.range_succ]
    rw [e2] at hp3
    have hp4 := hp3.tail
    have hl1 : (fl (i + 1) fun j => co f j * c % p).length = i + 1 := fl_len _ _
    repeat (first | refine WC.seq ?_ | refine WC.reg ?_ | refine WL.pure rfl rfl rfl ?_ | refine WL.nil ?_ | refine WC.skip ?_ | refine WC.block ?_ | refine WC.condT rfl ?_ | refine WC.condF rfl ?_ | refine WL.off rfl rfl rfl ?_ | refine WL.off0 rfl rfl ?_ | refine WC.exit ?_ | refine blk_hit ?_ | refine blk_miss rfl ?_ | refine WC.ret ?_)
    refine ⟨(i + 1, .slice a' (i + 1) c'), by show f.length - (i + 1) < f.length - i; omega, ⟨rfl, rfl, rfl, rfl, congrArg (fun z => some (Value.int .i64 z)) step, rfl⟩, hi, ?_⟩
    show Hp w w3 [Ent.row _ 1 _ _ _]
    rw [hl1]
    exact hp4
  · have hi : i = f.length := by have := of_decide_eq_false h; omega
    subst hi
    obtain ⟨va, vc, rfl, hs, _, hvc⟩ := Pd.row hp1 0 rfl
    have hll : (fl f.length fun j => co f j * c % p).length = f.length := fl_len _ _
    repeat (first | refine WC.seq ?_ | refine WC.reg ?_ | refine WL.pure rfl rfl rfl ?_ | refine WL.nil ?_ | refine WC.skip ?_ | refine WC.block ?_ | refine WC.condT rfl ?_ | refine WC.condF rfl ?_ | refine WL.off rfl rfl rfl ?_ | refine WL.off0 rfl rfl ?_ | refine WC.exit ?_ | refine blk_hit ?_ | refine blk_miss rfl ?_ | refine WC.ret ?_)
    refine WL.call rfl rfl rfl rfl rfl ent47 (Rtrim_any va vc _ hvc (by omega) w1 hs) ?_
    rintro _ w2 ⟨b, c2, rfl, hp2⟩
    repeat (first | refine WC.seq ?_ | refine WC.reg ?_ | refine WL.pure rfl rfl rfl ?_ | refine WL.nil ?_ | refine WC.skip ?_ | refine WC.block ?_ | refine WC.condT rfl ?_ | refine WC.condF rfl ?_ | refine WL.off rfl rfl rfl ?_ | refine WL.off0 rfl rfl ?_ | refine WC.exit ?_ | refine blk_hit ?_ | refine blk_miss rfl ?_ | refine WC.ret ?_)
    exact Res.one rfl rfl rfl (hp1.nil'.over hp2)

theorem RMonic_pd (p : Nat) (vf : Value) (f : List Nat) (hpp : Pri p) (hp : p ≤ 1021) (hf : IsP p f) (hlf : f.length ≤ 1000) (w : World) (sf : Pd w vf f) :
    Ret Try.prog 39 [.int .i64 (p : Nat), vf] w fun u w' => Hp w w' [Rw u (monicL p f)] := by
  have sf' := sf
  obtain ⟨fa, fc, rfl, sl, _⟩ := sf
  refine enter Try.func39 rfl rfl ⟨rfl, rfl⟩ rfl ?_
  repeat (first | refine WC.seq ?_ | refine WC.reg ?_ | refine WL.pure rfl rfl rfl ?_ | refine WL.nil ?_ | refine WC.skip ?_ | refine WC.block ?_ | refine WC.condT rfl ?_ | refine WC.condF rfl ?_ | refine WL.off rfl rfl rfl ?_ | refine WL.off0 rfl rfl ?_ | refine WC.exit ?_ | refine blk_hit ?_ | refine blk_miss rfl ?_ | refine WC.ret ?_)
  refine WC.cond rfl (fun h => ?_) (fun h => ?_)
  · have h : f = [] := by
      have : (f.length : Int) = 0 := by simpa using h
      exact List.length_eq_zero_iff.1 (by omega)
    subst h
    repeat (first | refine WC.seq ?_ | refine WC.reg ?_ | refine WL.pure rfl rfl rfl ?_ | refine WL.nil ?_ | refine WC.skip ?_ | refine WC.block ?_ | refine WC.condT rfl ?_ | refine WC.condF rfl ?_ | refine WL.off rfl rfl rfl ?_ | refine WL.off0 rfl rfl ?_ | refine WC.exit ?_ | refine blk_hit ?_ | refine blk_miss rfl ?_ | refine WC.ret ?_)
    exact Res.one rfl rfl rfl (Hp.start w).nilRw
  · have h : f ≠ [] := by
      rintro rfl; simp at h
    have h0 := List.length_pos_iff.2 h
    have e1 : IntKind.i64.wrap ((f.length : Int) - 1) = ((f.length - 1 : Nat) : Int) := by rw [wrap_mid (by omega) (by omega)]; omega
    have ht := top_pos hf h0
    have htl := hf.co hpp.pos (f.length - 1)
    repeat (first | refine WC.seq ?_ | refine WC.reg ?_ | refine WL.pure rfl rfl rfl ?_ | refine WL.nil ?_ | refine WC.skip ?_ | refine WC.block ?_ | refine WC.condT rfl ?_ | refine WC.condF rfl ?_ | refine WL.off rfl rfl rfl ?_ | refine WL.off0 rfl rfl ?_ | refine WC.exit ?_ | refine blk_hit ?_ | refine blk_miss rfl ?_ | refine WC.ret ?_)
    refine WL.known (d := 14) (congrArg (fun z => some (Value.int .i64 z)) e1) ?_
    refine WL.ixload rfl (fun _ => rfl) rfl rfl rfl rfl rfl rfl rfl (show f.length - 1 < f.length by omega) rfl rfl sl (ints_at (show f.length - 1 < f.length by omega)) ?_
    intro pa
    refine WL.callP rfl rfl rfl rfl rfl ent49 (Rinverse_any p _ hpp ht htl (by omega) _) ?_
    refine WL.call rfl rfl rfl rfl rfl ent57 (RScale_pd p _ _ f hpp.pos hp (hf.co hpp.pos) (iv_lt hpp.pos _) hlf w sf') ?_
    rintro u w1 hp1
    rw [rsc_eq hpp hf (iv_pos hpp ht htl) (iv_lt hpp.pos _)] at hp1
    repeat (first | refine WC.seq ?_ | refine WC.reg ?_ | refine WL.pure rfl rfl rfl ?_ | refine WL.nil ?_ | refine WC.skip ?_ | refine WC.block ?_ | refine WC.condT rfl ?_ | refine WC.condF rfl ?_ | refine WL.off rfl rfl rfl ?_ | refine WL.off0 rfl rfl ?_ | refine WC.exit ?_ | refine blk_hit ?_ | refine blk_miss rfl ?_ | refine WC.ret ?_)
    refine Res.one rfl rfl rfl ?_
    rw [monicL, if_neg h]
    exact hp1

theorem Rgcd_pd (p : Nat) (vf vg : Value) (f g : List Nat) (hpp : Pri p) (hp : p ≤ 1021) (hf : IsP p f) (hg : IsP p g) (hlf : f.length ≤ 1000) (hlg : g.length ≤ 1000) (w : World) (sf : Pd w vf f) (sg_ : Pd w vg g) :
    Ret Try.prog 52 [.int .i64 (p : Nat), vf, vg] w fun u w' => Hp w w' [Rw u (gcdL p f g)] := by
  obtain ⟨R, hR0⟩ : ∃ R, gcdL p f g = R := ⟨_, rfl⟩
  rw [hR0]
  refine enter Try.func52 rfl rfl ⟨rfl, rfl⟩ rfl ?_
  repeat (first | refine WC.seq ?_ | refine WC.reg ?_ | refine WL.pure rfl rfl rfl ?_ | refine WL.nil ?_ | refine WC.skip ?_ | refine WC.block ?_ | refine WC.condT rfl ?_ | refine WC.condF rfl ?_ | refine WL.off rfl rfl rfl ?_ | refine WL.off0 rfl rfl ?_ | refine WC.exit ?_ | refine blk_hit ?_ | refine blk_miss rfl ?_ | refine WC.ret ?_)
  refine WC.loop (Nat × Value × Value × List Nat × List Nat) (fun (k, vf, vg, f, g) => [(0, .int .i64 (p : Nat)), (1, vf), (2, vg)])
    (fun (k, vf, vg, f, g) w' => Hp w w' [] ∧ IsP p f ∧ IsP p g ∧ f.length ≤ 1000 ∧ g.length ≤ 1000 ∧ Pd w' vf f ∧ Pd w' vg g ∧ g.length ≤ k ∧ gcdN p k f g = R) (fun (k, _) => k) (g.length, vf, vg, f, g) ⟨rfl, rfl, rfl, rfl⟩ ⟨Hp.start w, hf, hg, hlf, hlg, sf, sg_, Nat.le_refl _, hR0⟩ ?_
  rintro ⟨k, vf, vg, f1, g1⟩ w1 ⟨hp1, hf, hg, hlf, hlg, sf, sg_, hk, hR⟩
  have sg' := sg_
  obtain ⟨ga, gc, rfl, sl, _⟩ := sg_
  repeat (first | refine WC.seq ?_ | refine WC.reg ?_ | refine WL.pure rfl rfl rfl ?_ | refine WL.nil ?_ | refine WC.skip ?_ | refine WC.block ?_ | refine WC.condT rfl ?_ | refine WC.condF rfl ?_ | refine WL.off rfl rfl rfl ?_ | refine WL.off0 rfl rfl ?_ | refine WC.exit ?_ | refine blk_hit ?_ | refine blk_miss rfl ?_ | refine WC.ret ?_)
  refine WC.cond rfl (fun h => ?_) (fun h => ?_)
  · have h : 0 < g1.length := by have := of_decide_eq_true h; omega
    obtain ⟨k, rfl⟩ : ∃ j, k = j + 1 := ⟨k - 1, by omega⟩
    have hr := rem_lt hpp hf hg h
    repeat (first | refine WC.seq ?_ | refine WC.reg ?_ | refine WL.pure rfl rfl rfl ?_ | refine WL.nil ?_ | refine WC.skip ?_ | refine WC.block ?_ | refine WC.condT rfl ?_ | refine WC.condF rfl ?_ | refine WL.off rfl rfl rfl ?_ | refine WL.off0 rfl rfl ?_ | refine WC.exit ?_ | refine blk_hit ?_ | refine blk_miss rfl ?_ | refine WC.ret ?_)
    refine WL.call rfl rfl rfl rfl rfl ent25 (RDiv_pd p _ _ f1 g1 hpp hp hf hg h hlf hlg w1 sf sg') ?_
    rintro _ w2 ⟨q, r, rfl, hp2⟩
    repeat (first | refine WC.seq ?_ | refine WC.reg ?_ | refine WL.pure rfl rfl rfl ?_ | refine WL.nil ?_ | refine WC.skip ?_ | refine WC.block ?_ | refine WC.condT rfl ?_ | refine WC.condF rfl ?_ | refine WL.off rfl rfl rfl ?_ | refine WL.off0 rfl rfl ?_ | refine WC.exit ?_ | refine blk_hit ?_ | refine blk_miss rfl ?_ | refine WC.ret ?_)
    refine ⟨(k, _, r, g1, remL p f1 g1), by show k < k + 1; omega, ⟨rfl, rfl, rfl, rfl⟩, hp1.over hp2.nil', hg, rem_isP hpp hf hg h, hlg, by omega, sg'.hp hp2, Pd.row hp2 0 rfl, by omega, ?_⟩
    rw [gcdN, if_neg (by intro e; subst e; simp at h)] at hR
    exact hR
  · have h : g1 = [] := List.length_eq_zero_iff.1 (by have := of_decide_eq_false h; omega)
    subst h
    rw [gcd_nil] at hR
    repeat (first | refine WC.seq ?_ | refine WC.reg ?_ | refine WL.pure rfl rfl rfl ?_ | refine WL.nil ?_ | refine WC.skip ?_ | refine WC.block ?_ | refine WC.condT rfl ?_ | refine WC.condF rfl ?_ | refine WL.off rfl rfl rfl ?_ | refine WL.off0 rfl rfl ?_ | refine WC.exit ?_ | refine blk_hit ?_ | refine blk_miss rfl ?_ | refine WC.ret ?_)
    refine WL.call rfl rfl rfl rfl rfl ent39 (RMonic_pd p vf f1 hpp hp hf hlf w1 sf) ?_
    rintro u w2 hp2
    rw [hR] at hp2
    repeat (first | refine WC.seq ?_ | refine WC.reg ?_ | refine WL.pure rfl rfl rfl ?_ | refine WL.nil ?_ | refine WC.skip ?_ | refine WC.block ?_ | refine WC.condT rfl ?_ | refine WC.condF rfl ?_ | refine WL.off rfl rfl rfl ?_ | refine WL.off0 rfl rfl ?_ | refine WC.exit ?_ | refine blk_hit ?_ | refine blk_miss rfl ?_ | refine WC.ret ?_)
    exact Res.one rfl rfl rfl (hp1.over hp2)

theorem IsGcd_any (p : Nat) (vf vg vd va vb : Value) (f g : List Nat) (hpp : Pri p) (hp : p ≤ 1021) (hf : IsP p f) (hg : IsP p g) (lf : f.length ≤ 33) (lg : g.length ≤ 33) (w : World) (sf : Pd w vf f) (sg_ : Pd w vg g) (sd : Pd w vd (gcdL p f g)) (sa : Pd w va (bezL p f g).2.1) (sb : Pd w vb (bezL p f g).2.2) :
    Ret Try.prog 31 [.int .i64 (p : Nat), vf, vg, vd, va, vb] w fun u w' => u = .bool true ∧ Hp w w' [] := by
  obtain ⟨hb1, ia, ib, hcmb⟩ := bez_gcd hpp hf hg
  have id_ : IsP p (gcdL p f g) := gcd_isP hpp _ f g hf hg
  obtain ⟨ld, la, lb⟩ := gcd_len33 hpp hf hg lf lg
  have hnr := fun h : g = [] => (show (bezL p f g).2.2 = [] ∧ (bezL p f g).2.1.length = min f.length 1 by subst h; exact bez_nil_right hpp hf)
  have hnl := fun (h : f = []) (h2 : 0 < g.length) => (show (bezL p f g).2.1 = [] ∧ (bezL p f g).2.2.length = 1 by subst h; exact bez_nil_left hpp hg h2)
  have hlens := gcd_lens hpp hf hg
  have hdv := gcd_dv hpp g.length f g hf hg (Nat.le_refl _)
  rw [show gcdN p g.length f g = gcdL p f g from rfl] at hdv
  have hgl := gcd_len hpp g.length f g hf hg
  rw [show gcdN p g.length f g = gcdL p f g from rfl] at hgl
  generalize hd0 : gcdL p f g = d at *
  generalize (bezL p f g).2.1 = a at *
  generalize (bezL p f g).2.2 = b at *
  have im1 := mul_isP hpp ia hf
  have im2 := mul_isP hpp ib hg
  have l1 := mul_len_le p a f
  have l2 := mul_len_le p b g
  have da := sa
  have db := sb
  have dg := sg_
  have df := sf
  obtain ⟨aa, ac, rfl, -⟩ := sa
  obtain ⟨ba, bc, rfl, -⟩ := sb
  obtain ⟨ga, gc, rfl, -⟩ := sg_
  obtain ⟨fa, fc, rfl, -⟩ := sf
  refine enter Try.func31 rfl rfl ⟨rfl, rfl⟩ rfl ?_
  repeat (first | refine WC.seq ?_ | refine WC.reg ?_ | refine WL.pure rfl rfl rfl ?_ | refine WL.nil ?_ | refine WC.skip ?_ | refine WC.block ?_ | refine WC.condT rfl ?_ | refine WC.condF rfl ?_ | refine WL.off rfl rfl rfl ?_ | refine WL.off0 rfl rfl ?_ | refine WC.exit ?_ | refine blk_hit ?_ | refine blk_miss rfl ?_ | refine WC.ret ?_)
  refine WL.callP rfl rfl rfl rfl rfl ent20 (RPoly_pz p _ _ w sd.int) ?_
  rw [poly_ok id_ ld]
  repeat (first | refine WC.seq ?_ | refine WC.reg ?_ | refine WL.pure rfl rfl rfl ?_ | refine WL.nil ?_ | refine WC.skip ?_ | refine WC.block ?_ | refine WC.condT rfl ?_ | refine WC.condF rfl ?_ | refine WL.off rfl rfl rfl ?_ | refine WL.off0 rfl rfl ?_ | refine WC.exit ?_ | refine blk_hit ?_ | refine blk_miss rfl ?_ | refine WC.ret ?_)
  refine WL.callP rfl rfl rfl rfl rfl ent20 (RPoly_pz p _ _ w da.int) ?_
  rw [poly_ok ia la]
  repeat (first | refine WC.seq ?_ | refine WC.reg ?_ | refine WL.pure rfl rfl rfl ?_ | refine WL.nil ?_ | refine WC.skip ?_ | refine WC.block ?_ | refine WC.condT rfl ?_ | refine WC.condF rfl ?_ | refine WL.off rfl rfl rfl ?_ | refine WL.off0 rfl rfl ?_ | refine WC.exit ?_ | refine blk_hit ?_ | refine blk_miss rfl ?_ | refine WC.ret ?_)
  refine WL.callP rfl rfl rfl rfl rfl ent20 (RPoly_pz p _ _ w db.int) ?_
  rw [poly_ok ib lb]
  repeat (first | refine WC.seq ?_ | refine WC.reg ?_ | refine WL.pure rfl rfl rfl ?_ | refine WL.nil ?_ | refine WC.skip ?_ | refine WC.block ?_ | refine WC.condT rfl ?_ | refine WC.condF rfl ?_ | refine WL.off rfl rfl rfl ?_ | refine WL.off0 rfl rfl ?_ | refine WC.exit ?_ | refine blk_hit ?_ | refine blk_miss rfl ?_ | refine WC.ret ?_)
  refine WL.call rfl rfl rfl rfl rfl ent52 (Rgcd_pd p _ _ f g hpp hp hf hg (by omega) (by omega) w df dg) ?_
  rintro vx w1 hp1
  rw [hd0] at hp1
  refine WL.call rfl rfl rfl rfl rfl ent18 (Same_pd _ vx d d (by omega) w1 (sd.hp hp1) (Pd.row hp1 0 rfl)) ?_
  rintro _ w2 ⟨rfl, hp2⟩
  rw [decide_eq_true rfl]
  have h2 := hp1.nil'.over hp2
  repeat (first | refine WC.seq ?_ | refine WC.reg ?_ | refine WL.pure rfl rfl rfl ?_ | refine WL.nil ?_ | refine WC.skip ?_ | refine WC.block ?_ | refine WC.condT rfl ?_ | refine WC.condF rfl ?_ | refine WL.off rfl rfl rfl ?_ | refine WL.off0 rfl rfl ?_ | refine WC.exit ?_ | refine blk_hit ?_ | refine blk_miss rfl ?_ | refine WC.ret ?_)
  refine WL.call rfl rfl rfl rfl rfl ent23 (RMul_pd p _ _ a f hpp hp ia hf (by omega) (by omega) w2 (da.hp h2) (df.hp h2)) ?_
  rintro vm w3 hp3
  have dm := Pd.row hp3 0 rfl
  have h3 := h2.over hp3.nil'
  repeat (first | refine WC.seq ?_ | refine WC.reg ?_ | refine WL.pure rfl rfl rfl ?_ | refine WL.nil ?_ | refine WC.skip ?_ | refine WC.block ?_ | refine WC.condT rfl ?_ | refine WC.condF rfl ?_ | refine WL.off rfl rfl rfl ?_ | refine WL.off0 rfl rfl ?_ | refine WC.exit ?_ | refine blk_hit ?_ | refine blk_miss rfl ?_ | refine WC.ret ?_)
  refine WL.call rfl rfl rfl rfl rfl ent23 (RMul_pd p _ _ b g hpp hp ib hg (by omega) (by omega) w3 (db.hp h3) (dg.hp h3)) ?_
  rintro vn w4 hp4
  have dn := Pd.row hp4 0 rfl
  have dm := dm.hp hp4
  have h4 := h3.over hp4.nil'
  refine WL.call rfl rfl rfl rfl rfl ent22 (RAdd_pd p _ _ _ _ hpp hp im1 im2 (by omega) (by omega) w4 dm dn) ?_
  rintro vs w5 hp5
  rw [hcmb] at hp5
  have ds := Pd.row hp5 0 rfl
  have h5 := h4.over hp5.nil'
  repeat (first | refine WC.seq ?_ | refine WC.reg ?_ | refine WL.pure rfl rfl rfl ?_ | refine WL.nil ?_ | refine WC.skip ?_ | refine WC.block ?_ | refine WC.condT rfl ?_ | refine WC.condF rfl ?_ | refine WL.off rfl rfl rfl ?_ | refine WL.off0 rfl rfl ?_ | refine WC.exit ?_ | refine blk_hit ?_ | refine blk_miss rfl ?_ | refine WC.ret ?_)
  refine WL.call rfl rfl rfl rfl rfl ent18 (Same_pd _ _ d d (by omega) w5 ds (sd.hp h5)) ?_
  rintro _ w6 ⟨rfl, hp6⟩
  rw [decide_eq_true rfl]
  have h6 := h5.over hp6
  clear hp1 hp2 hp3 hp4 hp5 hp6 h2 h3 h4 h5 dm dn ds
  repeat (first | refine WC.seq ?_ | refine WC.reg ?_ | refine WL.pure rfl rfl rfl ?_ | refine WL.nil ?_ | refine WC.skip ?_ | refine WC.block ?_ | refine WC.condT rfl ?_ | refine WC.condF rfl ?_ | refine WL.off rfl rfl rfl ?_ | refine WL.off0 rfl rfl ?_ | refine WC.exit ?_ | refine blk_hit ?_ | refine blk_miss rfl ?_ | refine WC.ret ?_)
  refine WC.cond rfl (fun hc => ?_) (fun hc => ?_)
  · have hc : g = [] := by
      have : (g.length : Int) = 0 := by simpa using hc
      exact List.length_eq_zero_iff.1 (by omega)
    obtain ⟨rfl, hal⟩ := hnr hc
    have e1 : ((a.length : Int) == min (f.length : Int) 1) = true := by
      rw [hal]; simp; omega
    repeat (first | refine WC.seq ?_ | refine WC.reg ?_ | refine WL.pure rfl rfl rfl ?_ | refine WL.nil ?_ | refine WC.skip ?_ | refine WC.block ?_ | refine WC.condT rfl ?_ | refine WC.condF rfl ?_ | refine WL.off rfl rfl rfl ?_ | refine WL.off0 rfl rfl ?_ | refine WC.exit ?_ | refine blk_hit ?_ | refine blk_miss rfl ?_ | refine WC.ret ?_)
    exact Res.one rfl rfl rfl ⟨congrArg Value.bool e1, h6⟩
  have hg0 : 0 < g.length := by
    have : (g.length : Int) ≠ 0 := by simpa using hc
    omega
  repeat (first | refine WC.seq ?_ | refine WC.reg ?_ | refine WL.pure rfl rfl rfl ?_ | refine WL.nil ?_ | refine WC.skip ?_ | refine WC.block ?_ | refine WC.condT rfl ?_ | refine WC.condF rfl ?_ | refine WL.off rfl rfl rfl ?_ | refine WL.off0 rfl rfl ?_ | refine WC.exit ?_ | refine blk_hit ?_ | refine blk_miss rfl ?_ | refine WC.ret ?_)
  refine WC.cond rfl (fun hc2 => ?_) (fun hc2 => ?_)
  · have hc2 : f = [] := by
      have : (f.length : Int) = 0 := by simpa using hc2
      exact List.length_eq_zero_iff.1 (by omega)
    obtain ⟨rfl, hbl⟩ := hnl hc2 hg0
    rw [hbl]
    repeat (first | refine WC.seq ?_ | refine WC.reg ?_ | refine WL.pure rfl rfl rfl ?_ | refine WL.nil ?_ | refine WC.skip ?_ | refine WC.block ?_ | refine WC.condT rfl ?_ | refine WC.condF rfl ?_ | refine WL.off rfl rfl rfl ?_ | refine WL.off0 rfl rfl ?_ | refine WC.exit ?_ | refine blk_hit ?_ | refine blk_miss rfl ?_ | refine WC.ret ?_)
    exact Res.one rfl rfl rfl ⟨rfl, h6⟩
  have hf0 : 0 < f.length := by
    have : (f.length : Int) ≠ 0 := by simpa using hc2
    omega
  obtain ⟨hd1, hd2⟩ := hgl hg0 (Nat.le_refl _)
  obtain ⟨hla, hlb⟩ := hlens hf0 hg0
  repeat (first | refine WC.seq ?_ | refine WC.reg ?_ | refine WL.pure rfl rfl rfl ?_ | refine WL.nil ?_ | refine WC.skip ?_ | refine WC.block ?_ | refine WC.condT rfl ?_ | refine WC.condF rfl ?_ | refine WL.off rfl rfl rfl ?_ | refine WL.off0 rfl rfl ?_ | refine WC.exit ?_ | refine blk_hit ?_ | refine blk_miss rfl ?_ | refine WC.ret ?_)
  refine WL.call rfl rfl rfl rfl rfl ent25 (RDiv_pd p _ _ f d hpp hp hf id_ hd1 (by omega) (by omega) w6 (df.hp h6) (sd.hp h6)) ?_
  rintro _ w7 ⟨x, r1, rfl, hp7⟩
  have dx := Pd.row hp7 1 rfl
  have h7 := h6.over hp7.nil'
  repeat (first | refine WC.seq ?_ | refine WC.reg ?_ | refine WL.pure rfl rfl rfl ?_ | refine WL.nil ?_ | refine WC.skip ?_ | refine WC.block ?_ | refine WC.condT rfl ?_ | refine WC.condF rfl ?_ | refine WL.off rfl rfl rfl ?_ | refine WL.off0 rfl rfl ?_ | refine WC.exit ?_ | refine blk_hit ?_ | refine blk_miss rfl ?_ | refine WC.ret ?_)
  refine WL.call rfl rfl rfl rfl rfl ent25 (RDiv_pd p _ _ g d hpp hp hg id_ hd1 (by omega) (by omega) w7 (dg.hp h7) (sd.hp h7)) ?_
  rintro _ w8 ⟨y, r2, rfl, hp8⟩
  have dy := Pd.row hp8 1 rfl
  have dx := dx.hp hp8
  have h8 := h7.over hp8.nil'
  have hdf : d.length ≤ f.length := by
    obtain ⟨q, hq, hqf⟩ := hdv.1
    have hq0 : q ≠ [] := by rintro rfl; rw [nil_mul] at hqf; rw [← hqf] at hf0; simp at hf0
    have := mul_len (p := p) (List.length_pos_iff.2 hq0) hd1
    rw [hqf] at this
    have := List.length_pos_iff.2 hq0
    omega
  have lx := quo_len (p := p) hdf
  have ly := quo_len (p := p) hd2
  obtain ⟨xa, xc, rfl, -⟩ := dx
  obtain ⟨ya, yc, rfl, -⟩ := dy
  rw [lx, ly]
  have hne : ¬ (a.length = 0 ∧ b.length = 0) := by
    rintro ⟨e1, e2⟩
    rw [List.length_eq_zero_iff.1 e1, List.length_eq_zero_iff.1 e2, nil_mul, nil_mul, addL_nil' hpp.pos (isP_nil p)] at hcmb
    rw [← hcmb] at hd1
    simp at hd1
  have fin : ¬ (f.length - d.length + 1 = 1 ∧ g.length - d.length + 1 = 1) → a.length < g.length - d.length + 1 ∧ b.length < f.length - d.length + 1 := by
    intro h
    refine ⟨by omega, ?_⟩
    rcases hlb with h1 | h1 <;> omega
  have tail : ¬ (f.length - d.length + 1 = 1 ∧ g.length - d.length + 1 = 1) → decide ((a.length : Int) < ((g.length - d.length + 1 : Nat) : Int)) = true ∧ decide ((b.length : Int) < ((f.length - d.length + 1 : Nat) : Int)) = true := fun h => ⟨decide_eq_true (by have := (fin h).1; omega), decide_eq_true (by have := (fin h).2; omega)⟩
  repeat (first | refine WC.seq ?_ | refine WC.reg ?_ | refine WL.pure rfl rfl rfl ?_ | refine WL.nil ?_ | refine WC.skip ?_ | refine WC.block ?_ | refine WC.condT rfl ?_ | refine WC.condF rfl ?_ | refine WL.off rfl rfl rfl ?_ | refine WL.off0 rfl rfl ?_ | refine WC.exit ?_ | refine blk_hit ?_ | refine blk_miss rfl ?_ | refine WC.ret ?_)
  refine WL.split 99 rfl (fun h1 => ?_) (fun h1 => ?_)
  · have h1 : f.length - d.length + 1 = 1 := by
      have : ((f.length - d.length + 1 : Nat) : Int) = 1 := by simpa using h1
      omega
    repeat (first | refine WC.seq ?_ | refine WC.reg ?_ | refine WL.pure rfl rfl rfl ?_ | refine WL.nil ?_ | refine WC.skip ?_ | refine WC.block ?_ | refine WC.condT rfl ?_ | refine WC.condF rfl ?_ | refine WL.off rfl rfl rfl ?_ | refine WL.off0 rfl rfl ?_ | refine WC.exit ?_ | refine blk_hit ?_ | refine blk_miss rfl ?_ | refine WC.ret ?_)
    refine WC.cond rfl (fun hy => ?_) (fun hy => ?_)
    · have hy : g.length - d.length + 1 = 1 := by
        have : ((g.length - d.length + 1 : Nat) : Int) = 1 := by simpa using hy
        omega
      have hal : a = [] := List.length_eq_zero_iff.1 (by omega)
      have hbl : b.length = 1 := by
        rcases hlb with h1 | h1
        · exact absurd ⟨by rw [hal]; rfl, by omega⟩ hne
        · exact h1.1
      subst hal
      rw [hbl]
      repeat (first | refine WC.seq ?_ | refine WC.reg ?_ | refine WL.pure rfl rfl rfl ?_ | refine WL.nil ?_ | refine WC.skip ?_ | refine WC.block ?_ | refine WC.condT rfl ?_ | refine WC.condF rfl ?_ | refine WL.off rfl rfl rfl ?_ | refine WL.off0 rfl rfl ?_ | refine WC.exit ?_ | refine blk_hit ?_ | refine blk_miss rfl ?_ | refine WC.ret ?_)
      exact Res.one rfl rfl rfl ⟨rfl, h8⟩
    · have hx : ¬ (f.length - d.length + 1 = 1 ∧ g.length - d.length + 1 = 1) := by
        rintro ⟨_, h5⟩
        rw [h5] at hy
        simp at hy
      obtain ⟨t1, t2⟩ := tail hx
      repeat (first | refine WC.seq ?_ | refine WC.reg ?_ | refine WL.pure rfl rfl rfl ?_ | refine WL.nil ?_ | refine WC.skip ?_ | refine WC.block ?_ | refine WC.condT rfl ?_ | refine WC.condF rfl ?_ | refine WL.off rfl rfl rfl ?_ | refine WL.off0 rfl rfl ?_ | refine WC.exit ?_ | refine blk_hit ?_ | refine blk_miss rfl ?_ | refine WC.ret ?_)
      refine WL.split 115 rfl (fun h2 => ?_) (fun h2 => ?_)
      · repeat (first | refine WC.seq ?_ | refine WC.reg ?_ | refine WL.pure rfl rfl rfl ?_ | refine WL.nil ?_ | refine WC.skip ?_ | refine WC.block ?_ | refine WC.condT rfl ?_ | refine WC.condF rfl ?_ | refine WL.off rfl rfl rfl ?_ | refine WL.off0 rfl rfl ?_ | refine WC.exit ?_ | refine blk_hit ?_ | refine blk_miss rfl ?_ | refine WC.ret ?_)
        refine WL.split 126 rfl (fun h3 => ?_) (fun h3 => ?_)
        · repeat (first | refine WC.seq ?_ | refine WC.reg ?_ | refine WL.pure rfl rfl rfl ?_ | refine WL.nil ?_ | refine WC.skip ?_ | refine WC.block ?_ | refine WC.condT rfl ?_ | refine WC.condF rfl ?_ | refine WL.off rfl rfl rfl ?_ | refine WL.off0 rfl rfl ?_ | refine WC.exit ?_ | refine blk_hit ?_ | refine blk_miss rfl ?_ | refine WC.ret ?_)
          exact Res.one rfl rfl rfl ⟨rfl, h8⟩
        · repeat (first | refine WC.seq ?_ | refine WC.reg ?_ | refine WL.pure rfl rfl rfl ?_ | refine WL.nil ?_ | refine WC.skip ?_ | refine WC.block ?_ | refine WC.condT rfl ?_ | refine WC.condF rfl ?_ | refine WL.off rfl rfl rfl ?_ | refine WL.off0 rfl rfl ?_ | refine WC.exit ?_ | refine blk_hit ?_ | refine blk_miss rfl ?_ | refine WC.ret ?_)
          exact Res.one rfl rfl rfl ⟨congrArg Value.bool t2, h8⟩
      · repeat (first | refine WC.seq ?_ | refine WC.reg ?_ | refine WL.pure rfl rfl rfl ?_ | refine WL.nil ?_ | refine WC.skip ?_ | refine WC.block ?_ | refine WC.condT rfl ?_ | refine WC.condF rfl ?_ | refine WL.off rfl rfl rfl ?_ | refine WL.off0 rfl rfl ?_ | refine WC.exit ?_ | refine blk_hit ?_ | refine blk_miss rfl ?_ | refine WC.ret ?_)
        refine WL.known (d := 122) (congrArg (fun b => some (Value.bool b)) t1) ?_
        repeat (first | refine WC.seq ?_ | refine WC.reg ?_ | refine WL.pure rfl rfl rfl ?_ | refine WL.nil ?_ | refine WC.skip ?_ | refine WC.block ?_ | refine WC.condT rfl ?_ | refine WC.condF rfl ?_ | refine WL.off rfl rfl rfl ?_ | refine WL.off0 rfl rfl ?_ | refine WC.exit ?_ | refine blk_hit ?_ | refine blk_miss rfl ?_ | refine WC.ret ?_)
        refine WL.split 126 rfl (fun h3 => ?_) (fun h3 => ?_)
        · repeat (first | refine WC.seq ?_ | refine WC.reg ?_ | refine WL.pure rfl rfl rfl ?_ | refine WL.nil ?_ | refine WC.skip ?_ | refine WC.block ?_ | refine WC.condT rfl ?_ | refine WC.condF rfl ?_ | refine WL.off rfl rfl rfl ?_ | refine WL.off0 rfl rfl ?_ | refine WC.exit ?_ | refine blk_hit ?_ | refine blk_miss rfl ?_ | refine WC.ret ?_)
          exact Res.one rfl rfl rfl ⟨rfl, h8⟩
        · repeat (first | refine WC.seq ?_ | refine WC.reg ?_ | refine WL.pure rfl rfl rfl ?_ | refine WL.nil ?_ | refine WC.skip ?_ | refine WC.block ?_ | refine WC.condT rfl ?_ | refine WC.condF rfl ?_ | refine WL.off rfl rfl rfl ?_ | refine WL.off0 rfl rfl ?_ | refine WC.exit ?_ | refine blk_hit ?_ | refine blk_miss rfl ?_ | refine WC.ret ?_)
          exact Res.one rfl rfl rfl ⟨congrArg Value.bool t2, h8⟩
  · have hx : ¬ (f.length - d.length + 1 = 1 ∧ g.length - d.length + 1 = 1) := by
      rintro ⟨h5, _⟩
      rw [h5] at h1
      simp at h1
    obtain ⟨t1, t2⟩ := tail hx
    repeat (first | refine WC.seq ?_ | refine WC.reg ?_ | refine WL.pure rfl rfl rfl ?_ | refine WL.nil ?_ | refine WC.skip ?_ | refine WC.block ?_ | refine WC.condT rfl ?_ | refine WC.condF rfl ?_ | refine WL.off rfl rfl rfl ?_ | refine WL.off0 rfl rfl ?_ | refine WC.exit ?_ | refine blk_hit ?_ | refine blk_miss rfl ?_ | refine WC.ret ?_)
    refine WL.split 115 rfl (fun h2 => ?_) (fun h2 => ?_)
    · repeat (first | refine WC.seq ?_ | refine WC.reg ?_ | refine WL.pure rfl rfl rfl ?_ | refine WL.nil ?_ | refine WC.skip ?_ | refine WC.block ?_ | refine WC.condT rfl ?_ | refine WC.condF rfl ?_ | refine WL.off rfl rfl rfl ?_ | refine WL.off0 rfl rfl ?_ | refine WC.exit ?_ | refine blk_hit ?_ | refine blk_miss rfl ?_ | refine WC.ret ?_)
      refine WL.split 126 rfl (fun h3 => ?_) (fun h3 => ?_)
      · repeat (first | refine WC.seq ?_ | refine WC.reg ?_ | refine WL.pure rfl rfl rfl ?_ | refine WL.nil ?_ | refine WC.skip ?_ | refine WC.block ?_ | refine WC.condT rfl ?_ | refine WC.condF rfl ?_ | refine WL.off rfl rfl rfl ?_ | refine WL.off0 rfl rfl ?_ | refine WC.exit ?_ | refine blk_hit ?_ | refine blk_miss rfl ?_ | refine WC.ret ?_)
        exact Res.one rfl rfl rfl ⟨rfl, h8⟩
      · repeat (first | refine WC.seq ?_ | refine WC.reg ?_ | refine WL.pure rfl rfl rfl ?_ | refine WL.nil ?_ | refine WC.skip ?_ | refine WC.block ?_ | refine WC.condT rfl ?_ | refine WC.condF rfl ?_ | refine WL.off rfl rfl rfl ?_ | refine WL.off0 rfl rfl ?_ | refine WC.exit ?_ | refine blk_hit ?_ | refine blk_miss rfl ?_ | refine WC.ret ?_)
        exact Res.one rfl rfl rfl ⟨congrArg Value.bool t2, h8⟩
    · repeat (first | refine WC.seq ?_ | refine WC.reg ?_ | refine WL.pure rfl rfl rfl ?_ | refine WL.nil ?_ | refine WC.skip ?_ | refine WC.block ?_ | refine WC.condT rfl ?_ | refine WC.condF rfl ?_ | refine WL.off rfl rfl rfl ?_ | refine WL.off0 rfl rfl ?_ | refine WC.exit ?_ | refine blk_hit ?_ | refine blk_miss rfl ?_ | refine WC.ret ?_)
      refine WL.known (d := 122) (congrArg (fun b => some (Value.bool b)) t1) ?_
      repeat (first | refine WC.seq ?_ | refine WC.reg ?_ | refine WL.pure rfl rfl rfl ?_ | refine WL.nil ?_ | refine WC.skip ?_ | refine WC.block ?_ | refine WC.condT rfl ?_ | refine WC.condF rfl ?_ | refine WL.off rfl rfl rfl ?_ | refine WL.off0 rfl rfl ?_ | refine WC.exit ?_ | refine blk_hit ?_ | refine blk_miss rfl ?_ | refine WC.ret ?_)
      refine WL.split 126 rfl (fun h3 => ?_) (fun h3 => ?_)
      · repeat (first | refine WC.seq ?_ | refine WC.reg ?_ | refine WL.pure rfl rfl rfl ?_ | refine WL.nil ?_ | refine WC.skip ?_ | refine WC.block ?_ | refine WC.condT rfl ?_ | refine WC.condF rfl ?_ | refine WL.off rfl rfl rfl ?_ | refine WL.off0 rfl rfl ?_ | refine WC.exit ?_ | refine blk_hit ?_ | refine blk_miss rfl ?_ | refine WC.ret ?_)
        exact Res.one rfl rfl rfl ⟨rfl, h8⟩
      · repeat (first | refine WC.seq ?_ | refine WC.reg ?_ | refine WL.pure rfl rfl rfl ?_ | refine WL.nil ?_ | refine WC.skip ?_ | refine WC.block ?_ | refine WC.condT rfl ?_ | refine WC.condF rfl ?_ | refine WL.off rfl rfl rfl ?_ | refine WL.off0 rfl rfl ?_ | refine WC.exit ?_ | refine blk_hit ?_ | refine blk_miss rfl ?_ | refine WC.ret ?_)
        exact Res.one rfl rfl rfl ⟨congrArg Value.bool t2, h8⟩
end Go.Proofs.Ytagfpnnplgkkoaa
