/- Polynomials that are only read; the walks of differences, multiples, monic polynomials, common divisors, quotients, derivatives and roots. -/
import Derived.Test.YtagfpnnplgkkoaaR17
namespace Go.Proofs.Ytagfpnnplgkkoaa
open Go.W Go.Poly Go.Tree Go.RowKit
set_option maxRecDepth 100000
attribute [local irreducible] WC WL WQ WS WH

/-- A list of one's own. -/
abbrev Rw (v : Value) (f : List Nat) : Ent := .row 3 1 v f.length (ints f)
/-- A value that reads as a list. -/
def Pd (w : World) (v : Value) (f : List Nat) : Prop := ∃ a c, v = .slice a f.length c ∧ Sl w a (ints f) ∧ (a = none → c = 0) ∧ f.length ≤ c
theorem Pd.below {w w' : World} {v : Value} {f : List Nat} (h : Pd w v f) (hb : Below w.heap.size w w') : Pd w' v f := by
  obtain ⟨a, c, h1, h2, h3⟩ := h
  exact ⟨a, c, h1, h2.below hb, h3⟩
theorem Pd.hp {w0 w : World} {L : List Ent} {v : Value} {f : List Nat} (h : Pd w0 v f) (hp : Hp w0 w L) : Pd w v f := h.below hp.below
theorem Pd.row {w0 w : World} {L : List Ent} {v : Value} {f : List Nat} (hp : Hp w0 w L) (i : Nat) (hi : nth L i = some (Rw v f)) : Pd w v f := by
  have h := hp.at i hi
  have h2 : w.ownsRow w0.heap.size 3 1 v f.length (ints f) := h
  obtain ⟨_, ⟨hv, hn⟩ | ⟨b, cap, cur, hv, _, _, hnc, _⟩⟩ := id h2
  · refine ⟨none, 0, by rw [hv, hn], ?_, fun _ => rfl, by omega⟩
    rw [List.length_eq_zero_iff.1 hn]; exact Sl.nil
  · subst hv
    exact ⟨_, cap, rfl, Sl.of_row h2, (fun e => by cases e), hnc⟩
theorem Pd.nil (w : World) : Pd w (.slice none 0 0) [] := ⟨none, 0, rfl, Sl.nil, fun _ => rfl, Nat.le_refl _⟩
theorem _root_.Go.W.Hp.nilRw {w0 w : World} {L : List Ent} (h : Hp w0 w L) : Hp w0 w (Rw (.slice none 0 0) [] :: L) := h.nilrow 3 1
/-- What is made behind a world from which nothing is kept. -/
theorem _root_.Go.W.Hp.over {w0 w w' : World} {L : List Ent} (h : Hp w0 w []) (k : Hp w w' L) : Hp w0 w' L := by
  have := h.comb k
  rwa [List.append_nil] at this

theorem row_cut {w0 w : World} {E m n c : Nat} {a : Option Addr} {xs ys : List Value} {L : List Ent} (h : Hp w0 w (.row E 1 (.slice a n c) n xs :: L)) (hm : m ≤ n) (hy : ys = xs.take m) : Hp w0 w (.row E 1 (.slice a m c) m ys :: L) := by
  have h1 := List.pairwise_cons.1 h.dist
  refine ⟨h.below, ?_, List.pairwise_cons.2 ⟨fun y hy k hk => h1.1 y hy k ?_, h1.2⟩⟩
  · intro x hx
    rcases List.mem_cons.1 hx with hx | hx
    · subst hx
      obtain ⟨hl, h2⟩ := h.sat (.row E 1 (.slice a n c) n xs) (by simp)
      refine ⟨by rw [hy, List.length_take, hl]; omega, ?_⟩
      rcases h2 with ⟨hv, hn⟩ | ⟨b, cap, cur, hv, hb, hh, hnc, hcm, hsz, ht⟩
      · simp only [Value.slice.injEq] at hv
        exact .inl ⟨by rw [hv.1, hv.2.2, show m = 0 by omega], by omega⟩
      · simp only [Value.slice.injEq] at hv
        exact .inr ⟨b, cap, cur, by rw [hv.1, hv.2.2], hb, hh, by omega, hcm, hsz, by rw [hy, ← ht, List.take_take]; congr 1; omega⟩
    · exact h.sat x (by simp [hx])
  · simp only [Ent.owns, Value.ownBlock] at hk ⊢
    cases a <;> simp_all
theorem mul_pd (p : Nat) (vf vg : Value) (f g : List Nat) (hpp : Pri p) (hp : p ≤ 1021) (hf : IsP p f) (hg : IsP p g) (hlf : f.length ≤ 1000) (hlg : g.length ≤ 1000) (w : World) (sf : Pd w vf f) (sg_ : Pd w vg g) :
    Ret Try.prog 42 [.int .i64 (p : Nat), vf, vg] w fun u w' => Hp w w' [Rw u (mulL p f g)] := by
  obtain ⟨fa, fc, rfl, sf, _⟩ := sf
  obtain ⟨ga, gc, rfl, sg_, _⟩ := sg_
  refine (mul_any fa ga fc gc p f g hpp.pos hp (hf.co hpp.pos) (hg.co hpp.pos) hlf hlg w sf sg_).mono ?_
  rintro _ w' ⟨a, c, rfl, h⟩
  exact h
theorem add_pd (p : Nat) (vf vg : Value) (f g : List Nat) (hpp : Pri p) (hp : p ≤ 1021) (hf : IsP p f) (hg : IsP p g) (hlf : f.length ≤ 1000) (hlg : g.length ≤ 1000) (w : World) (sf : Pd w vf f) (sg_ : Pd w vg g) :
    Ret Try.prog 41 [.int .i64 (p : Nat), vf, vg] w fun u w' => Hp w w' [Rw u (addL p f g)] := by
  obtain ⟨fa, fc, rfl, sf, _⟩ := sf
  obtain ⟨ga, gc, rfl, sg_, _⟩ := sg_
  refine (add_any fa ga fc gc p f g hpp.pos hp (hf.co hpp.pos) (hg.co hpp.pos) hlf hlg w sf sg_).mono ?_
  rintro _ w' ⟨a, c, rfl, h⟩
  exact h
theorem div_pd (p : Nat) (vf vg : Value) (f g : List Nat) (hpp : Pri p) (hp : p ≤ 1021) (hf : IsP p f) (hg : IsP p g) (hg0 : 0 < g.length) (hlf : f.length ≤ 1000) (hlg : g.length ≤ 1000) (w : World) (sf : Pd w vf f) (sg_ : Pd w vg g) :
    Ret Try.prog 48 [.int .i64 (p : Nat), vf, vg] w fun u w' => ∃ q r, u = .tuple #[q, r] ∧ Hp w w' [Rw q (quoL p f g), Rw r (remL p f g)] := by
  obtain ⟨fa, fc, rfl, sf, h1, h2⟩ := sf
  obtain ⟨ga, gc, rfl, sg_, _⟩ := sg_
  refine (div_any fa ga fc gc p f g hpp hp hf hg hg0 hlf hlg (fun h => ⟨by have := h1 h; omega, h1 h⟩) w sf sg_).mono ?_
  rintro _ w' ⟨qa, qc, ra, rc, rfl, h⟩
  exact ⟨_, _, rfl, h⟩

theorem subC_any (p x y : Nat) (hp0 : 0 < p) (hp : p ≤ 1021) (hx : x < p) (hy : y < p) (b : Nat) (w : World) (hb : Sl w (some ⟨b, 0, none⟩) [.int .i64 (p : Nat)]) :
    Ret Try.prog 97 [.int .i64 (x : Nat), .int .i64 (y : Nat), .pointer (some ⟨b, 0, none⟩)] w fun u w' => u = .int .i64 ((x + (p - y)) % p : Nat) ∧ w' = w := by
  have e1 : IntKind.i64.wrap ((x : Int) - (y : Int)) = (x : Int) - (y : Int) := wrap_mid (by omega) (by omega)
  have e2 : ((x : Int) - (y : Int)) % (p : Int) = (((x + (p - y)) % p : Nat) : Int) := by
    have : (x : Int) - (y : Int) = ((x + (p - y) : Nat) : Int) + (p : Int) * (-1) := by omega
    rw [this, Int.add_mul_emod_self_left, ← Int.natCast_emod]
  refine enter Try.func97 rfl rfl ⟨rfl, rfl⟩ rfl ?_
  repeat (first | refine WC.seq ?_ | refine WC.reg ?_ | refine WL.pure rfl rfl rfl ?_ | refine WL.nil ?_ | refine WC.skip ?_ | refine WC.block ?_ | refine WC.condT rfl ?_ | refine WC.condF rfl ?_ | refine WL.off rfl rfl rfl ?_ | refine WL.off0 rfl rfl ?_ | refine WC.exit ?_ | refine blk_hit ?_ | refine blk_miss rfl ?_ | refine WC.ret ?_)
  refine WL.load rfl rfl rfl rfl rfl (Sl.cell (i := 0) hb rfl) ?_
  repeat (first | refine WC.seq ?_ | refine WC.reg ?_ | refine WL.pure rfl rfl rfl ?_ | refine WL.nil ?_ | refine WC.skip ?_ | refine WC.block ?_ | refine WC.condT rfl ?_ | refine WC.condF rfl ?_ | refine WL.off rfl rfl rfl ?_ | refine WL.off0 rfl rfl ?_ | refine WC.exit ?_ | refine blk_hit ?_ | refine blk_miss rfl ?_ | refine WC.ret ?_)
  refine WL.known (d := 9) (congrArg (fun z => some (Value.int .i64 z)) e1) ?_
  refine WL.callP rfl rfl rfl rfl rfl ent54 (mod_any p _ hp0 (by omega) _) ?_
  rw [e2]
  repeat (first | refine WC.seq ?_ | refine WC.reg ?_ | refine WL.pure rfl rfl rfl ?_ | refine WL.nil ?_ | refine WC.skip ?_ | refine WC.block ?_ | refine WC.condT rfl ?_ | refine WC.condF rfl ?_ | refine WL.off rfl rfl rfl ?_ | refine WL.off0 rfl rfl ?_ | refine WC.exit ?_ | refine blk_hit ?_ | refine blk_miss rfl ?_ | refine WC.ret ?_)
  exact Res.one rfl rfl rfl ⟨rfl, rfl⟩

theorem sub_pd (p : Nat) (vf vg : Value) (f g : List Nat) (hpp : Pri p) (hp : p ≤ 1021) (hf : IsP p f) (hg : IsP p g) (hlf : f.length ≤ 1000) (hlg : g.length ≤ 1000) (w : World) (sf : Pd w vf f) (sg_ : Pd w vg g) :
    Ret Try.prog 78 [.int .i64 (p : Nat), vf, vg] w fun u w' => Hp w w' [Rw u (subL p f g)] := by
  obtain ⟨fa, fc, rfl, sf, _⟩ := sf
  obtain ⟨ga, gc, rfl, sg_, _⟩ := sg_
  have hp0 := hpp.pos
  refine enter Try.func78 rfl rfl ⟨rfl, rfl⟩ rfl ?_
  repeat (first | refine WC.seq ?_ | refine WC.reg ?_ | refine WL.pure rfl rfl rfl ?_ | refine WL.nil ?_ | refine WC.skip ?_ | refine WC.block ?_ | refine WC.condT rfl ?_ | refine WC.condF rfl ?_ | refine WL.off rfl rfl rfl ?_ | refine WL.off0 rfl rfl ?_ | refine WC.exit ?_ | refine blk_hit ?_ | refine blk_miss rfl ?_ | refine WC.ret ?_)
  refine WL.box rfl rfl rfl ?_
  intro b3 w1 hb3
  have hp1 := (Hp.start w).new hb3
  have hcell : Sl w1 (some ⟨b3, 0, none⟩) [.int .i64 (p : Nat)] := Sl.of_obj (hp1.obj 0 rfl) (fun q u hq => by simpa [Value.cells] using hq)
  repeat (first | refine WC.seq ?_ | refine WC.reg ?_ | refine WL.pure rfl rfl rfl ?_ | refine WL.nil ?_ | refine WC.skip ?_ | refine WC.block ?_ | refine WC.condT rfl ?_ | refine WC.condF rfl ?_ | refine WL.off rfl rfl rfl ?_ | refine WL.off0 rfl rfl ?_ | refine WC.exit ?_ | refine blk_hit ?_ | refine blk_miss rfl ?_ | refine WC.ret ?_)
  refine WL.call rfl rfl rfl rfl rfl ent71 (combine_any fa ga fc gc f g 97 #[.pointer (some ⟨b3, 0, none⟩)] (fun x y => (x + (p - y)) % p) ent97 w1 (sf.hp hp1) (sg_.hp hp1) hlf hlg
    (fun i w' L hL => subC_any p _ _ hp0 hp (hf.co hp0 i) (hg.co hp0 i) b3 w' (hcell.hp hL))) ?_
  rintro _ w2 ⟨b, rfl, hp2⟩
  have hp2 := (hp1.comb hp2).drop1
  have hlm : max f.length g.length ≤ 1000 := by omega
  have hadd : subL p f g = trimL (fl (max f.length g.length) fun i => (co f i + (p - co g i)) % p) := rfl
  generalize hs : (fl (max f.length g.length) fun i => (co f i + (p - co g i)) % p) = s at *
  have hsl : s.length = max f.length g.length := by rw [← hs, fl_len]
  rw [← hsl] at hlm ⊢
  have htr := trim_any (some ⟨b, 0, none⟩) s.length s (Nat.le_refl _) (by omega) w2 (Sl.of_obj (hp2.obj 0 rfl) (fun q u hq => by simpa using hq))
  refine WL.call rfl rfl rfl rfl rfl ent70 htr ?_
  rintro _ w3 ⟨rfl, rfl⟩
  have htl := trim_len s
  have hle := tn_le s s.length
  have hp3 := hp2.toRowN (m := s.length) (s := 1) (trimL s).length (by simp [ints]) (by unfold maxLen; omega) (by omega)
  have e4 : (ints s).toArray.toList.take ((trimL s).length * 1) = ints (trimL s) := by
    rw [Nat.mul_one, htl]
    show (ints s).take (tn s s.length) = _
    rw [ints_take]; rfl
  rw [e4] at hp3
  repeat (first | refine WC.seq ?_ | refine WC.reg ?_ | refine WL.pure rfl rfl rfl ?_ | refine WL.nil ?_ | refine WC.skip ?_ | refine WC.block ?_ | refine WC.condT rfl ?_ | refine WC.condF rfl ?_ | refine WL.off rfl rfl rfl ?_ | refine WL.off0 rfl rfl ?_ | refine WC.exit ?_ | refine blk_hit ?_ | refine blk_miss rfl ?_ | refine WC.ret ?_)
  exact Res.one rfl rfl rfl (by rw [hadd]; exact hp3)

/-- A block of one's own, trimmed. -/
theorem trim_blk {w0 w : World} {b : Nat} {L : List Ent} (s : List Nat) (hl : s.length ≤ 1000000) (h : Hp w0 w (.blk b (.cells (ints s).toArray 3 (0, 0)) :: L)) :
    Ret Try.prog 70 [.slice (some ⟨b, 0, none⟩) s.length s.length] w fun u w' => w' = w ∧ Hp w0 w' (Rw u (trimL s) :: L) := by
  refine (trim_any (some ⟨b, 0, none⟩) s.length s (Nat.le_refl _) (by omega) w (Sl.of_obj (h.obj 0 rfl) (fun q u hq => by simpa using hq))).mono ?_
  rintro _ w' ⟨rfl, rfl⟩
  refine ⟨rfl, ?_⟩
  have htl := trim_len s
  have hle := tn_le s s.length
  have hp3 := h.toRowN (m := s.length) (s := 1) (trimL s).length (by simp [ints]) (by unfold maxLen; omega) (by omega)
  have e4 : (ints s).toArray.toList.take ((trimL s).length * 1) = ints (trimL s) := by
    rw [Nat.mul_one, htl]
    show (ints s).take (tn s s.length) = _
    rw [ints_take]; rfl
  rw [e4] at hp3
  exact hp3

theorem scale_pd (p c : Nat) (vf : Value) (f : List Nat) (hpp : Pri p) (hp : p ≤ 1021) (hf : IsP p f) (hlf : f.length ≤ 1000) (w : World) (sf : Pd w vf f) :
    Ret Try.prog 56 [.int .i64 (p : Nat), vf, .int .i64 (c : Nat)] w fun u w' => Hp w w' [Rw u (scaleL p f c)] := by
  have e1 : ((c : Nat) : Int) % (p : Int) = ((c % p : Nat) : Int) := by omega
  refine enter Try.func56 rfl rfl ⟨rfl, rfl⟩ rfl ?_
  repeat (first | refine WC.seq ?_ | refine WC.reg ?_ | refine WL.pure rfl rfl rfl ?_ | refine WL.nil ?_ | refine WC.skip ?_ | refine WC.block ?_ | refine WC.condT rfl ?_ | refine WC.condF rfl ?_ | refine WL.off rfl rfl rfl ?_ | refine WL.off0 rfl rfl ?_ | refine WC.exit ?_ | refine blk_hit ?_ | refine blk_miss rfl ?_ | refine WC.ret ?_)
  refine WL.callP rfl rfl rfl rfl rfl ent54 (mod_any p _ hpp.pos (by omega) _) ?_
  rw [e1]
  refine WL.buildS (cs := ints [c % p]) rfl rfl rfl rfl rfl rfl rfl rfl rfl ?_
  intro b w1 hb
  have hp1 := (Hp.start w).new hb
  refine WL.call rfl rfl rfl rfl rfl ent70 (trim_blk [c % p] (by simp) hp1) ?_
  rintro u w2 ⟨rfl, hp2⟩
  have hc := isP_const hpp.pos c
  have hcl : (trimL [c % p]).length ≤ 1 := by rw [trim_len]; exact tn_le _ _
  refine WL.call rfl rfl rfl rfl rfl ent42 (mul_pd p vf u f (trimL [c % p]) hpp hp hf hc hlf (by omega) w2 (sf.hp hp2) (Pd.row hp2 0 rfl)) ?_
  rintro u2 w3 hp3
  repeat (first | refine WC.seq ?_ | refine WC.reg ?_ | refine WL.pure rfl rfl rfl ?_ | refine WL.nil ?_ | refine WC.skip ?_ | refine WC.block ?_ | refine WC.condT rfl ?_ | refine WC.condF rfl ?_ | refine WL.off rfl rfl rfl ?_ | refine WL.off0 rfl rfl ?_ | refine WC.exit ?_ | refine blk_hit ?_ | refine blk_miss rfl ?_ | refine WC.ret ?_)
  exact Res.one rfl rfl rfl (hp2.nil'.over hp3)

theorem monic_pd (p : Nat) (vf : Value) (f : List Nat) (hpp : Pri p) (hp : p ≤ 1021) (hf : IsP p f) (hlf : f.length ≤ 1000) (w : World) (sf : Pd w vf f) :
    Ret Try.prog 59 [.int .i64 (p : Nat), vf] w fun u w' => Hp w w' [Rw u (monicL p f)] := by
  have sf' := sf
  obtain ⟨fa, fc, rfl, sl, _⟩ := sf
  refine enter Try.func59 rfl rfl ⟨rfl, rfl⟩ rfl ?_
  repeat (first | refine WC.seq ?_ | refine WC.reg ?_ | refine WL.pure rfl rfl rfl ?_ | refine WL.nil ?_ | refine WC.skip ?_ | refine WC.block ?_ | refine WC.condT rfl ?_ | refine WC.condF rfl ?_ | refine WL.off rfl rfl rfl ?_ | refine WL.off0 rfl rfl ?_ | refine WC.exit ?_ | refine blk_hit ?_ | refine blk_miss rfl ?_ | refine WC.ret ?_)
  refine WC.cond rfl (fun h => ?_) (fun h => ?_)
  · have h : f = [] := by
      have : (f.length : Int) = 0 := by simpa using h
      exact List.length_eq_zero_iff.1 (by omega)
    subst h
    repeat (first | refine WC.seq ?_ | refine WC.reg ?_ | refine WL.pure rfl rfl rfl ?_ | refine WL.nil ?_ | refine WC.skip ?_ | refine WC.block ?_ | refine WC.condT rfl ?_ | refine WC.condF rfl ?_ | refine WL.off rfl rfl rfl ?_ | refine WL.off0 rfl rfl ?_ | refine WC.exit ?_ | refine blk_hit ?_ | refine blk_miss rfl ?_ | refine WC.ret ?_)
    exact Res.one rfl rfl rfl (Hp.start w).nilRw
  · have h : f ≠ [] := by
      rintro rfl; simp at h
    have h0 := List.length_pos_iff.2 h
    have e1 : IntKind.i64.wrap ((f.length : Int) - 1) = ((f.length - 1 : Nat) : Int) := by rw [wrap_mid (by omega) (by omega)]; omega
    repeat (first | refine WC.seq ?_ | refine WC.reg ?_ | refine WL.pure rfl rfl rfl ?_ | refine WL.nil ?_ | refine WC.skip ?_ | refine WC.block ?_ | refine WC.condT rfl ?_ | refine WC.condF rfl ?_ | refine WL.off rfl rfl rfl ?_ | refine WL.off0 rfl rfl ?_ | refine WC.exit ?_ | refine blk_hit ?_ | refine blk_miss rfl ?_ | refine WC.ret ?_)
    refine WL.known (d := 14) (congrArg (fun z => some (Value.int .i64 z)) e1) ?_
    refine WL.ixload rfl (fun _ => rfl) rfl rfl rfl rfl rfl rfl rfl (show f.length - 1 < f.length by omega) rfl rfl sl (ints_at (show f.length - 1 < f.length by omega)) ?_
    intro pa
    refine WL.callP rfl rfl rfl rfl rfl ent55 (inverse_any p _ hpp (top_pos hf h0) (hf.co hpp.pos _) (by omega) _) ?_
    refine WL.call rfl rfl rfl rfl rfl ent56 (scale_pd p _ _ f hpp hp hf hlf w sf') ?_
    rintro u w1 hp1
    repeat (first | refine WC.seq ?_ | refine WC.reg ?_ | refine WL.pure rfl rfl rfl ?_ | refine WL.nil ?_ | refine WC.skip ?_ | refine WC.block ?_ | refine WC.condT rfl ?_ | refine WC.condF rfl ?_ | refine WL.off rfl rfl rfl ?_ | refine WL.off0 rfl rfl ?_ | refine WC.exit ?_ | refine blk_hit ?_ | refine blk_miss rfl ?_ | refine WC.ret ?_)
    refine Res.one rfl rfl rfl ?_
    rw [monicL, if_neg h]
    exact hp1

theorem gcd_pd (p : Nat) (vf vg : Value) (f g : List Nat) (hpp : Pri p) (hp : p ≤ 1021) (hf : IsP p f) (hg : IsP p g) (hlf : f.length ≤ 1000) (hlg : g.length ≤ 1000) (w : World) (sf : Pd w vf f) (sg_ : Pd w vg g) :
    Ret Try.prog 87 [.int .i64 (p : Nat), vf, vg] w fun u w' => Hp w w' [Rw u (gcdL p f g)] := by
  obtain ⟨R, hR0⟩ : ∃ R, gcdL p f g = R := ⟨_, rfl⟩
  rw [hR0]
  refine enter Try.func87 rfl rfl ⟨rfl, rfl⟩ rfl ?_
  repeat (first | refine WC.seq ?_ | refine WC.reg ?_ | refine WL.pure rfl rfl rfl ?_ | refine WL.nil ?_ | refine WC.skip ?_ | refine WC.block ?_ | refine WC.condT rfl ?_ | refine WC.condF rfl ?_ | refine WL.off rfl rfl rfl ?_ | refine WL.off0 rfl rfl ?_ | refine WC.exit ?_ | refine blk_hit ?_ | refine blk_miss rfl ?_ | refine WC.ret ?_)
  refine WC.loop (Nat × Value × Value × List Nat × List Nat) (fun (k, vf, vg, f, g) => [(0, .int .i64 (p : Nat)), (1, vf), (2, vg)])
    (fun (k, vf, vg, f, g) w' => Hp w w' [] ∧ IsP p f ∧ IsP p g ∧ f.length ≤ 1000 ∧ g.length ≤ 1000 ∧ Pd w' vf f ∧ Pd w' vg g ∧ g.length ≤ k ∧ gcdN p k f g = R) (fun (k, _) => k) (g.length, vf, vg, f, g) ⟨rfl, rfl, rfl, rfl⟩ ⟨Hp.start w, hf, hg, hlf, hlg, sf, sg_, Nat.le_refl _, hR0⟩ ?_
  rintro ⟨k, vf, vg, f1, g1⟩ w1 ⟨hp1, hf, hg, hlf, hlg, sf, sg_, hk, hR⟩
  have sg' := sg_
  obtain ⟨ga, gc, rfl, sl, _⟩ := sg_
  repeat (first | refine WC.seq ?_ | refine WC.reg ?_ | refine WL.pure rfl rfl rfl ?_ | refine WL.nil ?_ | refine WC.skip ?_ | refine WC.block ?_ | refine WC.condT rfl ?_ | refine WC.condF rfl ?_ | refine WL.off rfl rfl rfl ?_ | refine WL.off0 rfl rfl ?_ | refine WC.exit ?_ | refine blk_hit ?_ | refine blk_miss rfl ?_ | refine WC.ret ?_)
  refine WC.cond rfl (fun h => ?_) (fun h => ?_)
  · have h : 0 < g1.length := by have := of_decide_eq_true h; omega
    obtain ⟨k, rfl⟩ : ∃ j, k = j + 1 := ⟨k - 1, by omega⟩
    have hr := rem_lt hpp hf hg h
    repeat (first | refine WC.seq ?_ | refine WC.reg ?_ | refine WL.pure rfl rfl rfl ?_ | refine WL.nil ?_ | refine WC.skip ?_ | refine WC.block ?_ | refine WC.condT rfl ?_ | refine WC.condF rfl ?_ | refine WL.off rfl rfl rfl ?_ | refine WL.off0 rfl rfl ?_ | refine WC.exit ?_ | refine blk_hit ?_ | refine blk_miss rfl ?_ | refine WC.ret ?_)
    refine WL.call rfl rfl rfl rfl rfl ent48 (div_pd p _ _ f1 g1 hpp hp hf hg h hlf hlg w1 sf sg') ?_
    rintro _ w2 ⟨q, r, rfl, hp2⟩
    repeat (first | refine WC.seq ?_ | refine WC.reg ?_ | refine WL.pure rfl rfl rfl ?_ | refine WL.nil ?_ | refine WC.skip ?_ | refine WC.block ?_ | refine WC.condT rfl ?_ | refine WC.condF rfl ?_ | refine WL.off rfl rfl rfl ?_ | refine WL.off0 rfl rfl ?_ | refine WC.exit ?_ | refine blk_hit ?_ | refine blk_miss rfl ?_ | refine WC.ret ?_)
    refine ⟨(k, _, r, g1, remL p f1 g1), by show k < k + 1; omega, ⟨rfl, rfl, rfl, rfl⟩, hp1.over hp2.nil', hg, rem_isP hpp hf hg h, hlg, by omega, sg'.hp hp2, Pd.row hp2 1 rfl, by omega, ?_⟩
    rw [gcdN, if_neg (by intro e; subst e; simp at h)] at hR
    exact hR
  · have h : g1 = [] := List.length_eq_zero_iff.1 (by have := of_decide_eq_false h; omega)
    subst h
    rw [gcd_nil] at hR
    repeat (first | refine WC.seq ?_ | refine WC.reg ?_ | refine WL.pure rfl rfl rfl ?_ | refine WL.nil ?_ | refine WC.skip ?_ | refine WC.block ?_ | refine WC.condT rfl ?_ | refine WC.condF rfl ?_ | refine WL.off rfl rfl rfl ?_ | refine WL.off0 rfl rfl ?_ | refine WC.exit ?_ | refine blk_hit ?_ | refine blk_miss rfl ?_ | refine WC.ret ?_)
    refine WL.call rfl rfl rfl rfl rfl ent59 (monic_pd p vf f1 hpp hp hf hlf w1 sf) ?_
    rintro u w2 hp2
    rw [hR] at hp2
    repeat (first | refine WC.seq ?_ | refine WC.reg ?_ | refine WL.pure rfl rfl rfl ?_ | refine WL.nil ?_ | refine WC.skip ?_ | refine WC.block ?_ | refine WC.condT rfl ?_ | refine WC.condF rfl ?_ | refine WL.off rfl rfl rfl ?_ | refine WL.off0 rfl rfl ?_ | refine WC.exit ?_ | refine blk_hit ?_ | refine blk_miss rfl ?_ | refine WC.ret ?_)
    exact Res.one rfl rfl rfl (hp1.over hp2)

theorem quotient_pd (p : Nat) (vf vg : Value) (f g : List Nat) (hpp : Pri p) (hp : p ≤ 1021) (hf : IsP p f) (hg : IsP p g) (hg0 : 0 < g.length) (hlf : f.length ≤ 1000) (hlg : g.length ≤ 1000) (w : World) (sf : Pd w vf f) (sg_ : Pd w vg g) :
    Ret Try.prog 103 [.int .i64 (p : Nat), vf, vg] w fun u w' => Hp w w' [Rw u (quoL p f g)] := by
  refine enter Try.func103 rfl rfl ⟨rfl, rfl⟩ rfl ?_
  repeat (first | refine WC.seq ?_ | refine WC.reg ?_ | refine WL.pure rfl rfl rfl ?_ | refine WL.nil ?_ | refine WC.skip ?_ | refine WC.block ?_ | refine WC.condT rfl ?_ | refine WC.condF rfl ?_ | refine WL.off rfl rfl rfl ?_ | refine WL.off0 rfl rfl ?_ | refine WC.exit ?_ | refine blk_hit ?_ | refine blk_miss rfl ?_ | refine WC.ret ?_)
  refine WL.call rfl rfl rfl rfl rfl ent48 (div_pd p _ _ f g hpp hp hf hg hg0 hlf hlg w sf sg_) ?_
  rintro _ w2 ⟨q, r, rfl, hp2⟩
  repeat (first | refine WC.seq ?_ | refine WC.reg ?_ | refine WL.pure rfl rfl rfl ?_ | refine WL.nil ?_ | refine WC.skip ?_ | refine WC.block ?_ | refine WC.condT rfl ?_ | refine WC.condF rfl ?_ | refine WL.off rfl rfl rfl ?_ | refine WL.off0 rfl rfl ?_ | refine WC.exit ?_ | refine blk_hit ?_ | refine blk_miss rfl ?_ | refine WC.ret ?_)
  exact Res.one rfl rfl rfl hp2.drop1

theorem slope_pd (p : Nat) (vf : Value) (f : List Nat) (hpp : Pri p) (hp : p ≤ 1021) (hf : IsP p f) (hlf : f.length ≤ 1000) (w : World) (sf : Pd w vf f) :
    Ret Try.prog 88 [.int .i64 (p : Nat), vf] w fun u w' => Hp w w' [Rw u (slopeL p f)] := by
  have sf' := sf
  obtain ⟨fa, fc, rfl, sl, _⟩ := sf
  have hp0 := hpp.pos
  refine enter Try.func88 rfl rfl ⟨rfl, rfl⟩ rfl ?_
  repeat (first | refine WC.seq ?_ | refine WC.reg ?_ | refine WL.pure rfl rfl rfl ?_ | refine WL.nil ?_ | refine WC.skip ?_ | refine WC.block ?_ | refine WC.condT rfl ?_ | refine WC.condF rfl ?_ | refine WL.off rfl rfl rfl ?_ | refine WL.off0 rfl rfl ?_ | refine WC.exit ?_ | refine blk_hit ?_ | refine blk_miss rfl ?_ | refine WC.ret ?_)
  refine WC.loop (Nat × Value) (fun (i, v) => [(0, .int .i64 (p : Nat)), (5, v), (8, .slice fa f.length fc), (9, .int .i64 (f.length : Nat)), (10, .int .i64 (i : Nat))])
    (fun (i, v) w' => i ≤ f.length ∧ Hp w w' [Rw v (fl (i - 1) fun j => (j + 1) * co f (j + 1) % p)]) (fun (i, v) => f.length - i) (0, .slice none 0 0) ⟨rfl, rfl, rfl, rfl, rfl, rfl⟩ ⟨Nat.zero_le _, (Hp.start w).nilRw⟩ ?_
  rintro ⟨i, v⟩ w1 ⟨hi, hp1⟩
  repeat (first | refine WC.seq ?_ | refine WC.reg ?_ | refine WL.pure rfl rfl rfl ?_ | refine WL.nil ?_ | refine WC.skip ?_ | refine WC.block ?_ | refine WC.condT rfl ?_ | refine WC.condF rfl ?_ | refine WL.off rfl rfl rfl ?_ | refine WL.off0 rfl rfl ?_ | refine WC.exit ?_ | refine blk_hit ?_ | refine blk_miss rfl ?_ | refine WC.ret ?_)
  refine WC.cond rfl (fun h => ?_) (fun h => ?_)
  · have hi : i < f.length := by have := of_decide_eq_true h; omega
    have step : IntKind.i64.wrap ((i : Int) + 1) = ((i + 1 : Nat) : Int) := by rw [wrap_i64_in (by omega) (by omega)]; omega
    repeat (first | refine WC.seq ?_ | refine WC.reg ?_ | refine WL.pure rfl rfl rfl ?_ | refine WL.nil ?_ | refine WC.skip ?_ | refine WC.block ?_ | refine WC.condT rfl ?_ | refine WC.condF rfl ?_ | refine WL.off rfl rfl rfl ?_ | refine WL.off0 rfl rfl ?_ | refine WC.exit ?_ | refine blk_hit ?_ | refine blk_miss rfl ?_ | refine WC.ret ?_)
    refine WL.ixload rfl (fun _ => rfl) rfl rfl rfl rfl rfl rfl rfl hi rfl rfl (sl.hp hp1) (ints_at hi) ?_
    intro pa
    repeat (first | refine WC.seq ?_ | refine WC.reg ?_ | refine WL.pure rfl rfl rfl ?_ | refine WL.nil ?_ | refine WC.skip ?_ | refine WC.block ?_ | refine WC.condT rfl ?_ | refine WC.condF rfl ?_ | refine WL.off rfl rfl rfl ?_ | refine WL.off0 rfl rfl ?_ | refine WC.exit ?_ | refine blk_hit ?_ | refine blk_miss rfl ?_ | refine WC.ret ?_)
    refine WC.cond rfl (fun h => ?_) (fun h => ?_)
    · have h0 : 0 < i := by have := of_decide_eq_true h; omega
      obtain ⟨j, rfl⟩ : ∃ j, i = j + 1 := ⟨i - 1, by omega⟩
      have e1 : (IntKind.i64.wrap (((j + 1 : Nat) : Int) * (co f (j + 1) : Int))).tmod (p : Int) = (((j + 1) * co f (j + 1) % p : Nat) : Int) := by
        have h1 : (j + 1) * co f (j + 1) ≤ 1001 * 1021 := Nat.mul_le_mul (by omega) (by have := hf.co hp0 (j + 1); omega)
        rw [← Int.natCast_mul]
        generalize (j + 1) * co f (j + 1) = z at *
        rw [wrap_mid (z := (z : Int)) (by omega) (by omega), ← Int.ofNat_tmod]
      obtain ⟨va, vc, hv, -, -⟩ := Pd.row hp1 0 rfl
      rw [fl_len] at hv
      subst hv
      rw [Nat.add_sub_cancel] at hp1 ⊢
      repeat (first | refine WC.seq ?_ | refine WC.reg ?_ | refine WL.pure rfl rfl rfl ?_ | refine WL.nil ?_ | refine WC.skip ?_ | refine WC.block ?_ | refine WC.condT rfl ?_ | refine WC.condF rfl ?_ | refine WL.off rfl rfl rfl ?_ | refine WL.off0 rfl rfl ?_ | refine WC.exit ?_ | refine blk_hit ?_ | refine blk_miss rfl ?_ | refine WC.ret ?_)
      refine WL.rem rfl rfl rfl rfl (by omega) ?_
      refine WL.known (d := 22) (congrArg (fun z => some (Value.int .i64 z)) e1) ?_
      refine WL.buildS (cs := ints [(j + 1) * co f (j + 1) % p]) rfl rfl rfl rfl rfl rfl rfl rfl rfl ?_
      intro bs w2 hbs
      have hp2 := hp1.new hbs
      have hl0 : (fl j fun j => (j + 1) * co f (j + 1) % p).length = j := fl_len _ _
      simp only [Rw, hl0] at hp2
      refine WL.append 1 hp2 rfl rfl rfl rfl rfl (by decide) rfl rfl rfl (news := ints [(j + 1) * co f (j + 1) % p]) (Sl.of_obj (hp2.obj 0 rfl) (fun q u hq => by simpa using hq)) rfl (ints_cells _) (by unfold maxLen; omega) (by show (j + 1) * 8 ≤ _; omega) ?_
      intro a' c' w3 hp3 hg3
      have e2 : ints (fl j fun j => (j + 1) * co f (j + 1) % p) ++ ints [(j + 1) * co f (j + 1) % p] = ints (fl (j + 1) fun j => (j + 1) * co f (j + 1) % p) := by
        simp [ints, fl, List.range_succ]
      rw [e2] at hp3
      have hp4 := hp3.tail
      have hl1 : (fl (j + 1) fun j => (j + 1) * co f (j + 1) % p).length = j + 1 := fl_len _ _
      repeat (first | refine WC.seq ?_ | refine WC.reg ?_ | refine WL.pure rfl rfl rfl ?_ | refine WL.nil ?_ | refine WC.skip ?_ | refine WC.block ?_ | refine WC.condT rfl ?_ | refine WC.condF rfl ?_ | refine WL.off rfl rfl rfl ?_ | refine WL.off0 rfl rfl ?_ | refine WC.exit ?_ | refine blk_hit ?_ | refine blk_miss rfl ?_ | refine WC.ret ?_)
      refine ⟨(j + 1 + 1, .slice a' (j + 1) c'), by show f.length - (j + 1 + 1) < f.length - (j + 1); omega, ⟨rfl, rfl, rfl, rfl, congrArg (fun z => some (Value.int .i64 z)) step, rfl⟩, hi, ?_⟩
      show Hp w w3 [Ent.row _ 1 _ _ _]
      rw [show j + 1 + 1 - 1 = j + 1 from rfl, hl1]
      exact hp4
    · have h0 : i = 0 := by have := of_decide_eq_false h; omega
      subst h0
      repeat (first | refine WC.seq ?_ | refine WC.reg ?_ | refine WL.pure rfl rfl rfl ?_ | refine WL.nil ?_ | refine WC.skip ?_ | refine WC.block ?_ | refine WC.condT rfl ?_ | refine WC.condF rfl ?_ | refine WL.off rfl rfl rfl ?_ | refine WL.off0 rfl rfl ?_ | refine WC.exit ?_ | refine blk_hit ?_ | refine blk_miss rfl ?_ | refine WC.ret ?_)
      exact ⟨(0 + 1, v), by show f.length - (0 + 1) < f.length - 0; omega, ⟨rfl, rfl, rfl, rfl, congrArg (fun z => some (Value.int .i64 z)) step, rfl⟩, hi, hp1⟩
  · have hi : i = f.length := by have := of_decide_eq_false h; omega
    subst hi
    obtain ⟨va, vc, hv, hs, _, hvc⟩ := Pd.row hp1 0 rfl
    have hll : (fl (f.length - 1) fun j => (j + 1) * co f (j + 1) % p).length = f.length - 1 := fl_len _ _
    have hsl : slopeL p f = trimL (fl (f.length - 1) fun j => (j + 1) * co f (j + 1) % p) := rfl
    rw [hsl]
    generalize (fl (f.length - 1) fun j => (j + 1) * co f (j + 1) % p) = s at *
    subst hv
    repeat (first | refine WC.seq ?_ | refine WC.reg ?_ | refine WL.pure rfl rfl rfl ?_ | refine WL.nil ?_ | refine WC.skip ?_ | refine WC.block ?_ | refine WC.condT rfl ?_ | refine WC.condF rfl ?_ | refine WL.off rfl rfl rfl ?_ | refine WL.off0 rfl rfl ?_ | refine WC.exit ?_ | refine blk_hit ?_ | refine blk_miss rfl ?_ | refine WC.ret ?_)
    refine WL.call rfl rfl rfl rfl rfl ent70 (trim_any va vc s hvc (by omega) w1 hs) ?_
    rintro _ w2 ⟨rfl, rfl⟩
    have htl := trim_len s
    have hle := tn_le s s.length
    repeat (first | refine WC.seq ?_ | refine WC.reg ?_ | refine WL.pure rfl rfl rfl ?_ | refine WL.nil ?_ | refine WC.skip ?_ | refine WC.block ?_ | refine WC.condT rfl ?_ | refine WC.condF rfl ?_ | refine WL.off rfl rfl rfl ?_ | refine WL.off0 rfl rfl ?_ | refine WC.exit ?_ | refine blk_hit ?_ | refine blk_miss rfl ?_ | refine WC.ret ?_)
    refine Res.one rfl rfl rfl ?_
    exact row_cut hp1 (by omega) (by rw [htl]; exact (ints_take _ _).symm)
end Go.Proofs.Ytagfpnnplgkkoaa
