/- The walk of a split into irreducible factors. -/
import Derived.Test.YtagfpnnplgkkoaaR24
set_option linter.unusedSectionVars false
namespace Go.Poly
theorem elim_lt {p n : Nat} {M0 : Mat} (hp0 : 0 < p) (h0 : ∀ i j, M0 i j < p) : ∀ c i j, (elimG p n c (0, M0)).2 i j < p
  | 0, i, j => h0 i j
  | c + 1, i, j => by
    have ih := elim_lt (n := n) hp0 h0 c
    rw [elimG, elim1]
    split
    · simp only
      unfold elimM swapM
      split
      · exact Nat.mod_lt _ hp0
      · split
        · exact ih _ _
        · split <;> exact ih _ _
    · exact ih i j
theorem kern_isP {p : Nat} (hpp : Pri p) {f : List Nat} (hf : IsP p f) (hf0 : 1 < f.length) : ∀ v ∈ kernL p f, IsP p v ∧ v.length ≤ f.length - 1 := by
  intro v hv
  unfold kernL kernM at hv
  obtain ⟨i, _, rfl⟩ := List.mem_map.1 hv
  refine ⟨trim_isP (fl_lt fun j _ => elim_lt hpp.pos (mat0_lt hpp hf hf0 (xp_isP hpp hf hf0).1 _) _ _ _), ?_⟩
  refine Nat.le_trans (trim_le _) ?_
  rw [fl_len]; exact Nat.le_refl _
theorem elim_le (p n : Nat) (M0 : Mat) : ∀ c, (elimG p n c (0, M0)).1 ≤ c
  | 0 => Nat.le_refl _
  | c + 1 => by
    have ih := elim_le p n M0 c
    rw [elimG, elim1]
    split
    · simp only; omega
    · omega
theorem kern_len (p : Nat) (f : List Nat) : (kernL p f).length ≤ f.length - 1 := by
  unfold kernL kernM
  rw [List.length_map, List.length_range]; omega
/-- What may be split. -/
def GP (p : Nat) (g : List Nat) : Prop := IsP p g ∧ 1 < g.length ∧ g.length ≤ 400
def tot (l : List (List Nat)) : Nat := (l.map fun g => g.length - 1).sum
theorem tot_append (a b : List (List Nat)) : tot (a ++ b) = tot a + tot b := by simp [tot]
theorem tot_len {p : Nat} : ∀ {l : List (List Nat)}, (∀ g ∈ l, GP p g) → l.length ≤ tot l
  | [], _ => Nat.zero_le _
  | g :: l, h => by
    have := tot_len (l := l) fun x hx => h x (by simp [hx])
    have := (h g (by simp)).2.1
    simp only [tot, List.map_cons, List.sum_cons, List.length_cons] at *
    omega
section
variable {p : Nat} (hpp : Pri p) {v g : List Nat} (hv : IsP p v) (hg : GP p g) (c : Nat) (hc : c < p)
include hpp hv hg hc
theorem cut_d : IsP p (subL p v (trimL [c])) ∧ IsP p (gcdL p g (subL p v (trimL [c]))) :=
  ⟨sub_isP hpp.pos _ _, gcd_isP hpp _ _ _ hg.1 (sub_isP hpp.pos _ _)⟩
theorem cut_GP : ∀ h ∈ cutG p v c g, GP p h := by
  have hd := (cut_d hpp hv hg c hc).2
  unfold cutG
  intro h hh
  split at hh
  · rename_i hlt
    have hq := quo_len (p := p) (Nat.le_of_lt hlt.2)
    have hgl := hg.2.2
    simp only [List.mem_cons, List.not_mem_nil, or_false] at hh
    rcases hh with rfl | rfl
    · exact ⟨hd, hlt.1, by omega⟩
    · exact ⟨quo_isP hpp hg.1 hd (by omega), by omega, by omega⟩
  · simp only [List.mem_cons, List.not_mem_nil, or_false] at hh
    subst hh; exact hg
theorem cut_tot : tot (cutG p v c g) = g.length - 1 := by
  unfold cutG
  split
  · rename_i hlt
    have hq := quo_len (p := p) (Nat.le_of_lt hlt.2)
    simp only [tot, List.map_cons, List.map_nil, List.sum_cons, List.sum_nil]
    omega
  · simp [tot]
end
theorem cuts_GP {p : Nat} (hpp : Pri p) {v : List Nat} (hv : IsP p v) {c : Nat} (hc : c < p) : ∀ {l : List (List Nat)}, (∀ g ∈ l, GP p g) → (∀ h ∈ l.flatMap (cutG p v c), GP p h) ∧ tot (l.flatMap (cutG p v c)) = tot l
  | [], _ => ⟨fun h hh => by simp at hh, rfl⟩
  | g :: l, hl => by
    obtain ⟨h1, h2⟩ := cuts_GP hpp hv hc (l := l) fun x hx => hl x (by simp [hx])
    have hg := hl g (by simp)
    refine ⟨fun h hh => ?_, ?_⟩
    · rw [List.flatMap_cons, List.mem_append] at hh
      rcases hh with hh | hh
      · exact cut_GP hpp hv hg c hc h hh
      · exact h1 h hh
    · rw [List.flatMap_cons, tot_append, h2, cut_tot hpp hv hg c hc]
      simp [tot]
theorem splitC_done {p m : Nat} {v : List Nat} {ps : List (List Nat)} (h : ps.length = m) : ∀ r c, splitC p m v r c ps = ps
  | 0, _ => rfl
  | r + 1, c => by rw [splitC, if_pos h]
theorem splitV_done {p m : Nat} {ps : List (List Nat)} (h : ps.length = m) : ∀ vs, splitV p m vs ps = ps
  | [] => rfl
  | v :: vs => by rw [splitV, splitC_done h, splitV_done h vs]
end Go.Poly
namespace Go.Proofs.Ytagfpnnplgkkoaa
open Go.W Go.Poly Go.Tree Go.RowKit
set_option maxRecDepth 100000
attribute [local irreducible] WC WL WQ WS WH

/-- A row of slices that lead to lists. -/
abbrev Rs (v : Value) (ps : List (Value × List Nat)) : Ent := .row 22 1 v ps.length (ps.map (·.1))
def bagE (bag : List (Value × List Nat)) : List Ent := bag.map fun e => Rw e.1 e.2
theorem bag_pd {w0 w : World} {A bag : List _} (h : Hp w0 w (A ++ bagE bag)) {e : Value × List Nat} (he : e ∈ bag) : Pd w e.1 e.2 := by
  have hm : Rw e.1 e.2 ∈ A ++ bagE bag := List.mem_append_right _ (List.mem_map_of_mem he)
  obtain ⟨i, hi, hx⟩ := List.mem_iff_getElem.1 hm
  exact Pd.row h i (by rw [nth_eq, List.getElem?_eq_getElem hi, hx])
theorem Rs_shape {w0 w : World} {L : List Ent} {v : Value} {ps : List (Value × List Nat)} (h : Hp w0 w L) (i : Nat) (hi : nth L i = some (Rs v ps)) : ∃ a c, v = .slice a ps.length c ∧ Sl w a (ps.map (·.1)) := by
  have h2 : w.ownsRow w0.heap.size 22 1 v ps.length (ps.map (·.1)) := h.at i hi
  obtain ⟨a, c, rfl⟩ := owns_shape h2
  exact ⟨a, c, rfl, Sl.of_row h2⟩
theorem ps_at {ps : List (Value × List Nat)} {i : Nat} (h : i < ps.length) : (ps.map (·.1))[i]? = some ps[i].1 := by simp [h]

theorem mv2 {α : Type} (q d n s b : α) (L : List α) : (q :: d :: n :: s :: b :: L).Perm (n :: s :: b :: d :: q :: L) := by
  refine (List.Perm.swap d q _).trans ?_
  refine (List.Perm.cons d ?_).trans ((List.perm_middle (a := d) (l₁ := [n, s, b]) (l₂ := q :: L)).symm)
  exact (List.perm_middle (a := q) (l₁ := [n, s, b]) (l₂ := L)).symm
set_option maxHeartbeats 1000000 in
theorem split_pd (p : Nat) (vf : Value) (f : List Nat) (hpp : Pri p) (hp : p ≤ 1021) (hf : GP p f) (w : World) (sf : Pd w vf f) :
    Ret Try.prog 83 [.int .i64 (p : Nat), vf] w fun u w' => ∃ ps bag : List (Value × List Nat), ps.map (·.2) = splitL p f ∧ (∀ e ∈ ps, e = (vf, f) ∨ e ∈ bag) ∧ (∀ e ∈ ps, GP p e.2) ∧ ps.length ≤ 400 ∧ Hp w w' (Rs u ps :: bagE bag) := by
  have hp0 := hpp.pos
  obtain ⟨hfi, hf1, hf4⟩ := hf
  have hR : splitL p f = splitV p (kernL p f).length (kernL p f) [f] := rfl
  generalize splitL p f = R at *
  refine enter Try.func83 rfl rfl ⟨rfl, rfl⟩ rfl ?_
  repeat (first | refine WC.seq ?_ | refine WC.reg ?_ | refine WL.pure rfl rfl rfl ?_ | refine WL.nil ?_ | refine WC.skip ?_ | refine WC.block ?_ | refine WC.condT rfl ?_ | refine WC.condF rfl ?_ | refine WL.off rfl rfl rfl ?_ | refine WL.off0 rfl rfl ?_ | refine WC.exit ?_ | refine blk_hit ?_ | refine blk_miss rfl ?_ | refine WC.ret ?_)
  refine WC.scope ?_
  repeat (first | refine WC.seq ?_ | refine WC.reg ?_ | refine WL.pure rfl rfl rfl ?_ | refine WL.nil ?_ | refine WC.skip ?_ | refine WC.block ?_ | refine WC.condT rfl ?_ | refine WC.condF rfl ?_ | refine WL.off rfl rfl rfl ?_ | refine WL.off0 rfl rfl ?_ | refine WC.exit ?_ | refine blk_hit ?_ | refine blk_miss rfl ?_ | refine WC.ret ?_)
  refine WL.call rfl rfl rfl rfl rfl ent89 (kernel_pd p vf f hpp hp hfi hf1 hf4 w sf) ?_
  rintro vb w1 ⟨basis, hbs, hp1⟩
  have hki := kern_isP hpp hfi hf1
  have hkl := kern_len p f
  rw [← hbs] at hR hki hkl
  rw [List.length_map] at hR hkl
  have hp1 : Hp w w1 (Rs vb basis :: bagE basis) := hp1
  clear hbs
  obtain ⟨va, vl, vc, rfl⟩ : ∃ a n c, vf = .slice a n c := by obtain ⟨a, c, rfl, _⟩ := sf; exact ⟨_, _, _, rfl⟩
  repeat (first | refine WC.seq ?_ | refine WC.reg ?_ | refine WL.pure rfl rfl rfl ?_ | refine WL.nil ?_ | refine WC.skip ?_ | refine WC.block ?_ | refine WC.condT rfl ?_ | refine WC.condF rfl ?_ | refine WL.off rfl rfl rfl ?_ | refine WL.off0 rfl rfl ?_ | refine WC.exit ?_ | refine blk_hit ?_ | refine blk_miss rfl ?_ | refine WC.ret ?_)
  refine WL.buildS (cs := [.slice va vl vc]) rfl rfl rfl rfl rfl rfl rfl rfl rfl ?_
  intro b1 w2 hb1
  have hp2 : Hp w w2 (Rs (.slice (some ⟨b1, 0, none⟩) 1 1) [(.slice va vl vc, f)] :: Rs vb basis :: bagE basis) := (hp1.new hb1).toRow (m := 1) (s := 1) rfl (by decide)
  obtain ⟨ba, bc, rfl, -⟩ := Rs_shape hp2 1 rfl
  repeat (first | refine WC.seq ?_ | refine WC.reg ?_ | refine WL.pure rfl rfl rfl ?_ | refine WL.nil ?_ | refine WC.skip ?_ | refine WC.block ?_ | refine WC.condT rfl ?_ | refine WC.condF rfl ?_ | refine WL.off rfl rfl rfl ?_ | refine WL.off0 rfl rfl ?_ | refine WC.exit ?_ | refine blk_hit ?_ | refine blk_miss rfl ?_ | refine WC.ret ?_)
  refine WC.label ?_
  repeat (first | refine WC.seq ?_ | refine WC.reg ?_ | refine WL.pure rfl rfl rfl ?_ | refine WL.nil ?_ | refine WC.skip ?_ | refine WC.block ?_ | refine WC.condT rfl ?_ | refine WC.condF rfl ?_ | refine WL.off rfl rfl rfl ?_ | refine WL.off0 rfl rfl ?_ | refine WC.exit ?_ | refine blk_hit ?_ | refine blk_miss rfl ?_ | refine WC.ret ?_)
  refine WC.loop (Nat × Value × List (Value × List Nat) × List (Value × List Nat)) (fun (i, vp, ps, bag) => [(0, .int .i64 (p : Nat)), (5, .slice ba basis.length bc), (6, vp), (19, .slice ba basis.length bc), (20, .int .i64 (basis.length : Nat)), (21, .int .i64 (i : Nat))])
    (fun (i, vp, ps, bag) w' => i ≤ basis.length ∧ splitV p basis.length ((basis.drop i).map (·.2)) (ps.map (·.2)) = R ∧ (∀ e ∈ ps, e = (.slice va vl vc, f) ∨ e ∈ bag) ∧ (∀ e ∈ basis, e ∈ bag) ∧ (∀ g ∈ ps.map (·.2), GP p g) ∧ tot (ps.map (·.2)) = f.length - 1 ∧
      Hp w w' (Rs vp ps :: Rs (.slice ba basis.length bc) basis :: bagE bag)) (fun (i, _) => basis.length - i) (0, _, [(.slice va vl vc, f)], basis) ⟨rfl, rfl, rfl, rfl, rfl, rfl, rfl⟩
    ⟨Nat.zero_le _, hR.symm, fun e he => by simp at he; exact .inl he, fun e he => he, fun g hg => by simp at hg; subst hg; exact ⟨hfi, hf1, hf4⟩, by simp [tot], hp2⟩ ?_
  clear hp2 hp1 hb1 hR
  rintro ⟨i, vp, ps, bag⟩ w3 ⟨hi, hS, hps, hbb, hgp, htot, hp3⟩
  have hpl : ps.length ≤ 400 := by
    have := tot_len hgp
    rw [List.length_map] at this
    omega
  have hbag : ∀ {w' : World} {A : List Ent} {e : Value × List Nat} {bag' : List (Value × List Nat)}, Hp w w' (A ++ bagE bag') → (e = (.slice va vl vc, f) ∨ e ∈ bag') → Pd w' e.1 e.2 := by
    intro w' A e bag' h he
    rcases he with rfl | he
    · exact sf.hp h
    · exact bag_pd h he
  have fin : splitV p basis.length [] (ps.map (·.2)) = R → Hp w w3 (Rs vp ps :: bagE bag) → ∃ ps' bag' : List (Value × List Nat), ps'.map (·.2) = R ∧ (∀ e ∈ ps', e = (.slice va vl vc, f) ∨ e ∈ bag') ∧ (∀ e ∈ ps', GP p e.2) ∧ ps'.length ≤ 400 ∧ Hp w w3 (Rs vp ps' :: bagE bag') :=
    fun h1 h2 => ⟨ps, bag, h1, hps, fun e he => hgp _ (List.mem_map_of_mem he), hpl, h2⟩
  repeat (first | refine WC.seq ?_ | refine WC.reg ?_ | refine WL.pure rfl rfl rfl ?_ | refine WL.nil ?_ | refine WC.skip ?_ | refine WC.block ?_ | refine WC.condT rfl ?_ | refine WC.condF rfl ?_ | refine WL.off rfl rfl rfl ?_ | refine WL.off0 rfl rfl ?_ | refine WC.exit ?_ | refine blk_hit ?_ | refine blk_miss rfl ?_ | refine WC.ret ?_)
  refine WC.cond rfl (fun hc => ?_) (fun hc => ?_)
  · have hi : i < basis.length := by have := of_decide_eq_true hc; omega
    have stepi : IntKind.i64.wrap ((i : Int) + 1) = ((i + 1 : Nat) : Int) := by rw [wrap_i64_in (by omega) (by omega)]; omega
    obtain ⟨ba', bc', he, hsb⟩ := Rs_shape hp3 1 rfl
    simp only [Value.slice.injEq, true_and] at he
    obtain ⟨rfl, rfl⟩ := he
    rw [List.drop_eq_getElem_cons hi, List.map_cons, splitV] at hS
    have hvb : basis[i] ∈ basis := List.getElem_mem hi
    have hvp := (hki basis[i].2 (List.mem_map_of_mem hvb)).1
    have hvl := (hki basis[i].2 (List.mem_map_of_mem hvb)).2
    generalize hev : basis[i] = ev at *
    repeat (first | refine WC.seq ?_ | refine WC.reg ?_ | refine WL.pure rfl rfl rfl ?_ | refine WL.nil ?_ | refine WC.skip ?_ | refine WC.block ?_ | refine WC.condT rfl ?_ | refine WC.condF rfl ?_ | refine WL.off rfl rfl rfl ?_ | refine WL.off0 rfl rfl ?_ | refine WC.exit ?_ | refine blk_hit ?_ | refine blk_miss rfl ?_ | refine WC.ret ?_)
    refine WL.ixload rfl (fun _ => rfl) rfl rfl rfl rfl rfl rfl rfl hi rfl rfl hsb (by rw [ps_at hi, hev]) ?_
    intro pa
    repeat (first | refine WC.seq ?_ | refine WC.reg ?_ | refine WL.pure rfl rfl rfl ?_ | refine WL.nil ?_ | refine WC.skip ?_ | refine WC.block ?_ | refine WC.condT rfl ?_ | refine WC.condF rfl ?_ | refine WL.off rfl rfl rfl ?_ | refine WL.off0 rfl rfl ?_ | refine WC.exit ?_ | refine blk_hit ?_ | refine blk_miss rfl ?_ | refine WC.ret ?_)
    refine WC.loop (Nat × Value × List (Value × List Nat) × List (Value × List Nat)) (fun (c, vp, ps, bag) => [(0, .int .i64 (p : Nat)), (5, .slice ba basis.length bc), (6, vp), (19, .slice ba basis.length bc), (20, .int .i64 (basis.length : Nat)), (21, .int .i64 (i : Nat)), (8, ev.1), (25, .int .i64 (p : Nat)), (26, .int .i64 (c : Nat))])
      (fun (c, vp, ps, bag) w' => c ≤ p ∧ splitV p basis.length ((basis.drop (i + 1)).map (·.2)) (splitC p basis.length ev.2 (p - c) c (ps.map (·.2))) = R ∧ (∀ e ∈ ps, e = (.slice va vl vc, f) ∨ e ∈ bag) ∧ (∀ e ∈ basis, e ∈ bag) ∧ (∀ g ∈ ps.map (·.2), GP p g) ∧ tot (ps.map (·.2)) = f.length - 1 ∧
        Hp w w' (Rs vp ps :: Rs (.slice ba basis.length bc) basis :: bagE bag)) (fun (c, _) => p - c) (0, vp, ps, bag) ⟨rfl, rfl, rfl, rfl, rfl, rfl, rfl, rfl, rfl, rfl⟩ ⟨Nat.zero_le _, hS, hps, hbb, hgp, htot, hp3⟩ ?_
    clear hS hps hbb hgp htot hp3 hpl fin hsb hc
    rintro ⟨c, vp, ps, bag⟩ w3 ⟨hcp, hS, hps, hbb, hgp, htot, hp3⟩
    have hpl : ps.length ≤ 400 := by
      have := tot_len hgp
      rw [List.length_map] at this
      omega
    repeat (first | refine WC.seq ?_ | refine WC.reg ?_ | refine WL.pure rfl rfl rfl ?_ | refine WL.nil ?_ | refine WC.skip ?_ | refine WC.block ?_ | refine WC.condT rfl ?_ | refine WC.condF rfl ?_ | refine WL.off rfl rfl rfl ?_ | refine WL.off0 rfl rfl ?_ | refine WC.exit ?_ | refine blk_hit ?_ | refine blk_miss rfl ?_ | refine WC.ret ?_)
    refine WC.cond rfl (fun hc => ?_) (fun hc => ?_)
    · have hclt : c < p := by have := of_decide_eq_true hc; omega
      have stepc : IntKind.i64.wrap ((c : Int) + 1) = ((c + 1 : Nat) : Int) := by rw [wrap_i64_in (by omega) (by omega)]; omega
      obtain ⟨pa', pc', rfl, hsp⟩ := Rs_shape hp3 0 rfl
      repeat (first | refine WC.seq ?_ | refine WC.reg ?_ | refine WL.pure rfl rfl rfl ?_ | refine WL.nil ?_ | refine WC.skip ?_ | refine WC.block ?_ | refine WC.condT rfl ?_ | refine WC.condF rfl ?_ | refine WL.off rfl rfl rfl ?_ | refine WL.off0 rfl rfl ?_ | refine WC.exit ?_ | refine blk_hit ?_ | refine blk_miss rfl ?_ | refine WC.ret ?_)
      refine WC.cond rfl (fun h1 => ?_) (fun h1 => ?_)
      · have h1 : ps.length = basis.length := by
          have : (ps.length : Int) = (basis.length : Int) := by simpa using h1
          omega
        rw [splitC_done (by rw [List.length_map]; exact h1), splitV_done (by rw [List.length_map]; exact h1)] at hS
        repeat (first | refine WC.seq ?_ | refine WC.reg ?_ | refine WL.pure rfl rfl rfl ?_ | refine WL.nil ?_ | refine WC.skip ?_ | refine WC.block ?_ | refine WC.condT rfl ?_ | refine WC.condF rfl ?_ | refine WL.off rfl rfl rfl ?_ | refine WL.off0 rfl rfl ?_ | refine WC.exit ?_ | refine blk_hit ?_ | refine blk_miss rfl ?_ | refine WC.ret ?_)
        exact Res.one rfl rfl rfl ⟨ps, bag, hS, hps, fun e he => hgp _ (List.mem_map_of_mem he), hpl, hp3.drop1⟩
      · have h1 : ps.length ≠ basis.length := by
          have : (ps.length : Int) ≠ (basis.length : Int) := by simpa using h1
          omega
        rw [show p - c = (p - (c + 1)) + 1 by omega, splitC, if_neg (by rw [List.length_map]; exact h1)] at hS
        obtain ⟨hgp2, htot2⟩ := cuts_GP hpp hvp hclt hgp
        rw [htot] at htot2
        repeat (first | refine WC.seq ?_ | refine WC.reg ?_ | refine WL.pure rfl rfl rfl ?_ | refine WL.nil ?_ | refine WC.skip ?_ | refine WC.block ?_ | refine WC.condT rfl ?_ | refine WC.condF rfl ?_ | refine WL.off rfl rfl rfl ?_ | refine WL.off0 rfl rfl ?_ | refine WC.exit ?_ | refine blk_hit ?_ | refine blk_miss rfl ?_ | refine WC.ret ?_)
        refine WC.loop (Nat × Value × List (Value × List Nat) × List (Value × List Nat)) (fun (j, vn, nx, bag) => [(0, .int .i64 (p : Nat)), (5, .slice ba basis.length bc), (19, .slice ba basis.length bc), (20, .int .i64 (basis.length : Nat)), (21, .int .i64 (i : Nat)), (8, ev.1), (25, .int .i64 (p : Nat)), (26, .int .i64 (c : Nat)), (9, .int .i64 (c : Nat)), (10, vn), (34, .slice pa' ps.length pc'), (35, .int .i64 (ps.length : Nat)), (36, .int .i64 (j : Nat))])
          (fun (j, vn, nx, bag) w' => j ≤ ps.length ∧ nx.map (·.2) = ((ps.take j).map (·.2)).flatMap (cutG p ev.2 c) ∧ (∀ e ∈ ps, e = (.slice va vl vc, f) ∨ e ∈ bag) ∧ (∀ e ∈ nx, e = (.slice va vl vc, f) ∨ e ∈ bag) ∧ (∀ e ∈ basis, e ∈ bag) ∧
            Hp w w' (Rs vn nx :: Rs (.slice pa' ps.length pc') ps :: Rs (.slice ba basis.length bc) basis :: bagE bag)) (fun (j, _) => ps.length - j) (0, .slice none 0 0, [], bag) ⟨rfl, rfl, rfl, rfl, rfl, rfl, rfl, rfl, rfl, rfl, rfl, rfl, rfl, rfl⟩ ⟨Nat.zero_le _, rfl, hps, fun e he => (by cases he), hbb, hp3.nilrow 22 1⟩ ?_
        clear hp3 hsp hps hbb htot hc h1
        rintro ⟨j, vn, nx, bag⟩ w4 ⟨hj, hnx, hps, hnm, hbb, hp4⟩
        have hnl : nx.length ≤ 400 := by
          have h5 : ∀ g ∈ nx.map (·.2), GP p g := by
            rw [hnx]
            exact (cuts_GP hpp hvp hclt fun g hg => hgp g (by
              obtain ⟨e, he, rfl⟩ := List.mem_map.1 hg
              exact List.mem_map_of_mem (List.mem_of_mem_take he))).1
          have h6 := tot_len h5
          have h7 : tot (nx.map (·.2)) ≤ tot (ps.map (·.2)) := by
            rw [hnx, (cuts_GP hpp hvp hclt fun g hg => hgp g (by
              obtain ⟨e, he, rfl⟩ := List.mem_map.1 hg
              exact List.mem_map_of_mem (List.mem_of_mem_take he))).2]
            rw [← List.take_append_drop j ps, List.map_append, tot_append, List.take_append_drop]
            exact Nat.le_add_right _ _
          have h8 := (cuts_GP hpp hvp hclt hgp).2
          rw [List.length_map] at h6
          omega
        repeat (first | refine WC.seq ?_ | refine WC.reg ?_ | refine WL.pure rfl rfl rfl ?_ | refine WL.nil ?_ | refine WC.skip ?_ | refine WC.block ?_ | refine WC.condT rfl ?_ | refine WC.condF rfl ?_ | refine WL.off rfl rfl rfl ?_ | refine WL.off0 rfl rfl ?_ | refine WC.exit ?_ | refine blk_hit ?_ | refine blk_miss rfl ?_ | refine WC.ret ?_)
        refine WC.cond rfl (fun hc => ?_) (fun hc => ?_)
        · have hj : j < ps.length := by have := of_decide_eq_true hc; omega
          have stepj : IntKind.i64.wrap ((j : Int) + 1) = ((j + 1 : Nat) : Int) := by rw [wrap_i64_in (by omega) (by omega)]; omega
          obtain ⟨x1, x2, he, hsp⟩ := Rs_shape hp4 1 rfl
          simp only [Value.slice.injEq, true_and] at he
          obtain ⟨rfl, rfl⟩ := he
          obtain ⟨na, nc, rfl, -⟩ := Rs_shape hp4 0 rfl
          have htk : ps.take (j + 1) = ps.take j ++ [ps[j]] := List.take_succ_eq_append_getElem hj
          have hme : ps[j] ∈ ps := List.getElem_mem hj
          have hge := hgp ps[j].2 (List.mem_map_of_mem hme)
          have hgm := hps ps[j] hme
          have hat := ps_at hj
          generalize ps[j] = eg at *
          obtain ⟨ve, g⟩ := eg
          simp only at hge hat
          have dg := hbag (A := [_, _, _]) hp4 hgm
          have dv := bag_pd (A := [_, _, _]) hp4 (hbb ev hvb)
          simp only at dg
          obtain ⟨gi, g1, g4⟩ := id hge
          repeat (first | refine WC.seq ?_ | refine WC.reg ?_ | refine WL.pure rfl rfl rfl ?_ | refine WL.nil ?_ | refine WC.skip ?_ | refine WC.block ?_ | refine WC.condT rfl ?_ | refine WC.condF rfl ?_ | refine WL.off rfl rfl rfl ?_ | refine WL.off0 rfl rfl ?_ | refine WC.exit ?_ | refine blk_hit ?_ | refine blk_miss rfl ?_ | refine WC.ret ?_)
          refine WL.ixload rfl (fun _ => rfl) rfl rfl rfl rfl rfl rfl rfl hj rfl rfl hsp hat ?_
          intro pb
          repeat (first | refine WC.seq ?_ | refine WC.reg ?_ | refine WL.pure rfl rfl rfl ?_ | refine WL.nil ?_ | refine WC.skip ?_ | refine WC.block ?_ | refine WC.condT rfl ?_ | refine WC.condF rfl ?_ | refine WL.off rfl rfl rfl ?_ | refine WL.off0 rfl rfl ?_ | refine WC.exit ?_ | refine blk_hit ?_ | refine blk_miss rfl ?_ | refine WC.ret ?_)
          refine WL.buildS (cs := ints [c]) rfl rfl rfl rfl rfl rfl rfl rfl rfl ?_
          intro bs w5 hbs
          have h45 := (Hp.start w4).new hbs
          refine WL.call rfl rfl rfl rfl rfl ent70 (trim_blk [c] (by simp) h45) ?_
          rintro u6 w6 ⟨rfl, h46⟩
          have ci : IsP p (trimL [c]) := trim_isP fun x hx => by simp at hx; omega
          have cl : (trimL [c]).length ≤ 1 := trim_le _
          have sl := sub_len_le p ev.2 (trimL [c])
          obtain ⟨si, di⟩ := cut_d hpp hvp hge c hclt
          refine WL.call rfl rfl rfl rfl rfl ent78 (sub_pd p _ _ ev.2 (trimL [c]) hpp hp hvp ci (by omega) (by omega) w6 (dv.hp h46) (Pd.row h46 0 rfl)) ?_
          rintro u7 w7 h67
          have h47 := h46.nil'.over h67
          refine WL.call rfl rfl rfl rfl rfl ent87 (gcd_pd p _ _ g _ hpp hp gi si (by omega) (by omega) w7 (dg.hp h47) (Pd.row h67 0 rfl)) ?_
          rintro vd w8 h78
          have dd := Pd.row h78 0 rfl
          have h48 := h47.nil'.over h78
          have hp8 := hp4.comb h48
          have hcut : cutG p ev.2 c g = if 1 < (gcdL p g (subL p ev.2 (trimL [c]))).length ∧ (gcdL p g (subL p ev.2 (trimL [c]))).length < g.length then [gcdL p g (subL p ev.2 (trimL [c])), quoL p g (gcdL p g (subL p ev.2 (trimL [c])))] else [g] := rfl
          have dg8 := dg.hp h48
          have dd' := dd
          have dgx := dg
          obtain ⟨da, dc, rfl, -⟩ := dd
          obtain ⟨ga, gc, rfl, -⟩ := dgx
          generalize gcdL p g (subL p ev.2 (trimL [c])) = d at *
          refine WL.pure rfl rfl rfl (WL.nil ?_)
          repeat (first | refine WC.seq ?_ | refine WC.skip ?_ | refine WC.block ?_)
          refine WC.mid Unit (fun _ => [(0, .int .i64 (p : Nat)), (5, .slice ba basis.length bc), (19, .slice ba basis.length bc), (20, .int .i64 (basis.length : Nat)), (21, .int .i64 (i : Nat)), (8, ev.1), (25, .int .i64 (p : Nat)), (26, .int .i64 (c : Nat)), (9, .int .i64 (c : Nat)), (10, .slice na nx.length nc), (34, .slice pa' ps.length pc'), (35, .int .i64 (ps.length : Nat)), (36, .int .i64 (j : Nat)), (12, .slice ga g.length gc), (13, .slice da d.length dc), (58, .bool (decide (1 < d.length ∧ d.length < g.length)))]) (fun _ w' => w' = w8) ?_ ?_
          · repeat (first | refine WC.seq ?_ | refine WC.reg ?_ | refine WL.pure rfl rfl rfl ?_ | refine WL.nil ?_ | refine WC.skip ?_ | refine WC.block ?_ | refine WC.condT rfl ?_ | refine WC.condF rfl ?_ | refine WL.off rfl rfl rfl ?_ | refine WL.off0 rfl rfl ?_ | refine WC.exit ?_ | refine blk_hit ?_ | refine blk_miss rfl ?_ | refine WC.ret ?_)
            refine WL.split 52 rfl (fun h1 => ?_) (fun h1 => ?_)
            · have h1 : 1 < d.length := by have := of_decide_eq_true h1; omega
              have e9 : decide ((d.length : Int) < (g.length : Int)) = decide (1 < d.length ∧ d.length < g.length) := decide_eq_decide.2 ⟨fun h => ⟨h1, by omega⟩, fun h => by omega⟩
              repeat (first | refine WC.seq ?_ | refine WC.reg ?_ | refine WL.pure rfl rfl rfl ?_ | refine WL.nil ?_ | refine WC.skip ?_ | refine WC.block ?_ | refine WC.condT rfl ?_ | refine WC.condF rfl ?_ | refine WL.off rfl rfl rfl ?_ | refine WL.off0 rfl rfl ?_ | refine WC.exit ?_ | refine blk_hit ?_ | refine blk_miss rfl ?_ | refine WC.ret ?_)
              exact ⟨(), ⟨rfl, rfl, rfl, rfl, rfl, rfl, rfl, rfl, rfl, rfl, rfl, rfl, rfl, rfl, rfl, congrArg (fun b => some (Value.bool b)) e9, rfl⟩, rfl⟩
            · have h1 : ¬ 1 < d.length := by have := of_decide_eq_false h1; omega
              have e9 : false = decide (1 < d.length ∧ d.length < g.length) := (decide_eq_false (fun h => h1 h.1)).symm
              repeat (first | refine WC.seq ?_ | refine WC.reg ?_ | refine WL.pure rfl rfl rfl ?_ | refine WL.nil ?_ | refine WC.skip ?_ | refine WC.block ?_ | refine WC.condT rfl ?_ | refine WC.condF rfl ?_ | refine WL.off rfl rfl rfl ?_ | refine WL.off0 rfl rfl ?_ | refine WC.exit ?_ | refine blk_hit ?_ | refine blk_miss rfl ?_ | refine WC.ret ?_)
              exact ⟨(), ⟨rfl, rfl, rfl, rfl, rfl, rfl, rfl, rfl, rfl, rfl, rfl, rfl, rfl, rfl, rfl, congrArg (fun b => some (Value.bool b)) e9, rfl⟩, rfl⟩
          rintro ⟨⟩ e9 w9 hsub rfl
          refine WC.sub hsub ?_
          clear hsub
          repeat (first | refine WC.seq ?_ | refine WC.reg ?_ | refine WL.pure rfl rfl rfl ?_ | refine WL.nil ?_ | refine WC.skip ?_ | refine WC.block ?_ | refine WC.condT rfl ?_ | refine WC.condF rfl ?_ | refine WL.off rfl rfl rfl ?_ | refine WL.off0 rfl rfl ?_ | refine WC.exit ?_ | refine blk_hit ?_ | refine blk_miss rfl ?_ | refine WC.ret ?_)
          refine WC.cond rfl (fun h1 => ?_) (fun h1 => ?_)
          · have h1 := of_decide_eq_true h1
            rw [if_pos h1] at hcut
            repeat (first | refine WC.seq ?_ | refine WC.reg ?_ | refine WL.pure rfl rfl rfl ?_ | refine WL.nil ?_ | refine WC.skip ?_ | refine WC.block ?_ | refine WC.condT rfl ?_ | refine WC.condF rfl ?_ | refine WL.off rfl rfl rfl ?_ | refine WL.off0 rfl rfl ?_ | refine WC.exit ?_ | refine blk_hit ?_ | refine blk_miss rfl ?_ | refine WC.ret ?_)
            refine WL.call rfl rfl rfl rfl rfl ent103 (quotient_pd p _ _ g d hpp hp gi di (by omega) (by omega) (by omega) w9 dg8 dd') ?_
            rintro vq wa h9a
            have hpa := hp8.comb h9a
            obtain ⟨qa, qn, qc, rfl⟩ : ∃ a n c, vq = .slice a n c := by obtain ⟨a, c, rfl, _⟩ := Pd.row h9a 0 rfl; exact ⟨_, _, _, rfl⟩
            refine WL.buildS (cs := [.slice da d.length dc, .slice qa qn qc]) rfl rfl rfl rfl rfl rfl rfl rfl rfl ?_
            intro b2 wb hb2
            have hpb := hpa.new hb2
            refine WL.append 3 hpb rfl rfl rfl rfl rfl (by decide) rfl rfl rfl (news := [.slice da d.length dc, .slice qa qn qc]) (Sl.of_obj (hpb.obj 0 rfl) (fun q u hq => by simpa using hq)) rfl (Cells.cons rfl (Cells.cons rfl Cells.nil)) (by unfold maxLen; omega) (by show (nx.length + 2) * 24 ≤ _; omega) ?_
            intro a' c' wc hpc hgc
            repeat (first | refine WC.seq ?_ | refine WC.reg ?_ | refine WL.pure rfl rfl rfl ?_ | refine WL.nil ?_ | refine WC.skip ?_ | refine WC.block ?_ | refine WC.condT rfl ?_ | refine WC.condF rfl ?_ | refine WL.off rfl rfl rfl ?_ | refine WL.off0 rfl rfl ?_ | refine WC.exit ?_ | refine blk_hit ?_ | refine blk_miss rfl ?_ | refine WC.ret ?_)
            refine ⟨(j + 1, .slice a' (nx.length + 2) c', nx ++ [(.slice da d.length dc, d), (.slice qa qn qc, quoL p g d)], (.slice da d.length dc, d) :: (.slice qa qn qc, quoL p g d) :: bag), by show ps.length - (j + 1) < ps.length - j; omega, ⟨rfl, rfl, rfl, rfl, rfl, rfl, rfl, rfl, rfl, rfl, rfl, rfl, congrArg (fun z => some (Value.int .i64 z)) stepj, rfl⟩, hj, ?_, ?_, ?_, ?_, ?_⟩
            · rw [htk, List.map_append, List.map_append, List.flatMap_append, ← hnx]
              simp [hcut]
            · exact fun e he => (hps e he).imp id fun h => by simp [h]
            · intro e he
              rcases List.mem_append.1 he with he | he
              · exact (hnm e he).imp id fun h => by simp [h]
              · right
                simp only [List.mem_cons, List.not_mem_nil, or_false] at he
                rcases he with rfl | rfl <;> simp
            · exact fun e he => by simp [hbb e he]
            · have hpd := hpc.tail
              have e5 : Rs (.slice a' (nx.length + 2) c') (nx ++ [(.slice da d.length dc, d), (.slice qa qn qc, quoL p g d)]) = .row 22 1 (.slice a' (nx.length + 2) c') (nx.length + 2) (nx.map (·.1) ++ [.slice da d.length dc, .slice qa qn qc]) := by simp [Rs]
              rw [e5]
              exact hpd.permP (mv2 _ _ _ _ _ _)
          · have h1 := of_decide_eq_false h1
            rw [if_neg h1] at hcut
            repeat (first | refine WC.seq ?_ | refine WC.reg ?_ | refine WL.pure rfl rfl rfl ?_ | refine WL.nil ?_ | refine WC.skip ?_ | refine WC.block ?_ | refine WC.condT rfl ?_ | refine WC.condF rfl ?_ | refine WL.off rfl rfl rfl ?_ | refine WL.off0 rfl rfl ?_ | refine WC.exit ?_ | refine blk_hit ?_ | refine blk_miss rfl ?_ | refine WC.ret ?_)
            refine WL.buildS (cs := [.slice ga g.length gc]) rfl rfl rfl rfl rfl rfl rfl rfl rfl ?_
            intro b2 wb hb2
            have hpb := hp8.tail.new hb2
            refine WL.append 1 hpb rfl rfl rfl rfl rfl (by decide) rfl rfl rfl (news := [.slice ga g.length gc]) (Sl.of_obj (hpb.obj 0 rfl) (fun q u hq => by simpa using hq)) rfl (Cells.cons rfl Cells.nil) (by unfold maxLen; omega) (by show (nx.length + 1) * 24 ≤ _; omega) ?_
            intro a' c' wc hpc hgc
            repeat (first | refine WC.seq ?_ | refine WC.reg ?_ | refine WL.pure rfl rfl rfl ?_ | refine WL.nil ?_ | refine WC.skip ?_ | refine WC.block ?_ | refine WC.condT rfl ?_ | refine WC.condF rfl ?_ | refine WL.off rfl rfl rfl ?_ | refine WL.off0 rfl rfl ?_ | refine WC.exit ?_ | refine blk_hit ?_ | refine blk_miss rfl ?_ | refine WC.ret ?_)
            refine ⟨(j + 1, .slice a' (nx.length + 1) c', nx ++ [(.slice ga g.length gc, g)], bag), by show ps.length - (j + 1) < ps.length - j; omega, ⟨rfl, rfl, rfl, rfl, rfl, rfl, rfl, rfl, rfl, rfl, rfl, rfl, congrArg (fun z => some (Value.int .i64 z)) stepj, rfl⟩, hj, ?_, hps, ?_, hbb, ?_⟩
            · rw [htk, List.map_append, List.map_append, List.flatMap_append, ← hnx]
              simp [hcut]
            · intro e he
              rcases List.mem_append.1 he with he | he
              · exact hnm e he
              · simp only [List.mem_cons, List.not_mem_nil, or_false] at he
                rw [he]; exact hgm
            · have hpd := hpc.tail
              have e5 : Rs (.slice a' (nx.length + 1) c') (nx ++ [(.slice ga g.length gc, g)]) = .row 22 1 (.slice a' (nx.length + 1) c') (nx.length + 1) (nx.map (·.1) ++ [.slice ga g.length gc]) := by simp [Rs]
              rw [e5]
              exact hpd
        · have hj : j = ps.length := by have := of_decide_eq_false hc; omega
          subst hj
          rw [List.take_length] at hnx
          rw [← hnx] at hS hgp2 htot2
          repeat (first | refine WC.seq ?_ | refine WC.reg ?_ | refine WL.pure rfl rfl rfl ?_ | refine WL.nil ?_ | refine WC.skip ?_ | refine WC.block ?_ | refine WC.condT rfl ?_ | refine WC.condF rfl ?_ | refine WL.off rfl rfl rfl ?_ | refine WL.off0 rfl rfl ?_ | refine WC.exit ?_ | refine blk_hit ?_ | refine blk_miss rfl ?_ | refine WC.ret ?_)
          exact ⟨(c + 1, vn, nx, bag), by show p - (c + 1) < p - c; omega, ⟨rfl, rfl, rfl, rfl, rfl, rfl, rfl, rfl, congrArg (fun z => some (Value.int .i64 z)) stepc, rfl⟩, hclt, hS, hnm, hbb, hgp2, htot2, hp4.drop1⟩
    · have hc : c = p := by have := of_decide_eq_false hc; omega
      subst hc
      rw [Nat.sub_self, splitC] at hS
      repeat (first | refine WC.seq ?_ | refine WC.reg ?_ | refine WL.pure rfl rfl rfl ?_ | refine WL.nil ?_ | refine WC.skip ?_ | refine WC.block ?_ | refine WC.condT rfl ?_ | refine WC.condF rfl ?_ | refine WL.off rfl rfl rfl ?_ | refine WL.off0 rfl rfl ?_ | refine WC.exit ?_ | refine blk_hit ?_ | refine blk_miss rfl ?_ | refine WC.ret ?_)
      exact ⟨(i + 1, vp, ps, bag), by show basis.length - (i + 1) < basis.length - i; omega, ⟨rfl, rfl, rfl, rfl, rfl, congrArg (fun z => some (Value.int .i64 z)) stepi, rfl⟩, hi, hS, hps, hbb, hgp, htot, hp3⟩
  · have hi : i = basis.length := by have := of_decide_eq_false hc; omega
    subst hi
    rw [List.drop_length] at hS
    repeat (first | refine WC.seq ?_ | refine WC.reg ?_ | refine WL.pure rfl rfl rfl ?_ | refine WL.nil ?_ | refine WC.skip ?_ | refine WC.block ?_ | refine WC.condT rfl ?_ | refine WC.condF rfl ?_ | refine WL.off rfl rfl rfl ?_ | refine WL.off0 rfl rfl ?_ | refine WC.exit ?_ | refine blk_hit ?_ | refine blk_miss rfl ?_ | refine WC.ret ?_)
    exact Res.one rfl rfl rfl (fin hS hp3.drop1)
end Go.Proofs.Ytagfpnnplgkkoaa
