/- A product of different linear factors is split into its linear factors. -/
import Derived.Test.YtagfpnnplgkkoaaQp
set_option linter.unusedSectionVars false
namespace Go.Poly
open Go.W Go.Tree
section
variable {p : Nat} (hp : Pri p)
include hp
theorem dv_quo {d g : List Nat} (hd : IsP p d) (hd0 : 0 < d.length) (h : Dv p d g) : Dv p (quoL p g d) g := by
  obtain ⟨h1, h2⟩ := h.quo hp hd hd0
  exact ⟨d, hd, by rw [mulL_comm hp hd h1]; exact h2⟩
theorem cut_dv {Z v g : List Nat} (hv : IsP p v) (hg : GP p g) {c : Nat} (hc : c < p) (hd : Dv p g Z) : ∀ h ∈ cutG p v c g, Dv p h Z := by
  have hs := sub_isP hp.pos v (trimL [c])
  have hi := gcdL_isP hp hg.1 hs
  obtain ⟨d1, -⟩ := gcdL_dv hp hg.1 hs
  unfold cutG
  intro h hh
  split at hh
  · rename_i hlt
    simp only [List.mem_cons, List.not_mem_nil, or_false] at hh
    rcases hh with rfl | rfl
    · exact d1.trans hp hi hd
    · exact (dv_quo hp hi (by omega) d1).trans hp (d1.quo hp hi (by omega)).1 hd
  · simp only [List.mem_cons, List.not_mem_nil, or_false] at hh
    subst hh; exact hd
theorem lin_sub {c : Nat} (hc : c < p) : subL p [0, 1] (trimL [c]) = [(p - c) % p, 1] := by
  have h2 := hp.1
  refine isP_ext (sub_isP hp.pos _ _) (lin_isP hp c) fun i => ?_
  rw [sub_co hp.pos, trim_co]
  match i with
  | 0 => simp [co]
  | 1 => simp [co, show 1 + p = p + 1 by omega, Nat.mod_eq_of_lt (show 1 < p by omega)]
  | i + 2 => simp [co]
/-- With a root, the common divisor with x less the root is x less the root. -/
theorem gcd_lin {g : List Nat} (hg : IsP p g) (hg0 : 0 < g.length) {c : Nat} (hc : c < p) (hv : valL p g c = 0) : gcdL p g [(p - c) % p, 1] = [(p - c) % p, 1] := by
  have hl := lin_isP hp c
  have hd := gcdL_isP hp hg hl
  obtain ⟨d1, d2⟩ := gcdL_dv hp hg hl
  obtain ⟨-, ia, ib, hb⟩ := bez_gcd hp hg hl
  obtain ⟨k, hk, e⟩ := root_dv hp hg hc hv
  have h3 : Dv p [(p - c) % p, 1] (gcdL p g [(p - c) % p, 1]) := by
    rw [← hb]
    exact Dv.add hp hl (Dv.mul hp hl ia ⟨k, hk, e⟩) (Dv.mul hp hl ib (Dv.self hp hl))
  refine dv_anti hp hd hl d2 h3 (fun hn => ?_) (fun _ => by simp [co])
  exact (gcd_top hp _ g _ hg hl (Nat.le_refl _) (.inl (List.ne_nil_of_length_pos hg0))).2
theorem cut_lin {n : Nat} {X : Nat → Nat} {Z g : List Nat} (h : Rts p n X Z) (hg : GP p g) (hd : Dv p g Z) {c : Nat} (hc : c < p) (hr : ∀ c', c' < c → valL p g c' = 0 → g.length = 2) :
    ∀ k ∈ cutG p [0, 1] c g, ∀ c', c' < c + 1 → valL p k c' = 0 → k.length = 2 := by
  have hl := lin_isP hp c
  have hgl := hg.2.1
  unfold cutG
  rw [lin_sub hp hc]
  have hdI := gcdL_isP hp hg.1 hl
  obtain ⟨d1, -⟩ := gcdL_dv hp hg.1 hl
  have hlen := (gcd_len hp ([(p - c) % p, 1] : List Nat).length g _ hg.1 hl (by simp) (Nat.le_refl _)).2
  have hlen : (gcdL p g [(p - c) % p, 1]).length ≤ 2 := hlen
  by_cases hgc : valL p g c = 0
  · have hge := gcd_lin hp hg.1 (by omega) hc hgc
    rw [hge] at d1 hlen hdI ⊢
    obtain ⟨q1, q2⟩ := d1.quo hp hl (by simp)
    have q3 := dv_quo hp hl (by simp) d1
    intro k hk c' hc' hv
    split at hk
    · rename_i hlt
      simp only [List.mem_cons, List.not_mem_nil, or_false] at hk
      rcases hk with rfl | rfl
      · rfl
      · exfalso
        by_cases h1 : c' = c
        · subst h1
          obtain ⟨y, hy, e⟩ := hd
          refine no_double hp h (mul_isP hp hy q1) hc (by rw [mulL_assoc hp hy q1 hl, q2, e]) ?_
          rw [val_mul hp.pos, hv, Nat.mul_zero, Nat.zero_mod]
        · have := hr c' (by omega) (dv_root hp q3 hv)
          have h5 := hlt.2
          simp at h5; omega
    · rename_i hlt
      simp only [List.mem_cons, List.not_mem_nil, or_false] at hk
      subst hk
      simp only [List.length_cons, List.length_nil] at hlt
      omega
  · intro k hk c' hc' hv
    have hnd : ¬ (1 < (gcdL p g [(p - c) % p, 1]).length) := by
      intro h1
      have hd2 : (gcdL p g [(p - c) % p, 1]).length = 2 := by omega
      obtain ⟨-, d2⟩ := gcdL_dv hp hg.1 hl
      obtain ⟨y, hy, e⟩ := d2
      have hyl := congrArg List.length e
      have hyn : 0 < y.length := by
        rcases Nat.eq_zero_or_pos y.length with h1 | h1
        · rw [List.length_eq_zero_iff.1 h1, nil_mul] at e; cases e
        · exact h1
      rw [mul_len hyn (by omega), hd2] at hyl
      simp only [List.length_cons, List.length_nil] at hyl
      have hyv : valL p y c ≠ 0 := by
        obtain ⟨z, rfl⟩ := List.length_eq_one_iff.1 (show y.length = 1 by omega)
        rw [val_const, Nat.mod_eq_of_lt (hy.1 z (by simp))]
        have := hy.2.resolve_left (by simp)
        simpa [co] using this
      have h6 : valL p (mulL p y (gcdL p g [(p - c) % p, 1])) c = 0 := by rw [e]; exact (lin_val hp hc hc).2 rfl
      rw [val_mul hp.pos] at h6
      rcases pri_mul hp h6 with h7 | h7
      · rw [Nat.mod_eq_of_lt (valL_lt' hp.pos _ _)] at h7; exact hyv h7
      · rw [Nat.mod_eq_of_lt (valL_lt' hp.pos _ _)] at h7
        exact hgc (dv_root hp d1 h7)
    rw [if_neg (fun h1 => hnd h1.1)] at hk
    simp only [List.mem_cons, List.not_mem_nil, or_false] at hk
    subst hk
    by_cases h1 : c' = c
    · subst h1; exact absurd hv hgc
    · exact hr c' (by omega) hv
/-- What the pieces are when the numbers below c have been tried. -/
def Pcs (p : Nat) (Z : List Nat) (c : Nat) (ps : List (List Nat)) : Prop := ∀ g ∈ ps, GP p g ∧ Dv p g Z ∧ ∀ c', c' < c → valL p g c' = 0 → g.length = 2
theorem splitC_dv {Z v : List Nat} (hv : IsP p v) {m : Nat} : ∀ (r c : Nat) (ps : List (List Nat)), c + r ≤ p → (∀ g ∈ ps, GP p g ∧ Dv p g Z) → ∀ g ∈ splitC p m v r c ps, GP p g ∧ Dv p g Z
  | 0, c, ps, _, h => h
  | r + 1, c, ps, hc, h => by
    rw [splitC]
    split
    · exact h
    · refine splitC_dv hv r (c + 1) _ (by omega) fun k hk => ?_
      obtain ⟨g, hg, hkg⟩ := List.mem_flatMap.1 hk
      exact ⟨cut_GP hp hv (h g hg).1 c (by omega) k hkg, cut_dv hp hv (h g hg).1 (by omega) (h g hg).2 k hkg⟩
theorem splitC_lin {n : Nat} {X : Nat → Nat} {Z : List Nat} (h : Rts p n X Z) {m : Nat} : ∀ (r c : Nat) (ps : List (List Nat)), c + r = p → Pcs p Z c ps →
    (splitC p m [0, 1] r c ps).length = m ∨ Pcs p Z p (splitC p m [0, 1] r c ps)
  | 0, c, ps, hc, hP => by
    right
    rw [splitC]
    intro g hg
    obtain ⟨g1, g2, g3⟩ := hP g hg
    exact ⟨g1, g2, fun c' hc' => g3 c' (by omega)⟩
  | r + 1, c, ps, hc, hP => by
    have hv : IsP p [0, 1] := ⟨(fun c hc => by have := hp.1; simp at hc; omega), .inr (by simp [co])⟩
    rw [splitC]
    split
    · left; assumption
    · refine splitC_lin h r (c + 1) _ (by omega) fun k hk => ?_
      obtain ⟨g, hg, hkg⟩ := List.mem_flatMap.1 hk
      obtain ⟨g1, g2, g3⟩ := hP g hg
      exact ⟨cut_GP hp hv g1 c (by omega) k hkg, cut_dv hp hv g1 (by omega) g2 k hkg, cut_lin hp h g1 g2 (by omega) g3 k hkg⟩
omit hp in
theorem tot_two : ∀ {l : List (List Nat)}, (∀ g ∈ l, GP p g) → tot l ≤ l.length → ∀ g ∈ l, g.length = 2
  | [], _, _, g, hg => by cases hg
  | a :: l, h, ht, g, hg => by
    have ha := (h a (by simp)).2.1
    have hl := tot_len (p := p) (l := l) fun x hx => h x (by simp [hx])
    simp only [tot, List.map_cons, List.sum_cons, List.length_cons] at ht hl
    rcases List.mem_cons.1 hg with rfl | hg
    · omega
    · exact tot_two (l := l) (fun x hx => h x (by simp [hx])) (by simp only [tot]; omega) g hg
omit hp in
theorem tot_of_two : ∀ {l : List (List Nat)}, (∀ g ∈ l, g.length = 2) → tot l = l.length
  | [], _ => rfl
  | a :: l, h => by
    have ih := tot_of_two (l := l) fun x hx => h x (by simp [hx])
    have ha := h a (by simp)
    simp only [tot, List.map_cons, List.sum_cons, List.length_cons] at ih ⊢
    omega
theorem unit_one {n : Nat} (hn : 2 ≤ n) : trimL (fl n fun j => if j = 1 then 1 else 0) = [0, 1] := by
  have h2 := hp.1
  refine isP_ext (p := p) (trim_isP (fl_lt fun i _ => by split <;> omega)) ⟨(fun c hc => by simp at hc; omega), .inr (by simp [co])⟩ fun i => ?_
  rw [trim_co]
  by_cases h1 : i < n
  · rw [fl_co _ h1]
    match i with
    | 0 => simp [co]
    | 1 => simp [co]
    | i + 2 => simp [co]
  · rw [co_out (by rw [fl_len]; omega), co_out (by simp; omega)]
theorem rts_split {n : Nat} {X : Nat → Nat} {Z : List Nat} (h : Rts p n X Z) (hn : 0 < n) (hn2 : n ≤ 300) (hpl : p ≤ 1021) : (splitL p Z).length = n ∧ ∀ g ∈ splitL p Z, GP p g ∧ g.length = 2 := by
  have hlen := h.len
  have hGP : GP p Z := ⟨h.z, by omega, by omega⟩
  obtain ⟨s1, s2⟩ := split_ok hp hGP
  have s2 : tot (splitL p Z) = n := by omega
  have key : (splitL p Z).length = n := by
    have hk := rts_kern hp h hn hpl
    have hkl : (kernL p Z).length = n := by rw [hk, List.length_map, List.length_range]
    have hki := kern_isP hp h.z (by omega)
    unfold splitL
    rw [hkl]
    by_cases h1 : n = 1
    · rw [splitV_done (by simp [h1])]; simp [h1]
    have hk1 : (kernL p Z)[1]? = some [0, 1] := by
      rw [hk, List.getElem?_map, List.getElem?_range (by omega)]
      simp only [Option.map_some]
      rw [unit_one hp (by omega)]
    match hL : kernL p Z, hkl, hk1, hki with
    | v0 :: v1 :: vs, _, hk1, hki =>
      have hv1 : v1 = [0, 1] := by simpa using hk1
      subst hv1
      have hv0 := (hki v0 (by simp)).1
      have hx1 := (hki [0, 1] (by simp)).1
      rw [splitV, splitV]
      have p0 := splitC_dv hp hv0 (Z := Z) (m := n) p 0 [Z] (by omega) (fun g hg => by simp at hg; rw [hg]; exact ⟨hGP, Dv.self hp h.z⟩)
      obtain ⟨-, t0⟩ := splitC_ok hp (m := n) hv0 p 0 [Z] (by omega) (fun g hg => by simp at hg; rw [hg]; exact hGP)
      obtain ⟨g1, t1⟩ := splitC_ok hp (m := n) hx1 p 0 (splitC p n v0 p 0 [Z]) (by omega) (fun g hg => (p0 g hg).1)
      have htot : tot (splitC p n [0, 1] p 0 (splitC p n v0 p 0 [Z])) = n := by rw [t1, t0]; simp [tot]; omega
      have hdone : (splitC p n [0, 1] p 0 (splitC p n v0 p 0 [Z])).length = n := by
        rcases splitC_lin hp h (m := n) p 0 _ (by omega) (fun g hg => ⟨(p0 g hg).1, (p0 g hg).2, fun c' hc' => by omega⟩ : Pcs p Z 0 (splitC p n v0 p 0 [Z])) with h3 | h3
        · exact h3
        · rw [← tot_of_two fun g hg => ?_]
          · exact htot
          · obtain ⟨q1, q2, q3⟩ := h3 g hg
            apply Classical.byContradiction
            intro hne
            have := rootless hp h q1.1 q2 fun i hi hv => hne (q3 (X i) (h.pts.1 i hi) hv)
            have := q1.2.1
            omega
      rw [splitV_done hdone]
      exact hdone
  exact ⟨key, fun g hg => ⟨s1 g hg, tot_two s1 (by omega) g hg⟩⟩
/-- What Factor finds: as many different linear factors as roots. -/
theorem rts_spl {n : Nat} {X : Nat → Nat} {Z : List Nat} (h : Rts p n X Z) (hn : 0 < n) (hn2 : n ≤ 12) (hpl : p ≤ 1021) (htop : monicL p Z = Z) :
    ∃ ys, sqL p (monicL p Z) = some ys ∧ (spl p ys).length = n ∧ ∀ e ∈ spl p ys, e.1.length = 2 ∧ e.2 = 1 := by
  have hlen := h.len
  obtain ⟨k1, k2⟩ := rts_split hp h hn (by omega) hpl
  refine ⟨[(Z, 1)], by rw [htop]; exact rts_sq hp h hn (by omega), ?_, ?_⟩
  · simp [spl, k1]
  · intro e he
    simp only [spl, List.flatMap_cons, List.flatMap_nil, List.append_nil, List.mem_map] at he
    obtain ⟨g, hg, rfl⟩ := he
    exact ⟨(k2 g hg).2, rfl⟩
end
end Go.Poly
