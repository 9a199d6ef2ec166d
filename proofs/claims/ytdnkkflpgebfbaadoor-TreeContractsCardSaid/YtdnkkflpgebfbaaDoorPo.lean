/- The lists of edges of the graphs with an edge less, with its ends made one, and with vertices left out. -/
import Derived.Test.YtdnkkflpgebfbaaDoorPk
namespace Go.Tree
open Go.W

theorem hasE_append {xs ys : List Ed} {u v : Int} : hasE (xs ++ ys) u v ↔ hasE xs u v ∨ hasE ys u v := by
  constructor
  · rintro ⟨e, he, h⟩
    rcases List.mem_append.1 he with he | he
    · exact .inl ⟨e, he, h⟩
    · exact .inr ⟨e, he, h⟩
  · rintro (⟨e, he, h⟩ | ⟨e, he, h⟩)
    · exact ⟨e, List.mem_append_left _ he, h⟩
    · exact ⟨e, List.mem_append_right _ he, h⟩
theorem hasE_nil {u v : Int} : ¬ hasE [] u v := fun ⟨_, he, _⟩ => by cases he
theorem hasE_one {e : Ed} {u v : Int} : hasE [e] u v ↔ e = (u, v) ∨ e = (v, u) := by
  constructor
  · rintro ⟨f, hf, h⟩
    rw [List.mem_singleton] at hf
    rw [← hf]; exact h
  · intro h; exact ⟨e, by simp, h⟩
/-- An edge left out. -/
def lessE (es : List Ed) (k : Nat) : List Ed := es.take k ++ es.drop (k + 1)
theorem less_has {n : Nat} {es : List Ed} (hok : Okes n es) {k : Nat} (hk : k < es.length) (u v : Int) : hasE (lessE es k) u v ↔ hasE es u v ∧ ¬ hasE [es[k]] u v := by
  have hsplit : es = es.take k ++ es[k] :: es.drop (k + 1) := by rw [List.getElem_cons_drop, List.take_append_drop]
  have hp := hok.2
  rw [hsplit, List.pairwise_append] at hp
  obtain ⟨_, hp2, hp3⟩ := hp
  rw [List.pairwise_cons] at hp2
  constructor
  · intro h
    refine ⟨?_, ?_⟩
    · obtain ⟨e, he, hee⟩ := h
      refine ⟨e, ?_, hee⟩
      rw [lessE, List.mem_append] at he
      rcases he with he | he
      · exact List.mem_of_mem_take he
      · exact List.mem_of_mem_drop he
    · rw [hasE_one]
      intro h2
      obtain ⟨e, he, hee⟩ := h
      have key : es[k] = e ∨ es[k] = (e.2, e.1) := by
        rcases hee with rfl | rfl <;> rcases h2 with h2 | h2 <;> simp [h2]
      rw [lessE, List.mem_append] at he
      rcases he with he | he
      · have := hp3 e he es[k] List.mem_cons_self
        exact key.elim this.1 this.2
      · have := hp2.1 e he
        rcases key with h | h
        · exact this.1 h.symm
        · refine this.2 ?_
          rw [h]
  · rintro ⟨⟨e, he, hee⟩, h2⟩
    refine ⟨e, ?_, hee⟩
    rw [hsplit, List.mem_append, List.mem_cons] at he
    rw [lessE, List.mem_append]
    rcases he with he | rfl | he
    · exact .inl he
    · exact absurd (hasE_one.2 hee) h2
    · exact .inr he
/-- Edges added as long as they make a graph. -/
def oneStep (m : Int) (one : List Ed) (e : Ed) : List Ed := if (mkG m (one ++ [e])).isSome = true then one ++ [e] else one
theorem one_fold {m : Int} (hm0 : 0 ≤ m) (hm : m ≤ 14) : ∀ (L one : List Ed), (∀ e ∈ L, 0 ≤ e.1 ∧ e.1 < m ∧ 0 ≤ e.2 ∧ e.2 < m ∧ e.1 ≠ e.2) → one.length + L.length ≤ 100 → (mkG m one).isSome = true →
    (mkG m (L.foldl (oneStep m) one)).isSome = true ∧ (L.foldl (oneStep m) one).length ≤ one.length + L.length ∧ ∀ x y, hasE (L.foldl (oneStep m) one) x y ↔ hasE one x y ∨ hasE L x y := by
  intro L
  induction L with
  | nil => intro one _ _ h; exact ⟨h, Nat.le_refl _, fun x y => ⟨.inl, fun h => h.elim id (fun h => absurd h hasE_nil)⟩⟩
  | cons e L ih =>
    intro one hL hlen h
    have hcons : e :: L = [e] ++ L := rfl
    rw [List.foldl_cons, List.length_cons] at *
    have hL' : ∀ f ∈ L, 0 ≤ f.1 ∧ f.1 < m ∧ 0 ≤ f.2 ∧ f.2 < m ∧ f.1 ≠ f.2 := fun f hf => hL f (by simp [hf])
    by_cases hs : (mkG m (one ++ [e])).isSome = true
    · have e1 : oneStep m one e = one ++ [e] := by rw [oneStep, if_pos hs]
      rw [e1]
      obtain ⟨i1, i2, i3⟩ := ih (one ++ [e]) hL' (by simp; omega) hs
      refine ⟨i1, by simp at i2; omega, fun x y => ?_⟩
      rw [i3, hcons, hasE_append, hasE_append]
      constructor
      · rintro ((h | h) | h)
        · exact .inl h
        · exact .inr (.inl h)
        · exact .inr (.inr h)
      · rintro (h | h | h)
        · exact .inl (.inl h)
        · exact .inl (.inr h)
        · exact .inr h
    · have e1 : oneStep m one e = one := by rw [oneStep, if_neg hs]
      rw [e1]
      obtain ⟨i1, i2, i3⟩ := ih one hL' (by omega) h
      refine ⟨i1, by omega, fun x y => ?_⟩
      rw [i3, hcons, hasE_append]
      have hdup : hasE one e.1 e.2 := by
        apply Classical.byContradiction
        intro hno
        apply hs
        have hok := (mkG_iff.1 h).2.2.2
        refine mkG_iff.2 ⟨hm0, hm, by simp; omega, okes_snoc.2 ⟨hok, ?_, ?_⟩⟩
        · have := hL e (by simp)
          omega
        · intro f hf
          constructor
          · intro he; exact hno ⟨f, hf, .inl he.symm⟩
          · intro he
            refine hno ⟨f, hf, .inr ?_⟩
            rw [he]
      constructor
      · rintro (h | h)
        · exact .inl h
        · exact .inr (.inr h)
      · rintro (h | h | h)
        · exact .inl h
        · left
          rw [hasE_one] at h
          obtain ⟨f, hf, hff⟩ := hdup
          rcases h with rfl | rfl
          · exact ⟨f, hf, hff⟩
          · exact ⟨f, hf, hff.symm⟩
        · exact .inr h
def mgI (v a b n : Int) : Int := if v = b then a else if v = n - 1 then b else v
def mgE (a b n : Int) (e : Ed) : Ed := (mgI e.1 a b n, mgI e.2 a b n)
theorem mgI_nat {v a b n : Nat} (hn : 0 < n) : mgI v a b n = (mgV a b n v : Nat) := by
  unfold mgI mgV
  by_cases h1 : v = b
  · rw [if_pos h1, if_pos (by omega)]
  · rw [if_neg h1, if_neg (by omega)]
    by_cases h2 : v + 1 = n
    · rw [if_pos h2, if_pos (by omega)]
    · rw [if_neg h2, if_neg (by omega)]
/-- The edge's ends, made one. -/
theorem con_of {N : Nat} {es : List Ed} {g : List Nat} (hmk : mkG (N : Nat) es = some g) {k : Nat} (hk : k < es.length) {a b : Nat} (hab : a < b) (hend : es[k] = ((a : Int), (b : Int)) ∨ es[k] = ((b : Int), (a : Int))) :
    ∃ g' h, mkG (N : Nat) (lessE es k) = some g' ∧ mkG ((N - 1 : Nat) : Int) (((lessE es k).map (mgE a b N)).foldl (oneStep ((N - 1 : Nat) : Int)) []) = some h ∧ Con g g' h a b := by
  obtain ⟨hg, hgn, _, h14, h100⟩ := mkG_gr hmk
  have hn := hg.len
  have hgn : g.length = N := by simpa using hgn
  subst hgn
  have hok := mkG_okes hmk
  have hr := hok.1 _ (List.getElem_mem hk)
  have hbn : b < g.length := by
    rcases hend with h | h <;> rw [h] at hr <;> simp only at hr <;> omega
  have hsub : (lessE es k).Sublist es := by
    rw [lessE, ← List.eraseIdx_eq_take_drop_succ]; exact List.eraseIdx_sublist _ _
  have hll : (lessE es k).length ≤ es.length := hsub.length_le
  obtain ⟨g', hmk1⟩ := mkG_some (n := (g.length : Nat)) (by omega) h14 (by omega) (hok.sub hsub)
  obtain ⟨hg', hgl', _⟩ := mkG_gr hmk1
  have hgl' : g'.length = g.length := by simpa using hgl'
  have hbits' : ∀ u v, (g'.getD u 0).testBit v = true ↔ (g.getD u 0).testBit v = true ∧ ¬ (u = a ∧ v = b) ∧ ¬ (u = b ∧ v = a) := by
    intro u v
    have hcv : ∀ u v : Nat, hasE [es[k]] (u : Int) (v : Int) ↔ (u = a ∧ v = b) ∨ (u = b ∧ v = a) := by
      intro u v
      rw [hasE_one]
      rcases hend with h | h <;> rw [h] <;> simp only [Prod.mk.injEq] <;> omega
    constructor
    · intro hb
      obtain ⟨h1, h2⟩ := hg'.in_ hb
      have := (mkG_bits hmk1 h1 h2).1 hb
      rw [less_has hok hk, hcv] at this
      exact ⟨(mkG_bits hmk (by omega) (by omega)).2 this.1, fun h => this.2 (.inl h), fun h => this.2 (.inr h)⟩
    · rintro ⟨hb, h1, h2⟩
      obtain ⟨h3, h4⟩ := hg.in_ hb
      refine (mkG_bits hmk1 (by omega) (by omega)).2 ?_
      rw [less_has hok hk, hcv]
      exact ⟨(mkG_bits hmk h3 h4).1 hb, fun h => h.elim h1 h2⟩
  -- the merged edges
  have hL : ∀ e ∈ (lessE es k).map (mgE a b (g.length : Nat)), 0 ≤ e.1 ∧ e.1 < ((g.length - 1 : Nat) : Int) ∧ 0 ≤ e.2 ∧ e.2 < ((g.length - 1 : Nat) : Int) ∧ e.1 ≠ e.2 := by
    intro e he
    obtain ⟨f, hf, rfl⟩ := List.mem_map.1 he
    have hfr := (hok.sub hsub).1 f hf
    obtain ⟨p, q⟩ := f
    obtain ⟨r1, r2, r3, r4, r5⟩ := hfr
    obtain ⟨p, rfl⟩ := Int.eq_ofNat_of_zero_le r1
    obtain ⟨q, rfl⟩ := Int.eq_ofNat_of_zero_le r3
    simp only at r2 r4 r5
    have hpq : (g'.getD p 0).testBit q = true := (mkG_bits hmk1 (by omega) (by omega)).2 ⟨_, hf, .inl rfl⟩
    have hno := ((hbits' p q).1 hpq).2
    simp only [mgE, mgI_nat (show 0 < g.length by omega)]
    have hp : p < g.length := by omega
    have hq : q < g.length := by omega
    unfold mgV
    refine ⟨by omega, ?_, by omega, ?_, ?_⟩
    · split
      · omega
      · split <;> omega
    · split
      · omega
      · split <;> omega
    · split
      · split
        · omega
        · split <;> omega
      · split
        · split
          · omega
          · split <;> omega
        · split
          · omega
          · split <;> omega
  have hz : (mkG ((g.length - 1 : Nat) : Int) []).isSome = true := mkG_iff.2 ⟨by omega, by omega, by simp, ⟨fun e he => (by cases he), List.Pairwise.nil⟩⟩
  obtain ⟨i1, i2, i3⟩ := one_fold (m := ((g.length - 1 : Nat) : Int)) (by omega) (by omega) _ [] hL (by simp; omega) hz
  obtain ⟨h, hmk2⟩ := Option.isSome_iff_exists.1 i1
  obtain ⟨hh, hhl, _⟩ := mkG_gr hmk2
  have hhl : h.length = g.length - 1 := by omega
  refine ⟨g', h, hmk1, hmk2, hab, hbn, ?_, hgl', by omega, hbits', ?_⟩
  · refine (mkG_bits hmk (by omega) hbn).2 ⟨es[k], List.getElem_mem hk, hend⟩
  · intro x y hx hy
    rw [mkG_bits hmk2 hx hy, i3]
    constructor
    · rintro (h | ⟨e, he, hee⟩)
      · exact absurd h hasE_nil
      · obtain ⟨f, hf, rfl⟩ := List.mem_map.1 he
        have hfr := (hok.sub hsub).1 f hf
        obtain ⟨p, q⟩ := f
        obtain ⟨r1, r2, r3, r4, r5⟩ := hfr
        obtain ⟨p, rfl⟩ := Int.eq_ofNat_of_zero_le r1
        obtain ⟨q, rfl⟩ := Int.eq_ofNat_of_zero_le r3
        simp only at r2 r4 r5
        have hp : p < g'.length := by omega
        have hq : q < g'.length := by omega
        simp only [mgE, mgI_nat (show 0 < g.length by omega), Prod.mk.injEq] at hee
        rcases hee with ⟨e1, e2⟩ | ⟨e1, e2⟩
        · exact ⟨p, q, (mkG_bits hmk1 hp hq).2 ⟨_, hf, .inl rfl⟩, by omega, by omega⟩
        · exact ⟨q, p, (mkG_bits hmk1 hq hp).2 ⟨_, hf, .inr rfl⟩, by omega, by omega⟩
    · rintro ⟨u, v, huv, rfl, rfl⟩
      right
      obtain ⟨h1, h2⟩ := hg'.in_ huv
      obtain ⟨f, hf, hff⟩ := (mkG_bits hmk1 h1 h2).1 huv
      refine ⟨_, List.mem_map.2 ⟨f, hf, rfl⟩, ?_⟩
      rcases hff with rfl | rfl
      · left; simp only [mgE, mgI_nat (show 0 < g.length by omega)]
      · right; simp only [mgE, mgI_nat (show 0 < g.length by omega)]
/-- Some vertices, with new numbers. -/
theorem rel_list {n : Int} {es : List Ed} {g : List Nat} (hmk : mkG n es = some g) {V : Nat → Bool} {ρ σ : Nat → Nat} {m : Nat} (hm : m ≤ 14) (h1 : ∀ v, v < g.length → V v = true → ρ v < m ∧ σ (ρ v) = v) (h2 : ∀ x, x < m → σ x < g.length ∧ V (σ x) = true ∧ ρ (σ x) = x) :
    ∃ h, mkG (m : Nat) ((es.filter fun e => V e.1.toNat && V e.2.toNat).map fun e => ((ρ e.1.toNat : Int), (ρ e.2.toNat : Int))) = some h ∧ h.length = m ∧ Rel h g σ := by
  obtain ⟨hg, hgn, hn0, _, h100⟩ := mkG_gr hmk
  have hok := mkG_okes hmk
  have hmem : ∀ e ∈ (es.filter fun e => V e.1.toNat && V e.2.toNat), (∃ p q : Nat, e = ((p : Int), (q : Int)) ∧ p < g.length ∧ q < g.length ∧ V p = true ∧ V q = true ∧ p ≠ q) ∧ e ∈ es := by
    intro e he
    obtain ⟨h3, h4⟩ := List.mem_filter.1 he
    obtain ⟨r1, r2, r3, r4, r5⟩ := hok.1 e h3
    obtain ⟨p, q⟩ := e
    obtain ⟨p, rfl⟩ := Int.eq_ofNat_of_zero_le r1
    obtain ⟨q, rfl⟩ := Int.eq_ofNat_of_zero_le r3
    simp only [Int.toNat_natCast, Bool.and_eq_true] at h4 r2 r4 r5
    exact ⟨⟨p, q, rfl, by omega, by omega, h4.1, h4.2, by omega⟩, h3⟩
  have hok2 : Okes m ((es.filter fun e => V e.1.toNat && V e.2.toNat).map fun e => ((ρ e.1.toNat : Int), (ρ e.2.toNat : Int))) := by
    refine ⟨fun e he => ?_, ?_⟩
    · obtain ⟨f, hf, rfl⟩ := List.mem_map.1 he
      obtain ⟨⟨p, q, rfl, hp, hq, vp, vq, hne⟩, _⟩ := hmem f hf
      have a1 := h1 p hp vp
      have a2 := h1 q hq vq
      simp only [Int.toNat_natCast]
      refine ⟨by omega, by omega, by omega, by omega, fun e => hne ?_⟩
      have : ρ p = ρ q := by omega
      rw [← a1.2, ← a2.2, this]
    · rw [List.pairwise_map]
      refine List.Pairwise.imp_of_mem (fun {e f} he hf hef => ?_) (hok.2.sublist List.filter_sublist)
      obtain ⟨⟨p, q, rfl, hp, hq, vp, vq, _⟩, _⟩ := hmem e he
      obtain ⟨⟨p', q', rfl, hp', hq', vp', vq', _⟩, _⟩ := hmem f hf
      have a1 := (h1 p hp vp).2
      have a2 := (h1 q hq vq).2
      have a3 := (h1 p' hp' vp').2
      have a4 := (h1 q' hq' vq').2
      simp only [Int.toNat_natCast, ne_eq, Prod.mk.injEq] at hef ⊢
      constructor
      · rintro ⟨e1, e2⟩
        refine hef.1 ⟨?_, ?_⟩
        · have : ρ p' = ρ p := by omega
          rw [← a3, ← a1, this]
        · have : ρ q' = ρ q := by omega
          rw [← a4, ← a2, this]
      · rintro ⟨e1, e2⟩
        refine hef.2 ⟨?_, ?_⟩
        · have : ρ p' = ρ q := by omega
          rw [← a3, ← a2, this]
        · have : ρ q' = ρ p := by omega
          rw [← a4, ← a1, this]
  have hlen : ((es.filter fun e => V e.1.toNat && V e.2.toNat).map fun e => ((ρ e.1.toNat : Int), (ρ e.2.toNat : Int))).length ≤ 100 := by
    rw [List.length_map]; exact Nat.le_trans (List.length_filter_le _ _) h100
  obtain ⟨h, hmk2⟩ := mkG_some (n := (m : Nat)) (by omega) (by omega) hlen (by simpa using hok2)
  obtain ⟨_, hhl, _⟩ := mkG_gr hmk2
  have hhl : h.length = m := by simpa using hhl
  refine ⟨h, hmk2, hhl, ⟨fun x hx => (h2 x (by omega)).1, fun x y hx hy e => ?_, fun x y hx hy => ?_⟩⟩
  · rw [← (h2 x (by omega)).2.2, ← (h2 y (by omega)).2.2, e]
  · obtain ⟨x1, x2, x3⟩ := h2 x (by omega)
    obtain ⟨y1, y2, y3⟩ := h2 y (by omega)
    rw [Bool.eq_iff_iff, mkG_bits hmk2 hx hy, mkG_bits hmk x1 y1]
    constructor
    · rintro ⟨e, he, hee⟩
      obtain ⟨f, hf, rfl⟩ := List.mem_map.1 he
      obtain ⟨⟨p, q, rfl, hp, hq, vp, vq, _⟩, hfe⟩ := hmem f hf
      have a1 := (h1 p hp vp).2
      have a2 := (h1 q hq vq).2
      simp only [Int.toNat_natCast, Prod.mk.injEq] at hee
      refine ⟨_, hfe, ?_⟩
      rcases hee with ⟨e1, e2⟩ | ⟨e1, e2⟩
      · left
        have b1 : ρ p = x := by omega
        have b2 : ρ q = y := by omega
        rw [← b1, ← b2, a1, a2]
      · right
        have b1 : ρ p = y := by omega
        have b2 : ρ q = x := by omega
        rw [← b1, ← b2, a1, a2]
    · rintro ⟨f, hf, hff⟩
      have hfm : f ∈ es.filter fun e => V e.1.toNat && V e.2.toNat := by
        refine List.mem_filter.2 ⟨hf, ?_⟩
        rcases hff with rfl | rfl <;> simp [x2, y2]
      refine ⟨_, List.mem_map.2 ⟨f, hfm, rfl⟩, ?_⟩
      rcases hff with rfl | rfl
      · left; simp only [Int.toNat_natCast, x3, y3]
      · right; simp only [Int.toNat_natCast, x3, y3]
/-- Numbers for the vertices that stay, in their order. -/
def nmV (V : Nat → Bool) (v : Nat) : Nat := (List.range v).countP V
theorem nm_at {V : Nat → Bool} {n v : Nat} (hv : v < n) (hV : V v = true) : ((List.range n).filter V)[nmV V v]? = some v := by
  rw [range_split hv, List.filter_append, List.filter_cons, if_pos hV, nmV, List.countP_eq_length_filter, List.getElem?_append_right (Nat.le_refl _), Nat.sub_self]
  rfl
theorem nm_inv {V : Nat → Bool} {n x : Nat} (hx : x < ((List.range n).filter V).length) : ((List.range n).filter V).getD x 0 < n ∧ V (((List.range n).filter V).getD x 0) = true ∧ nmV V (((List.range n).filter V).getD x 0) = x := by
  have hg : ((List.range n).filter V).getD x 0 = ((List.range n).filter V)[x] := by rw [List.getD_eq_getElem?_getD, List.getElem?_eq_getElem hx]; rfl
  have hm := List.mem_filter.1 (List.getElem_mem hx)
  rw [hg]
  have h1 : ((List.range n).filter V)[x] < n := by simpa using hm.1
  refine ⟨h1, hm.2, ?_⟩
  have h2 := nm_at h1 hm.2
  obtain ⟨h3, h4⟩ := List.getElem?_eq_some_iff.1 h2
  have hnd : ((List.range n).filter V).Nodup := (nodup_range n).filter _
  have hp := List.pairwise_iff_getElem.1 hnd
  generalize nmV V ((List.range n).filter V)[x] = y at *
  rcases Nat.lt_trichotomy y x with h | h | h
  · exact absurd h4 (hp y x h3 hx h)
  · exact h
  · exact absurd h4.symm (hp x y hx h3 h)
theorem nm_lt {V : Nat → Bool} {n v : Nat} (hv : v < n) (hV : V v = true) : nmV V v < ((List.range n).filter V).length ∧ ((List.range n).filter V).getD (nmV V v) 0 = v := by
  have h2 := nm_at hv hV
  refine ⟨(List.getElem?_eq_some_iff.1 h2).1, ?_⟩
  rw [List.getD_eq_getElem?_getD, h2]; rfl
/-- The sets without a vertex and those with it, by the lists. -/
theorem nI_lists {N : Nat} {es : List Ed} {g : List Nat} (hmk : mkG (N : Nat) es = some g) {a : Nat} (ha : a < N) {V : Nat → Bool} (hV : ∀ v, v < N → (V v = true ↔ v ≠ a ∧ (g.getD a 0).testBit v = false)) :
    ∃ h1 h2, mkG ((N - 1 : Nat) : Int) ((es.filter fun e => (e.1.toNat != a) && (e.2.toNat != a)).map fun e => (((if e.1.toNat + 1 = N then a else e.1.toNat : Nat) : Int), ((if e.2.toNat + 1 = N then a else e.2.toNat : Nat) : Int))) = some h1 ∧
      mkG ((nmV V N : Nat) : Int) ((es.filter fun e => V e.1.toNat && V e.2.toNat).map fun e => ((nmV V e.1.toNat : Int), (nmV V e.2.toNat : Int))) = some h2 ∧ nI g = nI h1 + nI h2 := by
  obtain ⟨hg, hgn, _, h14, h100⟩ := mkG_gr hmk
  have hn := hg.len
  have hgn : g.length = N := by simpa using hgn
  have hcnt : nmV V N = ((List.range N).filter V).length := by rw [nmV, List.countP_eq_length_filter]
  have hcl : nmV V N ≤ N := by rw [hcnt]; exact Nat.le_trans (List.length_filter_le _ _) (by simp)
  obtain ⟨h1, m1, l1, r1⟩ := rel_list hmk (V := fun v => v != a) (ρ := fun v => if v + 1 = N then a else v) (σ := fun x => if x = a then N - 1 else x) (m := N - 1) (by omega)
    (by
      intro v hv hva
      have hva : v ≠ a := by simpa using hva
      split
      · rw [if_pos rfl]; omega
      · exact ⟨by omega, rfl⟩)
    (by
      intro x hx
      simp only [bne_iff_ne, ne_eq]
      split
      · rename_i h; subst h; exact ⟨by omega, by omega, by rw [if_pos (by omega)]⟩
      · rename_i h; exact ⟨by omega, h, by rw [if_neg (by omega)]⟩)
  obtain ⟨h2, m2, l2, r2⟩ := rel_list hmk (V := V) (ρ := nmV V) (σ := fun x => ((List.range N).filter V).getD x 0) (m := nmV V N) (by omega)
    (by
      intro v hv hVv
      have := nm_lt (n := N) (by omega) hVv
      rw [hcnt]; exact this)
    (by
      intro x hx
      rw [hcnt] at hx
      have := nm_inv hx
      rw [hgn]; exact this)
  refine ⟨h1, h2, m1, m2, nI_split hmk m1 m2 (hgn ▸ ha) r1 r2 (fun j => ?_) (fun j => ?_)⟩
  · rw [l1, hgn]
    constructor
    · rintro ⟨i, hi, rfl⟩
      split <;> omega
    · rintro ⟨h3, h4⟩
      by_cases h5 : j + 1 = N
      · refine ⟨a, by omega, ?_⟩
        simp only [if_true]; omega
      · refine ⟨j, by omega, ?_⟩
        simp only [if_neg h4]
  · rw [l2, hgn]
    constructor
    · rintro ⟨i, hi, rfl⟩
      rw [hcnt] at hi
      obtain ⟨h3, h4, _⟩ := nm_inv hi
      have := (hV _ h3).1 h4
      exact ⟨h3, this.1, this.2⟩
    · rintro ⟨h3, h4, h5⟩
      have hVj := (hV j h3).2 ⟨h4, h5⟩
      have := nm_lt h3 hVj
      exact ⟨nmV V j, by rw [hcnt]; exact this.1, this.2⟩
end Go.Tree
