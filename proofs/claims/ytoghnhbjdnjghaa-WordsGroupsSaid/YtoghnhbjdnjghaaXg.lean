/- The dihedral groups in plain words: what their completed systems compute. -/
import Derived.Test.YtoghnhbjdnjghaaV41
namespace Go.Words
open Go.W Go.Proofs.Ytoghnhbjdnjghaa

/-! ### The element of a string -/
def elS (n : Nat) (p : Nat × Nat) (c : UInt8) : Nat × Nat := if c = 98 then (p.1, 1 - p.2) else if p.2 = 1 then ((p.1 + n - 1) % n, p.2) else ((p.1 + 1) % n, p.2)
def elF (n : Nat) (p : Nat × Nat) (s : Str) : Nat × Nat := s.foldl (elS n) p
def El (n : Nat) (p : Nat × Nat) : Prop := p.1 < n ∧ p.2 ≤ 1
theorem elS_ok {n : Nat} (hn : 0 < n) {p : Nat × Nat} (h : El n p) (c : UInt8) : El n (elS n p c) := by
  unfold elS
  obtain ⟨h1, h2⟩ := h
  split
  · exact ⟨h1, by show 1 - p.2 ≤ 1; omega⟩
  · split
    · exact ⟨Nat.mod_lt _ hn, h2⟩
    · exact ⟨Nat.mod_lt _ hn, h2⟩
theorem elF_ok {n : Nat} (hn : 0 < n) : ∀ (s : Str) (p : Nat × Nat), El n p → El n (elF n p s) := by
  intro s
  induction s with
  | nil => intro p h; exact h
  | cons c s ih => intro p h; exact ih _ (elS_ok hn h c)
theorem elF_app (n : Nat) (p : Nat × Nat) (s t : Str) : elF n p (s ++ t) = elF n (elF n p s) t := List.foldl_append
def elOk (n : Nat) (l : List Rl) : Bool := l.all fun r => (List.range n).all fun p => [0, 1].all fun f => decide (elF n (p, f) r.1 = elF n (p, f) r.2)
theorem elOk_of {n : Nat} {l : List Rl} (h : elOk n l = true) {r : Rl} (hr : r ∈ l) {p : Nat × Nat} (hp : El n p) : elF n p r.1 = elF n p r.2 := by
  have h1 := List.all_eq_true.1 h r hr
  have h2 := List.all_eq_true.1 h1 p.1 (List.mem_range.2 hp.1)
  have h3 := List.all_eq_true.1 h2 p.2 (by have := hp.2; simp; omega)
  exact of_decide_eq_true h3
theorem elF_stp {n : Nat} (hn : 0 < n) {l : List Rl} (h : elOk n l = true) {s t : Str} (k : Stp l s t) {p : Nat × Nat} (hp : El n p) : elF n p s = elF n p t := by
  obtain ⟨x, r, y, hr, rfl, rfl⟩ := k
  rw [elF_app, elF_app, elF_app, elF_app, elOk_of h hr (elF_ok hn x p hp)]
theorem elF_cg {n : Nat} (hn : 0 < n) {l : List Rl} (h : elOk n l = true) {s t : Str} (k : Cg l s t) {p : Nat × Nat} (hp : El n p) : elF n p s = elF n p t := by
  induction k with
  | rfl => rfl
  | fwd h1 _ ih => rw [elF_stp hn h h1 hp, ih]
  | bwd h1 _ ih => rw [← elF_stp hn h h1 hp, ih]

/-! ### How many steps -/
def cb : Str → Nat
  | [] => 0
  | c :: s => (if c = 98 then 1 else 0) + cb s
def inv : Str → Nat
  | [] => 0
  | c :: s => (if c = 98 then s.length - cb s else 0) + inv s
theorem cb_le : ∀ s : Str, cb s ≤ s.length := by
  intro s
  induction s with
  | nil => exact Nat.le_refl _
  | cons c s ih => rw [cb, List.length_cons]; split <;> omega
theorem cb_app : ∀ s t : Str, cb (s ++ t) = cb s + cb t := by
  intro s t
  induction s with
  | nil => rw [List.nil_append, cb]; omega
  | cons c s ih => rw [List.cons_append, cb, cb, ih]; omega
theorem inv_app : ∀ s t : Str, inv (s ++ t) = inv s + inv t + cb s * (t.length - cb t) := by
  intro s t
  induction s with
  | nil => rw [List.nil_append, inv, cb]; omega
  | cons c s ih =>
    rw [List.cons_append, inv, inv, cb, ih, List.length_append, cb_app]
    have h1 := cb_le s
    have h2 := cb_le t
    split
    · rw [Nat.add_mul, Nat.one_mul]; omega
    · rw [show 0 + cb s = cb s from Nat.zero_add _]; omega
theorem inv_le : ∀ s : Str, inv s ≤ cb s * (s.length - cb s) := by
  intro s
  induction s with
  | nil => exact Nat.zero_le _
  | cons c s ih =>
    have h1 := cb_le s
    rw [inv, cb, List.length_cons]
    split
    · rw [show s.length + 1 - (1 + cb s) = s.length - cb s by omega, Nat.add_mul, Nat.one_mul]; omega
    · rw [Nat.zero_add, Nat.zero_add, show s.length + 1 - cb s = (s.length - cb s) + 1 by omega, Nat.mul_add]; omega
theorem inv_20 {s : Str} (h : s.length ≤ 20) : inv s ≤ 100 := by
  have h1 := inv_le s
  have h2 := cb_le s
  have key : ∀ x, x < 21 → ∀ y, y < 21 → x + y ≤ 20 → x * y ≤ 100 := by decide
  have := key (cb s) (by omega) (s.length - cb s) (by omega) (by omega)
  omega
def ms (s : Str) : Nat := 303 * s.length + 101 * cb s + inv s
def okR (r : Rl) : Bool := (decide (r.2.length < r.1.length) && decide (cb r.2 ≤ cb r.1 + 2)) || (decide (r.2.length = r.1.length) && (decide (cb r.2 < cb r.1) || (decide (cb r.2 = cb r.1) && decide (inv r.2 < inv r.1))))
theorem ms_stp {l : List Rl} (h : l.all okR = true) {s t : Str} (k : Stp l s t) (hs : s.length ≤ 20) : t.length ≤ 20 ∧ ms t < ms s := by
  obtain ⟨x, r, y, hr, rfl, rfl⟩ := k
  have ho := List.all_eq_true.1 h r hr
  unfold okR at ho
  simp only [Bool.or_eq_true, Bool.and_eq_true, decide_eq_true_iff] at ho
  have e1 : (x ++ (r.1 ++ y)).length = x.length + r.1.length + y.length := by simp; omega
  have e2 : (x ++ (r.2 ++ y)).length = x.length + r.2.length + y.length := by simp; omega
  have hl : (x ++ (r.2 ++ y)).length ≤ 20 := by rw [e2]; rw [e1] at hs; omega
  refine ⟨hl, ?_⟩
  have i1 := inv_20 hs
  have i2 := inv_20 hl
  unfold ms
  have c1 : cb (x ++ (r.1 ++ y)) = cb x + cb r.1 + cb y := by rw [cb_app, cb_app]; omega
  have c2 : cb (x ++ (r.2 ++ y)) = cb x + cb r.2 + cb y := by rw [cb_app, cb_app]; omega
  rcases ho with ⟨h1, h2⟩ | ⟨h1, h2 | ⟨h2, h3⟩⟩
  · rw [c1, c2, e1, e2]; omega
  · rw [c1, c2, e1, e2]; omega
  · have j1 : inv (x ++ (r.1 ++ y)) = inv x + (inv r.1 + inv y + cb r.1 * (y.length - cb y)) + cb x * ((r.1.length + y.length) - (cb r.1 + cb y)) := by rw [inv_app, inv_app, cb_app, List.length_append]
    have j2 : inv (x ++ (r.2 ++ y)) = inv x + (inv r.2 + inv y + cb r.2 * (y.length - cb y)) + cb x * ((r.2.length + y.length) - (cb r.2 + cb y)) := by rw [inv_app, inv_app, cb_app, List.length_append]
    rw [c1, c2, e1, e2, j1, j2, h1, h2]
    omega
theorem normN_ms {l : List Rl} (h : l.all okR = true) : ∀ (k n : Nat) (s : Str), s.length ≤ 20 → ms s ≤ k → ∃ p, normN l k n s = some p := by
  intro k
  induction k with
  | zero =>
    intro n s hs hv
    rw [normN]
    cases hf : firstM l s with
    | none => exact ⟨_, rfl⟩
    | some p =>
      have := (ms_stp h (firstM_stp (i := p.1) (r := p.2) hf) hs).2
      omega
  | succ k ih =>
    intro n s hs hv
    rw [normN]
    cases hf : firstM l s with
    | none => exact ⟨_, rfl⟩
    | some p =>
      have := ms_stp h (firstM_stp (i := p.1) (r := p.2) hf) hs
      exact ih (n + 1) _ this.1 (by omega)
theorem ms_20 {s : Str} (h : s.length ≤ 20) : ms s ≤ 20000 := by
  have h1 := inv_20 h
  have h2 := cb_le s
  unfold ms
  omega

/-! ### The normal strings of two letters -/
def endsB (l : List Rl) (s : Str) : Bool := l.any fun r => r.1.isSuffixOf s
def nwg (l : List Rl) : Nat → List Str → List Str
  | 0, _ => []
  | k + 1, cur => cur ++ nwg l k (cur.flatMap fun w => [w ++ [97], w ++ [98]].filter fun u => !endsB l u)
def clsB (l : List Rl) (L : List Str) : Bool := L.contains [] && L.all fun w => [97, 98].all fun c => endsB l (w ++ [c]) || L.contains (w ++ [c])
theorem ends_nf {l : List Rl} {s : Str} (h : endsB l s = true) : ¬ Nf l s := by
  intro hn
  unfold endsB at h
  rw [List.any_eq_true] at h
  obtain ⟨r, hr, hs⟩ := h
  obtain ⟨z, hz⟩ := List.isSuffixOf_iff_suffix.1 hs
  exact hn _ ⟨z, r, [], hr, by rw [List.append_nil]; exact hz.symm, rfl⟩
theorem Nf.pre {l : List Rl} {s t : Str} (h : Nf l (s ++ t)) : Nf l s := by
  rintro u ⟨x, r, y, hr, rfl, _⟩
  exact h _ ⟨x, r, y ++ t, hr, by simp, rfl⟩
theorem nf_mem {l : List Rl} {L : List Str} (h : clsB l L = true) : ∀ (s : Str), Dg 97 2 s.reverse → Nf l s.reverse → s.reverse ∈ L := by
  obtain ⟨h0, h1⟩ := Bool.and_eq_true_iff.1 h
  intro s
  induction s with
  | nil => intro _ _; exact List.contains_iff_mem.1 h0
  | cons c s ih =>
    intro hd hn
    rw [List.reverse_cons] at hd hn ⊢
    have hm := ih (Dg.app.1 hd).1 hn.pre
    have hc := (Dg.app.1 hd).2 c (List.mem_singleton.2 rfl)
    have h2 := List.all_eq_true.1 h1 _ hm
    have h3 := List.all_eq_true.1 h2 c (by
      have : c = 97 ∨ c = 98 := by
        have h4 : c.toNat = 97 ∨ c.toNat = 98 := by omega
        rcases h4 with h4 | h4
        · exact .inl (UInt8.toNat_inj.1 h4)
        · exact .inr (UInt8.toNat_inj.1 h4)
      rcases this with rfl | rfl <;> simp)
    rcases Bool.or_eq_true_iff.1 h3 with h4 | h4
    · exact absurd hn (ends_nf h4)
    · exact List.contains_iff_mem.1 h4
def elD (n : Nat) (L : List Str) : Bool := L.all fun u => L.all fun v => decide (elF n (0, 0) u = elF n (0, 0) v → u = v)

/-! ### The groups -/
def cycE (n : Nat) : List Rl := [(List.replicate n 97, [])]
def dihE (n : Nat) : List Rl := [(List.replicate n 97, []), ([98, 98], []), ([98, 97], List.replicate (n - 1) 97 ++ [98])]
def chkC (n : Nat) : Bool := match completeM (cycE n) 12 with
  | some (t, c) => c && decide (sizeM t 1 = some (n : Nat))
  | none => false
def chkD (n : Nat) : Bool := match completeM (dihE n) 12 with
  | some (t, c) => c && decide (sizeM t 2 = some ((2 * n : Nat) : Int)) && t.all okR && elOk n (dihE n) && clsB t (nwg t 20 [[]]) && elD n (nwg t 20 [[]])
  | none => false
theorem chkC2 : chkC 2 = true := by kernel_rfl
theorem chkC3 : chkC 3 = true := by kernel_rfl
theorem chkC4 : chkC 4 = true := by kernel_rfl
theorem chkC5 : chkC 5 = true := by kernel_rfl
theorem chkC6 : chkC 6 = true := by kernel_rfl
theorem chkD2 : chkD 2 = true := by kernel_rfl
theorem chkD3 : chkD 3 = true := by kernel_rfl
theorem chkD4 : chkD 4 = true := by kernel_rfl
theorem chkD5 : chkD 5 = true := by kernel_rfl
theorem chkD6 : chkD 6 = true := by kernel_rfl
theorem chkC_all {n : Nat} (h1 : 2 ≤ n) (h2 : n ≤ 6) : chkC n = true := by
  have : n = 2 ∨ n = 3 ∨ n = 4 ∨ n = 5 ∨ n = 6 := by omega
  rcases this with rfl | rfl | rfl | rfl | rfl
  · exact chkC2
  · exact chkC3
  · exact chkC4
  · exact chkC5
  · exact chkC6
theorem chkD_all {n : Nat} (h1 : 2 ≤ n) (h2 : n ≤ 6) : chkD n = true := by
  have : n = 2 ∨ n = 3 ∨ n = 4 ∨ n = 5 ∨ n = 6 := by omega
  rcases this with rfl | rfl | rfl | rfl | rfl
  · exact chkD2
  · exact chkD3
  · exact chkD4
  · exact chkD5
  · exact chkD6
theorem dg97 {s : Str} (h : s.all (fun c => decide (97 ≤ c.toNat) && decide (c.toNat ≤ 98)) = true) : Dg 97 2 s := by
  intro c hc
  have := List.all_eq_true.1 h c hc
  simp only [Bool.and_eq_true, decide_eq_true_iff] at this
  omega
theorem rep97 (n : Nat) : Dg 97 2 (List.replicate n 97) := fun c hc => by
  rw [List.eq_of_mem_replicate hc]
  exact ⟨Nat.le_refl _, (by decide)⟩
theorem cyc_lg (n : Nat) : Lg 97 2 (cycE n) := by
  intro r hr
  obtain rfl := List.mem_singleton.1 hr
  exact ⟨rep97 n, fun c hc => by cases hc⟩
theorem dih_lg (n : Nat) : Lg 97 2 (dihE n) := by
  intro r hr
  unfold dihE at hr
  simp only [List.mem_cons, List.not_mem_nil, or_false] at hr
  rcases hr with rfl | rfl | rfl
  · exact ⟨rep97 n, fun c hc => by cases hc⟩
  · exact ⟨dg97 rfl, fun c hc => by cases hc⟩
  · exact ⟨dg97 rfl, Dg.app.2 ⟨rep97 _, dg97 rfl⟩⟩
theorem cyc_sm {n : Nat} (h2 : n ≤ 6) : Sm 24 (cycE n) := by
  intro r hr
  obtain rfl := List.mem_singleton.1 hr
  exact ⟨by show (List.replicate n (97 : UInt8)).length ≤ 24; rw [List.length_replicate]; omega, Nat.zero_le _⟩
theorem dih_sm {n : Nat} (h2 : n ≤ 6) : Sm 24 (dihE n) := by
  intro r hr
  unfold dihE at hr
  simp only [List.mem_cons, List.not_mem_nil, or_false] at hr
  rcases hr with rfl | rfl | rfl
  · exact ⟨by show (List.replicate n (97 : UInt8)).length ≤ 24; rw [List.length_replicate]; omega, Nat.zero_le _⟩
  · exact ⟨by decide, Nat.zero_le _⟩
  · exact ⟨(by show 2 ≤ 24; decide), by show (List.replicate (n - 1) (97 : UInt8) ++ [98]).length ≤ 24; rw [List.length_append, List.length_replicate]; simp; omega⟩
theorem chkC_of {n : Nat} (h : chkC n = true) : ∃ t, completeM (cycE n) 12 = some (t, true) ∧ sizeM t 1 = some (n : Nat) := by
  unfold chkC at h
  cases hc : completeM (cycE n) 12 with
  | none => rw [hc] at h; cases h
  | some q =>
    obtain ⟨t, c⟩ := q
    rw [hc] at h
    simp only [Bool.and_eq_true, decide_eq_true_iff] at h
    exact ⟨t, by rw [h.1], h.2⟩
theorem chkD_of {n : Nat} (h : chkD n = true) : ∃ t, completeM (dihE n) 12 = some (t, true) ∧ sizeM t 2 = some ((2 * n : Nat) : Int) ∧ t.all okR = true ∧ elOk n (dihE n) = true ∧ clsB t (nwg t 20 [[]]) = true ∧ elD n (nwg t 20 [[]]) = true := by
  unfold chkD at h
  cases hc : completeM (dihE n) 12 with
  | none => rw [hc] at h; cases h
  | some q =>
    obtain ⟨t, c⟩ := q
    rw [hc] at h
    simp only [Bool.and_eq_true, decide_eq_true_iff] at h
    obtain ⟨⟨⟨⟨⟨h1, h2⟩, h3⟩, h4⟩, h5⟩, h6⟩ := h
    exact ⟨t, by rw [h1], h2, h3, h4, h5, h6⟩
theorem EqM_grp {n : Nat} (h1 : 2 ≤ n) (h2 : n ≤ 6) {x y : Str} (hx : Dg 97 2 x) (hy : Dg 97 2 y) (hxl : x.length ≤ 20) (hyl : y.length ≤ 20) :
    EqM (dihE n) (12 : Nat) x y = if elF n (0, 0) x = elF n (0, 0) y then (1, 0) else (0, 0) := by
  obtain ⟨t, hc, _, hok, hel, hcl, hdi⟩ := chkD_of (chkD_all h1 h2)
  obtain ⟨he, _⟩ := comp_tame (k := 12) ((dih_lg n).mono (by decide)) (dih_sm h2) (by show 3 ≤ 64; decide) (by decide)
  obtain ⟨hK, hCe, _, hC⟩ := completeM_cg hc (dih_lg n)
  have hC := hC rfl
  obtain ⟨p, hp⟩ := normN_ms hok 20000 0 x hxl (ms_20 hxl)
  obtain ⟨q, hq⟩ := normN_ms hok 20000 0 y hyl (ms_20 hyl)
  have hf : formsM t (x, y) = some (p.1, q.1) := by
    unfold formsM normM
    simp only [hp, hq]
  obtain ⟨s1, s2, n1, n2⟩ := formsM_sts hf
  simp only at s1 s2 n1 n2
  have h0 : El n (0, 0) := ⟨by show 0 < n; omega, Nat.zero_le _⟩
  have e1 : elF n (0, 0) x = elF n (0, 0) p.1 := elF_cg (by omega) hel ((hCe x p.1).2 s1.cg) h0
  have e2 : elF n (0, 0) y = elF n (0, 0) q.1 := elF_cg (by omega) hel ((hCe y q.1).2 s2.cg) h0
  have m1 : p.1 ∈ nwg t 20 [[]] := by
    have := nf_mem hcl p.1.reverse (by rw [List.reverse_reverse]; exact s1.dg hK.lg hx) (by rw [List.reverse_reverse]; exact firstM_nf hK.dc n1)
    rwa [List.reverse_reverse] at this
  have m2 : q.1 ∈ nwg t 20 [[]] := by
    have := nf_mem hcl q.1.reverse (by rw [List.reverse_reverse]; exact s2.dg hK.lg hy) (by rw [List.reverse_reverse]; exact firstM_nf hK.dc n2)
    rwa [List.reverse_reverse] at this
  have hE : EqM (dihE n) (12 : Nat) x y = if p.1 = q.1 then (1, 0) else (0, 0) := by
    unfold EqM
    rw [he, strB_dg (hx.mono (by decide)) (by omega), strB_dg (hy.mono (by decide)) (by omega), Int.toNat_natCast, hc]
    simp only [Bool.and_self, if_true, hf]
  rw [hE, e1, e2]
  by_cases hpq : p.1 = q.1
  · rw [if_pos hpq, if_pos (by rw [hpq])]
  · rw [if_neg hpq, if_neg (fun h => hpq ?_)]
    have h3 := List.all_eq_true.1 hdi _ m1
    have h4 := List.all_eq_true.1 h3 _ m2
    exact of_decide_eq_true h4 h
end Go.Words
