/- The decomposition into parts without multiple factors always ends; the parts, and their factors, are few. -/
import Derived.Test.YtagfpnnplgkkoaaQm
import Derived.Test.YtagfpnnplgkkoaaR28
set_option linter.unusedSectionVars false
namespace Go.Poly
open Go.W Go.Tree
section
variable {p : Nat} (hp : Pri p)
include hp
theorem sqW_ok {times : Nat} : ∀ (n k : Nat) (w c : List Nat), SqI p w c → (if w.length ≤ 1 then 0 else c.length + 2) ≤ n →
    (∀ e ∈ (sqW p times n k w c).1, IsP p e.1 ∧ 1 < e.1.length ∧ e.1.length ≤ w.length) ∧ tot ((sqW p times n k w c).1.map (·.1)) = w.length - 1 ∧
      IsP p (sqW p times n k w c).2 ∧ 0 < (sqW p times n k w c).2.length ∧ (sqW p times n k w c).2.length ≤ c.length ∧ slopeL p (sqW p times n k w c).2 = []
  | 0, k, w, c, h, hn => by
    have hw : w.length ≤ 1 := by split at hn <;> omega
    simp only [sqW]
    exact ⟨fun e he => (by cases he), (by simp [tot]; omega), h.ic, h.cn, Nat.le_refl _, sq_end hp h hw⟩
  | n + 1, k, w, c, h, hn => by
    rw [sqW]
    by_cases hw : 1 < w.length
    · rw [if_pos hw]
      rw [if_neg (by omega)] at hn
      obtain ⟨h1, e1, hu, e2⟩ := sq_step hp h
      have hyn := h1.wn
      have hc1n := h1.cn
      generalize gcdL p w c = y at *
      generalize quoL p c y = c1 at *
      generalize quoL p w y = u at *
      have l1 := mul_len (p := p) hc1n hyn
      rw [e1] at l1
      have hun : 0 < u.length := by
        rcases Nat.eq_zero_or_pos u.length with h2 | h2
        · rw [List.length_eq_zero_iff.1 h2, nil_mul] at e2
          rw [← e2] at hw; simp at hw
        · exact h2
      have l2 := mul_len (p := p) hun hyn
      rw [e2] at l2
      obtain ⟨i1, i2, i3, i4, i5, i6⟩ := sqW_ok n (k + times) y c1 h1 (by split <;> omega)
      refine ⟨fun e he => ?_, ?_, i3, i4, Nat.le_trans i5 (by omega), i6⟩
      · simp only [List.mem_append] at he
        rcases he with he | he
        · split at he
          · simp only [List.mem_singleton] at he
            subst he
            exact ⟨hu, by assumption, by show u.length ≤ w.length; omega⟩
          · cases he
        · have := i1 e he
          exact ⟨this.1, this.2.1, by omega⟩
      · rw [List.map_append, tot_append, i2]
        split
        · simp [tot]; omega
        · simp [tot]; omega
    · rw [if_neg hw]
      exact ⟨fun e he => (by cases he), (by simp [tot]; omega), h.ic, h.cn, Nat.le_refl _, sq_end hp h (by omega)⟩
theorem isPB_of {f : List Nat} (hf : IsP p f) : isPB p f = true := by
  unfold isPB
  rw [Bool.and_eq_true]
  refine ⟨List.all_eq_true.2 fun c hc => decide_eq_true (hf.1 c hc), ?_⟩
  rcases hf.2 with h | h
  · subst h; rfl
  · rw [Bool.or_eq_true]; right; simpa using h
theorem sqN_ok : ∀ (n : Nat) (f : List Nat) (times : Nat), IsP p f → f.length < n →
    ∃ ys, sqN p n f times = some ys ∧ (∀ e ∈ ys, IsP p e.1 ∧ 1 < e.1.length ∧ e.1.length ≤ f.length) ∧ tot (ys.map (·.1)) ≤ f.length - 1
  | 0, f, times, _, h => by omega
  | n + 1, f, times, hf, hn => by
    rw [sqN]
    by_cases h1 : f.length ≤ 1
    · rw [if_pos h1]
      exact ⟨[], rfl, fun e he => (by cases he), by simp [tot]⟩
    rw [if_neg h1, if_neg (by rw [isPB_of hp hf]; simp)]
    by_cases hs : slopeL p f = []
    · rw [if_pos hs]
      obtain ⟨r1, r2, r3⟩ := root_isP hp hf hs
      have r2 := r2 (by omega)
      obtain ⟨ys, e1, e2, e3⟩ := sqN_ok n (rootL p f) (times * p) r1 (by omega)
      exact ⟨ys, e1, fun e he => ⟨(e2 e he).1, (e2 e he).2.1, by have := (e2 e he).2.2; omega⟩, by omega⟩
    · rw [if_neg hs]
      obtain ⟨hI, hm⟩ := sq_start hp hf (by omega)
      have hwn := hI.wn
      have hcn := hI.cn
      generalize gcdL p f (slopeL p f) = c at *
      generalize quoL p f c = w at *
      have l1 := mul_len (p := p) hwn hcn
      rw [hm] at l1
      obtain ⟨i1, i2, i3, i4, i5, i6⟩ := sqW_ok hp (times := times) (f.length + 1) times w c hI (by split <;> omega)
      generalize sqW p times (f.length + 1) times w c = R at *
      obtain ⟨r1, r2, r3⟩ := root_isP hp i3 i6
      obtain ⟨ys, e1, e2, e3⟩ := sqN_ok n (rootL p R.2) (times * p) r1 (by
        by_cases h2 : 1 < R.2.length
        · have := r2 h2; omega
        · omega)
      rw [e1]
      refine ⟨R.1 ++ ys, rfl, fun e he => ?_, ?_⟩
      · rw [List.mem_append] at he
        rcases he with he | he
        · exact ⟨(i1 e he).1, (i1 e he).2.1, by have := (i1 e he).2.2; omega⟩
        · exact ⟨(e2 e he).1, (e2 e he).2.1, by have := (e2 e he).2.2; omega⟩
      · rw [List.map_append, tot_append, i2]
        omega
theorem splitC_ok {m : Nat} {v : List Nat} (hv : IsP p v) : ∀ (r c : Nat) (ps : List (List Nat)), c + r ≤ p → (∀ g ∈ ps, GP p g) → (∀ g ∈ splitC p m v r c ps, GP p g) ∧ tot (splitC p m v r c ps) = tot ps
  | 0, c, ps, _, h => ⟨h, rfl⟩
  | r + 1, c, ps, hc, h => by
    rw [splitC]
    split
    · exact ⟨h, rfl⟩
    · obtain ⟨h1, h2⟩ := cuts_GP hp hv (show c < p by omega) h
      obtain ⟨h3, h4⟩ := splitC_ok hv r (c + 1) _ (by omega) h1
      exact ⟨h3, by rw [h4, h2]⟩
theorem splitV_ok {m : Nat} : ∀ (vs : List (List Nat)) (ps : List (List Nat)), (∀ v ∈ vs, IsP p v) → (∀ g ∈ ps, GP p g) → (∀ g ∈ splitV p m vs ps, GP p g) ∧ tot (splitV p m vs ps) = tot ps
  | [], ps, _, h => ⟨h, rfl⟩
  | v :: vs, ps, hv, h => by
    rw [splitV]
    obtain ⟨h1, h2⟩ := splitC_ok hp (m := m) (hv v (by simp)) p 0 ps (by omega) h
    obtain ⟨h3, h4⟩ := splitV_ok (m := m) vs _ (fun x hx => hv x (by simp [hx])) h1
    exact ⟨h3, by rw [h4, h2]⟩
theorem split_ok {f : List Nat} (hf : GP p f) : (∀ g ∈ splitL p f, GP p g) ∧ tot (splitL p f) = f.length - 1 := by
  obtain ⟨h1, h2⟩ := splitV_ok hp (m := (kernL p f).length) (kernL p f) [f] (fun v hv => (kern_isP hp hf.1 hf.2.1 v hv).1) (fun g hg => by simp at hg; rw [hg]; exact hf)
  exact ⟨h1, by unfold splitL; rw [h2]; simp [tot]⟩
theorem spl_len : ∀ (ys : Yds), (∀ e ∈ ys, IsP p e.1 ∧ 1 < e.1.length ∧ e.1.length ≤ 400) → (spl p ys).length ≤ tot (ys.map (·.1))
  | [], _ => Nat.zero_le _
  | e :: ys, h => by
    have ih := spl_len ys fun x hx => h x (by simp [hx])
    obtain ⟨h1, h2, h3⟩ := h e (by simp)
    obtain ⟨h4, h5⟩ := split_ok hp (f := e.1) ⟨h1, h2, h3⟩
    have h6 := tot_len h4
    unfold spl at ih ⊢
    rw [List.flatMap_cons, List.length_append, List.length_map]
    simp only [List.map_cons, tot, List.sum_cons] at h5 h6 ih ⊢
    omega
/-- Every polynomial has its list of factors, and there are fewer than it has numbers. -/
theorem facs_ok {f : List Nat} (hf : IsP p f) (lf : f.length ≤ 33) : ∃ ys, sqL p (monicL p f) = some ys ∧ (spl p ys).length ≤ f.length - 1 ∧ ∀ e ∈ ys, IsP p e.1 ∧ 1 < e.1.length ∧ e.1.length ≤ f.length := by
  have hm := monic_isP hp hf
  have hl := monic_len hp hf
  obtain ⟨ys, h1, h2, h3⟩ := sqN_ok hp 34 (monicL p f) 1 hm (by omega)
  rw [hl] at h2 h3
  exact ⟨ys, h1, Nat.le_trans (spl_len hp ys fun e he => ⟨(h2 e he).1, (h2 e he).2.1, by have := (h2 e he).2.2; omega⟩) h3, h2⟩
end
end Go.Poly
