/- What the program's functions on polynomials reckon, in plain terms: quotients, common divisors, powers, kernels, factors, counts. -/
import Derived.Test.YtagfpnnplgkkoaaQd
namespace Go.Poly

/-- The inverse mod p: the first number that serves. -/
def iv (p n : Nat) : Nat := ((List.range p).find? fun v => n * v % p == 1).getD 0
theorem iv_of {p n v : Nat} (hp : Pri p) (hv : v < p) (h : n * v % p = 1) : iv p n = v := by
  have key : ∀ u, u < p → n * u % p = 1 → u = v := by
    intro u hu h1
    have c1 : u * (n * v) % p = u % p := by rw [Nat.mul_mod, h, Nat.mul_one, Nat.mod_mod]
    have c2 : u * (n * v) = v * (n * u) := by rw [Nat.mul_left_comm, Nat.mul_comm u v, Nat.mul_left_comm]
    have c3 : v * (n * u) % p = v % p := by rw [Nat.mul_mod, h1, Nat.mul_one, Nat.mod_mod]
    rw [c2, c3, Nat.mod_eq_of_lt hv, Nat.mod_eq_of_lt hu] at c1
    exact c1.symm
  unfold iv
  cases hf : (List.range p).find? fun v => n * v % p == 1 with
  | none =>
    rw [List.find?_eq_none] at hf
    exact absurd (by simpa using h) (hf v (by simpa using hv))
  | some u =>
    have h1 := List.find?_some hf
    have h2 := List.mem_of_find?_eq_some hf
    exact key u (by simpa using h2) (by simpa using h1)
theorem iv_lt {p : Nat} (hp0 : 0 < p) (n : Nat) : iv p n < p := by
  unfold iv
  cases hf : (List.range p).find? fun v => n * v % p == 1 with
  | none => exact hp0
  | some u => simpa using List.mem_of_find?_eq_some hf
/-- Every number but 0 has an inverse mod a prime. -/
theorem inv_ex {p : Nat} (hp : Pri p) : ∀ (m n : Nat), n ≤ m → 0 < n → n < p → ∃ v, v < p ∧ n * v % p = 1
  | 0, n, h, h0, _ => by omega
  | m + 1, n, h, h0, hn => by
    have hp2 := hp.1
    by_cases h1 : n = 1
    · subst h1; exact ⟨1, by omega, by rw [Nat.mul_one]; exact one_ne hp⟩
    have hr : 0 < p % n := by
      rcases Nat.eq_zero_or_pos (p % n) with h2 | h2
      · rcases hp.2 n (Nat.dvd_of_mod_eq_zero h2) with h3 | h3 <;> omega
      · exact h2
    have hrn := Nat.mod_lt p h0
    obtain ⟨v, hv, hv1⟩ := inv_ex hp m (p % n) (by omega) hr (by omega)
    have hd := Nat.div_add_mod p n
    refine ⟨(p - p / n * v % p) % p, Nat.mod_lt _ (by omega), ?_⟩
    have hlt : p / n * v % p < p := Nat.mod_lt _ (by omega)
    have e0 : (n * (p / n * v) + p % n * v) % p = 0 := by
      rw [← Nat.mul_assoc, ← Nat.add_mul, hd]; exact Nat.mul_mod_right _ _
    have e1 : (n * (p / n * v) + 1) % p = 0 := by
      rw [Nat.add_mod, hv1] at e0
      rw [Nat.add_mod, one_ne hp]; exact e0
    have e2 : (n * (p - p / n * v % p) + n * (p / n * v)) % p = 0 := by
      rw [Nat.add_mod, Nat.mul_mod n (p / n * v), ← Nat.mul_mod n, ← Nat.mul_mod_mod n (p / n * v), ← Nat.add_mod, ← Nat.mul_add, Nat.sub_add_cancel (Nat.le_of_lt hlt)]
      exact Nat.mul_mod_left _ _
    rw [Nat.mul_mod_mod]
    generalize n * (p / n * v) = z at *
    generalize n * (p - p / n * v % p) = y at *
    have h3 : (y + (z + 1)) % p = 1 % p := by rw [← Nat.add_assoc, Nat.add_mod, e2, Nat.zero_add, Nat.mod_mod]
    rw [Nat.add_mod, e1, Nat.add_zero, Nat.mod_mod, one_ne hp] at h3
    exact h3
theorem iv_mul {p n : Nat} (hp : Pri p) (h0 : 0 < n) (hn : n < p) : n * iv p n % p = 1 := by
  obtain ⟨v, hv, h1⟩ := inv_ex hp n n (Nat.le_refl _) h0 hn
  rw [iv_of hp hv h1]; exact h1

/-! ### Quotients and common divisors -/
def quoL (p : Nat) (f g : List Nat) : List Nat := (divL p f g (iv p (co g (g.length - 1)))).1
def remL (p : Nat) (f g : List Nat) : List Nat := (divL p f g (iv p (co g (g.length - 1)))).2
def scaleL (p : Nat) (f : List Nat) (c : Nat) : List Nat := mulL p f (trimL [c % p])
def monicL (p : Nat) (f : List Nat) : List Nat := if f = [] then [] else scaleL p f (iv p (co f (f.length - 1)))
def gcdN (p : Nat) : Nat → List Nat → List Nat → List Nat
  | 0, f, _ => monicL p f
  | k + 1, f, g => if g = [] then monicL p f else gcdN p k g (remL p f g)
def gcdL (p : Nat) (f g : List Nat) : List Nat := gcdN p g.length f g
/-- Euclid's way with the factors that lead to what it leaves: a, a1, a2. -/
def bezN (p : Nat) : Nat → List Nat → List Nat → List Nat → List Nat → List Nat → List Nat → List Nat × List Nat × List Nat
  | 0, a, _, a1, _, a2, _ => (a, a1, a2)
  | k + 1, a, b, a1, b1, a2, b2 => if b = [] then (a, a1, a2) else
      bezN p k b (remL p a b) b1 (subL p a1 (mulL p (quoL p a b) b1)) b2 (subL p a2 (mulL p (quoL p a b) b2))
def bezE (p : Nat) (s : List Nat × List Nat × List Nat) : List Nat × List Nat × List Nat :=
  if s.1 = [] then ([], [], []) else
    (scaleL p s.1 (iv p (co s.1 (s.1.length - 1))), scaleL p s.2.1 (iv p (co s.1 (s.1.length - 1))), scaleL p s.2.2 (iv p (co s.1 (s.1.length - 1))))
def bezL (p : Nat) (f g : List Nat) : List Nat × List Nat × List Nat := bezE p (bezN p g.length f g [1] [] [] [1])

theorem top_pos {p : Nat} {g : List Nat} (hg : IsP p g) (hg0 : 0 < g.length) : 0 < co g (g.length - 1) := by
  have := hg.2.resolve_left (fun e => by subst e; simp at hg0)
  omega
section
variable {p : Nat} (hp : Pri p) {f g : List Nat} (hf : IsP p f) (hg : IsP p g) (hg0 : 0 < g.length)
include hp hg hg0
theorem lead_ok : co g (g.length - 1) * iv p (co g (g.length - 1)) % p = 1 % p := by
  rw [iv_mul hp (top_pos hg hg0) (hg.co hp.pos _), one_ne hp]
include hf
theorem quo_isP : IsP p (quoL p f g) := (div_isP hp hf hg hg0 (lead_ok hp hg hg0)).1
theorem rem_isP : IsP p (remL p f g) := (div_isP hp hf hg hg0 (lead_ok hp hg hg0)).2.1
theorem rem_lt : (remL p f g).length < g.length := (div_isP hp hf hg hg0 (lead_ok hp hg hg0)).2.2
theorem quo_rem : addL p (mulL p (quoL p f g) g) (remL p f g) = f := div_eq hp hf hg hg0 (lead_ok hp hg hg0)
end
theorem quo_len {p : Nat} {f g : List Nat} (h : g.length ≤ f.length) : (quoL p f g).length = f.length - g.length + 1 := by
  unfold quoL divL
  rw [if_neg (by omega)]
  exact fl_len _ _
theorem quo_le (p : Nat) (f : List Nat) {g : List Nat} (h : 0 < g.length) : (quoL p f g).length ≤ f.length := by
  by_cases h1 : g.length ≤ f.length
  · rw [quo_len h1]; omega
  · unfold quoL divL
    rw [if_pos (by omega)]; simp
theorem mul_len {p : Nat} {f g : List Nat} (hf : 0 < f.length) (hg : 0 < g.length) : (mulL p f g).length = f.length + g.length - 1 := by
  unfold mulL
  rw [if_neg (by rintro (h | h) <;> subst h <;> simp at hf hg), fl_len]
theorem mul_len_le (p : Nat) (f g : List Nat) : (mulL p f g).length ≤ f.length + g.length := by
  unfold mulL
  split
  · simp
  · rw [fl_len]; omega
theorem isP_nil (p : Nat) : IsP p [] := ⟨(fun c hc => by cases hc), .inl rfl⟩
theorem isP_one {p : Nat} (hp : Pri p) : IsP p [1] := ⟨(fun c hc => by have := hp.1; simp at hc; omega), .inr (by simp [co])⟩
theorem isP_const {p : Nat} (hp0 : 0 < p) (c : Nat) : IsP p (trimL [c % p]) := trim_isP fun x hx => by simp at hx; rw [hx]; exact Nat.mod_lt _ hp0
theorem const_of {p c : Nat} (h : 0 < c) (hc : c < p) : trimL [c % p] = [c] := by
  rw [Nat.mod_eq_of_lt hc]
  exact trim_id (.inr (by simp [co]; omega))
theorem scale_isP {p : Nat} (hp : Pri p) {f : List Nat} (hf : IsP p f) (c : Nat) : IsP p (scaleL p f c) := mul_isP hp hf (isP_const hp.pos c)
theorem scale_len {p : Nat} {f : List Nat} {c : Nat} (h : 0 < c) (hc : c < p) : (scaleL p f c).length = f.length := by
  unfold scaleL
  rw [const_of h hc]
  by_cases hf : f = []
  · subst hf; simp [mulL]
  · rw [mul_len (List.length_pos_iff.2 hf) (by simp)]; simp
theorem iv_pos {p n : Nat} (hp : Pri p) (h0 : 0 < n) (hn : n < p) : 0 < iv p n := by
  have := iv_mul hp h0 hn
  rcases Nat.eq_zero_or_pos (iv p n) with h | h
  · rw [h, Nat.mul_zero, Nat.zero_mod] at this; omega
  · exact h
theorem monic_isP {p : Nat} (hp : Pri p) {f : List Nat} (hf : IsP p f) : IsP p (monicL p f) := by
  unfold monicL
  split
  · exact isP_nil p
  · exact scale_isP hp hf _
theorem monic_len {p : Nat} (hp : Pri p) {f : List Nat} (hf : IsP p f) : (monicL p f).length = f.length := by
  unfold monicL
  split
  · rename_i h; rw [h]
  · rename_i h
    have h0 := List.length_pos_iff.2 h
    exact scale_len (iv_pos hp (top_pos hf h0) (hf.co hp.pos _)) (iv_lt hp.pos _)
theorem gcd_isP {p : Nat} (hp : Pri p) : ∀ (k : Nat) (f g : List Nat), IsP p f → IsP p g → IsP p (gcdN p k f g)
  | 0, f, g, hf, _ => monic_isP hp hf
  | k + 1, f, g, hf, hg => by
    unfold gcdN
    split
    · exact monic_isP hp hf
    · rename_i h
      exact gcd_isP hp k g _ hg (rem_isP hp hf hg (List.length_pos_iff.2 h))
/-- The common divisor is not longer than the second one. -/
theorem gcd_len {p : Nat} (hp : Pri p) : ∀ (k : Nat) (f g : List Nat), IsP p f → IsP p g → 0 < g.length → g.length ≤ k → 0 < (gcdN p k f g).length ∧ (gcdN p k f g).length ≤ g.length
  | 0, f, g, _, _, h0, h1 => by omega
  | k + 1, f, g, hf, hg, h0, h1 => by
    unfold gcdN
    rw [if_neg (by intro e; subst e; simp at h0)]
    have hr := rem_lt hp hf hg h0
    have hrp := rem_isP hp hf hg h0
    rcases Nat.eq_zero_or_pos (remL p f g).length with h | h
    · have hn : remL p f g = [] := List.length_eq_zero_iff.1 h
      rw [hn]
      have : gcdN p k g [] = monicL p g := by cases k <;> simp [gcdN]
      rw [this, monic_len hp hg]; omega
    · have := gcd_len hp k g (remL p f g) hg hrp h (by omega)
      omega
theorem gcd_nil {p : Nat} (f : List Nat) (k : Nat) : gcdN p k f [] = monicL p f := by cases k <;> simp [gcdN]

/-! ### Derivatives, roots, powers -/
def slopeL (p : Nat) (f : List Nat) : List Nat := trimL (fl (f.length - 1) fun i => (i + 1) * co f (i + 1) % p)
def rootL (p : Nat) (f : List Nat) : List Nat := fl ((f.length + p - 1) / p) fun i => co f (i * p)
def powN (p : Nat) (m : List Nat) : Nat → List Nat → List Nat → Nat → List Nat
  | 0, out, _, _ => out
  | k + 1, out, f, e => if e = 0 then out else powN p m k (if e % 2 = 1 then remL p (mulL p out f) m else out) (remL p (mulL p f f) m) (e / 2)
def powL (p : Nat) (f : List Nat) (e : Nat) (m : List Nat) : List Nat := powN p m e [1] f e

/-! ### The kernel -/
/-- x^p modulo f. -/
def xpL (p : Nat) (f : List Nat) : List Nat := powL p (remL p [0, 1] f) p f
/-- The powers of x^p modulo f. -/
def atL (p : Nat) (f x : List Nat) : Nat → List Nat
  | 0 => [1]
  | i + 1 => remL p (mulL p (atL p f x i) x) f
abbrev Mat := Nat → Nat → Nat
def mat0 (p n : Nat) (f x : List Nat) : Mat := fun i j => if j = n + i then 1 else if j = i then (co (atL p f x i) i + (p - 1)) % p else co (atL p f x i) j
def findK (M : Mat) (n c : Nat) : Nat → Nat → Nat
  | 0, k => k
  | r + 1, k => if k < n ∧ M k c = 0 then findK M n c r (k + 1) else k
def swapM (M : Mat) (a b : Nat) : Mat := fun i => if i = a then M b else if i = b then M a else M i
def elimM (p n d c : Nat) (M : Mat) : Mat := fun i j => if d < i ∧ i < n then (M i j + (p - M i c * iv p (M d c) % p) * M d j) % p else M i j
def elim1 (p n c : Nat) (s : Nat × Mat) : Nat × Mat :=
  if findK s.2 n c n s.1 < n then (s.1 + 1, elimM p n s.1 c (swapM s.2 s.1 (findK s.2 n c n s.1))) else s
def elimG (p n : Nat) : Nat → Nat × Mat → Nat × Mat
  | 0, s => s
  | c + 1, s => elim1 p n c (elimG p n c s)
def kernM (p n : Nat) (M : Mat) : List (List Nat) :=
  (List.range (n - (elimG p n n (0, M)).1)).map fun i => trimL (fl n fun j => (elimG p n n (0, M)).2 ((elimG p n n (0, M)).1 + i) (n + j))
def kernL (p : Nat) (f : List Nat) : List (List Nat) := kernM p (f.length - 1) (mat0 p (f.length - 1) f (xpL p f))

/-! ### Factors -/
def cutG (p : Nat) (v : List Nat) (c : Nat) (g : List Nat) : List (List Nat) :=
  if 1 < (gcdL p g (subL p v (trimL [c]))).length ∧ (gcdL p g (subL p v (trimL [c]))).length < g.length then [gcdL p g (subL p v (trimL [c])), quoL p g (gcdL p g (subL p v (trimL [c])))] else [g]
/-- From c on, r numbers more. -/
def splitC (p m : Nat) (v : List Nat) : Nat → Nat → List (List Nat) → List (List Nat)
  | 0, _, ps => ps
  | r + 1, c, ps => if ps.length = m then ps else splitC p m v r (c + 1) (ps.flatMap (cutG p v c))
def splitV (p m : Nat) : List (List Nat) → List (List Nat) → List (List Nat)
  | [], ps => ps
  | v :: vs, ps => splitV p m vs (splitC p m v p 0 ps)
def splitL (p : Nat) (f : List Nat) : List (List Nat) := splitV p (kernL p f).length (kernL p f) [f]
def isPB (p : Nat) (f : List Nat) : Bool := f.all (fun c => decide (c < p)) && (f.isEmpty || co f (f.length - 1) != 0)
abbrev Yds := List (List Nat × Nat)
/-- The inner loop: what is yielded, and the rest. -/
def sqW (p times : Nat) : Nat → Nat → List Nat → List Nat → Yds × List Nat
  | 0, _, _, rest => ([], rest)
  | n + 1, k, w, rest => if 1 < w.length then
      ((if 1 < (quoL p w (gcdL p w rest)).length then [(quoL p w (gcdL p w rest), k)] else []) ++ (sqW p times n (k + times) (gcdL p w rest) (quoL p rest (gcdL p w rest))).1,
        (sqW p times n (k + times) (gcdL p w rest) (quoL p rest (gcdL p w rest))).2)
    else ([], rest)
/-- The polynomials without multiple factors, with their exponents; none where a list on the way is no polynomial. -/
def sqN (p : Nat) : Nat → List Nat → Nat → Option Yds
  | 0, _, _ => none
  | n + 1, f, times => if f.length ≤ 1 then some [] else if isPB p f = false then none else
      if slopeL p f = [] then sqN p n (rootL p f) (times * p) else
        match sqN p n (rootL p (sqW p times (f.length + 1) times (quoL p f (gcdL p f (slopeL p f))) (gcdL p f (slopeL p f))).2) (times * p) with
        | none => none
        | some l => some ((sqW p times (f.length + 1) times (quoL p f (gcdL p f (slopeL p f))) (gcdL p f (slopeL p f))).1 ++ l)
def sqL (p : Nat) (f : List Nat) : Option Yds := sqN p 34 f 1
def lsR : List Nat → List Nat → Bool
  | [], _ => false
  | _, [] => false
  | a :: f, b :: g => decide (a < b) || (a == b && lsR f g)
/-- What comes first: by degree, then by the coefficients, the last one first. -/
def lsP (f g : List Nat) : Bool := decide (f.length < g.length) || (f.length == g.length && lsR f.reverse g.reverse)
def insP (x : List Nat × Nat) : Yds → Yds
  | [] => [x]
  | y :: ys => if lsP x.1 y.1 then x :: y :: ys else y :: insP x ys
def sortP (l : Yds) : Yds := l.foldl (fun acc x => insP x acc) []
def facsL (p : Nat) (f : List Nat) : Option Yds := (sqL p f).map fun l => l.flatMap fun e => (splitL p e.1).map fun h => (h, e.2)
def irrL (p : Nat) (f : List Nat) : Bool := decide (2 ≤ f.length) && ((gcdL p f (slopeL p f)).length == 1 && (kernL p (monicL p f)).length == 1)
def nextF (p : Nat) : List Nat → List Nat
  | [] => []
  | c :: f => if c = p - 1 then 0 :: nextF p f else (c + 1) :: f
def firstN (p : Nat) : Nat → List Nat → Option (List Nat)
  | 0, _ => none
  | k + 1, f => if irrL p f then some f else firstN p k (nextF p f)
end Go.Poly
