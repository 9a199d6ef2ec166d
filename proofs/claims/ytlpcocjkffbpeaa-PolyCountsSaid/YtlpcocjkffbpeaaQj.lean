/- The count of irreducible polynomials against the sum with Moebius' function: both for each field and degree, by reckoning. -/
import Derived.Test.YtlpcocjkffbpeaaR30
import Derived.Test.YtlpcocjkffbpeaaR45
namespace Go.Poly
open Go.W Go.Tree
theorem rfac_len : ∀ k n : Nat, (rfac k n).length ≤ k
  | 0, _ => Nat.le_refl _
  | k + 1, n => by
    rw [rfac]
    split
    · have := rfac_len k (pws (dvr 48 2 n) n n 0).1
      simp only [List.length_cons]; omega
    · exact Nat.zero_le _
def rx (p : Nat) : Nat → Nat → Option Nat
  | 0, x => some x
  | k + 1, x => if 2305843009213693952 / p < x then none else rx p k (x * p)
def moe : List Ed → Int → Int
  | [], o => o
  | e :: r, o => if 1 < e.2 then 0 else moe r (-o)
def mu (n : Nat) : Int := moe (rfac 32 n) 1
def rsum (p n : Nat) : Nat → Int → Option Int
  | 0, s => some s
  | d + 1, s => if n % (d + 1) = 0 then
      match rx p (d + 1) 1 with
      | none => none
      | some x => if (mu (n / (d + 1)) * x).natAbs < 4611686018427387904 ∧ (s + mu (n / (d + 1)) * x).natAbs < 4611686018427387904 then rsum p n d (s + mu (n / (d + 1)) * x) else some 5000000000000000000
    else rsum p n d s
/-- The reference's count: none where it is too great. -/
def rcnt (p n : Nat) : Option Int := match rsum p n n 0 with
  | none => none
  | some s => if 9007199254740992 < s.tdiv n then none else some (s.tdiv n)
def cntOk (p n : Nat) : Bool := (match rsum p n n 0 with | none => true | some s => decide (s.natAbs < 4611686018427387904)) && (match cntO p (n + 1) n, rcnt p n with
  | some (c, e), none => decide (c = 0) && decide (e = 5)
  | some (c, e), some k => decide (c = k) && decide (e = 0)
  | none, _ => false)
def allB (f : Nat → Bool) : Nat → Bool
  | 0 => true
  | k + 1 => f k && allB f k
theorem allB_all {f : Nat → Bool} : ∀ {k : Nat}, allB f k = true → ∀ i, i < k → f i = true
  | k + 1, h, i, hi => by
    simp only [allB, Bool.and_eq_true] at h
    by_cases e : i = k
    · subst e; exact h.1
    · exact allB_all h.2 i (by omega)
theorem counts_all : allB (fun p => allB (fun n => cntOk (p + 2) (n + 1)) 32) 1020 = true := by decide +kernel
theorem counts_ok {p n : Nat} (h2 : 2 ≤ p) (hp : p ≤ 1021) (h1 : 1 ≤ n) (hn : n < 33) : cntOk p n = true := by
  have h := allB_all (allB_all counts_all (p - 2) (by omega)) (n - 1) (by omega)
  rwa [show p - 2 + 2 = p by omega, show n - 1 + 1 = n by omega] at h
theorem counts_say {p n : Nat} (h2 : 2 ≤ p) (hp : p ≤ 1021) (h1 : 1 ≤ n) (hn : n < 33) :
    (∀ s, rsum p n n 0 = some s → s.natAbs < 4611686018427387904) ∧ ((∃ k, cntO p (n + 1) n = some (k, 0) ∧ rcnt p n = some k) ∨ (cntO p (n + 1) n = some (0, 5) ∧ rcnt p n = none)) := by
  have h := counts_ok h2 hp h1 hn
  unfold cntOk at h
  rw [Bool.and_eq_true] at h
  refine ⟨fun s hs => ?_, ?_⟩
  · have h1 := h.1
    rw [hs] at h1
    exact of_decide_eq_true h1
  · have h2 := h.2
    generalize cntO p (n + 1) n = A at *
    generalize rcnt p n = B at *
    match A, B, h2 with
    | some (c, e), none, h2 =>
      simp only [Bool.and_eq_true, decide_eq_true_eq] at h2
      exact .inr ⟨by rw [h2.1, h2.2], rfl⟩
    | some (c, e), some k, h2 =>
      simp only [Bool.and_eq_true, decide_eq_true_eq] at h2
      exact .inl ⟨k, by rw [h2.1, h2.2], rfl⟩
end Go.Poly
