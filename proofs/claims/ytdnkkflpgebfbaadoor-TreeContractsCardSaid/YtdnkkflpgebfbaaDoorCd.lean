/- Sums over the subsets of a set. -/
import Derived.Test.YtdnkkflpgebfbaaDoorMP
namespace Go.Tree
open Go.W

def sm : Nat → (Nat → Nat) → Nat
  | 0, _ => 0
  | N + 1, f => sm N f + f N
theorem sm_congr {f g : Nat → Nat} : ∀ (N : Nat), (∀ x, x < N → f x = g x) → sm N f = sm N g := by
  intro N
  induction N with
  | zero => intro _; rfl
  | succ N ih => intro h; rw [sm, sm, ih (fun x hx => h x (by omega)), h N (by omega)]
theorem sm_le {f g : Nat → Nat} : ∀ (N : Nat), (∀ x, x < N → f x ≤ g x) → sm N f ≤ sm N g := by
  intro N
  induction N with
  | zero => intro _; exact Nat.le_refl _
  | succ N ih => intro h; have h1 := ih (fun x hx => h x (by omega)); have h2 := h N (by omega); rw [sm, sm]; omega
theorem sm_zero : ∀ (N : Nat), sm N (fun _ => 0) = 0 := by
  intro N
  induction N with
  | zero => rfl
  | succ N ih => rw [sm, ih]
theorem sm_add (f g : Nat → Nat) : ∀ (N : Nat), sm N (fun x => f x + g x) = sm N f + sm N g := by
  intro N
  induction N with
  | zero => rfl
  | succ N ih => rw [sm, sm, sm, ih]; omega
theorem sm_mul (c : Nat) (f : Nat → Nat) : ∀ (N : Nat), sm N (fun x => c * f x) = c * sm N f := by
  intro N
  induction N with
  | zero => rfl
  | succ N ih => rw [sm, sm, ih, Nat.mul_add]
theorem sm_swap (f : Nat → Nat → Nat) (M : Nat) : ∀ (N : Nat), sm N (fun x => sm M (fun y => f x y)) = sm M (fun y => sm N (fun x => f x y)) := by
  intro N
  induction N with
  | zero => simp only [sm]; rw [sm_zero]
  | succ N ih => simp only [sm]; rw [ih, ← sm_add]
theorem sm_more {f : Nat → Nat} {N : Nat} : ∀ (M : Nat), N ≤ M → (∀ x, N ≤ x → x < M → f x = 0) → sm M f = sm N f := by
  intro M
  induction M with
  | zero => intro h _; rw [show N = 0 by omega]
  | succ M ih =>
    intro h hz
    rcases Nat.lt_or_ge M N with h1 | h1
    · rw [show N = M + 1 by omega]
    · rw [sm, hz M h1 (by omega), ih h1 (fun x h2 h3 => hz x h2 (by omega)), Nat.add_zero]

theorem next_sub : ∀ (R x p : Nat), x &&& R = x → p &&& R = p → x < p → x ≤ (p - 1) &&& R := by
  intro R
  induction R using Nat.strongRecOn with
  | _ R ih =>
  intro x p hx hp hlt
  rcases Nat.eq_zero_or_pos R with h0 | h0
  · subst h0; rw [Nat.and_zero] at hp; omega
  have x2 : (x / 2) &&& (R / 2) = x / 2 := by rw [← Nat.and_div_two, hx]
  have p2 : (p / 2) &&& (R / 2) = p / 2 := by rw [← Nat.and_div_two, hp]
  have odd : ∀ a b : Nat, (a &&& b) % 2 = (if a % 2 = 1 ∧ b % 2 = 1 then 1 else 0) := by
    intro a b
    have h := Nat.testBit_and a b 0
    simp only [Nat.testBit_zero] at h
    by_cases h1 : (a &&& b) % 2 = 1
    · rw [h1] at h ⊢
      rw [if_pos (by simpa using h.symm)]
    · rw [decide_eq_false h1] at h
      rw [if_neg (by simpa using h.symm)]
      omega
  have xm := odd x R
  have pm := odd p R
  rw [hx] at xm
  rw [hp] at pm
  have qd : ((p - 1) &&& R) / 2 = ((p - 1) / 2) &&& (R / 2) := Nat.and_div_two
  have qm := odd (p - 1) R
  rcases Nat.mod_two_eq_zero_or_one p with h1 | h1
  · have := ih (R / 2) (by omega) (x / 2) (p / 2) x2 p2 (by omega)
    rw [show (p - 1) / 2 = p / 2 - 1 by omega] at qd
    rw [← qd] at this
    by_cases hr : R % 2 = 1
    · rw [if_pos ⟨by omega, hr⟩] at qm; omega
    · rw [if_neg (fun h => hr h.2)] at qm xm; omega
  · rw [show (p - 1) / 2 = p / 2 by omega, p2] at qd
    omega
/-- The sum over the subsets of R. -/
def ss (R : Nat) (f : Nat → Nat) : Nat := sm (R + 1) fun x => if x &&& R = x then f x else 0
theorem ss_up {R N : Nat} (h : R < N) (f : Nat → Nat) : sm N (fun x => if x &&& R = x then f x else 0) = ss R f := by
  refine sm_more N h fun x h1 _ => ?_
  rw [if_neg]
  intro hx
  have : x &&& R ≤ R := Nat.and_le_right
  omega
theorem subs_fold (R : Nat) (f : Nat → Nat) : ∀ (p a : Nat), p &&& R = p → (subsR R p).foldl (fun a x => a + f x) a = a + sm (p + 1) (fun x => if x &&& R = x then f x else 0) := by
  intro p
  induction p using Nat.strongRecOn with
  | _ p ih =>
  intro a hp
  by_cases h0 : p = 0
  · subst h0
    rw [subsR_zero]
    simp [sm]
  · have hq : (p - 1) &&& R ≤ p - 1 := Nat.and_le_left
    rw [subsR_step h0, List.foldl_cons, ih _ (by omega) _ (by rw [Nat.and_assoc, Nat.and_self])]
    have e1 : sm (p + 1) (fun x => if x &&& R = x then f x else 0) = sm p (fun x => if x &&& R = x then f x else 0) + f p := by
      rw [sm, if_pos hp]
    have e2 : sm p (fun x => if x &&& R = x then f x else 0) = sm (((p - 1) &&& R) + 1) (fun x => if x &&& R = x then f x else 0) := by
      refine sm_more p (by omega) fun x h1 h2 => ?_
      rw [if_neg]
      intro hx
      have := next_sub R x p hx hp h2
      omega
    rw [e1, e2]
    omega
theorem subs_ss (R : Nat) (f : Nat → Nat) (a : Nat) : (subsR R R).foldl (fun a x => a + f x) a = a + ss R f := subs_fold R f R a (Nat.and_self R)
end Go.Tree
