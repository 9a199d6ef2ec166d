/- What a clash says of a round. -/
import Derived.Test.YtoghnhbjdnjghaaV17
namespace Go.Words
open Go.W Go.Proofs.Ytoghnhbjdnjghaa
/-- The reference looks at both sides, the program at the left ones: the same where no rule makes a string longer. -/
theorem fits_both {l : List Rl} (hd : Dn l) : fitsB l = (decide (l.length ≤ 64) && l.all fun r => decide (r.1.length ≤ 24) && decide (r.2.length ≤ 24)) := by
  unfold fitsB
  congr 1
  rw [Bool.eq_iff_iff, List.all_eq_true, List.all_eq_true]
  constructor
  · intro h r hr
    have h1 := of_decide_eq_true (h r hr)
    have h2 := hd r hr
    rw [Bool.and_eq_true, decide_eq_true_iff, decide_eq_true_iff]
    omega
  · intro h r hr
    exact (Bool.and_eq_true_iff.1 (h r hr)).1
theorem rndN_grow {l : List Rl} : ∀ (ps acc t : List Rl), rndN l ps acc = some t → acc.length ≤ t.length := by
  intro ps
  induction ps with
  | nil => intro acc t h; obtain rfl := Option.some.inj h; exact Nat.le_refl _
  | cons p ps ih =>
    intro acc t h
    rw [rndN_at rfl] at h
    cases hf : formsM l p with
    | none => rw [hf] at h; cases h
    | some q =>
      rw [hf] at h
      have := ih _ _ h
      split at this
      · exact this
      · rw [List.length_append] at this; omega
theorem rnd_none {l : List Rl} : ∀ (ps acc : List Rl) (i : Nat), clashN l ps i = none → rndN l ps acc = none := by
  intro ps
  induction ps with
  | nil => intro acc i h; cases h
  | cons p ps ih =>
    intro acc i h
    rw [clashN_at rfl] at h
    rw [rndN_at rfl]
    cases hf : formsM l p with
    | none => rfl
    | some q =>
      rw [hf] at h
      simp only at h ⊢
      split at h
      · exact ih _ _ h
      · cases h
theorem rnd_same {l : List Rl} : ∀ (ps acc : List Rl) (i : Nat) (n : Int), clashN l ps i = some n → n < 0 → rndN l ps acc = some acc := by
  intro ps
  induction ps with
  | nil => intro acc i n _ _; rfl
  | cons p ps ih =>
    intro acc i n h hn
    rw [clashN_at rfl] at h
    rw [rndN_at rfl]
    cases hf : formsM l p with
    | none => rw [hf] at h; cases h
    | some q =>
      rw [hf] at h
      simp only at h ⊢
      split at h
      · rename_i he; rw [if_pos he]; exact ih _ _ _ h hn
      · simp only [Option.some.injEq] at h; omega
theorem rnd_more {l : List Rl} : ∀ (ps acc t : List Rl) (i : Nat) (n : Int), clashN l ps i = some n → ¬ n < 0 → rndN l ps acc = some t → acc.length < t.length := by
  intro ps
  induction ps with
  | nil => intro acc t i n h hn; rw [clashN] at h; simp only [Option.some.injEq] at h; omega
  | cons p ps ih =>
    intro acc t i n h hn hr
    rw [clashN_at rfl] at h
    rw [rndN_at rfl] at hr
    cases hf : formsM l p with
    | none => rw [hf] at h; cases h
    | some q =>
      rw [hf] at h hr
      simp only at h hr
      split at h
      · rename_i he
        rw [if_pos he] at hr
        exact ih _ _ _ _ h hn hr
      · rename_i he
        rw [if_neg he] at hr
        have := rndN_grow _ _ _ hr
        rw [List.length_append, List.length_singleton] at this
        omega
theorem compN_none {t : List Rl} (j : Nat) (h : clashM t = none) : compN j t = none := by
  cases j with
  | zero => rw [compN, h]
  | succ j => rw [compN, show roundM t = none from rnd_none _ _ _ h]
theorem compN_conf {t : List Rl} {n : Int} (j : Nat) (h : clashM t = some n) (hn : n < 0) : compN j t = some (t, true) := by
  cases j with
  | zero => rw [compN, h]; simp only [decide_eq_true hn]
  | succ j => rw [compN, show roundM t = some t from rnd_same _ _ _ _ h hn]; simp only [if_true]
theorem compN_stop {t : List Rl} {n : Int} (h : clashM t = some n) (hn : ¬ n < 0) : compN 0 t = some (t, false) := by
  rw [compN, h]; simp only [decide_eq_false hn]
theorem compN_more {t : List Rl} {n : Int} (j : Nat) (h : clashM t = some n) (hn : ¬ n < 0) : compN (j + 1) t = match roundM t with
    | none => none
    | some nx => match settleM nx with
      | none => none
      | some u => compN j u := by
  rw [compN]
  cases hr : roundM t with
  | none => rfl
  | some nx =>
    have := rnd_more _ _ _ _ _ h hn hr
    simp only
    rw [if_neg (by omega)]
    cases settleM nx <;> rfl
end Go.Words
