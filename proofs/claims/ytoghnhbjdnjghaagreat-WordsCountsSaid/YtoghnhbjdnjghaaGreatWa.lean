/- Strings rewritten by rules, in plain words. -/
import Derived.Test.YtoghnhbjdnjghaaGreatSW
import Derived.Lib.Bytealg
import Derived.Lib.Small
namespace Go.Words
open Go.W
abbrev Rl := Str × Str
def cmpB (a b : Str) : Int := Lib.compareBytes a b
theorem cmpB_self : ∀ a : Str, cmpB a a = 0 := by
  intro a
  induction a with
  | nil => rfl
  | cons c a ih =>
    show (if c < c then (-1 : Int) else if c < c then 1 else cmpB a a) = 0
    rw [if_neg (by exact UInt8.lt_irrefl c), if_neg (by exact UInt8.lt_irrefl c), ih]
theorem cmpB_rng : ∀ a b : Str, cmpB a b = -1 ∨ cmpB a b = 0 ∨ cmpB a b = 1 := by
  intro a
  induction a with
  | nil => intro b; cases b with | nil => exact .inr (.inl rfl) | cons c b => exact .inl rfl
  | cons c a ih =>
    intro b
    cases b with
    | nil => exact .inr (.inr rfl)
    | cons d b =>
      show ((if c < d then (-1 : Int) else if d < c then 1 else cmpB a b) = -1) ∨ ((if c < d then (-1 : Int) else if d < c then 1 else cmpB a b) = 0) ∨ ((if c < d then (-1 : Int) else if d < c then 1 else cmpB a b) = 1)
      split
      · exact .inl rfl
      · split
        · exact .inr (.inr rfl)
        · exact ih b
theorem u8_tri (c d : UInt8) : c < d ∨ c = d ∨ d < c := by
  rcases Nat.lt_trichotomy c.toNat d.toNat with h | h | h
  · exact .inl (UInt8.lt_iff_toNat_lt.2 h)
  · exact .inr (.inl (UInt8.toNat_inj.1 h))
  · exact .inr (.inr (UInt8.lt_iff_toNat_lt.2 h))
theorem u8_asym {c d : UInt8} (h : c < d) : ¬ d < c := fun k => by
  have h1 := UInt8.lt_iff_toNat_lt.1 h
  have h2 := UInt8.lt_iff_toNat_lt.1 k
  omega
theorem u8_tr {c d e : UInt8} (h : c < d) (k : d < e) : c < e := by
  have h1 := UInt8.lt_iff_toNat_lt.1 h
  have h2 := UInt8.lt_iff_toNat_lt.1 k
  exact UInt8.lt_iff_toNat_lt.2 (by omega)
theorem cmpB_cons (c d : UInt8) (a b : Str) : cmpB (c :: a) (d :: b) = if c < d then (-1 : Int) else if d < c then 1 else cmpB a b := rfl
theorem cmpB_neg : ∀ a b : Str, cmpB b a = - cmpB a b := by
  intro a
  induction a with
  | nil => intro b; cases b <;> rfl
  | cons c a ih =>
    intro b
    cases b with
    | nil => rfl
    | cons d b =>
      rw [cmpB_cons, cmpB_cons]
      rcases u8_tri c d with h | rfl | h
      · rw [if_neg (u8_asym h), if_pos h, if_pos h]; rfl
      · rw [if_neg (UInt8.lt_irrefl c), if_neg (UInt8.lt_irrefl c), if_neg (UInt8.lt_irrefl c), if_neg (UInt8.lt_irrefl c), ih]
      · rw [if_pos h, if_neg (u8_asym h), if_pos h]
theorem cmpB_zero : ∀ a b : Str, cmpB a b = 0 → a = b := by
  intro a
  induction a with
  | nil => intro b h; cases b with | nil => rfl | cons c b => cases h
  | cons c a ih =>
    intro b h
    cases b with
    | nil => cases h
    | cons d b =>
      rw [cmpB_cons] at h
      rcases u8_tri c d with k | rfl | k
      · rw [if_pos k] at h; cases h
      · rw [if_neg (UInt8.lt_irrefl c), if_neg (UInt8.lt_irrefl c)] at h; rw [ih b h]
      · rw [if_neg (u8_asym k), if_pos k] at h; cases h
theorem cmpB_trans : ∀ a b c : Str, cmpB a b < 0 → cmpB b c < 0 → cmpB a c < 0 := by
  intro a
  induction a with
  | nil =>
    intro b c h k
    cases c with
    | nil => cases b with | nil => exact h | cons y b => exact absurd k (show ¬ (1 : Int) < 0 by decide)
    | cons z c => exact (show (-1 : Int) < 0 by decide)
  | cons x a ih =>
    intro b c h k
    cases b with
    | nil => exact absurd h (show ¬ (1 : Int) < 0 by decide)
    | cons y b =>
      cases c with
      | nil => exact absurd k (show ¬ (1 : Int) < 0 by decide)
      | cons z c =>
        rw [cmpB_cons] at h k ⊢
        rcases u8_tri x y with p | rfl | p
        · rcases u8_tri y z with q | rfl | q
          · rw [if_pos (u8_tr p q)]; decide
          · rw [if_pos p]; decide
          · rw [if_neg (u8_asym q), if_pos q] at k; exact absurd k (by decide)
        · rw [if_neg (UInt8.lt_irrefl x), if_neg (UInt8.lt_irrefl x)] at h
          rcases u8_tri x z with q | rfl | q
          · rw [if_pos q]; decide
          · rw [if_neg (UInt8.lt_irrefl x), if_neg (UInt8.lt_irrefl x)] at k ⊢
            exact ih b c h k
          · rw [if_neg (u8_asym q), if_pos q] at k; exact absurd k (by decide)
        · rw [if_neg (u8_asym p), if_pos p] at h; exact absurd h (by decide)
theorem ltS_cmp : ∀ a b : Str, ltS a b = decide (cmpB a b < 0) := by
  intro a
  induction a with
  | nil => intro b; cases b with | nil => rfl | cons c b => rfl
  | cons c a ih =>
    intro b
    cases b with
    | nil => rfl
    | cons d b =>
      show (decide (c < d) || (c == d && ltS a b)) = _
      rw [cmpB_cons, ih]
      rcases u8_tri c d with h | rfl | h
      · rw [if_pos h, decide_eq_true h]; rfl
      · rw [if_neg (UInt8.lt_irrefl c), if_neg (UInt8.lt_irrefl c), decide_eq_false (UInt8.lt_irrefl c)]; simp
      · have hne : (c == d) = false := by
          rw [beq_eq_false_iff_ne]; rintro rfl; exact UInt8.lt_irrefl c h
        rw [if_neg (u8_asym h), if_pos h, decide_eq_false (u8_asym h), hne]; rfl

def ordS (a b : Str) : Int := if a.length < b.length then -1 else if b.length < a.length then 1 else cmpB a b
theorem ordS_self (a : Str) : ordS a a = 0 := by unfold ordS; rw [if_neg (Nat.lt_irrefl _), if_neg (Nat.lt_irrefl _), cmpB_self]
theorem ordS_neg (a b : Str) : ordS b a = - ordS a b := by
  unfold ordS
  rcases Nat.lt_trichotomy a.length b.length with h | h | h
  · rw [if_neg (by omega), if_pos h, if_pos h]; rfl
  · rw [if_neg (by omega), if_neg (by omega), if_neg (by omega), if_neg (by omega), cmpB_neg]
  · rw [if_pos h, if_neg (by omega), if_pos h]
theorem ordS_zero {a b : Str} (h : ordS a b = 0) : a = b := by
  unfold ordS at h
  split at h
  · cases h
  · split at h
    · cases h
    · exact cmpB_zero a b h
theorem ordS_rng (a b : Str) : ordS a b = -1 ∨ ordS a b = 0 ∨ ordS a b = 1 := by
  unfold ordS
  split
  · exact .inl rfl
  · split
    · exact .inr (.inr rfl)
    · exact cmpB_rng a b
theorem ordS_trans {a b c : Str} (h : ordS a b < 0) (k : ordS b c < 0) : ordS a c < 0 := by
  unfold ordS at *
  rcases Nat.lt_trichotomy a.length b.length with h1 | h1 | h1
  · rcases Nat.lt_trichotomy b.length c.length with h2 | h2 | h2
    · rw [if_pos (by omega)]; decide
    · rw [if_pos (by omega)]; decide
    · rw [if_neg (by omega), if_pos h2] at k; exact absurd k (by decide)
  · rcases Nat.lt_trichotomy b.length c.length with h2 | h2 | h2
    · rw [if_pos (by omega)]; decide
    · rw [if_neg (by omega), if_neg (by omega)] at *
      exact cmpB_trans a b c h k
    · rw [if_neg (by omega), if_pos h2] at k; exact absurd k (by decide)
  · rw [if_neg (by omega), if_pos h1] at h; exact absurd h (by decide)
theorem ordS_len {a b : Str} (h : ordS a b < 0) : a.length ≤ b.length := by
  unfold ordS at h
  split at h
  · omega
  · split at h
    · exact absurd h (by decide)
    · omega

def letB (c : UInt8) : Bool := decide (97 ≤ c.toNat) && decide (c.toNat ≤ 104)
def lettersB (s : Str) : Bool := s.all letB
def sideB (s : Str) : Bool := decide (s.length ≤ 24) && lettersB s
def eqnB (r : Rl) : Bool := sideB r.1 && sideB r.2
def sysB (l : List Rl) : Bool := decide (l.length ≤ 64) && l.all fun r => eqnB r && decide (0 < ordS r.1 r.2)
def strB (s : Str) : Bool := decide (s.length ≤ 200) && lettersB s

/-! ### Steps -/
def hit (l : List Rl) (s : Str) : Option Rl := l.find? fun r => r.1.isPrefixOf s
def firstM (l : List Rl) : Str → Option (Nat × Rl)
  | [] => none
  | c :: s => match hit l (c :: s) with
    | some r => some (0, r)
    | none => (firstM l s).map fun p => (p.1 + 1, p.2)
def replM (s : Str) (k : Nat) (r : Rl) : Str := s.take k ++ (r.2 ++ s.drop (k + r.1.length))
def normN (l : List Rl) : Nat → Nat → Str → Option (Str × Nat)
  | 0, n, s => match firstM l s with
    | none => some (s, n)
    | some _ => none
  | k + 1, n, s => match firstM l s with
    | none => some (s, n)
    | some p => normN l k (n + 1) (replM s p.1 p.2)
def normM (l : List Rl) (s : Str) : Option (Str × Nat) := normN l 20000 0 s

theorem firstM_hit {l : List Rl} {s : Str} {i : Nat} {r : Rl} (hi : i < s.length) (h : hit l (s.drop i) = some r) : firstM l (s.drop i) = some (0, r) := by
  obtain ⟨c, t, e⟩ := List.exists_cons_of_length_pos (show 0 < (s.drop i).length by rw [List.length_drop]; omega)
  rw [e] at h ⊢
  rw [firstM, h]
theorem firstM_miss {l : List Rl} {s : Str} {i : Nat} (hi : i < s.length) (h : hit l (s.drop i) = none) : firstM l (s.drop i) = (firstM l (s.drop (i + 1))).map fun p => (p.1 + 1, p.2) := by
  obtain ⟨c, t, e⟩ := List.exists_cons_of_length_pos (show 0 < (s.drop i).length by rw [List.length_drop]; omega)
  have e2 : s.drop (i + 1) = t := by rw [← List.drop_drop, e]; rfl
  rw [e2]
  rw [e] at h ⊢
  rw [firstM, h]
theorem hit_some {l : List Rl} {s : Str} {r : Rl} (h : hit l s = some r) : r ∈ l ∧ r.1 <+: s := by
  refine ⟨List.mem_of_find?_eq_some h, ?_⟩
  have := List.find?_some h
  exact List.isPrefixOf_iff_prefix.1 this
theorem firstM_some {l : List Rl} : ∀ {s : Str} {i : Nat} {r : Rl}, firstM l s = some (i, r) → r ∈ l ∧ i < s.length ∧ r.1 <+: s.drop i := by
  intro s
  induction s with
  | nil => intro i r h; cases h
  | cons c s ih =>
    intro i r h
    rw [firstM] at h
    split at h
    · rename_i q hq
      simp only [Option.some.injEq, Prod.mk.injEq] at h
      obtain ⟨rfl, rfl⟩ := h
      have := hit_some hq
      exact ⟨this.1, by simp, this.2⟩
    · cases hf : firstM l s with
      | none => rw [hf] at h; cases h
      | some p =>
        obtain ⟨j, q⟩ := p
        rw [hf] at h
        simp only [Option.map_some, Option.some.injEq, Prod.mk.injEq] at h
        obtain ⟨rfl, rfl⟩ := h
        have := ih hf
        exact ⟨this.1, by simp; exact this.2.1, by simpa using this.2.2⟩
theorem firstM_room {l : List Rl} {s : Str} {i : Nat} {r : Rl} (h : firstM l s = some (i, r)) : i + r.1.length ≤ s.length := by
  have h1 := firstM_some h
  have := h1.2.2.length_le
  rw [List.length_drop] at this
  omega
theorem replM_len {s : Str} {i : Nat} {r : Rl} (h : i + r.1.length ≤ s.length) : (replM s i r).length + r.1.length = s.length + r.2.length := by
  unfold replM
  rw [List.length_append, List.length_append, List.length_take, List.length_drop]
  omega
/-- No rule makes a string longer. -/
def Dn (l : List Rl) : Prop := ∀ r ∈ l, r.2.length ≤ r.1.length
theorem step_len {l : List Rl} (hd : Dn l) {s : Str} {i : Nat} {r : Rl} (h : firstM l s = some (i, r)) : (replM s i r).length ≤ s.length := by
  have h1 := replM_len (firstM_room h)
  have h2 := hd r (firstM_some h).1
  omega
theorem normN_len {l : List Rl} (hd : Dn l) : ∀ (k n : Nat) (s t : Str) (m : Nat), normN l k n s = some (t, m) → t.length ≤ s.length := by
  intro k
  induction k with
  | zero =>
    intro n s t m h
    rw [normN] at h
    split at h
    · simp only [Option.some.injEq, Prod.mk.injEq] at h
      rw [h.1]; exact Nat.le_refl _
    · cases h
  | succ k ih =>
    intro n s t m h
    rw [normN] at h
    split at h
    · simp only [Option.some.injEq, Prod.mk.injEq] at h
      rw [h.1]; exact Nat.le_refl _
    · rename_i p hp
      exact Nat.le_trans (ih _ _ _ _ h) (step_len hd hp)
theorem normM_len {l : List Rl} (hd : Dn l) {s t : Str} {m : Nat} (h : normM l s = some (t, m)) : t.length ≤ s.length := normN_len hd _ _ _ _ _ h
theorem normN_le {l : List Rl} : ∀ (k n : Nat) (s t : Str) (m : Nat), normN l k n s = some (t, m) → n ≤ m ∧ m ≤ n + k := by
  intro k
  induction k with
  | zero =>
    intro n s t m h
    rw [normN] at h
    split at h
    · simp only [Option.some.injEq, Prod.mk.injEq] at h
      omega
    · cases h
  | succ k ih =>
    intro n s t m h
    rw [normN] at h
    split at h
    · simp only [Option.some.injEq, Prod.mk.injEq] at h
      omega
    · have := ih _ _ _ _ h
      omega
theorem sys_dn {l : List Rl} (h : sysB l = true) : Dn l := by
  intro r hr
  have := (List.all_eq_true.1 (Bool.and_eq_true_iff.1 h).2) r hr
  have h1 := of_decide_eq_true (Bool.and_eq_true_iff.1 this).2
  have h2 : ordS r.2 r.1 < 0 := by rw [ordS_neg]; omega
  exact ordS_len h2
theorem sys_side {l : List Rl} (h : sysB l = true) : ∀ r ∈ l, r.1.length ≤ 24 ∧ r.2.length ≤ 24 := by
  intro r hr
  have := (List.all_eq_true.1 (Bool.and_eq_true_iff.1 h).2) r hr
  have h1 := (Bool.and_eq_true_iff.1 (Bool.and_eq_true_iff.1 this).1)
  exact ⟨of_decide_eq_true (Bool.and_eq_true_iff.1 h1.1).1, of_decide_eq_true (Bool.and_eq_true_iff.1 h1.2).1⟩

/-! ### Pairs -/
def overA (a b : Rl) (same : Bool) (k : Nat) : List Rl :=
  if (b.1.take (k + 1)).isSuffixOf a.1 && !(same && k + 1 == a.1.length) then [(replM (a.1 ++ b.1.drop (k + 1)) 0 a, replM (a.1 ++ b.1.drop (k + 1)) (a.1.length - (k + 1)) b)] else []
def overC (a b : Rl) (j : Nat) : List Rl := if b.1.isPrefixOf (a.1.drop (j + 1)) then [(a.2, replM a.1 (j + 1) b)] else []
def overM (a b : Rl) (same : Bool) : List Rl :=
  (List.range (min a.1.length b.1.length)).flatMap (overA a b same) ++ (if same then [] else (List.range (a.1.length - b.1.length - 1)).flatMap (overC a b))
def pairsI (l : List Rl) (i : Nat) : List Rl := (List.range l.length).flatMap fun k => overM (l.getD i ([], [])) (l.getD k ([], [])) (i == k)
def pairsM (l : List Rl) : List Rl := (List.range l.length).flatMap (pairsI l)
def formsM (l : List Rl) (p : Rl) : Option Rl := match normM l p.1, normM l p.2 with
  | some a, some b => some (a.1, b.1)
  | _, _ => none
def clashN (l : List Rl) : List Rl → Nat → Option Int
  | [], _ => some (-1)
  | p :: ps, i => match formsM l p with
    | none => none
    | some q => if q.1 = q.2 then clashN l ps (i + 1) else some (i : Int)
def clashM (l : List Rl) : Option Int := clashN l (pairsM l) 0
def dirM (a b : Str) : Rl := if ordS a b < 0 then (b, a) else (a, b)
end Go.Words
