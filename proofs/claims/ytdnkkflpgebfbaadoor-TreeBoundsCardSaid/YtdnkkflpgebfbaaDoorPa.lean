/- The numbers of ways to part a set into independent classes, as the program adds them up. -/
import Derived.Test.YtdnkkflpgebfbaaDoorAp
namespace Go.Tree
open Go.W

theorem neg_and {S : Nat} (h0 : S ≠ 0) (h : S < 16384) : bits .and .i64 (S : Int) (IntKind.i64.wrap (0 - (S : Int))) = ((2 ^ tz S : Nat) : Int) := by
  obtain ⟨hlow, _⟩ := Lib.lowest_bit 64 S h0 (by omega)
  have hw : IntKind.i64.wrap (0 - (S : Int)) = -(S : Int) := by rw [IntKind.wrap_i64]; omega
  have e1 : (BitVec.ofInt 64 (-(S : Int))).toNat = 18446744073709551616 - S := by
    rw [BitVec.toNat_ofInt]
    have : (-(S : Int)) % ((2 ^ 64 : Nat) : Int) = ((18446744073709551616 - S : Nat) : Int) := by omega
    rw [this]; simp
  have e2 : (BitVec.ofNat 64 S).toNat = S := by rw [BitVec.toNat_ofNat]; exact Nat.mod_eq_of_lt (by omega)
  rw [hw]
  simp only [bits, BitVec.ofInt_natCast]
  show IntKind.i64.wrap ((BitVec.ofNat 64 S &&& BitVec.ofInt 64 (-(S : Int))).toNat : Int) = _
  rw [BitVec.toNat_and, e1, e2]
  have hl2 : S &&& (18446744073709551616 - S) = 2 ^ tz S := hlow
  rw [hl2]
  have : 2 ^ tz S ≤ S := by rw [← hl2]; exact Nat.and_le_left
  exact wrap_i64_in (by omega) (by omega)

def parts (R : Nat) : Nat → Nat → List Nat
  | 0, _ => []
  | m + 1, p => p :: (if p = 0 then [] else parts R m ((p - 1) &&& R))
theorem parts_fuel (R : Nat) : ∀ (m m' p : Nat), p < m → p < m' → parts R m p = parts R m' p := by
  intro m
  induction m with
  | zero => intro m' p h; omega
  | succ m ih =>
    intro m' p h h'
    cases m' with
    | zero => omega
    | succ m' =>
      simp only [parts]
      split
      · rfl
      · have : (p - 1) &&& R ≤ p - 1 := Nat.and_le_left
        rw [ih m' _ (by omega) (by omega)]
/-- The subsets of R, from p downwards. -/
def subsR (R p : Nat) : List Nat := parts R (p + 1) p
theorem subsR_zero (R : Nat) : subsR R 0 = [0] := rfl
theorem subsR_step {R p : Nat} (h : p ≠ 0) : subsR R p = p :: subsR R ((p - 1) &&& R) := by
  have : (p - 1) &&& R ≤ p - 1 := Nat.and_le_left
  rw [subsR, parts, if_neg h]
  congr 1
  exact parts_fuel R _ _ _ (by omega) (by omega)

def zero15 : List Int := List.replicate 15 0
def one15 : List Int := 1 :: List.replicate 14 0
def addAt (out : List Int) (k : Nat) (x : Int) : List Int := out.set k (IntKind.i64.wrap (out.getD k 0 + x))
def addStep (c o : List Int) (k : Nat) : List Int := if 0 < c.getD k 0 then addAt o (k + 1) (c.getD k 0) else o
def addP (out c : List Int) (k : Nat) : List Int := (List.range k).foldl (addStep c) out
theorem addP_succ (out c : List Int) (k : Nat) : addP out c (k + 1) = addStep c (addP out c k) k := by simp [addP, List.range_succ]
theorem addStep_len (c o : List Int) (k : Nat) : (addStep c o k).length = o.length := by
  unfold addStep addAt; split <;> simp
theorem addP_len (out c : List Int) (k : Nat) : (addP out c k).length = out.length := by
  induction k with
  | zero => rfl
  | succ k ih => rw [addP_succ, addStep_len, ih]
def addC (out c : List Int) : List Int := addP out c 15

def low (S : Nat) : Nat := 2 ^ tz S
def rst (S : Nat) : Nat := bd S (low S)
def clStepF (free : Nat → Bool) (S : Nat) (f : Nat → List Int) (o : List Int) (part : Nat) : List Int := if free (part ||| low S) then addC o (f (bd (rst S) part)) else o
def clsF (free : Nat → Bool) : Nat → Nat → List Int
  | 0, _ => one15
  | k + 1, S => if S = 0 then one15 else (subsR (rst S) (rst S)).foldl (clStepF free S (clsF free k)) zero15
def cls (free : Nat → Bool) (S : Nat) : List Int := clsF free 15 S

theorem card_rst {S : Nat} (h0 : S ≠ 0) (h : S < 16384) : card (rst S) + 1 = card S := by
  obtain ⟨h1, _, _⟩ := tz_spec h0 (by omega)
  have ht : tz S < 14 := lt_of_testBit (n := 14) h h1
  have h2 := card_bd (a := S) (b := low S) (fun i hi => by
    unfold low at hi
    rw [Nat.testBit_two_pow] at hi
    have : tz S = i := by simpa using hi
    rw [← this]; exact h1)
  have h3 : card (low S) = 1 := card_pow (by omega)
  unfold rst; omega
theorem card_sub (R p : Nat) : card (bd R p) ≤ card R := card_mono fun i hi => by
  rw [testBit_bd] at hi
  simp at hi
  exact hi.1
theorem rst_lt {S : Nat} (h0 : S ≠ 0) (h : S < 16384) : rst S < S := by
  obtain ⟨_, _, h3⟩ := tz_spec h0 (by omega)
  have : S &&& (S - 1) ≤ S - 1 := Nat.and_le_right
  unfold rst low
  rw [← h3]; omega
theorem clsF_fuel {free : Nat → Bool} : ∀ (k k' S : Nat), S < 16384 → card S < k → card S < k' → clsF free k S = clsF free k' S := by
  intro k
  induction k with
  | zero => intro k' S _ h; omega
  | succ k ih =>
    intro k' S hS h h'
    cases k' with
    | zero => omega
    | succ k' =>
      simp only [clsF]
      split
      · rfl
      · rename_i h0
        refine foldl_cong _ _ _ _ fun part _ o => ?_
        have h1 := card_rst h0 hS
        have h2 := card_sub (rst S) part
        have h3 := rst_lt h0 hS
        have h4 := bd_le (rst S) part
        unfold clStepF
        rw [ih k' _ (by omega) (by omega) (by omega)]
theorem cls_zero (free : Nat → Bool) : cls free 0 = one15 := by simp [cls, clsF]
theorem cls_eq {free : Nat → Bool} {S : Nat} (h0 : S ≠ 0) (h : S < 16384) : cls free S = (subsR (rst S) (rst S)).foldl (clStepF free S (cls free)) zero15 := by
  have h1 : card S ≤ 14 := card_le (by decide) h
  have h2 : cls free S = clsF free 16 S := clsF_fuel _ _ _ h (by omega) (by omega)
  rw [h2, clsF, if_neg h0]
  rfl
theorem foldl_inv {α β : Type} (f : β → α → β) (I : β → Prop) : ∀ (l : List α) (b : β), I b → (∀ a ∈ l, ∀ b, I b → I (f b a)) → I (l.foldl f b) := by
  intro l
  induction l with
  | nil => intro b h _; exact h
  | cons a l ih =>
    intro b h hl
    exact ih _ (hl a (by simp) b h) fun a' ha' => hl a' (by simp [ha'])
theorem cls_len (free : Nat → Bool) (S : Nat) : (cls free S).length = 15 := by
  have : ∀ k S, (clsF free k S).length = 15 := by
    intro k
    induction k with
    | zero => intro S; rfl
    | succ k ih =>
      intro S
      simp only [clsF]
      split
      · rfl
      · refine foldl_inv _ (fun o : List Int => o.length = 15) _ _ rfl fun part _ o ho => ?_
        unfold clStepF
        split
        · rw [addC, addP_len]; exact ho
        · exact ho
  exact this _ _
def Supp (m : Nat) (o : List Int) : Prop := ∀ j, m < j → o.getD j 0 = 0
theorem supp_addP {m : Nat} {o c : List Int} (ho : Supp (m + 1) o) (hc : Supp m c) (k : Nat) : Supp (m + 1) (addP o c k) := by
  induction k with
  | zero => exact ho
  | succ k ih =>
    rw [addP_succ]
    unfold addStep
    split
    · rename_i h
      intro j hj
      have hk : k ≤ m := by
        rcases Nat.lt_or_ge m k with h1 | h1
        · rw [hc k h1] at h; omega
        · exact h1
      unfold addAt
      rw [List.getD_eq_getElem?_getD, List.getElem?_set_ne (by omega), ← List.getD_eq_getElem?_getD]
      exact ih j hj
    · exact ih
theorem cls_supp (free : Nat → Bool) : ∀ (k S : Nat), S < 16384 → card S < k → Supp (card S) (clsF free k S) := by
  intro k
  induction k with
  | zero => intro S _ h; omega
  | succ k ih =>
    intro S hS hk
    simp only [clsF]
    split
    · rename_i h0
      subst h0
      intro j hj
      rw [card_zero] at hj
      obtain ⟨j, rfl⟩ : ∃ i, j = i + 1 := ⟨j - 1, by omega⟩
      show (List.replicate 14 (0 : Int)).getD j 0 = 0
      rw [List.getD_eq_getElem?_getD, List.getElem?_replicate]
      split <;> rfl
    · rename_i h0
      have h1 := card_rst h0 hS
      rw [← h1]
      refine foldl_inv _ (fun o : List Int => Supp (card (rst S) + 1) o) _ _ ?_ fun part _ o ho => ?_
      · intro j _
        unfold zero15
        rw [List.getD_eq_getElem?_getD, List.getElem?_replicate]
        split <;> rfl
      · unfold clStepF
        split
        · have h2 := card_sub (rst S) part
          have h3 := rst_lt h0 hS
          have h4 := bd_le (rst S) part
          refine supp_addP ho (fun j hj => ih _ (by omega) (by omega) j (by omega)) 15
        · exact ho
theorem cls_top {free : Nat → Bool} {S : Nat} (hS : S < 16384) {j : Nat} (h : 0 < (cls free S).getD j 0) : j ≤ card S := by
  rcases Nat.lt_or_ge (card S) j with h1 | h1
  · have h2 : card S ≤ 14 := card_le (by decide) hS
    have := cls_supp free 15 S hS (by omega) j h1
    unfold cls at h
    omega
  · exact h1
end Go.Tree
