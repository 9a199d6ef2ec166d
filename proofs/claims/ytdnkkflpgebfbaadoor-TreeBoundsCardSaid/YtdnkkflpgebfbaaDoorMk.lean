/- The graph that a list of edges makes. -/
import Derived.Test.YtdnkkflpgebfbaaDoorLat
namespace Go.Tree
open Go.W

abbrev Ed := Int × Int
def Bad (n : Nat) (g : List Nat) (e : Ed) : Prop := e.1 < 0 ∨ (n : Int) ≤ e.1 ∨ e.2 < 0 ∨ (n : Int) ≤ e.2 ∨ e.1 = e.2 ∨ (g.getD e.1.toNat 0).testBit e.2.toNat = true
instance (n : Nat) (g : List Nat) (e : Ed) : Decidable (Bad n g e) := by unfold Bad; infer_instance
/-- One edge more. -/
def put1 (g : List Nat) (u v : Nat) : List Nat := g.set u (g.getD u 0 ||| 2 ^ v)
def addE (n : Nat) (g : List Nat) (e : Ed) : Option (List Nat) := if Bad n g e then none else some (put1 (put1 g e.1.toNat e.2.toNat) e.2.toNat e.1.toNat)
def addEs (n : Nat) : List Nat → List Ed → Option (List Nat)
  | g, [] => some g
  | g, e :: r => match addE n g e with
    | none => none
    | some g' => addEs n g' r
def mkG (n : Int) (es : List Ed) : Option (List Nat) := if n < 0 ∨ 14 < n ∨ 100 < es.length then none else addEs n.toNat (List.replicate n.toNat 0) es

theorem put1_len (g : List Nat) (u v : Nat) : (put1 g u v).length = g.length := by simp [put1]
theorem put1_getD (g : List Nat) (u v i : Nat) (hu : u < g.length) : (put1 g u v).getD i 0 = if i = u then g.getD u 0 ||| 2 ^ v else g.getD i 0 := by
  unfold put1
  by_cases h : i = u
  · subst h
    simp [hu]
  · simp [h, List.getElem?_set_ne (Ne.symm h)]
theorem put1_gr {g : List Nat} {u v : Nat} (hg : Gr g) (hu : u < g.length) (hv : v < g.length) : Gr (put1 g u v) := by
  refine ⟨by rw [put1_len]; exact hg.len, fun i => ?_⟩
  rw [put1_getD g u v i hu, put1_len]
  split
  · exact or_lt (hg.lt _) (Nat.pow_lt_pow_right (by decide) hv)
  · exact hg.lt _
theorem addE_gr {n : Nat} {g g' : List Nat} {e : Ed} (hg : Gr g) (hn : g.length = n) (h : addE n g e = some g') : Gr g' ∧ g'.length = n := by
  unfold addE at h
  split at h
  · cases h
  · rename_i hb
    unfold Bad at hb
    simp only [Option.some.injEq] at h
    subst h
    have h1 : e.1.toNat < g.length := by omega
    have h2 : e.2.toNat < g.length := by omega
    exact ⟨put1_gr (put1_gr hg h1 h2) (by rw [put1_len]; exact h2) (by rw [put1_len]; exact h1), by rw [put1_len, put1_len]; exact hn⟩
theorem addEs_gr {n : Nat} : ∀ (es : List Ed) (g g' : List Nat), Gr g → g.length = n → addEs n g es = some g' → Gr g' ∧ g'.length = n := by
  intro es
  induction es with
  | nil => intro g g' hg hn h; simp only [addEs, Option.some.injEq] at h; subst h; exact ⟨hg, hn⟩
  | cons e r ih =>
    intro g g' hg hn h
    simp only [addEs] at h
    cases ha : addE n g e with
    | none => rw [ha] at h; cases h
    | some g1 =>
      rw [ha] at h
      obtain ⟨h1, h2⟩ := addE_gr hg hn ha
      exact ih g1 g' h1 h2 h
theorem zero_gr {n : Nat} (hn : n ≤ 14) : Gr (List.replicate n 0) := by
  refine ⟨by simpa using hn, fun u => ?_⟩
  have : (List.replicate n 0).getD u 0 = 0 := by
    by_cases h : u < n
    · simp [List.getElem?_replicate, h]
    · simp [List.getElem?_replicate, h]
  rw [this]; exact Nat.two_pow_pos _
theorem mkG_gr {n : Int} {es : List Ed} {g : List Nat} (h : mkG n es = some g) : Gr g ∧ g.length = n.toNat ∧ 0 ≤ n ∧ n ≤ 14 ∧ es.length ≤ 100 := by
  unfold mkG at h
  split at h
  · cases h
  · rename_i hb
    obtain ⟨h1, h2⟩ := addEs_gr es _ g (zero_gr (by omega)) (by simp) h
    exact ⟨h1, h2, by omega, by omega, by omega⟩

/-- The cells of a list of edges. -/
def pr (e : Ed) : List Value := [.int .i64 e.1, .int .i64 e.2]
def prs (es : List Ed) : List Value := es.flatMap pr
theorem prs_len (es : List Ed) : (prs es).length = es.length * 2 := by
  induction es with
  | nil => rfl
  | cons e r ih => simp only [prs, List.flatMap_cons, List.length_append, List.length_cons] at *; rw [ih]; simp [pr]; omega
theorem prs_at : ∀ (es : List Ed) (j : Nat) (h : j < es.length) (q : Nat) (u : Value), (pr es[j])[q]? = some u → (prs es)[j * 2 + q]? = some u := by
  intro es
  induction es with
  | nil => intro j h; simp at h
  | cons e r ih =>
    intro j h q u hq
    simp only [prs, List.flatMap_cons]
    cases j with
    | zero =>
      have hq2 : q < 2 := by
        have := (List.getElem?_eq_some_iff.1 hq).1
        simpa [pr] using this
      rw [List.getElem?_append_left (by simp [pr]; omega)]
      simpa using hq
    | succ j =>
      rw [List.getElem?_append_right (by simp [pr]; omega)]
      have := ih j (by simpa using h) q u (by simpa using hq)
      simp only [prs] at this
      rw [← this]
      congr 1
      simp [pr]; omega
end Go.Tree
