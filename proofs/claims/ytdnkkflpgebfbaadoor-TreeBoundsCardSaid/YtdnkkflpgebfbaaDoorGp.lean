/- Graphs, as the reference checks them. -/
import Derived.Test.YtdnkkflpgebfbaaDoorMk
namespace Go.Tree
open Go.W

theorem addEs_append {n : Nat} : ∀ (xs ys : List Ed) (g : List Nat), addEs n g (xs ++ ys) = (addEs n g xs).bind fun g' => addEs n g' ys := by
  intro xs
  induction xs with
  | nil => intro ys g; simp [addEs]
  | cons e xs ih =>
    intro ys g
    simp only [List.cons_append, addEs]
    cases addE n g e with
    | none => rfl
    | some g' => exact ih ys g'
def hasE (es : List Ed) (u v : Int) : Prop := ∃ e ∈ es, e = (u, v) ∨ e = (v, u)
theorem addEs_bits {n : Nat} (hn : n ≤ 14) : ∀ (es : List Ed) (g : List Nat), addEs n (List.replicate n 0) es = some g → ∀ u v : Nat, u < n → v < n → ((g.getD u 0).testBit v = true ↔ hasE es u v) := by
  have key : ∀ (es : List Ed) (g0 g : List Nat) (D : Nat → Nat → Prop), Gr g0 → g0.length = n → (∀ u v : Nat, u < n → v < n → ((g0.getD u 0).testBit v = true ↔ D u v)) → addEs n g0 es = some g →
      ∀ u v : Nat, u < n → v < n → ((g.getD u 0).testBit v = true ↔ (D u v ∨ hasE es u v)) := by
    intro es
    induction es with
    | nil =>
      intro g0 g D _ _ hD h u v hu hv
      simp only [addEs, Option.some.injEq] at h
      rw [← h, hD u v hu hv]
      constructor
      · exact .inl
      · rintro (h | ⟨e, he, _⟩)
        · exact h
        · cases he
    | cons e es ih =>
      intro g0 g D hg hl hD h u v hu hv
      simp only [addEs] at h
      cases ha : addE n g0 e with
      | none => rw [ha] at h; cases h
      | some g1 =>
        rw [ha] at h
        obtain ⟨hg1, hl1⟩ := addE_gr hg hl ha
        simp only [addE] at ha
        split at ha
        · cases ha
        · rename_i hbad
          simp only [Option.some.injEq] at ha
          obtain ⟨a, b⟩ := e
          unfold Bad at hbad
          simp only [not_or] at hbad
          obtain ⟨h1, h2, h3, h4, h5, h6⟩ := hbad
          obtain ⟨a, rfl⟩ := Int.eq_ofNat_of_zero_le (show 0 ≤ a by simpa using h1)
          obtain ⟨b, rfl⟩ := Int.eq_ofNat_of_zero_le (show 0 ≤ b by simpa using h3)
          have ha' : a < n := by simp at h2; omega
          have hb' : b < n := by simp at h4; omega
          have hab : a ≠ b := fun h => h5 (by rw [h])
          simp only [Int.toNat_natCast] at ha
          have := ih g1 g (fun u v => D u v ∨ (u = a ∧ v = b) ∨ (u = b ∧ v = a)) hg1 hl1 (fun u v hu hv => by
            rw [← ha, put1_getD _ _ _ _ (by rw [put1_len]; omega), put1_getD _ _ _ _ (by omega)]
            by_cases hub : u = b
            · subst hub
              have hua : ¬ u = a := fun h => hab h.symm
              rw [if_pos rfl, if_neg hua, Nat.testBit_or, Nat.testBit_two_pow, Bool.or_eq_true, hD u v hu hv]
              simp only [decide_eq_true_eq, hua, false_and, true_and, false_or]
              exact ⟨fun h => h.imp id Eq.symm, fun h => h.imp id Eq.symm⟩
            · rw [if_neg hub]
              by_cases hua : u = a
              · subst hua
                rw [put1_getD _ _ _ _ (by omega), if_pos rfl, Nat.testBit_or, Nat.testBit_two_pow, Bool.or_eq_true, hD u v hu hv]
                simp only [decide_eq_true_eq, hub, false_and, true_and, or_false]
                exact ⟨fun h => h.imp id Eq.symm, fun h => h.imp id Eq.symm⟩
              · rw [put1_getD _ _ _ _ (by omega), if_neg hua, hD u v hu hv]
                simp [hub, hua]) h u v hu hv
          rw [this]
          constructor
          · rintro ((h | ⟨rfl, rfl⟩ | ⟨rfl, rfl⟩) | ⟨e, he, h⟩)
            · exact .inl h
            · exact .inr ⟨_, List.mem_cons_self, .inl rfl⟩
            · exact .inr ⟨_, List.mem_cons_self, .inr rfl⟩
            · exact .inr ⟨e, List.mem_cons_of_mem _ he, h⟩
          · rintro (h | ⟨e, he, h⟩)
            · exact .inl (.inl h)
            · rcases List.mem_cons.1 he with rfl | he
              · rcases h with h | h
                · simp only [Prod.mk.injEq] at h
                  exact .inl (.inr (.inl ⟨by omega, by omega⟩))
                · simp only [Prod.mk.injEq] at h
                  exact .inl (.inr (.inr ⟨by omega, by omega⟩))
              · exact .inr ⟨e, he, h⟩
  intro es g h u v hu hv
  have := key es (List.replicate n 0) g (fun _ _ => False) (zero_gr hn) (by simp) (fun u v hu hv => by simp [List.getD_eq_getElem?_getD, List.getElem?_replicate]; split <;> simp) h u v hu hv
  rw [this]; simp
theorem take_bad {m i : Nat} {es : List Ed} {z g : List Nat} (h : addEs m z (es.take i) = some g) (hi : i < es.length) (hb : Bad m g es[i]) : addEs m z es = none := by
  have e : es = es.take i ++ es[i] :: es.drop (i + 1) := by rw [← List.drop_eq_getElem_cons hi, List.take_append_drop]
  rw [e, addEs_append, h, Option.bind_some, addEs, addE, if_pos hb]
theorem take_good {m i : Nat} {es : List Ed} {z g : List Nat} (h : addEs m z (es.take i) = some g) (hi : i < es.length) (hb : ¬ Bad m g es[i]) :
    addEs m z (es.take (i + 1)) = some (put1 (put1 g (es[i]).1.toNat (es[i]).2.toNat) (es[i]).2.toNat (es[i]).1.toNat) := by
  rw [List.take_succ_eq_append_getElem hi, addEs_append, h, Option.bind_some, addEs, addE, if_neg hb]
  rfl
end Go.Tree
