/- Copies from a slice into a block of one's own. -/
import Derived.Test.YtagfpnnplgkkoaaR15
import Derived.Laws.CopyRow
namespace Go.W
open Go.RowKit
section
variable {P : Program} [T : TT P] {ro : Option Nat} {n : Nat} {l0 rest : List Oper} {N : Nor} {Z : Pan} {e : Env} {w : World} {ty : TypeId} {pos : String} {aft : Array Edge} {g : Option (Nat × Bool)}
/-- All of a slice, copied to where a block begins. -/
theorem WL.copy {d : Nat} {t E tt : TypeId} {i : TI} {z : Value} {s0 b0 : Nat} {x y : Operand} {b m c1 c2 : Nat} {a : Addr} {arr : Array Value} {cs : List Value} (hg : grd l0 e g = some true) (hd : Nat.blt d n = true) (ht : T.ti t = some ⟨.slice E, z, s0, b0⟩) (hi : T.ti E = some i) (hsz : i.size = 1)
    (hx : opv e x = some (.slice (some ⟨b, 0, none⟩) m c1)) (hy : opv e y = some (.slice (some a) m c2)) (hh : w.heap[b]? = some (.cells arr tt (0, 0))) (hs : Sl w (some a) cs) (hl : cs.length = m) (ha : arr.size = m) (h1 : Cells cs)
    (h : ∀ w', SetB w b (.cells cs.toArray tt (0, 0)) w' → WL P ro n l0 N Z rest ((d, .int .i64 (m : Nat)) :: e) w') :
    WL P ro n l0 N Z (⟨some d, .call ⟨.builtin .copy, #[x, y], #[t, t]⟩, ty, pos, aft, g⟩ :: rest) e w := by
  have hu : P.underlying t = some (.slice E) := (T.ok t _ ht).k
  have hinf : (P.info? E).map (·.size) = some 1 := by
    obtain ⟨j, hj, hjj⟩ := Option.map_eq_some_iff.1 (T.ok E i hi).info
    simp only [Prod.mk.injEq] at hjj
    rw [hj]; simp [hjj.2.1, hsz]
  have hsrc : ∀ j v, cs[j]? = some v → w.cell? (a.add j) = some v := by
    intro j v hj
    obtain ⟨b', o', ha', hc⟩ := hs j v hj
    simp only [Option.some.injEq] at ha'
    rw [ha', Addr.add_lit]; exact hc
  have hr := run_copy_row P w t t ty E b 0 m c1 a m c2 arr tt cs hu hinf hh (by rw [hl]; simp) hsrc (by omega) h1
  have e1 : (arr.toList.take 0 ++ cs ++ arr.toList.drop (0 + cs.length)).toArray = cs.toArray := by
    have : arr.toList.drop (0 + cs.length) = [] := List.drop_of_length_le (by simp; omega)
    rw [this]; simp
  rw [e1, hl] at hr
  refine WL.val (w' := w.setRow b cs.toArray) hg rfl hd ?_ (h _ (setB_row hh _))
  intro ρ hρ d' pos' aft' g'
  simp [execOp, resolve, invoke, builtin, hρ _ _ hx, hρ _ _ hy, hr, goInt]
/-- The same, where an empty slice may have no address. -/
theorem WL.copyO {d : Nat} {t E tt : TypeId} {i : TI} {z : Value} {s0 b0 : Nat} {x y : Operand} {b m c1 c2 : Nat} {a : Option Addr} {arr : Array Value} {cs : List Value} (hg : grd l0 e g = some true) (hd : Nat.blt d n = true) (ht : T.ti t = some ⟨.slice E, z, s0, b0⟩) (hi : T.ti E = some i) (hsz : i.size = 1)
    (hx : opv e x = some (.slice (some ⟨b, 0, none⟩) m c1)) (hy : opv e y = some (.slice a m c2)) (hn : a = none → m = 0 ∧ c2 = 0) (hh : w.heap[b]? = some (.cells arr tt (0, 0))) (hs : Sl w a cs) (hl : cs.length = m) (ha : arr.size = m) (h1 : Cells cs)
    (h : ∀ w', SetB w b (.cells cs.toArray tt (0, 0)) w' → WL P ro n l0 N Z rest ((d, .int .i64 (m : Nat)) :: e) w') :
    WL P ro n l0 N Z (⟨some d, .call ⟨.builtin .copy, #[x, y], #[t, t]⟩, ty, pos, aft, g⟩ :: rest) e w := by
  cases a with
  | some a => exact WL.copy hg hd ht hi hsz hx hy hh hs hl ha h1 h
  | none =>
    obtain ⟨rfl, rfl⟩ := hn rfl
    have hu : P.underlying t = some (.slice E) := (T.ok t _ ht).k
    have hinf : ((P.info? E).map (·.size)).isSome = true := by
      obtain ⟨j, hj, hjj⟩ := Option.map_eq_some_iff.1 (T.ok E i hi).info
      rw [hj]; rfl
    have hr := run_copy_nil P w t t ty E ⟨b, 0, none⟩ 0 c1 hu hinf
    have e1 : cs = [] := List.length_eq_zero_iff.1 hl
    have e2 : arr = #[] := Array.eq_empty_of_size_eq_zero ha
    subst e1 e2
    have hw := setB_row hh #[]
    rw [setRow_self w b #[] tt (0, 0) hh] at hw
    refine WL.val (w' := w) hg rfl hd ?_ (h _ hw)
    intro ρ hρ d' pos' aft' g'
    simp [execOp, resolve, invoke, builtin, hρ _ _ hx, hρ _ _ hy, hr, goInt]
end
end Go.W
