/- W, eighth part: rows out of blocks; results of several kinds. -/
import Derived.Test.YtdnkkflpgebfbaaDoorW6
import Derived.Test.YtdnkkflpgebfbaaDoorW7
set_option linter.unusedVariables false
set_option linter.unusedSectionVars false
namespace Go.W
open Go.RowKit

theorem Hp.toRow {w0 w : World} {b m s : Nat} {arr : Array Value} {E : TypeId} {L : List Ent} (h : Hp w0 w (.blk b (.cells arr E (0, 0)) :: L)) (hs : arr.size = m * s) (hm : m ≤ maxLen) :
    Hp w0 w (.row E s (.slice (some ⟨b, 0, none⟩) m m) m arr.toList :: L) := by
  have h1 := List.pairwise_cons.1 h.dist
  have h2 := h.sat (.blk b (.cells arr E (0, 0))) (by simp)
  refine ⟨h.below, ?_, List.pairwise_cons.2 ⟨fun y hy k hk => h1.1 y hy k ?_, h1.2⟩⟩
  · intro x hx
    rcases List.mem_cons.1 hx with hx | hx
    · subst hx
      exact ⟨by simpa using hs, .inr ⟨b, m, arr, rfl, h2.1, h2.2, Nat.le_refl _, hm, hs, by rw [← hs]; exact List.take_of_length_le (by simp)⟩⟩
    · exact h.sat x (by simp [hx])
  · simp only [Ent.owns, Value.ownBlock] at hk ⊢
    simpa using hk

section
variable {P : Program} {fn : Func} {R : Value → World → Prop} {e : Env} {w : World}
theorem ResM.ctt [T : TT P] {t t2 t3 b : Nat} {v2 v3 : Value} {ty ty2 : TypeId} {i : TI} {cs : Array Value} {fr : Nat × Nat} {w0 : World} {L : List Ent} {ds : List Nat} (q : Nat) (hm : marks e = ds) (hr : fn.results = #[.cell t ty, .tmp t2, .tmp t3])
    (ht : T.ti ty = some i) (h1 : isOne i.k = false) (hs : cs.size = i.size) (hv : look e t = some (.pointer (some ⟨b, 0, none⟩))) (h2 : look e t2 = some v2) (h3 : look e t3 = some v3)
    (hp : Hp w0 w (.many (dfrs ds) :: L)) (hq : nth L q = some (.blk b (.cells cs ty2 fr))) (h : ∀ w', Hp w0 w' L → R (.tuple #[.agg cs, v2, v3]) w') : ResM P fn R e w := by
  subst hm
  obtain ⟨h4, h5⟩ := Hp.shut _ _ hp
  refine ⟨h4, _, fun tm htm => ?_, h _ h5⟩
  have hh := h5.obj q hq
  generalize W.shut (marks e) w = w' at *
  have hag : i.k.isAgg = true := by cases hk2 : i.k <;> rw [hk2] at h1 <;> first | rfl | (simp [isOne] at h1)
  have hagg := (T.ok ty i ht).isAgg w'
  rw [hag] at hagg
  have hsz := (T.ok ty i ht).sizeOf w'
  rw [← hs] at hsz
  have hc := run_loadCells_list (P := P) w' ⟨b, 0, none⟩ cs.toList (fun j v hj => by rw [Addr.add_lit, Nat.zero_add]; exact cell_of_obj hh (by simpa using hj))
  simp only [Array.length_toList] at hc
  have hv1 := htm t _ hv
  have hv2 := htm t2 _ h2
  have hv3 := htm t3 _ h3
  rw [Array.getD_eq_getD_getElem?] at hv1 hv2 hv3
  simp [results, hr, hv1, hv2, hv3, asAddr, loadVar, hagg, hsz, hc]
end
end Go.W
