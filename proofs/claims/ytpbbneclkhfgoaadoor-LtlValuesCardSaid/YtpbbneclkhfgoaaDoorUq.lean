/- Queues: slices of one's own that lose their first element and grow at the end. -/
import Derived.Test.YtpbbneclkhfgoaaDoorUm
set_option linter.unusedSectionVars false
namespace Go.W
open Go.RowKit
/-- A queue: the slice's value, what it holds, and the block behind it. -/
def Quo (E : TypeId) (v : Value) (xs : List Value) (Q : List Ent) : Prop :=
  (v = .slice none 0 0 ∧ xs = [] ∧ Q = []) ∨ ∃ b off cap cur, v = .slice (some ⟨b, off, none⟩) xs.length cap ∧ Q = [.blk b (.cells cur E (0, 0))] ∧ off + cap ≤ cur.size ∧ xs.length ≤ cap ∧ (cur.toList.drop off).take xs.length = xs ∧ cap ≤ maxLen
theorem Quo.nil (E : TypeId) : Quo E (.slice none 0 0) [] [] := .inl ⟨rfl, rfl, rfl⟩
theorem Quo.shape {E : TypeId} {v : Value} {xs : List Value} {Q : List Ent} (h : Quo E v xs Q) : ∃ a cap, v = .slice a xs.length cap ∧ xs.length ≤ cap := by
  rcases h with ⟨rfl, rfl, rfl⟩ | ⟨b, off, cap, cur, rfl, rfl, _, h, _⟩
  · exact ⟨none, 0, rfl, Nat.le_refl _⟩
  · exact ⟨_, cap, rfl, h⟩
theorem Hp.atR {w0 w : World} {A : List Ent} {x : Ent} (h : Hp w0 w (A ++ [x])) : x.sat w0.heap.size w := h.sat x (by simp)
theorem Quo.sl {E : TypeId} {a : Option Addr} {n c : Nat} {xs : List Value} {Q A : List Ent} {w0 w : World} (h : Quo E (.slice a n c) xs Q) (hp : Hp w0 w (A ++ Q)) : Sl w a xs := by
  rcases h with ⟨_, rfl, _⟩ | ⟨b, off, cap, cur, hv, rfl, h1, h2, h3, h4⟩
  · exact Sl.nil
  · have hh := hp.atR.2
    simp only [Value.slice.injEq] at hv
    obtain ⟨rfl, rfl, rfl⟩ := hv
    intro i u hi
    refine ⟨b, off, rfl, cell_of_obj hh ?_⟩
    rw [← h3, List.getElem?_take] at hi
    split at hi
    · rw [List.getElem?_drop] at hi; simpa using hi
    · cases hi
/-- The first one goes. -/
theorem Quo.tail {E : TypeId} {b off n c : Nat} {x : Value} {xs : List Value} {Q : List Ent} (h : Quo E (.slice (some ⟨b, off, none⟩) n c) (x :: xs) Q) : Quo E (.slice (if c = 1 then some ⟨b, off, none⟩ else some ⟨b, off + 1, none⟩) (n - 1) (c - 1)) xs Q := by
  rcases h with ⟨h, _⟩ | ⟨b', off', cap, cur, hv, rfl, h1, h2, h3, h4⟩
  · cases h
  · simp only [Value.slice.injEq, Option.some.injEq, Addr.mk.injEq] at hv
    obtain ⟨⟨rfl, rfl, _⟩, rfl, rfl⟩ := hv
    rw [List.length_cons] at h2 h3
    by_cases hc : c = 1
    · have hx : xs = [] := List.eq_nil_of_length_eq_zero (by omega)
      subst hx
      subst hc
      rw [if_pos rfl]
      exact .inr ⟨b, off, 0, cur, rfl, rfl, by omega, Nat.le_refl _, by simp, by omega⟩
    · rw [if_neg hc]
      refine .inr ⟨b, off + 1, c - 1, cur, by rw [List.length_cons]; rfl, rfl, by omega, by omega, ?_, by omega⟩
      have hd : cur.toList.drop off = x :: cur.toList.drop (off + 1) := by
        have hlt : off < cur.toList.length := by rw [Array.length_toList]; omega
        rw [List.drop_eq_getElem_cons hlt] at h3 ⊢
        rw [List.take_succ_cons] at h3
        simp only [List.cons.injEq] at h3
        rw [h3.1]
      rw [hd, List.take_succ_cons] at h3
      simp only [List.cons.injEq, true_and] at h3
      exact h3
section
variable {P : Program} [T : TT P] {ro : Option Nat} {n : Nat} {l0 rest : List Oper} {N : Nor} {Z : Pan} {e : Env} {w : World} {ty : TypeId} {pos : String} {aft : Array Edge} {g : Option (Nat × Bool)}
theorem run_append_roomO (t ty e : TypeId) (i : TypeInfo) (ht : P.underlying t = some (.slice e)) (hi : P.info? e = some i) (hs : i.size = 1)
    (g off sLen sCap : Nat) (cur : Array Value) (hg : w.heap[g]? = some (.cells cur e (0, 0)))
    (a : Addr) (c : Nat) (x : Value) (hx : w.cell? a = some x) (h1 : x.oneCell' = true)
    (hroom : sLen + 1 ≤ sCap) (hfit : off + sLen + 1 ≤ cur.size) :
    (Builtin.append_ #[t, t] ty #[.slice (some ⟨g, off, none⟩) sLen sCap, .slice (some a) 1 c]).run P w =
      .ok (.slice (some ⟨g, off, none⟩) (sLen + 1) sCap) (w.setRow g (cur.toList.take (off + sLen) ++ [x] ++ cur.toList.drop (off + sLen + 1)).toArray) := by
  have hf := run_firstCells_some (P := P) w i.size 1 a 1 c [x] (by rw [hs]; rfl) (fun j u hu => by
    cases j with
    | zero => simp only [List.getElem?_cons_zero, Option.some.injEq] at hu; subst hu; rw [Addr.add_zero']; exact hx
    | succ j => simp at hu)
  have hst := run_storeCells_at P g (off + sLen) e [x] 0 cur w hg (by simpa using hfit) (by simpa using h1)
  simp only [Nat.add_zero] at hst
  rw [hs] at hf
  simp [Builtin.append_, run_underlying ht, sizeOf, typeInfo, hi, Builtin.lenOf, hroom, hf, Addr.add_lit, hs, hst]
theorem run_appQ {t ty' E : TypeId} {i : TI} {z : Value} {s0 b0 : Nat} {w0 : World} {A Q : List Ent} {v x : Value} {xs : List Value} {a : Addr} {c : Nat} (ht : T.ti t = some ⟨.slice E, z, s0, b0⟩) (hi : T.ti E = some i)
    (hzs : i.zero.cells.size = 1) (hsz : i.size = 1) (hp : Hp w0 w (A ++ Q)) (hq : Quo E v xs Q) (hx : w.cell? a = some x) (h1 : x.oneCell' = true) (hn : xs.length ≤ 1000000000) (hb : i.bytes ≤ 16) :
    ∃ v' w' Q', (Builtin.append_ #[t, t] ty' #[v, .slice (some a) 1 c]).run P w = .ok v' w' ∧ Hp w0 w' (A ++ Q') ∧ Quo E v' (xs ++ [x]) Q' := by
  have hu : P.underlying t = some (.slice E) := (T.ok t _ ht).k
  obtain ⟨j, hj, hjj⟩ := Option.map_eq_some_iff.1 (T.ok E i hi).info
  simp only [Prod.mk.injEq] at hjj
  obtain ⟨hj1, hj2, hj3⟩ := hjj
  rw [hsz] at hj2
  have hnew : ∀ (q : Nat) (u : Value), [x][q]? = some u → w.cell? (a.add q) = some u := fun q u hu => by
    cases q with
    | zero => simp only [List.getElem?_cons_zero, Option.some.injEq] at hu; subst hu; rw [Addr.add_zero']; exact hx
    | succ q => simp at hu
  have hby : ∀ m, m ≤ 1000000001 → m * j.bytes ≤ 140737488355328 := fun m hm => by rw [hj3]; exact Nat.le_trans (Nat.mul_le_mul hm hb) (by decide)
  rcases hq with ⟨rfl, rfl, rfl⟩ | ⟨b, off, cap, cur, rfl, rfl, k1, k2, k3, k4⟩
  · obtain ⟨v', w', hr, ho, hg, _⟩ := run_append_own (P := P) w w.heap.size t ty' E j i.zero 1 j.bytes hu hj hj1 hj2 rfl hzs (by decide) (.slice none 0 0) 0 [] (World.ownsRow_nil w _ _ _) a 1 c [x] rfl hnew (by simpa using h1) (by unfold maxLen; omega) (by have := hby 1 (by omega); omega) (Nat.le_refl _)
    obtain ⟨hl, ⟨hv, hn0⟩ | ⟨g', cap, cur, hv, hb', hgg, hnc, hcm, hcs, htk⟩⟩ := ho
    · exact absurd hn0 (by decide)
    · refine ⟨v', w', [.blk g' (.cells cur E (0, 0))], hr, ?_, .inr ⟨g', 0, cap, cur, hv, rfl, by omega, hnc, by simpa using htk, hcm⟩⟩
      have hp' : Hp w0 w A := by simpa using hp
      have := hp'.push hg (.blk g' (.cells cur E (0, 0))) ⟨Nat.le_trans hp.below.size hb', hgg⟩ (fun k hk => by simp only [Ent.owns] at hk; omega)
      have h2 := Hp.rot [_] A [] (by simpa using this)
      simpa using h2
  · have hp' : Hp w0 w ([.blk b (.cells cur E (0, 0))] ++ A) := by have := Hp.rot A [_] [] (by simpa using hp); simpa using this
    have hh := hp'.obj 0 rfl
    by_cases hroom : xs.length + 1 ≤ cap
    · have hr := run_append_roomO (P := P) (w := w) t ty' E j hu hj hj2 b off xs.length cap cur hh a c x hx h1 hroom (by omega)
      have hp2 := hp'.set 0 rfl rfl (setB_row hh (cur.toList.take (off + xs.length) ++ [x] ++ cur.toList.drop (off + xs.length + 1)).toArray)
      refine ⟨_, _, [.blk b (.cells (cur.toList.take (off + xs.length) ++ [x] ++ cur.toList.drop (off + xs.length + 1)).toArray E (0, 0))], hr, ?_, .inr ⟨b, off, cap, _, by rw [List.length_append]; rfl, rfl, ?_, by rw [List.length_append]; exact hroom, ?_, k4⟩⟩
      · have := Hp.rot [_] A [] (by simpa using hp2)
        simpa using this
      · simp only [List.size_toArray, List.length_append, List.length_take, List.length_drop, Array.length_toList, List.length_cons, List.length_nil]
        omega
      · simp only [List.length_append, List.length_cons, List.length_nil]
        have e1 : (cur.toList.take (off + xs.length) ++ [x] ++ cur.toList.drop (off + xs.length + 1)).drop off = xs ++ [x] ++ cur.toList.drop (off + xs.length + 1) := by
          have hlen : off ≤ (cur.toList.take (off + xs.length)).length := by simp only [List.length_take, Array.length_toList]; omega
          rw [List.append_assoc, List.drop_append_of_le_length hlen, List.drop_take, show off + xs.length - off = xs.length by omega, k3, ← List.append_assoc]
        rw [e1, show xs.length + (0 + 1) = (xs ++ [x]).length by simp, List.take_left]
    · have holds : ∀ (q : Nat) (u : Value), xs[q]? = some u → w.cell? ((⟨b, off, none⟩ : Addr).add q) = some u := by
        intro q u hq
        rw [Addr.add_lit]
        refine cell_of_obj hh ?_
        rw [← k3, List.getElem?_take] at hq
        split at hq
        · rw [List.getElem?_drop] at hq; simpa using hq
        · cases hq
      have hr := run_append_grow (P := P) w t ty' E j i.zero hu hj hj1 ⟨b, off, none⟩ xs.length cap xs (by rw [hj2, Nat.mul_one]) holds a 1 c [x] (by rw [hj2]; rfl) hnew (by omega) (by omega) (growslice_fits (by omega) (hby _ (by omega)))
      have hge := grownCap_ge w (xs.length + 1) cap E
      have hcm := grownCap_le_maxLen w (xs.length + 1) cap E (by unfold maxLen; omega)
      generalize grownCap w (xs.length + 1) cap E = gc at *
      have hp2 := (hp'.tail.keep (drewB w)).new (newB w.drew (.cells (xs.toArray ++ [x].toArray ++ Builtin.zeroCells i.zero.cells (gc - (xs.length + 1))) E))
      refine ⟨_, _, [.blk w.heap.size (.cells (xs.toArray ++ [x].toArray ++ Builtin.zeroCells i.zero.cells (gc - (xs.length + 1))) E (0, 0))], hr, ?_, .inr ⟨w.heap.size, 0, gc, _, by rw [List.length_append]; rfl, rfl, ?_, by rw [List.length_append]; exact hge, ?_, hcm⟩⟩
      · have := Hp.rot [_] A [] (by simpa using hp2)
        simpa using this
      · simp only [Array.size_append, List.size_toArray, size_zeroCells, hzs, List.length_cons, List.length_nil]
        omega
      · simp only [Array.toList_append, List.drop_zero, List.toList_toArray]
        exact List.take_left
/-- append of one value, to a queue. -/
theorem WL.appQ {d : Nat} {s y : Operand} {t E : TypeId} {i : TI} {z : Value} {s0 b0 : Nat} {w0 : World} {A Q : List Ent} {v x : Value} {xs : List Value} {a : Addr} {c : Nat}
    (hg : grd l0 e g = some true) (hd : Nat.blt d n = true) (ht : T.ti t = some ⟨.slice E, z, s0, b0⟩) (hi : T.ti E = some i) (hzs : i.zero.cells.size = 1) (hsz : i.size = 1)
    (hsv : opv e s = some v) (hyv : opv e y = some (.slice (some a) 1 c)) (hp : Hp w0 w (A ++ Q)) (hq : Quo E v xs Q) (hx : w.cell? a = some x) (h1 : x.oneCell' = true) (hn : xs.length ≤ 1000000000) (hb : i.bytes ≤ 16)
    (h : ∀ v' w' Q', Hp w0 w' (A ++ Q') → Quo E v' (xs ++ [x]) Q' → WL P ro n l0 N Z rest ((d, v') :: e) w') :
    WL P ro n l0 N Z (⟨some d, .call ⟨.builtin .append, #[s, y], #[t, t]⟩, ty, pos, aft, g⟩ :: rest) e w := by
  obtain ⟨v', w', Q', hr, hp', hq'⟩ := run_appQ (c := c) (ty' := ty) ht hi hzs hsz hp hq hx h1 hn hb
  refine WL.val (w' := w') hg rfl hd ?_ (h v' w' Q' hp' hq')
  intro ρ hρ d' pos' aft' g'
  simp [execOp, resolve, invoke, builtin, hρ _ _ hsv, hρ _ _ hyv, hr]
/-- 'x[1:]' of a queue. -/
theorem WL.tailQ {d : Nat} {t E : TypeId} {i : TI} {z : Value} {s0 b0 : Nat} {q y : Operand} {v x : Value} {xs : List Value} {Q : List Ent} {k : IntKind}
    (hg : grd l0 e g = some true) (hd : Nat.blt d n = true) (ht : T.ti t = some ⟨.slice E, z, s0, b0⟩) (hi : T.ti E = some i) (hs : i.size = 1)
    (hx : opv e q = some v) (hy : opv e y = some (.int k (1 : Nat))) (hq : Quo E v (x :: xs) Q)
    (h : ∀ v', Quo E v' xs Q → WL P ro n l0 N Z rest ((d, v') :: e) w) :
    WL P ro n l0 N Z (⟨some d, .slice t q (some y) none none, ty, pos, aft, g⟩ :: rest) e w := by
  have hu : P.underlying t = some (.slice E) := (T.ok t _ ht).k
  have hel : P.elem t = E := by simp [Program.elem, hu]
  have hu' : P.underlying t = some (.slice (P.elem t)) := by rw [hel]; exact hu
  have hsz := (T.ok E i hi).sizeOf w
  obtain ⟨b, off, cap, cur, rfl, _, _, hle, _⟩ : ∃ b off cap cur, v = .slice (some ⟨b, off, none⟩) (x :: xs).length cap ∧ Q = [.blk b (.cells cur E (0, 0))] ∧ off + cap ≤ cur.size ∧ (x :: xs).length ≤ cap ∧ True := by
    rcases hq with ⟨_, h, _⟩ | ⟨b, off, cap, cur, h1, h2, h3, h4, _⟩
    · cases h
    · exact ⟨b, off, cap, cur, h1, h2, h3, h4, trivial⟩
  have h1 : 1 ≤ (x :: xs).length := by simp
  have hr := run_slice_l (P := P) w t (some ⟨b, off, none⟩) (x :: xs).length cap hu' k 1 (by omega) (by omega)
  rw [hel, hsz, hs] at hr
  refine WL.val hg rfl hd ?_ (h _ hq.tail)
  intro ρ hρ d' pos' aft' g'
  simp only [execOp, hρ _ _ hx, Option.map_none, Option.map_some, hρ _ _ hy, Sem.run_bind]
  rw [run_sliceAt_slice w t _ _ _ _ hu']
  rw [show (((1 : Nat) : Int)) = (1 : Int) from rfl, hr]
  by_cases hc : cap = 1
  · simp [sliced, hc]
  · simp [sliced, hc, Addr.add_lit]
end
end Go.W
