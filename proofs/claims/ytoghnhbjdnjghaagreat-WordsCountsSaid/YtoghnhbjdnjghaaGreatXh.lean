/- The automaton of a system in plain words: how many strings of each length are normal. -/
import Derived.Test.YtoghnhbjdnjghaaGreatV29
import Derived.Test.YtoghnhbjdnjghaaGreatXa
namespace Go.Words
open Go.W Go.Proofs.YtoghnhbjdnjghaaGreat

/-! ### Ends of strings -/
def endB (l : List Rl) (s : Str) : Bool := l.any fun r => r.1.isSuffixOf s
def sufS (P : List Str) : Str → Str
  | [] => []
  | c :: s => if c :: s ∈ P then c :: s else sufS P s
theorem sufS_suf (P : List Str) : ∀ s : Str, sufS P s <:+ s := by
  intro s
  induction s with
  | nil => exact List.suffix_refl _
  | cons c s ih =>
    rw [sufS]
    split
    · exact List.suffix_refl _
    · exact ih.trans (List.suffix_cons c s)
theorem sufS_mem {P : List Str} (h : [] ∈ P) : ∀ s : Str, sufS P s ∈ P := by
  intro s
  induction s with
  | nil => exact h
  | cons c s ih =>
    rw [sufS]
    split
    · assumption
    · exact ih
theorem sufS_max {P : List Str} : ∀ (s q : Str), q <:+ s → q ∈ P → q <:+ sufS P s := by
  intro s
  induction s with
  | nil => intro q h _; exact h
  | cons c s ih =>
    intro q h hq
    rw [sufS]
    split
    · exact h
    · rename_i hn
      rcases List.suffix_cons_iff.1 h with rfl | h
      · exact absurd hq hn
      · exact ih q h hq
theorem suf_anti {a b : Str} (h : a <:+ b) (k : b <:+ a) : a = b := h.eq_of_length_le k.length_le
/-- A list of beginnings, closed, with all that a left side begins with. -/
structure Pf (l : List Rl) (P : List Str) : Prop where
  nil : [] ∈ P
  clos : ∀ (q : Str) (c : UInt8), q ++ [c] ∈ P → q ∈ P
  left : ∀ r ∈ l, ∀ (q : Str) (c : UInt8), r.1 = q ++ [c] → q ∈ P
theorem suf_snoc {a w : Str} {c : UInt8} (h : a <:+ w ++ [c]) : a = [] ∨ ∃ t, a = t ++ [c] ∧ t <:+ w := by
  obtain ⟨z, hz⟩ := h
  rcases List.eq_nil_or_concat a with rfl | ⟨t, d, rfl⟩
  · exact .inl rfl
  · right
    rw [List.concat_eq_append] at hz ⊢
    rw [← List.append_assoc] at hz
    have h1 := List.append_inj' hz rfl
    have h2 : d = c := by simpa using h1.2
    exact ⟨t, by rw [h2], z, h1.1⟩
theorem suf_app {a w : Str} (c : UInt8) (h : a <:+ w) : a ++ [c] <:+ w ++ [c] := by
  obtain ⟨z, rfl⟩ := h
  exact ⟨z, by simp⟩
theorem sufS_step {l : List Rl} {P : List Str} (hP : Pf l P) (w : Str) (c : UInt8) : sufS P (sufS P w ++ [c]) = sufS P (w ++ [c]) := by
  refine suf_anti ?_ ?_
  · exact sufS_max _ _ ((sufS_suf P _).trans (suf_app c (sufS_suf P w))) (sufS_mem hP.nil _)
  · refine sufS_max _ _ ?_ (sufS_mem hP.nil _)
    have h1 := sufS_suf P (w ++ [c])
    have h2 := sufS_mem hP.nil (w ++ [c])
    rcases suf_snoc h1 with h | ⟨t, h, ht⟩
    · rw [h]; exact List.nil_suffix
    · rw [h] at h2 ⊢
      exact suf_app c (sufS_max w t ht (hP.clos t c h2))
theorem end_step {l : List Rl} {P : List Str} (hP : Pf l P) (hne : ∀ r ∈ l, r.1 ≠ []) (w : Str) (c : UInt8) : endB l (sufS P w ++ [c]) = endB l (w ++ [c]) := by
  unfold endB
  rw [Bool.eq_iff_iff, List.any_eq_true, List.any_eq_true]
  constructor
  · rintro ⟨r, hr, h⟩
    exact ⟨r, hr, List.isSuffixOf_iff_suffix.2 ((List.isSuffixOf_iff_suffix.1 h).trans (suf_app c (sufS_suf P w)))⟩
  · rintro ⟨r, hr, h⟩
    refine ⟨r, hr, List.isSuffixOf_iff_suffix.2 ?_⟩
    rcases suf_snoc (List.isSuffixOf_iff_suffix.1 h) with h | ⟨t, h, ht⟩
    · exact absurd h (hne r hr)
    · rw [h]
      exact suf_app c (sufS_max w t ht (hP.left r hr t c h))

/-! ### The normal strings -/
def ltr (c : Nat) : UInt8 := UInt8.ofNat (97 + c)
def exts (k : Nat) (w : Str) : List Str := (List.range k).map fun c => w ++ [ltr c]
def Wn (k : Nat) : Nat → List Str
  | 0 => [[]]
  | n + 1 => (Wn k n).flatMap (exts k)
def nm (l : List Rl) (k : Nat) : Nat → List Str
  | 0 => [[]]
  | n + 1 => (nm l k n).flatMap fun w => (exts k w).filter fun u => !endB l u
theorem nf_snoc {l : List Rl} (hd : Dc l) (w : Str) (c : UInt8) : firstM l (w ++ [c]) = none ↔ firstM l w = none ∧ endB l (w ++ [c]) = false := by
  constructor
  · intro h
    have hn := firstM_nf hd h
    constructor
    · refine nf_firstM ?_
      rintro u ⟨x, r, y, hr, rfl, _⟩
      exact hn _ ⟨x, r, y ++ [c], hr, by simp, rfl⟩
    · rw [← Bool.not_eq_true]
      intro he
      unfold endB at he
      obtain ⟨r, hr, hs⟩ := List.any_eq_true.1 he
      obtain ⟨z, hz⟩ := List.isSuffixOf_iff_suffix.1 hs
      exact hn _ ⟨z, r, [], hr, by rw [List.append_nil]; exact hz.symm, rfl⟩
  · rintro ⟨h1, h2⟩
    have hn := firstM_nf hd h1
    refine nf_firstM ?_
    rintro u ⟨x, r, y, hr, he, _⟩
    rcases List.eq_nil_or_concat y with rfl | ⟨y', d, rfl⟩
    · rw [List.append_nil] at he
      have : endB l (w ++ [c]) = true := by
        unfold endB
        rw [List.any_eq_true]
        exact ⟨r, hr, List.isSuffixOf_iff_suffix.2 ⟨x, he.symm⟩⟩
      rw [h2] at this
      cases this
    · rw [List.concat_eq_append, ← List.append_assoc, ← List.append_assoc] at he
      have h3 := (List.append_inj' he rfl).1
      exact hn _ ⟨x, r, y', hr, by rw [h3, List.append_assoc], rfl⟩
theorem filter_flat {α β : Type} (p : α → Bool) (q : β → Bool) (f : α → List β) (g : α → List β) (h1 : ∀ a, p a = true → (f a).filter q = g a) (h2 : ∀ a, p a = false → (f a).filter q = []) :
    ∀ L : List α, (L.flatMap f).filter q = (L.filter p).flatMap g := by
  intro L
  induction L with
  | nil => rfl
  | cons a L ih =>
    rw [List.flatMap_cons, List.filter_append, ih, List.filter_cons]
    cases hp : p a with
    | true => rw [if_pos rfl, List.flatMap_cons, h1 a hp]
    | false => rw [if_neg (by decide), h2 a hp]; rfl
theorem nm_eq {l : List Rl} (hd : Dc l) (k : Nat) : ∀ n, nm l k n = (Wn k n).filter fun w => (firstM l w).isNone := by
  intro n
  induction n with
  | zero =>
    show [[]] = [([] : Str)].filter fun w => (firstM l w).isNone
    rfl
  | succ n ih =>
    rw [nm, Wn, ih]
    refine (filter_flat _ _ _ _ (fun w hw => ?_) (fun w hw => ?_) _).symm
    · refine List.filter_congr (fun u hu => ?_)
      unfold exts at hu
      obtain ⟨c, _, rfl⟩ := List.mem_map.1 hu
      have h1 := nf_snoc hd w (ltr c)
      have hw : firstM l w = none := by simpa using hw
      rw [Bool.eq_iff_iff, Option.isNone_iff_eq_none, h1, Bool.not_eq_true']
      exact ⟨fun h => h.2, fun h => ⟨hw, h⟩⟩
    · rw [List.filter_eq_nil_iff]
      intro u hu
      unfold exts at hu
      obtain ⟨c, _, rfl⟩ := List.mem_map.1 hu
      rw [Option.isNone_iff_eq_none, nf_snoc hd w (ltr c)]
      rintro ⟨h, _⟩
      rw [h] at hw
      cases hw

/-! ### Sums over lists -/
theorem sum_add {α : Type} (f g : α → Nat) : ∀ L : List α, (L.map fun x => f x + g x).sum = (L.map f).sum + (L.map g).sum := by
  intro L
  induction L with
  | nil => rfl
  | cons a L ih => simp only [List.map_cons, List.sum_cons, ih]; omega
theorem sum_zero {α : Type} : ∀ L : List α, (L.map fun _ => 0).sum = 0 := by
  intro L
  induction L with
  | nil => rfl
  | cons a L ih => simp only [List.map_cons, List.sum_cons, ih]
theorem sum_pick {β : Type} [DecidableEq β] (g : β → Nat) (b : β) : ∀ L : List β, L.Nodup → b ∈ L → (L.map fun q => if b = q then g q else 0).sum = g b := by
  intro L
  induction L with
  | nil => intro _ h; cases h
  | cons a L ih =>
    intro hn hm
    obtain ⟨h1, h2⟩ := List.nodup_cons.1 hn
    simp only [List.map_cons, List.sum_cons]
    by_cases hb : b = a
    · subst hb
      rw [if_pos rfl]
      have : (L.map fun q => if b = q then g q else 0) = L.map fun _ => 0 := by
        refine List.map_congr_left (fun q hq => ?_)
        rw [if_neg (fun h => h1 (by rw [h]; exact hq))]
      rw [this, sum_zero]; rfl
    · rw [if_neg hb, Nat.zero_add]
      exact ih h2 ((List.mem_cons.1 hm).resolve_left hb)
theorem count_split {α β : Type} [DecidableEq β] (f : α → β) (L : List β) (g : β → Nat) (hn : L.Nodup) : ∀ ws : List α, (∀ w ∈ ws, f w ∈ L) → (ws.map fun w => g (f w)).sum = (L.map fun q => (ws.countP fun w => decide (f w = q)) * g q).sum := by
  intro ws
  induction ws with
  | nil =>
    intro _
    have : (L.map fun q => (([] : List α).countP fun w => decide (f w = q)) * g q) = L.map fun _ => 0 := List.map_congr_left (fun q _ => by rw [List.countP_nil, Nat.zero_mul])
    rw [this, sum_zero]; rfl
  | cons w ws ih =>
    intro hm
    have h1 : (L.map fun q => ((w :: ws).countP fun w => decide (f w = q)) * g q) = L.map fun q => (ws.countP fun w => decide (f w = q)) * g q + (if f w = q then g q else 0) := by
      refine List.map_congr_left (fun q _ => ?_)
      rw [List.countP_cons, Nat.add_mul]
      by_cases h : f w = q
      · rw [if_pos h, if_pos (decide_eq_true h), Nat.one_mul]
      · rw [if_neg h, if_neg (by simpa using h), Nat.zero_mul]
    rw [h1, sum_add, sum_pick g (f w) L hn (hm w (List.mem_cons_self)), ← ih (fun v hv => hm v (List.mem_cons_of_mem _ hv)), List.map_cons, List.sum_cons]
    omega
theorem sum_one {α : Type} : ∀ L : List α, (L.map fun _ => 1).sum = L.length := by
  intro L
  induction L with
  | nil => rfl
  | cons a L ih => simp only [List.map_cons, List.sum_cons, ih, List.length_cons]; omega
theorem countP_flat {α β : Type} (p : β → Bool) (f : α → List β) : ∀ L : List α, (L.flatMap f).countP p = (L.map fun a => (f a).countP p).sum := by
  intro L
  induction L with
  | nil => rfl
  | cons a L ih => rw [List.flatMap_cons, List.countP_append, ih, List.map_cons, List.sum_cons]

/-! ### What is added up -/
def hits (row : List Int) (j : Nat) : Nat := row.countP fun t => decide (t = (j : Int))
theorem hits_cons (t : Int) (row : List Int) (j : Nat) : hits (t :: row) j = hits row j + (if t = (j : Int) then 1 else 0) := by
  unfold hits
  rw [List.countP_cons]
  by_cases h : t = (j : Int)
  · rw [if_pos h, if_pos (decide_eq_true h)]
  · rw [if_neg h, if_neg (by simpa using h)]
theorem getD_set {l : List Int} {i j : Nat} {x : Int} (hi : i < l.length) : (l.set i x).getD j 0 = if i = j then x else l.getD j 0 := by
  rw [List.getD_eq_getElem?_getD, List.getD_eq_getElem?_getD, List.getElem?_set]
  split
  · rename_i h
    subst h
    first | rfl | (rw [if_pos hi]; rfl)
  · rfl
theorem spI_some {n : Nat} : ∀ (row out o : List Int), spI (n : Int) row out = some o → (∀ t ∈ row, t < (out.length : Int)) → o.length = out.length ∧ ∀ j, j < out.length → o.getD j 0 = out.getD j 0 + ((n * hits row j : Nat) : Int) := by
  intro row
  induction row with
  | nil =>
    intro out o h _
    obtain rfl := Option.some.inj h
    exact ⟨rfl, fun j _ => by show _ = _ + ((n * 0 : Nat) : Int); rw [Nat.mul_zero]; omega⟩
  | cons t row ih =>
    intro out o h ht
    have htt := ht t (List.mem_cons_self)
    have htr : ∀ t ∈ row, t < (out.length : Int) := fun x hx => ht x (List.mem_cons_of_mem _ hx)
    rw [spI] at h
    split at h
    · obtain ⟨h1, h2⟩ := ih out o h htr
      refine ⟨h1, fun j hj => ?_⟩
      rw [h2 j hj, hits_cons, if_neg (by omega), Nat.add_zero]
    · split at h
      · cases h
      · obtain ⟨h1, h2⟩ := ih _ o h (by rw [List.length_set]; exact htr)
        rw [List.length_set] at h1 h2
        refine ⟨h1, fun j hj => ?_⟩
        rw [h2 j hj, getD_set (by omega), hits_cons]
        by_cases hj2 : t.toNat = j
        · rw [if_pos hj2, if_pos (by omega), hj2, Nat.mul_add, Nat.mul_one]
          omega
        · rw [if_neg hj2, if_neg (by omega), Nat.add_zero]
theorem spI_none {n : Nat} : ∀ (row out : List Int), spI (n : Int) row out = none → (∀ t ∈ row, t < (out.length : Int)) → ∃ j, j < out.length ∧ 4611686018427387904 < out.getD j 0 + ((n * hits row j : Nat) : Int) := by
  intro row
  induction row with
  | nil => intro out h _; cases h
  | cons t row ih =>
    intro out h ht
    have htt := ht t (List.mem_cons_self)
    have htr : ∀ t ∈ row, t < (out.length : Int) := fun x hx => ht x (List.mem_cons_of_mem _ hx)
    rw [spI] at h
    split at h
    · obtain ⟨j, hj, h2⟩ := ih out h htr
      refine ⟨j, hj, ?_⟩
      rw [hits_cons, if_neg (by omega), Nat.add_zero]; exact h2
    · split at h
      · rename_i h0 h3
        refine ⟨t.toNat, by omega, ?_⟩
        rw [hits_cons, if_pos (by omega), Nat.mul_add, Nat.mul_one]
        have : (0 : Int) ≤ ((n * hits row t.toNat : Nat) : Int) := by omega
        omega
      · obtain ⟨j, hj, h2⟩ := ih _ h (by rw [List.length_set]; exact htr)
        rw [List.length_set] at hj
        refine ⟨j, hj, ?_⟩
        rw [getD_set (by omega)] at h2
        rw [hits_cons]
        by_cases hj2 : t.toNat = j
        · rw [if_pos hj2, hj2] at h2
          rw [if_pos (by omega), Nat.mul_add, Nat.mul_one]
          omega
        · rw [if_neg hj2] at h2
          rw [if_neg (by omega), Nat.add_zero]; exact h2
def accS : List Nat → List (List Int) → Nat → Nat
  | n :: ns, row :: tab, j => n * hits row j + accS ns tab j
  | _, _, _ => 0
def up (ns : List Nat) : List Int := ns.map fun (n : Nat) => (n : Int)
theorem spO_some : ∀ (ns : List Nat) (tab : List (List Int)) (out o : List Int), spO (up ns) tab out = some o → (∀ row ∈ tab, ∀ t ∈ row, t < (out.length : Int)) → o.length = out.length ∧ ∀ j, j < out.length → o.getD j 0 = out.getD j 0 + (accS ns tab j : Nat) := by
  intro ns
  induction ns with
  | nil =>
    intro tab out o h _
    rw [show up [] = [] from rfl, spO] at h
    obtain rfl := Option.some.inj h
    exact ⟨rfl, fun j _ => by show _ = _ + ((0 : Nat) : Int); omega⟩
  | cons n ns ih =>
    intro tab out o h ht
    cases tab with
    | nil =>
      rw [show up (n :: ns) = (n : Int) :: up ns from rfl, spO] at h
      obtain rfl := Option.some.inj h
      exact ⟨rfl, fun j _ => by show _ = _ + ((0 : Nat) : Int); omega⟩
    | cons row tab =>
      rw [show up (n :: ns) = (n : Int) :: up ns from rfl, spO] at h
      cases hs : spI (n : Int) row out with
      | none => rw [hs] at h; cases h
      | some q =>
        rw [hs] at h
        obtain ⟨h1, h2⟩ := spI_some row out q hs (ht row (List.mem_cons_self))
        obtain ⟨h3, h4⟩ := ih tab q o h (by rw [h1]; exact fun r hr => ht r (List.mem_cons_of_mem _ hr))
        rw [h1] at h3 h4
        refine ⟨h3, fun j hj => ?_⟩
        rw [h4 j hj, h2 j hj, accS]
        omega
theorem spO_none : ∀ (ns : List Nat) (tab : List (List Int)) (out : List Int), spO (up ns) tab out = none → (∀ row ∈ tab, ∀ t ∈ row, t < (out.length : Int)) → ∃ j, j < out.length ∧ 4611686018427387904 < out.getD j 0 + (accS ns tab j : Nat) := by
  intro ns
  induction ns with
  | nil => intro tab out h _; rw [show up [] = [] from rfl, spO] at h; cases h
  | cons n ns ih =>
    intro tab out h ht
    cases tab with
    | nil => rw [show up (n :: ns) = (n : Int) :: up ns from rfl, spO] at h; cases h
    | cons row tab =>
      rw [show up (n :: ns) = (n : Int) :: up ns from rfl, spO] at h
      cases hs : spI (n : Int) row out with
      | none =>
        obtain ⟨j, hj, h2⟩ := spI_none row out hs (ht row (List.mem_cons_self))
        refine ⟨j, hj, ?_⟩
        rw [accS]
        omega
      | some q =>
        rw [hs] at h
        obtain ⟨h1, h2⟩ := spI_some row out q hs (ht row (List.mem_cons_self))
        obtain ⟨j, hj, h4⟩ := ih tab q h (by rw [h1]; exact fun r hr => ht r (List.mem_cons_of_mem _ hr))
        rw [h1] at hj
        refine ⟨j, hj, ?_⟩
        rw [h2 j hj] at h4
        rw [accS]
        omega
theorem totN_up : ∀ (ns : List Nat) (s : Nat), (s : Int) ≤ 4611686018427387904 → totN (s : Int) (up ns) = if ((s + ns.sum : Nat) : Int) ≤ 4611686018427387904 then some ((s + ns.sum : Nat) : Int) else none := by
  intro ns
  induction ns with
  | nil =>
    intro s h
    show some (s : Int) = _
    rw [List.sum_nil, Nat.add_zero, if_pos h]
  | cons n ns ih =>
    intro s h
    rw [show up (n :: ns) = (n : Int) :: up ns from rfl, totN, List.sum_cons]
    split
    · rw [if_neg (by omega)]
    · rw [show ((s : Nat) : Int) + (n : Nat) = ((s + n : Nat) : Int) by omega, ih (s + n) (by omega), Nat.add_assoc]
end Go.Words
