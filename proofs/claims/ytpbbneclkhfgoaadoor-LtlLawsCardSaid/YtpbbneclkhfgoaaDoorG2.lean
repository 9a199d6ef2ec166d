/- Texts on the way to LtlLaws, one behind the other: Ym Yn Yo Yp Yq Yr Ys Yj Yt Yu Yv Yw MZ. -/
import Derived.Test.YtpbbneclkhfgoaaDoorG1
import Derived.WalkSmall
import Derived.Recover
import Derived.Defers
section
/- The shortest way: it always answers, and what it answers. -/
namespace Go.Ltl
open Go.W
theorem nd_sub {α : Type} [DecidableEq α] : ∀ (l1 l2 : List α), l1.Nodup → (∀ x ∈ l1, x ∈ l2) → l1.length ≤ l2.length := by
  intro l1
  induction l1 with
  | nil => intro l2 _ _; exact Nat.zero_le _
  | cons a l1 ih =>
    intro l2 hn hs
    obtain ⟨h1, h2⟩ := List.nodup_cons.1 hn
    have ha := hs a (by simp)
    have := ih (l2.erase a) h2 (fun x hx => (List.mem_erase_of_ne (fun e => h1 (by rw [← e]; exact hx))).2 (hs x (by simp [hx])))
    rw [List.length_erase_of_mem ha] at this
    have := List.length_pos_of_mem ha
    rw [List.length_cons]; omega
theorem nd_lt {l : List Nat} {N : Nat} (h : l.Nodup) (hl : ∀ u ∈ l, u < N) : l.length ≤ N := by
  have := nd_sub l (List.range N) h (fun x hx => List.mem_range.2 (hl x hx))
  rwa [List.length_range] at this
/-- What is reached from the start by states that may be. -/
inductive ReachW (next : List (List Nat)) (start : List Nat) (may : Nat → Bool) : Nat → Prop
  | start {u : Nat} : u ∈ start → may u = true → ReachW next start may u
  | step {v u : Nat} : ReachW next start may v → u ∈ next.getD v [] → may u = true → ReachW next start may u
/-- One follows the other. -/
def linkL (next : List (List Nat)) : Nat → List Nat → Prop
  | _, [] => True
  | v, u :: l => u ∈ next.getD v [] ∧ linkL next u l
def IsWay (next : List (List Nat)) (start : List Nat) (may fits : Nat → Bool) (l : List Nat) : Prop :=
  ∃ x r, l = x :: r ∧ x ∈ start ∧ linkL next x r ∧ (∀ u ∈ l, may u = true) ∧ fits (l.getLastD 0) = true ∧ l.Nodup
structure WInv (next : List (List Nat)) (start : List Nat) (may : Nat → Bool) (N : Nat) (B : Bef) (dn q : List Nat) : Prop where
  keys : B.map (·.1) = dn ++ q
  nd : (B.map (·.1)).Nodup
  lt : ∀ u ∈ B.map (·.1), u < N
  par : ∀ (i : Nat) (p : Nat × Int), B[i]? = some p → may p.1 = true ∧ ((p.2 = -1 ∧ p.1 ∈ start) ∨ ∃ j pj, j < i ∧ B[j]? = some pj ∧ p.2 = ((pj.1 : Nat) : Int) ∧ p.1 ∈ next.getD pj.1 [])
theorem lkB_nokey {B : Bef} {u : Nat} : lkB B u = none ↔ u ∉ B.map (·.1) := by
  induction B with
  | nil => simp [lkB]
  | cons p r ih =>
    unfold lkB
    split
    · rename_i h; simp [h]
    · rename_i h; rw [ih, List.map_cons, List.mem_cons, not_or]; exact ⟨fun h2 => ⟨h, h2⟩, fun h2 => h2.2⟩
theorem lkB_at {B : Bef} (hn : (B.map (·.1)).Nodup) : ∀ {i : Nat} {p : Nat × Int}, B[i]? = some p → lkB B p.1 = some p.2 := by
  induction B with
  | nil => intro i p h; simp at h
  | cons x r ih =>
    intro i p h
    rw [List.map_cons, List.nodup_cons] at hn
    unfold lkB
    cases i with
    | zero =>
      simp only [List.getElem?_cons_zero, Option.some.injEq] at h
      subst h
      rw [if_pos rfl]
    | succ i =>
      rw [List.getElem?_cons_succ] at h
      have hm : p.1 ∈ r.map (·.1) := List.mem_map_of_mem (List.mem_of_getElem? h)
      rw [if_neg (fun e : p.1 = x.1 => hn.1 (e ▸ hm))]
      exact ih hn.2 h
variable {next : List (List Nat)} {start : List Nat} {may fits : Nat → Bool} {N : Nat}
theorem addM_inv {B : Bef} {dn q : List Nat} (h : WInv next start may N B dn q) {par : Int} {u : Nat} (hu : u < N) (hp : (par = -1 ∧ u ∈ start) ∨ ∃ pj ∈ B, par = ((pj.1 : Nat) : Int) ∧ u ∈ next.getD pj.1 []) :
    WInv next start may N (addM may par (B, q) u).1 dn (addM may par (B, q) u).2 ∧ (∃ e, (addM may par (B, q) u).1 = B ++ e) ∧ (may u = true → u ∈ (addM may par (B, q) u).1.map (·.1)) := by
  unfold addM
  by_cases hc : ((lkB B u).isNone && may u) = true
  · rw [if_pos hc]
    simp only [Bool.and_eq_true, Option.isNone_iff_eq_none] at hc
    obtain ⟨h1, h2⟩ := hc
    have h1 := lkB_nokey.1 h1
    refine ⟨⟨?_, ?_, ?_, ?_⟩, ⟨_, rfl⟩, fun _ => by simp⟩
    · show (B ++ [(u, par)]).map (·.1) = dn ++ (q ++ [u])
      rw [List.map_append, h.keys, List.append_assoc]; rfl
    · show ((B ++ [(u, par)]).map (·.1)).Nodup
      rw [List.map_append, List.nodup_append]
      refine ⟨h.nd, by simp, fun a ha b hb e => ?_⟩
      simp only [List.map_cons, List.map_nil, List.mem_singleton] at hb
      subst hb; subst e
      exact h1 ha
    · intro x hx
      rw [List.map_append, List.mem_append] at hx
      rcases hx with hx | hx
      · exact h.lt x hx
      · simp only [List.map_cons, List.map_nil, List.mem_singleton] at hx
        subst hx; exact hu
    · intro i p hi
      by_cases hb : i < B.length
      · have hi' : B[i]? = some p := by rw [← hi]; exact (List.getElem?_append_left hb).symm
        obtain ⟨k1, k2⟩ := h.par i p hi'
        refine ⟨k1, k2.imp id ?_⟩
        rintro ⟨j, pj, hj, hjj, r1, r2⟩
        exact ⟨j, pj, hj, (List.getElem?_append_left (Nat.lt_trans hj hb)).trans hjj, r1, r2⟩
      · have hl := (List.getElem?_eq_some_iff.1 hi).1
        rw [List.length_append] at hl
        have hi2 : i = B.length := by simp only [List.length_cons, List.length_nil] at hl; omega
        subst hi2
        have hi' : some (u, par) = some p := by rw [← hi, List.getElem?_append_right (Nat.le_refl _), Nat.sub_self]; rfl
        simp only [Option.some.injEq] at hi'
        subst hi'
        refine ⟨h2, hp.imp id ?_⟩
        rintro ⟨pj, hpj, r1, r2⟩
        obtain ⟨j, hj, hje⟩ := List.getElem_of_mem hpj
        exact ⟨j, pj, hj, by rw [List.getElem?_append_left hj, List.getElem?_eq_getElem hj, hje], r1, r2⟩
  · rw [if_neg hc]
    refine ⟨h, ⟨[], (List.append_nil _).symm⟩, fun hm => ?_⟩
    rw [hm, Bool.and_true] at hc
    by_cases hk : u ∈ B.map (·.1)
    · exact hk
    · exact absurd (by rw [lkB_nokey.2 hk]; rfl) hc
theorem addsM_inv {par : Int} : ∀ (l : List Nat) (B : Bef) (dn q : List Nat), WInv next start may N B dn q → (∀ u ∈ l, u < N ∧ ((par = -1 ∧ u ∈ start) ∨ ∃ pj ∈ B, par = ((pj.1 : Nat) : Int) ∧ u ∈ next.getD pj.1 [])) →
    ∃ B' q', l.foldl (addM may par) (B, q) = (B', q') ∧ WInv next start may N B' dn q' ∧ (∃ e, B' = B ++ e) ∧ ∀ u ∈ l, may u = true → u ∈ B'.map (·.1) := by
  intro l
  induction l with
  | nil => intro B dn q h _; exact ⟨B, q, rfl, h, ⟨[], (List.append_nil _).symm⟩, fun u hu => by cases hu⟩
  | cons x l ih =>
    intro B dn q h hl
    obtain ⟨h1, ⟨e, h2⟩, h3⟩ := addM_inv h (hl x (by simp)).1 (hl x (by simp)).2
    obtain ⟨B', q', k1, k2, ⟨e2, k3⟩, k4⟩ := ih (addM may par (B, q) x).1 dn (addM may par (B, q) x).2 h1 (fun u hu => by
      refine ⟨(hl u (List.mem_cons_of_mem _ hu)).1, (hl u (List.mem_cons_of_mem _ hu)).2.imp id ?_⟩
      rintro ⟨pj, r1, r2⟩
      exact ⟨pj, by rw [h2]; exact List.mem_append_left _ r1, r2⟩)
    refine ⟨B', q', k1, k2, ⟨e ++ e2, by rw [k3, h2, List.append_assoc]⟩, fun u hu hm => ?_⟩
    rcases List.mem_cons.1 hu with rfl | hu
    · have := h3 hm
      rw [k3, List.map_append]
      exact List.mem_append_left _ this
    · exact k4 u hu hm
theorem backM_ok {B : Bef} {dn q : List Nat} (h : WInv next start may N B dn q) : ∀ (i f : Nat) (p : Nat × Int) (r : List Nat), B[i]? = some p → i ≤ f → linkL next p.1 r → (∀ u ∈ p.1 :: r, may u = true) → fits ((p.1 :: r).getLastD 0) = true → (p.1 :: r).Nodup → (∀ u ∈ r, ∃ j q, i < j ∧ B[j]? = some q ∧ q.1 = u) →
    ∃ l, backM B f p.1 (p.1 :: r) = some l ∧ IsWay next start may fits l := by
  intro i
  induction i using Nat.strongRecOn with
  | _ i ih =>
    intro f p r hp hf hl hm hfit hnd hix
    have hk := lkB_at h.nd hp
    obtain ⟨_, h2⟩ := h.par i p hp
    rcases h2 with ⟨h2, h3⟩ | ⟨j, pj, hj, hjj, r1, r2⟩
    · have hneg : ¬ (0 : Int) ≤ (lkB B p.1).getD 0 := by rw [hk, Option.getD_some, h2]; decide
      refine ⟨p.1 :: r, ?_, p.1, r, rfl, h3, hl, hm, hfit, hnd⟩
      cases f with
      | zero => show (if _ then _ else _) = _; rw [if_neg hneg]
      | succ f => show (if _ then _ else _) = _; rw [if_neg hneg]
    · have hpos : (0 : Int) ≤ (lkB B p.1).getD 0 := by rw [hk, Option.getD_some, r1]; omega
      have htn : ((lkB B p.1).getD 0).toNat = pj.1 := by rw [hk, Option.getD_some, r1]; omega
      cases f with
      | zero => omega
      | succ f =>
        obtain ⟨l, k1, k2⟩ := ih j hj f pj (p.1 :: r) hjj (by omega) ⟨r2, hl⟩ (fun u hu => by
          rcases List.mem_cons.1 hu with rfl | hu
          · exact (h.par j pj hjj).1
          · exact hm u hu) (by rw [List.getLastD_cons] at hfit ⊢; rw [List.getLastD_cons]; exact hfit) (by
          refine List.nodup_cons.2 ⟨fun hmem => ?_, hnd⟩
          obtain ⟨j2, q, h4, h5, h6⟩ : ∃ j2 q, i ≤ j2 ∧ B[j2]? = some q ∧ q.1 = pj.1 := by
            rcases List.mem_cons.1 hmem with e | hmem
            · exact ⟨i, p, Nat.le_refl _, hp, e.symm⟩
            · obtain ⟨j2, q, h4, h5, h6⟩ := hix _ hmem
              exact ⟨j2, q, by omega, h5, h6⟩
          have l1 : (B.map (·.1))[j]? = some pj.1 := by rw [List.getElem?_map, hjj]; rfl
          have l2 : (B.map (·.1))[j2]? = some pj.1 := by rw [List.getElem?_map, h5, ← h6]; rfl
          have := (List.getElem?_inj (by have := (List.getElem?_eq_some_iff.1 l1).1; exact this) h.nd).1 (l1.trans l2.symm)
          omega) (fun u hu => by
          rcases List.mem_cons.1 hu with rfl | hu
          · exact ⟨i, p, hj, hp, rfl⟩
          · obtain ⟨j2, q, h4, h5, h6⟩ := hix _ hu
            exact ⟨j2, q, by omega, h5, h6⟩)
        refine ⟨l, ?_, k2⟩
        show (if _ then _ else _) = _
        rw [if_pos hpos, htn]
        exact k1
/-- The way always answers, and rightly. -/
theorem wayGo_ok {F : Nat} (hF : N ≤ F) (hrow : ∀ v, ∀ u ∈ next.getD v [], u < N) : ∀ (f : Nat) (B : Bef) (dn q : List Nat), WInv next start may N B dn q → N ≤ f + dn.length → (∀ v ∈ dn, fits v = false ∧ ∀ u ∈ next.getD v [], may u = true → u ∈ B.map (·.1)) → (∀ u ∈ start, may u = true → u ∈ B.map (·.1)) →
    (wayGo F next may fits f (B, q) = some none ∧ ∀ v, ReachW next start may v → fits v = false) ∨ ∃ l, wayGo F next may fits f (B, q) = some (some l) ∧ IsWay next start may fits l := by
  intro f
  induction f with
  | zero =>
    intro B dn q h hf hd hs
    cases q with
    | nil =>
      refine .inl ⟨by unfold wayGo; rfl, fun v hv => ?_⟩
      rw [h.keys, List.append_nil] at hs hd
      have : v ∈ dn := by
        induction hv with
        | start h1 h2 => exact hs _ h1 h2
        | step _ h2 h3 ih => exact (hd _ ih).2 _ h2 h3
      exact (hd v this).1
    | cons v q =>
      have h1 := h.keys
      have h2 : (B.map (·.1)).length ≤ N := nd_lt h.nd h.lt
      rw [h1] at h2
      simp only [List.length_append, List.length_cons] at h2
      omega
  | succ f ih =>
    intro B dn q h hf hd hs
    cases q with
    | nil =>
      refine .inl ⟨by unfold wayGo; rfl, fun v hv => ?_⟩
      rw [h.keys, List.append_nil] at hs hd
      have : v ∈ dn := by
        induction hv with
        | start h1 h2 => exact hs _ h1 h2
        | step _ h2 h3 ih => exact (hd _ ih).2 _ h2 h3
      exact (hd v this).1
    | cons v q =>
      have hvm : v ∈ B.map (·.1) := by rw [h.keys]; simp
      obtain ⟨p, hpB, hpv⟩ := List.mem_map.1 hvm
      obtain ⟨i, hi, hie⟩ := List.getElem_of_mem hpB
      have hpi : B[i]? = some p := by rw [List.getElem?_eq_getElem hi, hie]
      by_cases hfit : fits v = true
      · obtain ⟨l, k1, k2⟩ := backM_ok (fits := fits) h i F p [] hpi (by
          have h2 : B.length ≤ N := by have := nd_lt h.nd h.lt; rwa [List.length_map] at this
          omega) trivial (fun u hu => by rw [List.mem_singleton.1 hu]; exact (h.par i p hpi).1) (by rw [hpv]; exact hfit) (by simp) (fun u hu => by cases hu)
        refine .inr ⟨l, ?_, k2⟩
        unfold wayGo
        rw [if_pos hfit]
        rw [hpv] at k1
        rw [k1]; rfl
      · have h' : WInv next start may N B (dn ++ [v]) q := ⟨by rw [h.keys, List.append_assoc]; rfl, h.nd, h.lt, h.par⟩
        obtain ⟨B', q', k1, k2, ⟨e, k3⟩, k4⟩ := addsM_inv (par := (v : Int)) (next.getD v []) B (dn ++ [v]) q h' (fun u hu => ⟨hrow v u hu, .inr ⟨p, hpB, by rw [hpv], by rw [hpv]; exact hu⟩⟩)
        have hsub : ∀ u, u ∈ B.map (·.1) → u ∈ B'.map (·.1) := fun u hu => by rw [k3, List.map_append]; exact List.mem_append_left _ hu
        have := ih B' (dn ++ [v]) q' k2 (by rw [List.length_append]; show N ≤ f + (dn.length + 1); omega) (fun x hx => by
          rcases List.mem_append.1 hx with hx | hx
          · exact ⟨(hd x hx).1, fun u hu hm => hsub u ((hd x hx).2 u hu hm)⟩
          · rw [List.mem_singleton.1 hx]
            exact ⟨by simpa using hfit, fun u hu hm => k4 u hu hm⟩) (fun u hu hm => hsub u (hs u hu hm))
        unfold wayGo
        rw [if_neg hfit, k1]
        exact this
theorem wayM_ok {G : Nat} (hG : N ≤ G) (hs : ∀ u ∈ start, u < N) (hrow : ∀ v, ∀ u ∈ next.getD v [], u < N) :
    (wayM G next start may fits = some none ∧ ∀ v, ReachW next start may v → fits v = false) ∨ ∃ l, wayM G next start may fits = some (some l) ∧ IsWay next start may fits l := by
  have h0 : WInv next start may N [] [] [] := ⟨rfl, by simp, fun u hu => by simp at hu, fun i p hp => by simp at hp⟩
  obtain ⟨B', q', k1, k2, _, k4⟩ := addsM_inv (par := -1) start [] [] [] h0 (fun u hu => ⟨hs u hu, .inl ⟨rfl, hu⟩⟩)
  unfold wayM
  rw [k1]
  exact wayGo_ok hG hrow G B' [] q' k2 (by show N ≤ G + 0; omega) (fun v hv => by cases hv) k4
end Go.Ltl
end
section
/- Tarjan's components: what holds along the way. -/
namespace Go.Ltl
open Go.W
/-- Reached along edges. -/
inductive Rch (next : List (List Nat)) : Nat → Nat → Prop
  | refl (v : Nat) : Rch next v v
  | tail {v u x : Nat} : Rch next v u → x ∈ next.getD u [] → Rch next v x
theorem Rch.trans {next : List (List Nat)} {a b c : Nat} (h : Rch next a b) (k : Rch next b c) : Rch next a c := by
  induction k with
  | refl => exact h
  | tail _ h2 ih => exact .tail ih h2
theorem Rch.edge {next : List (List Nat)} {a b : Nat} (h : b ∈ next.getD a []) : Rch next a b := .tail (.refl a) h
theorem getD_setN {l : List Nat} {i j v : Nat} (h : i < l.length) : (l.set i v).getD j 0 = if i = j then v else l.getD j 0 := by
  rw [List.getD_eq_getElem?_getD, List.getElem?_set, List.getD_eq_getElem?_getD]
  split
  · rename_i e
    subst e
    first | rfl | (rw [if_pos h]; rfl)
  · rfl
namespace Tj
abbrev ix (s : Tj) (x : Nat) : Nat := s.index.getD x 0
abbrev lw (s : Tj) (x : Nat) : Nat := s.low.getD x 0
abbrev co (s : Tj) (x : Nat) : Nat := s.of_.getD x 0
abbrev pos (s : Tj) (x : Nat) : Nat := s.at_.getD x 0
end Tj
/-- u lies right ahead of x in the way. -/
def Ahead (l : List Nat) (u x : Nat) : Prop := ∃ l1 l2, l = l1 ++ u :: x :: l2
structure TInv (next : List (List Nat)) (s : Tj) : Prop where
  l1 : s.index.length = next.length
  l2 : s.low.length = next.length
  l3 : s.of_.length = next.length
  l4 : s.at_.length = next.length
  stk : ∀ x, x ∈ s.stk ↔ s.ix x ≠ 0 ∧ s.co x = 0
  sort : s.stk.Pairwise fun x y => s.ix y < s.ix x
  cnt : ∀ x, s.ix x ≤ s.count
  num : ∀ x, s.co x ≤ s.number
  ent : ∀ x, s.co x ≠ 0 → s.ix x ≠ 0
  plt : ∀ x ∈ s.path, x < next.length
  pco : ∀ x ∈ s.path, s.co x = 0
  psort : s.path.Pairwise fun x y => s.ix y ≠ 0 ∧ (s.ix x = 0 ∨ s.ix y < s.ix x)
  plink : ∀ u x, Ahead s.path u x → u ∈ next.getD x []
  ple : ∀ x, s.pos x ≤ (next.getD x []).length
  pos0 : ∀ x, s.ix x = 0 → s.pos x = 0
  fin : ∀ x, s.ix x ≠ 0 → x ∉ s.path → s.pos x = (next.getD x []).length
  low : ∀ x ∈ s.stk, s.lw x ≤ s.ix x
  reach : ∀ x ∈ s.stk, ∃ y ∈ s.stk, s.ix y = s.lw x ∧ Rch next x y
  flow : ∀ x ∈ s.stk, x ∉ s.path → s.lw x < s.ix x
  edge : ∀ x ∈ s.stk, ∀ j, j < s.pos x → s.co ((next.getD x []).getD j 0) ≠ 0 ∨ (s.ix ((next.getD x []).getD j 0) ≠ 0 ∧ s.lw x ≤ s.ix ((next.getD x []).getD j 0)) ∨ Ahead s.path ((next.getD x []).getD j 0) x
  desc : ∀ p ∈ s.path, s.ix p ≠ 0 → ∀ x ∈ s.stk, s.ix p ≤ s.ix x → Rch next p x
  lowp : ∀ p ∈ s.path, s.ix p ≠ 0 → ∀ x ∈ s.stk, s.ix p ≤ s.ix x → s.lw p ≤ s.lw x ∨ ∃ q ∈ s.path, s.ix p < s.ix q ∧ s.ix q ≤ s.ix x
  clos : ∀ x, s.co x ≠ 0 → ∀ u ∈ next.getD x [], s.co u ≠ 0
  comp : ∀ x y, s.co x ≠ 0 → s.co y ≠ 0 → (s.co x = s.co y ↔ Rch next x y ∧ Rch next y x)
theorem path_reach {next : List (List Nat)} : ∀ (l : List Nat) (v : Nat), (∀ u x, Ahead (v :: l) u x → u ∈ next.getD x []) → ∀ p ∈ v :: l, Rch next p v := by
  intro l
  induction l with
  | nil => intro v _ p hp; rw [List.mem_singleton.1 hp]; exact .refl _
  | cons w l ih =>
    intro v h p hp
    have h1 : Rch next w v := .edge (h v w ⟨[], l, rfl⟩)
    rcases List.mem_cons.1 hp with rfl | hp
    · exact .refl _
    · exact (ih w (fun u x ⟨a, b, e⟩ => h u x ⟨v :: a, b, by rw [e]; rfl⟩) p hp).trans h1
/-- At the end of the way the stack is empty. -/
theorem TInv.stk_nil {next : List (List Nat)} {s : Tj} (h : TInv next s) (hp : s.path = []) : s.stk = [] := by
  have key : ∀ (m x : Nat), x ∈ s.stk → s.ix x ≤ m → False := by
    intro m
    induction m with
    | zero => intro x hx hm; exact ((h.stk x).1 hx).1 (by omega)
    | succ m ih =>
      intro x hx hm
      have h1 := h.flow x hx (by rw [hp]; simp)
      obtain ⟨y, hy, hyx, _⟩ := h.reach x hx
      exact ih y hy (by omega)
  cases hs : s.stk with
  | nil => rfl
  | cons x r => exact absurd (key _ x (by rw [hs]; simp) (Nat.le_refl _)) (fun h => h)
/-- A state is entered. -/
theorem TInv.enter {next : List (List Nat)} {s : Tj} {v : Nat} {rest : List Nat} (h : TInv next s) (hp : s.path = v :: rest) : TInv next (tjEnter s v) ∧ (tjEnter s v).path = v :: rest ∧ (tjEnter s v).ix v ≠ 0 := by
  unfold tjEnter
  by_cases h0 : s.index.getD v 0 = 0
  · rw [if_pos h0]
    have hv : v < next.length := h.plt v (by rw [hp]; simp)
    have hi : v < s.index.length := by rw [h.l1]; exact hv
    have hl : v < s.low.length := by rw [h.l2]; exact hv
    have hvs : v ∉ s.stk := fun hm => ((h.stk v).1 hm).1 h0
    have hc0 : s.co v = 0 := h.pco v (by rw [hp]; simp)
    have eix : ∀ x, ((s.index.set v (s.count + 1)).getD x 0) = if v = x then s.count + 1 else s.ix x := fun x => getD_setN hi
    have elw : ∀ x, ((s.low.set v (s.count + 1)).getD x 0) = if v = x then s.count + 1 else s.lw x := fun x => getD_setN hl
    have hmem : ∀ {x}, x ∈ s.stk → v ≠ x := fun hx e => hvs (e ▸ hx)
    have hps := h.psort
    rw [hp, List.pairwise_cons] at hps
    have hrest : ∀ x ∈ rest, v ≠ x := fun x hx e => (hps.1 x hx).1 (e ▸ h0)
    refine ⟨⟨?_, ?_, h.l3, h.l4, ?_, ?_, ?_, h.num, ?_, h.plt, h.pco, ?_, h.plink, h.ple, ?_, ?_, ?_, ?_, ?_, ?_, ?_, ?_, h.clos, h.comp⟩, hp, ?_⟩
    · show (s.index.set v _).length = _; rw [List.length_set]; exact h.l1
    · show (s.low.set v _).length = _; rw [List.length_set]; exact h.l2
    · intro x
      show x ∈ v :: s.stk ↔ (s.index.set v (s.count + 1)).getD x 0 ≠ 0 ∧ s.co x = 0
      rw [List.mem_cons, eix, h.stk x]
      by_cases e : v = x
      · subst e; rw [if_pos rfl]; exact ⟨fun _ => ⟨by omega, hc0⟩, fun _ => .inl rfl⟩
      · rw [if_neg e]; exact ⟨fun hx => hx.resolve_left (fun e2 => e e2.symm), fun hx => .inr hx⟩
    · show (v :: s.stk).Pairwise fun x y => (s.index.set v (s.count + 1)).getD y 0 < (s.index.set v (s.count + 1)).getD x 0
      rw [List.pairwise_cons]
      refine ⟨fun y hy => ?_, h.sort.imp_of_mem ?_⟩
      · rw [eix, eix, if_neg (hmem hy), if_pos rfl]; have := h.cnt y; omega
      · intro a b ha hb hab
        rw [eix, eix, if_neg (hmem ha), if_neg (hmem hb)]; exact hab
    · intro x
      show (s.index.set v (s.count + 1)).getD x 0 ≤ s.count + 1
      rw [eix]; split
      · exact Nat.le_refl _
      · have := h.cnt x; omega
    · intro x hx
      show (s.index.set v (s.count + 1)).getD x 0 ≠ 0
      rw [eix]; split
      · omega
      · exact h.ent x hx
    · show s.path.Pairwise fun x y => (s.index.set v (s.count + 1)).getD y 0 ≠ 0 ∧ ((s.index.set v (s.count + 1)).getD x 0 = 0 ∨ (s.index.set v (s.count + 1)).getD y 0 < (s.index.set v (s.count + 1)).getD x 0)
      rw [hp, List.pairwise_cons]
      refine ⟨fun y hy => ?_, hps.2.imp_of_mem ?_⟩
      · rw [eix, eix, if_neg (hrest y hy), if_pos rfl]
        exact ⟨(hps.1 y hy).1, .inr (by have := h.cnt y; omega)⟩
      · intro a b ha hb hab
        rw [eix, eix, if_neg (hrest a ha), if_neg (hrest b hb)]; exact hab
    · intro x hx
      have hx : (s.index.set v (s.count + 1)).getD x 0 = 0 := hx
      rw [eix] at hx
      split at hx
      · omega
      · exact h.pos0 x hx
    · intro x hx hxp
      have hx : (s.index.set v (s.count + 1)).getD x 0 ≠ 0 := hx
      rw [eix] at hx
      split at hx
      · rename_i e; exact absurd (by rw [hp, e]; simp) hxp
      · exact h.fin x hx hxp
    · intro x hx
      show (s.low.set v (s.count + 1)).getD x 0 ≤ (s.index.set v (s.count + 1)).getD x 0
      rw [eix, elw]
      rcases List.mem_cons.1 hx with rfl | hx
      · rw [if_pos rfl, if_pos rfl]; exact Nat.le_refl _
      · rw [if_neg (hmem hx), if_neg (hmem hx)]; exact h.low x hx
    · intro x hx
      show ∃ y ∈ v :: s.stk, (s.index.set v (s.count + 1)).getD y 0 = (s.low.set v (s.count + 1)).getD x 0 ∧ _
      rcases List.mem_cons.1 hx with rfl | hx
      · exact ⟨x, by simp, by rw [eix, elw, if_pos rfl, if_pos rfl], .refl _⟩
      · obtain ⟨y, hy, k1, k2⟩ := h.reach x hx
        exact ⟨y, List.mem_cons_of_mem _ hy, by rw [eix, elw, if_neg (hmem hx), if_neg (hmem hy)]; exact k1, k2⟩
    · intro x hx hxp
      show (s.low.set v (s.count + 1)).getD x 0 < (s.index.set v (s.count + 1)).getD x 0
      rcases List.mem_cons.1 hx with rfl | hx
      · exact absurd (by rw [hp]; simp) hxp
      · rw [eix, elw, if_neg (hmem hx), if_neg (hmem hx)]; exact h.flow x hx hxp
    · intro x hx j hj
      have hj : j < s.pos x := hj
      show s.co _ ≠ 0 ∨ ((s.index.set v (s.count + 1)).getD _ 0 ≠ 0 ∧ (s.low.set v (s.count + 1)).getD x 0 ≤ (s.index.set v (s.count + 1)).getD _ 0) ∨ _
      rcases List.mem_cons.1 hx with rfl | hx
      · rw [h.pos0 x h0] at hj; omega
      · rcases h.edge x hx j hj with k | ⟨k1, k2⟩ | k
        · exact .inl k
        · refine .inr (.inl ?_)
          have : v ≠ (next.getD x []).getD j 0 := fun e => k1 (by rw [← e]; exact h0)
          rw [eix, elw, if_neg this, if_neg (hmem hx)]
          exact ⟨k1, k2⟩
        · exact .inr (.inr k)
    · intro p hpp hpi x hx hpx
      have hpx : (s.index.set v (s.count + 1)).getD p 0 ≤ (s.index.set v (s.count + 1)).getD x 0 := hpx
      have hpp : p ∈ s.path := hpp
      rcases List.mem_cons.1 hx with rfl | hx
      · exact path_reach rest x (fun u y hu => h.plink u y (by rw [hp]; exact hu)) p (by rw [← hp]; exact hpp)
      · by_cases e : v = p
        · subst e
          rw [eix, eix, if_pos rfl, if_neg (hmem hx)] at hpx
          have := h.cnt x
          omega
        · have hpi : (s.index.set v (s.count + 1)).getD p 0 ≠ 0 := hpi
          rw [eix, if_neg e] at hpi
          rw [eix, eix, if_neg e, if_neg (hmem hx)] at hpx
          exact h.desc p hpp hpi x hx hpx
    · intro p hpp hpi x hx hpx
      have hpx : (s.index.set v (s.count + 1)).getD p 0 ≤ (s.index.set v (s.count + 1)).getD x 0 := hpx
      have hpp : p ∈ s.path := hpp
      show (s.low.set v (s.count + 1)).getD p 0 ≤ (s.low.set v (s.count + 1)).getD x 0 ∨ ∃ q ∈ s.path, (s.index.set v (s.count + 1)).getD p 0 < (s.index.set v (s.count + 1)).getD q 0 ∧ (s.index.set v (s.count + 1)).getD q 0 ≤ (s.index.set v (s.count + 1)).getD x 0
      by_cases e : v = p
      · subst e
        rcases List.mem_cons.1 hx with rfl | hx
        · exact .inl (Nat.le_refl _)
        · rw [eix, eix, if_pos rfl, if_neg (hmem hx)] at hpx
          have := h.cnt x
          omega
      · have hpi : (s.index.set v (s.count + 1)).getD p 0 ≠ 0 := hpi
        rw [eix, if_neg e] at hpi
        rcases List.mem_cons.1 hx with rfl | hx
        · refine .inr ⟨x, by rw [hp]; simp, ?_, Nat.le_refl _⟩
          rw [eix, eix, if_neg e, if_pos rfl]
          have := h.cnt p
          omega
        · rw [eix, eix, if_neg e, if_neg (hmem hx)] at hpx
          rcases h.lowp p hpp hpi x hx hpx with k | ⟨q, hq, k1, k2⟩
          · refine .inl ?_
            rw [elw, elw, if_neg e, if_neg (hmem hx)]; exact k
          · refine .inr ⟨q, hq, ?_⟩
            have hvq : v ≠ q := fun e2 => by rw [← e2] at k1; have : s.ix v = 0 := h0; omega
            rw [eix, eix, eix, if_neg e, if_neg hvq, if_neg (hmem hx)]
            exact ⟨k1, k2⟩
    · show (s.index.set v (s.count + 1)).getD v 0 ≠ 0
      rw [eix, if_pos rfl]; omega
  · rw [if_neg h0]
    exact ⟨h, hp, h0⟩
end Go.Ltl
end
section
/- Tarjan's components: the steps keep what holds. -/
namespace Go.Ltl
open Go.W
theorem Ahead.cons {l : List Nat} {u x a : Nat} (h : Ahead l u x) : Ahead (a :: l) u x := by
  obtain ⟨l1, l2, e⟩ := h
  exact ⟨a :: l1, l2, by rw [e]; rfl⟩
theorem Ahead.inv {l : List Nat} {u x a : Nat} (h : Ahead (a :: l) u x) : (u = a ∧ ∃ l2, l = x :: l2) ∨ Ahead l u x := by
  obtain ⟨l1, l2, e⟩ := h
  cases l1 with
  | nil =>
    rw [List.nil_append] at e
    injection e with e1 e2
    exact .inl ⟨e1.symm, l2, e2⟩
  | cons b l1 =>
    rw [List.cons_append] at e
    injection e with e1 e2
    exact .inr ⟨l1, l2, e2⟩
theorem Ahead.mem {l : List Nat} {u x : Nat} (h : Ahead l u x) : x ∈ l := by obtain ⟨l1, l2, e⟩ := h; rw [e]; simp
variable {next : List (List Nat)} {s : Tj} {v : Nat} {rest : List Nat}
/-- An edge is taken. -/
theorem TInv.go (h : TInv next s) (hp : s.path = v :: rest) (hv0 : s.ix v ≠ 0) (hd : s.pos v < (next.getD v []).length) (hrow : ∀ v, ∀ u ∈ next.getD v [], u < next.length) :
    TInv next (tjGo (tjNext s v) v ((next.getD v []).getD (s.pos v) 0)) := by
  have hv : v < next.length := h.plt v (by rw [hp]; simp)
  have ha : v < s.at_.length := by rw [h.l4]; exact hv
  have hl : v < s.low.length := by rw [h.l2]; exact hv
  have hc0 : s.co v = 0 := h.pco v (by rw [hp]; simp)
  have hvs : v ∈ s.stk := (h.stk v).2 ⟨hv0, hc0⟩
  obtain ⟨u, hu⟩ : ∃ u, u = (next.getD v []).getD (s.pos v) 0 := ⟨_, rfl⟩
  have hum : u ∈ next.getD v [] := by
    rw [hu]
    generalize next.getD v [] = row at hd ⊢
    rw [List.getD_eq_getElem?_getD, List.getElem?_eq_getElem hd]; exact List.getElem_mem hd
  have eat : ∀ x, ((s.at_.set v (s.pos v + 1)).getD x 0) = if v = x then s.pos v + 1 else s.pos x := fun x => getD_setN ha
  have l4 : (s.at_.set v (s.pos v + 1)).length = next.length := by rw [List.length_set]; exact h.l4
  have ple : ∀ x, (s.at_.set v (s.pos v + 1)).getD x 0 ≤ (next.getD x []).length := fun x => by
    rw [eat]; split
    · rename_i e; subst e; omega
    · exact h.ple x
  have pos0 : ∀ x, s.ix x = 0 → (s.at_.set v (s.pos v + 1)).getD x 0 = 0 := fun x hx => by
    rw [eat]; split
    · rename_i e; subst e; exact absurd hx hv0
    · exact h.pos0 x hx
  have fin : ∀ x, s.ix x ≠ 0 → x ∉ s.path → (s.at_.set v (s.pos v + 1)).getD x 0 = (next.getD x []).length := fun x hx hxp => by
    rw [eat, if_neg (fun e => hxp (by rw [hp, e]; simp))]; exact h.fin x hx hxp
  have hps := h.psort
  rw [hp, List.pairwise_cons] at hps
  unfold tjGo tjNext
  rw [← hu]
  by_cases h0 : s.index.getD u 0 = 0
  · show TInv next (if s.index.getD u 0 = 0 then _ else _)
    rw [if_pos h0]
    have hcu : s.co u = 0 := Classical.byContradiction fun hc => h.ent u hc h0
    refine ⟨h.l1, h.l2, h.l3, l4, h.stk, h.sort, h.cnt, h.num, h.ent, ?_, ?_, ?_, ?_, ple, pos0, ?_, h.low, h.reach, ?_, ?_, ?_, ?_, h.clos, h.comp⟩
    · intro x hx
      rcases List.mem_cons.1 hx with rfl | hx
      · exact hrow v x hum
      · exact h.plt x hx
    · intro x hx
      rcases List.mem_cons.1 hx with rfl | hx
      · exact hcu
      · exact h.pco x hx
    · show (u :: s.path).Pairwise _
      rw [List.pairwise_cons]
      refine ⟨fun y hy => ⟨?_, .inl h0⟩, h.psort⟩
      rw [hp] at hy
      rcases List.mem_cons.1 hy with rfl | hy
      · exact hv0
      · exact (hps.1 y hy).1
    · intro a b hab
      rcases hab.inv with ⟨rfl, l2, e⟩ | hab
      · have e : s.path = b :: l2 := e
        rw [hp] at e
        injection e with e1 _
        rw [← e1]; exact hum
      · exact h.plink a b hab
    · intro x hx hxp
      exact fin x hx (fun hm => hxp (List.mem_cons_of_mem _ hm))
    · intro x hx hxp
      exact h.flow x hx (fun hm => hxp (List.mem_cons_of_mem _ hm))
    · intro x hx j hj
      have hj : j < (s.at_.set v (s.pos v + 1)).getD x 0 := hj
      rw [eat] at hj
      have old : j < s.pos x → s.co ((next.getD x []).getD j 0) ≠ 0 ∨ (s.ix ((next.getD x []).getD j 0) ≠ 0 ∧ s.lw x ≤ s.ix ((next.getD x []).getD j 0)) ∨ Ahead (u :: s.path) ((next.getD x []).getD j 0) x := fun hj => (h.edge x hx j hj).imp id (Or.imp id Ahead.cons)
      split at hj
      · rename_i e
        subst e
        by_cases hjv : j < s.pos v
        · exact old hjv
        · have : j = s.pos v := by omega
          subst this
          refine .inr (.inr ?_)
          rw [← hu]
          exact ⟨[], rest, by show u :: s.path = _; rw [hp]; rfl⟩
      · exact old hj
    · intro p hpp hpi x hx hpx
      rcases List.mem_cons.1 hpp with rfl | hpp
      · exact absurd h0 hpi
      · exact h.desc p hpp hpi x hx hpx
    · intro p hpp hpi x hx hpx
      rcases List.mem_cons.1 hpp with rfl | hpp
      · exact absurd h0 hpi
      · exact (h.lowp p hpp hpi x hx hpx).imp id (fun ⟨q, hq, k⟩ => ⟨q, List.mem_cons_of_mem _ hq, k⟩)
  · show TInv next (if s.index.getD u 0 = 0 then _ else _)
    rw [if_neg h0]
    by_cases hc : s.of_.getD u 0 = 0
    · show TInv next (if s.of_.getD u 0 = 0 then _ else _)
      rw [if_pos hc]
      have hus : u ∈ s.stk := (h.stk u).2 ⟨h0, hc⟩
      have elw : ∀ x, ((s.low.set v (min (s.lw v) (s.ix u))).getD x 0) = if v = x then min (s.lw v) (s.ix u) else s.lw x := fun x => getD_setN hl
      have lele : ∀ x, (s.low.set v (min (s.lw v) (s.ix u))).getD x 0 ≤ s.lw x := fun x => by
        rw [elw]; split
        · rename_i e; subst e; exact Nat.min_le_left _ _
        · exact Nat.le_refl _
      refine ⟨h.l1, ?_, h.l3, l4, h.stk, h.sort, h.cnt, h.num, h.ent, h.plt, h.pco, h.psort, h.plink, ple, pos0, fin, ?_, ?_, ?_, ?_, h.desc, ?_, h.clos, h.comp⟩
      · show (s.low.set v _).length = _; rw [List.length_set]; exact h.l2
      · intro x hx; exact Nat.le_trans (lele x) (h.low x hx)
      · intro x hx
        show ∃ y ∈ s.stk, s.ix y = (s.low.set v (min (s.lw v) (s.ix u))).getD x 0 ∧ _
        rw [elw]
        split
        · rename_i e
          subst e
          rcases Nat.le_total (s.lw v) (s.ix u) with hm | hm
          · rw [Nat.min_eq_left hm]; exact h.reach v hx
          · rw [Nat.min_eq_right hm]; exact ⟨u, hus, rfl, .edge hum⟩
        · exact h.reach x hx
      · intro x hx hxp
        exact Nat.lt_of_le_of_lt (lele x) (h.flow x hx hxp)
      · intro x hx j hj
        have hj : j < (s.at_.set v (s.pos v + 1)).getD x 0 := hj
        rw [eat] at hj
        have old : j < s.pos x → s.co ((next.getD x []).getD j 0) ≠ 0 ∨ (s.ix ((next.getD x []).getD j 0) ≠ 0 ∧ (s.low.set v (min (s.lw v) (s.ix u))).getD x 0 ≤ s.ix ((next.getD x []).getD j 0)) ∨ Ahead s.path ((next.getD x []).getD j 0) x :=
          fun hj => (h.edge x hx j hj).imp id (Or.imp (fun k => ⟨k.1, Nat.le_trans (lele x) k.2⟩) id)
        split at hj
        · rename_i e
          subst e
          by_cases hjv : j < s.pos v
          · exact old hjv
          · have : j = s.pos v := by omega
            subst this
            refine .inr (.inl ?_)
            show s.ix _ ≠ 0 ∧ (s.low.set v (min (s.lw v) (s.ix u))).getD v 0 ≤ _
            rw [← hu, elw, if_pos rfl]
            exact ⟨h0, Nat.min_le_right _ _⟩
        · exact old hj
      · intro p hpp hpi x hx hpx
        have hpp : p ∈ s.path := hpp
        show (s.low.set v (min (s.lw v) (s.ix u))).getD p 0 ≤ (s.low.set v (min (s.lw v) (s.ix u))).getD x 0 ∨ _
        by_cases e : v = x
        · by_cases e2 : v = p
          · rw [← e, ← e2]; exact .inl (Nat.le_refl _)
          · refine .inr ⟨v, by show v ∈ s.path; rw [hp]; simp, ?_⟩
            rw [hp] at hpp
            have hpr : p ∈ rest := (List.mem_cons.1 hpp).resolve_left (fun e3 => e2 e3.symm)
            have := (hps.1 p hpr).2.resolve_left hv0
            subst e
            exact ⟨this, Nat.le_refl _⟩
        · refine (h.lowp p hpp hpi x hx hpx).imp (fun k => ?_) id
          rw [elw x, if_neg e]
          exact Nat.le_trans (lele p) k
    · show TInv next (if s.of_.getD u 0 = 0 then _ else _)
      rw [if_neg hc]
      refine ⟨h.l1, h.l2, h.l3, l4, h.stk, h.sort, h.cnt, h.num, h.ent, h.plt, h.pco, h.psort, h.plink, ple, pos0, fin, h.low, h.reach, h.flow, ?_, h.desc, h.lowp, h.clos, h.comp⟩
      intro x hx j hj
      have hj : j < (s.at_.set v (s.pos v + 1)).getD x 0 := hj
      rw [eat] at hj
      split at hj
      · rename_i e
        subst e
        by_cases hjv : j < s.pos v
        · exact h.edge v hx j hjv
        · have : j = s.pos v := by omega
          subst this
          exact .inl (by rw [← hu]; exact hc)
      · exact h.edge x hx j hj
/-- A state that is not the root of its component goes off the way. -/
theorem TInv.up (h : TInv next s) (hp : s.path = v :: rest) (hv0 : s.ix v ≠ 0) (hd : s.pos v = (next.getD v []).length) (hlow : s.lw v < s.ix v) : TInv next (tjUp s v rest) := by
  have hc0 : s.co v = 0 := h.pco v (by rw [hp]; simp)
  have hvs : v ∈ s.stk := (h.stk v).2 ⟨hv0, hc0⟩
  have hps := h.psort
  rw [hp, List.pairwise_cons] at hps
  have hmax : ∀ q ∈ s.path, s.ix q ≤ s.ix v := fun q hq => by
    rw [hp] at hq
    rcases List.mem_cons.1 hq with rfl | hq
    · exact Nat.le_refl _
    · exact Nat.le_of_lt ((hps.1 q hq).2.resolve_left hv0)
  have fin : ∀ x, s.ix x ≠ 0 → x ∉ rest → s.pos x = (next.getD x []).length := fun x hx hxp => by
    by_cases e : x = v
    · rw [e]; exact hd
    · exact h.fin x hx (by rw [hp]; exact fun hm => (List.mem_cons.1 hm).elim e hxp)
  have flow : ∀ x ∈ s.stk, x ∉ rest → s.lw x < s.ix x := fun x hx hxp => by
    by_cases e : x = v
    · rw [e]; exact hlow
    · exact h.flow x hx (by rw [hp]; exact fun hm => (List.mem_cons.1 hm).elim e hxp)
  have hsub : ∀ x ∈ rest, x ∈ s.path := fun x hx => by rw [hp]; exact List.mem_cons_of_mem _ hx
  have plink : ∀ u x, Ahead rest u x → u ∈ next.getD x [] := fun u x hu => h.plink u x (by rw [hp]; exact hu.cons)
  cases rest with
  | nil =>
    show TInv next { s with path := [] }
    refine ⟨h.l1, h.l2, h.l3, h.l4, h.stk, h.sort, h.cnt, h.num, h.ent, fun x hx => h.plt x (hsub x hx), fun x hx => h.pco x (hsub x hx), hps.2, plink, h.ple, h.pos0, fin, h.low, h.reach, flow, ?_, fun p (hpp : p ∈ ([] : List Nat)) => absurd hpp (by simp), fun p (hpp : p ∈ ([] : List Nat)) => absurd hpp (by simp), h.clos, h.comp⟩
    intro x hx j hj
    refine (h.edge x hx j hj).imp id (Or.imp id (fun k => ?_))
    rw [hp] at k
    rcases k.inv with ⟨_, l2, e⟩ | k
    · cases e
    · exact k
  | cons up r =>
    have hup := hps.1 up (by simp)
    have hupp : up ∈ s.path := hsub up (by simp)
    have hups : up ∈ s.stk := (h.stk up).2 ⟨hup.1, h.pco up hupp⟩
    have hixup : s.ix up < s.ix v := hup.2.resolve_left hv0
    have hl : up < s.low.length := by rw [h.l2]; exact h.plt up hupp
    have hlink : v ∈ next.getD up [] := h.plink v up (by rw [hp]; exact ⟨[], r, rfl⟩)
    have elw : ∀ x, ((s.low.set up (min (s.lw up) (s.lw v))).getD x 0) = if up = x then min (s.lw up) (s.lw v) else s.lw x := fun x => getD_setN hl
    have lele : ∀ x, (s.low.set up (min (s.lw up) (s.lw v))).getD x 0 ≤ s.lw x := fun x => by
      rw [elw]; split
      · rename_i e; subst e; exact Nat.min_le_left _ _
      · exact Nat.le_refl _
    show TInv next { s with path := up :: r, low := s.low.set up (min (s.lw up) (s.lw v)) }
    refine ⟨h.l1, ?_, h.l3, h.l4, h.stk, h.sort, h.cnt, h.num, h.ent, fun x hx => h.plt x (hsub x hx), fun x hx => h.pco x (hsub x hx), hps.2, plink, h.ple, h.pos0, fin, fun x hx => Nat.le_trans (lele x) (h.low x hx), ?_, fun x hx hxp => Nat.lt_of_le_of_lt (lele x) (flow x hx hxp), ?_, fun p hpp => h.desc p (hsub p hpp), ?_, h.clos, h.comp⟩
    · show (s.low.set up _).length = _; rw [List.length_set]; exact h.l2
    · intro x hx
      show ∃ y ∈ s.stk, s.ix y = (s.low.set up (min (s.lw up) (s.lw v))).getD x 0 ∧ _
      rw [elw]
      split
      · rename_i e
        subst e
        rcases Nat.le_total (s.lw up) (s.lw v) with hm | hm
        · rw [Nat.min_eq_left hm]; exact h.reach up hx
        · rw [Nat.min_eq_right hm]
          obtain ⟨y, hy, k1, k2⟩ := h.reach v hvs
          exact ⟨y, hy, k1, (Rch.edge hlink).trans k2⟩
      · exact h.reach x hx
    · intro x hx j hj
      rcases h.edge x hx j hj with k | ⟨k1, k2⟩ | k
      · exact .inl k
      · exact .inr (.inl ⟨k1, Nat.le_trans (lele x) k2⟩)
      · rw [hp] at k
        rcases k.inv with ⟨e, l2, e2⟩ | k
        · injection e2 with e2 _
          refine .inr (.inl ?_)
          rw [e]
          refine ⟨hv0, ?_⟩
          show (s.low.set up (min (s.lw up) (s.lw v))).getD x 0 ≤ s.ix v
          rw [elw, if_pos e2]
          exact Nat.le_trans (Nat.min_le_right _ _) (h.low v hvs)
        · exact .inr (.inr k)
    · intro p hpp hpi x hx hpx
      have hpp : p ∈ up :: r := hpp
      have hpx : s.ix p ≤ s.ix x := hpx
      have hpi : s.ix p ≠ 0 := hpi
      show (s.low.set up (min (s.lw up) (s.lw v))).getD p 0 ≤ (s.low.set up (min (s.lw up) (s.lw v))).getD x 0 ∨ ∃ q ∈ up :: r, s.ix p < s.ix q ∧ s.ix q ≤ s.ix x
      have hpr : p ≠ up → s.ix p < s.ix up := fun e => by
        have hr := (List.mem_cons.1 hpp).resolve_left e
        have := (List.pairwise_cons.1 hps.2).1 p hr
        exact this.2.resolve_left hup.1
      by_cases e : up = x
      · subst e
        by_cases e2 : p = up
        · subst e2; exact .inl (Nat.le_refl _)
        · exact .inr ⟨up, by simp, hpr e2, Nat.le_refl _⟩
      · rcases h.lowp p (hsub p hpp) hpi x hx hpx with k | ⟨q, hq, k1, k2⟩
        · refine .inl ?_
          rw [elw x, if_neg e]
          exact Nat.le_trans (lele p) k
        · rw [hp] at hq
          rcases List.mem_cons.1 hq with rfl | hq
          · by_cases e2 : p = up
            · refine .inl ?_
              subst e2
              rw [elw x, if_neg e, elw, if_pos rfl]
              rcases h.lowp q (by rw [hp]; simp) hv0 x hx k2 with k | ⟨q2, hq2, k3, _⟩
              · exact Nat.le_trans (Nat.min_le_right _ _) k
              · have := hmax q2 hq2; omega
            · exact .inr ⟨up, by simp, hpr e2, by omega⟩
          · exact .inr ⟨q, hq, k1, k2⟩
end Go.Ltl
end
section
/- Tarjan's components: a component is taken off the stack. -/
namespace Go.Ltl
open Go.W
def markL (num : Nat) (S : List Nat) (o : List Nat) : List Nat := S.foldl (fun o x => o.set x num) o
theorem markL_len (num : Nat) : ∀ (S o : List Nat), (markL num S o).length = o.length := by
  intro S
  induction S with
  | nil => intro o; rfl
  | cons a S ih => intro o; show (markL num S (o.set a num)).length = _; rw [ih, List.length_set]
theorem markL_get (num : Nat) : ∀ (S o : List Nat), (∀ a ∈ S, a < o.length) → ∀ y, (markL num S o).getD y 0 = if y ∈ S then num else o.getD y 0 := by
  intro S
  induction S with
  | nil => intro o _ y; simp [markL]
  | cons a S ih =>
    intro o ha y
    show (markL num S (o.set a num)).getD y 0 = _
    rw [ih _ (fun b hb => by rw [List.length_set]; exact ha b (List.mem_cons_of_mem _ hb)), getD_setN (ha a (by simp))]
    by_cases h1 : y ∈ S
    · rw [if_pos h1, if_pos (List.mem_cons_of_mem _ h1)]
    · rw [if_neg h1]
      by_cases h2 : a = y
      · rw [if_pos h2, if_pos (by rw [h2]; simp)]
      · rw [if_neg h2, if_neg (fun h => (List.mem_cons.1 h).elim (fun e => h2 e.symm) h1)]
theorem popM_eq {v num : Nat} (hnum : num ≠ 0) : ∀ (A T o : List Nat), (∀ a ∈ A, a ≠ v) → o.getD v 0 = 0 → v < o.length → (∀ a ∈ A, a < o.length) → popM v num (A ++ v :: T) o = some (T, markL num (A ++ [v]) o) := by
  intro A
  induction A with
  | nil =>
    intro T o _ h0 hv _
    show (if o.getD v 0 = 0 then _ else _) = _
    rw [if_pos h0]
    have h1 : (o.set v num).getD v 0 ≠ 0 := by rw [getD_setN hv, if_pos rfl]; exact hnum
    cases T with
    | nil => show (if _ then _ else _) = _; rw [if_neg h1]; rfl
    | cons x r => show (if _ then _ else _) = _; rw [if_neg h1]; rfl
  | cons a A ih =>
    intro T o ha h0 hv hal
    show (if o.getD v 0 = 0 then _ else _) = _
    rw [if_pos h0]
    have := ih T (o.set a num) (fun b hb => ha b (List.mem_cons_of_mem _ hb)) (by rw [getD_setN (hal a (by simp)), if_neg (ha a (by simp))]; exact h0) (by rw [List.length_set]; exact hv) (fun b hb => by rw [List.length_set]; exact hal b (List.mem_cons_of_mem _ hb))
    exact this
variable {next : List (List Nat)} {s : Tj} {v : Nat} {rest : List Nat}
theorem TInv.ix_lt (h : TInv next s) {x : Nat} (hx : s.ix x ≠ 0) : x < next.length := by
  refine Classical.byContradiction fun hn => hx ?_
  show s.index.getD x 0 = 0
  rw [List.getD_eq_getElem?_getD, List.getElem?_eq_none (by rw [h.l1]; omega)]; rfl
theorem TInv.done_reach (h : TInv next s) {x y : Nat} (hr : Rch next x y) (hx : s.co x ≠ 0) : s.co y ≠ 0 := by
  induction hr with
  | refl => exact hx
  | tail _ h2 ih => exact h.clos _ ih _ h2
theorem TInv.up_same (h : TInv next s) (hp : s.path = v :: rest) (hv0 : s.ix v ≠ 0) (hlow : s.lw v = s.ix v) : ∃ lo, tjUp s v rest = { s with path := rest, low := lo } ∧ (∀ x, lo.getD x 0 = s.lw x) ∧ lo.length = next.length := by
  have hps := h.psort
  rw [hp, List.pairwise_cons] at hps
  cases rest with
  | nil => exact ⟨s.low, rfl, fun x => rfl, h.l2⟩
  | cons up r =>
    have hup := hps.1 up (by simp)
    have hupp : up ∈ s.path := by rw [hp]; simp
    have hups : up ∈ s.stk := (h.stk up).2 ⟨hup.1, h.pco up hupp⟩
    have hl : up < s.low.length := by rw [h.l2]; exact h.plt up hupp
    have hm : min (s.lw up) (s.lw v) = s.lw up := Nat.min_eq_left (by
      have h1 := h.low up hups
      have h2 := hup.2.resolve_left hv0
      omega)
    refine ⟨s.low.set up (min (s.lw up) (s.lw v)), rfl, fun x => ?_, by rw [List.length_set]; exact h.l2⟩
    rw [hm, getD_setN hl]
    split
    · rename_i e; rw [e]
    · rfl
theorem TInv.pop (h : TInv next s) (hp : s.path = v :: rest) (hv0 : s.ix v ≠ 0) (hd : s.pos v = (next.getD v []).length) (hlow : s.lw v = s.ix v) :
    ∃ s', tjDone (tjUp s v rest) v = some s' ∧ TInv next s' ∧ s'.path = rest ∧ s'.at_ = s.at_ := by
  have hc0 : s.co v = 0 := h.pco v (by rw [hp]; simp)
  have hvs : v ∈ s.stk := (h.stk v).2 ⟨hv0, hc0⟩
  have hps := h.psort
  rw [hp, List.pairwise_cons] at hps
  have hvp : v ∈ s.path := by rw [hp]; simp
  have hrest : ∀ x ∈ rest, s.ix x < s.ix v := fun x hx => (hps.1 x hx).2.resolve_left hv0
  have hmax : ∀ q ∈ s.path, s.ix q ≤ s.ix v := fun q hq => by
    rw [hp] at hq
    rcases List.mem_cons.1 hq with rfl | hq
    · exact Nat.le_refl _
    · exact Nat.le_of_lt (hrest q hq)
  obtain ⟨A, T, hAT⟩ := List.append_of_mem hvs
  have hsort := h.sort
  rw [hAT, List.pairwise_append, List.pairwise_cons] at hsort
  obtain ⟨_, ⟨hT, hTs⟩, hA⟩ := hsort
  have hAv : ∀ a ∈ A, s.ix v < s.ix a := fun a ha => hA a ha v (by simp)
  have hmemT : ∀ x, x ∈ s.stk → (x ∈ T ↔ s.ix x < s.ix v) := fun x hx => by
    refine ⟨hT x, fun hlt => ?_⟩
    rw [hAT] at hx
    rcases List.mem_append.1 hx with hx | hx
    · have := hAv x hx; omega
    · rcases List.mem_cons.1 hx with rfl | hx
      · omega
      · exact hx
  have hmemS : ∀ x, x ∈ A ++ [v] ↔ x ∈ s.stk ∧ s.ix v ≤ s.ix x := fun x => by
    constructor
    · intro hx
      rcases List.mem_append.1 hx with hx | hx
      · exact ⟨by rw [hAT]; exact List.mem_append_left _ hx, Nat.le_of_lt (hAv x hx)⟩
      · rw [List.mem_singleton.1 hx]; exact ⟨hvs, Nat.le_refl _⟩
    · rintro ⟨hx, hle⟩
      rw [hAT] at hx
      rcases List.mem_append.1 hx with hx | hx
      · exact List.mem_append_left _ hx
      · rcases List.mem_cons.1 hx with rfl | hx
        · simp
        · have := hT x hx; omega
  have hTstk : ∀ x ∈ T, x ∈ s.stk := fun x hx => by rw [hAT]; exact List.mem_append_right _ (List.mem_cons_of_mem _ hx)
  have hTlt : ∀ x ∈ T, s.ix x < s.ix v := fun x hx => hT x hx
  have hSrest : ∀ x ∈ A ++ [v], x ∉ rest := fun x hx hr => by have := hrest x hr; have := ((hmemS x).1 hx).2; omega
  obtain ⟨lo, hup, hlo, hll⟩ := h.up_same hp hv0 hlow
  have hlt3 : ∀ x, s.ix x ≠ 0 → x < s.of_.length := fun x hx => by rw [h.l3]; exact h.ix_lt hx
  have hnum : s.number + 1 ≠ 0 := by omega
  have hpop := popM_eq (v := v) hnum A T s.of_ (fun a ha e => by have := hAv a ha; rw [e] at this; omega) hc0 (hlt3 v hv0) (fun a ha => hlt3 a (by have := hAv a ha; omega))
  obtain ⟨o, ho⟩ : ∃ o, o = markL (s.number + 1) (A ++ [v]) s.of_ := ⟨_, rfl⟩
  have hog : ∀ y, o.getD y 0 = if y ∈ A ++ [v] then s.number + 1 else s.co y := fun y => by
    rw [ho]
    exact markL_get _ _ _ (fun a ha => hlt3 a ((h.stk a).1 ((hmemS a).1 ha).1).1) y
  have hoS : ∀ y, y ∈ A ++ [v] → o.getD y 0 = s.number + 1 := fun y hy => by rw [hog, if_pos hy]
  have hoN : ∀ y, y ∉ A ++ [v] → o.getD y 0 = s.co y := fun y hy => by rw [hog, if_neg hy]
  have hoK : ∀ y, s.co y ≠ 0 → o.getD y 0 ≠ 0 := fun y hy => by
    rw [hog]; split
    · omega
    · exact hy
  rw [← ho] at hpop
  -- the popped states reach v
  have hlowS : ∀ x ∈ A ++ [v], s.ix v ≤ s.lw x := fun x hx => by
    obtain ⟨h1, h2⟩ := (hmemS x).1 hx
    rcases h.lowp v hvp hv0 x h1 h2 with k | ⟨q, hq, k1, _⟩
    · rw [← hlow]; exact k
    · have := hmax q hq; omega
  have hback : ∀ (m x : Nat), x ∈ A ++ [v] → s.ix x ≤ m → Rch next x v := by
    intro m
    induction m with
    | zero => intro x hx hm; have := ((h.stk x).1 ((hmemS x).1 hx).1).1; omega
    | succ m ih =>
      intro x hx hm
      by_cases e : x = v
      · rw [e]; exact .refl _
      · obtain ⟨h1, h2⟩ := (hmemS x).1 hx
        have h3 : x ∉ s.path := fun hm2 => by
          rw [hp] at hm2
          exact (List.mem_cons.1 hm2).elim e (hSrest x hx)
        have h4 := h.flow x h1 h3
        obtain ⟨y, hy, k1, k2⟩ := h.reach x h1
        have h5 := hlowS x hx
        exact k2.trans (ih y ((hmemS y).2 ⟨hy, by omega⟩) (by omega))
  have hfor : ∀ x ∈ A ++ [v], Rch next v x := fun x hx => h.desc v hvp hv0 x ((hmemS x).1 hx).1 ((hmemS x).1 hx).2
  have hmut : ∀ x ∈ A ++ [v], ∀ y ∈ A ++ [v], Rch next x y := fun x hx y hy => (hback _ x hx (Nat.le_refl _)).trans (hfor y hy)
  -- what follows them is done
  have hclosS : ∀ x ∈ A ++ [v], ∀ u ∈ next.getD x [], o.getD u 0 ≠ 0 := by
    intro x hx u hu
    obtain ⟨h1, h2⟩ := (hmemS x).1 hx
    obtain ⟨j, hj, hje⟩ := List.getElem_of_mem hu
    have hpos : s.pos x = (next.getD x []).length := by
      by_cases e : x = v
      · rw [e]; exact hd
      · exact h.fin x ((h.stk x).1 h1).1 (fun hm2 => by rw [hp] at hm2; exact (List.mem_cons.1 hm2).elim e (hSrest x hx))
    have hgd : (next.getD x []).getD j 0 = u := by
      generalize next.getD x [] = row at hj hje
      rw [List.getD_eq_getElem?_getD, List.getElem?_eq_getElem hj, hje]; rfl
    have := h.edge x h1 j (by omega)
    rw [hgd] at this
    rcases this with k | ⟨k1, k2⟩ | k
    · exact hoK u k
    · by_cases hc : s.co u = 0
      · rw [hoS u ((hmemS u).2 ⟨(h.stk u).2 ⟨k1, hc⟩, Nat.le_trans (hlowS x hx) k2⟩)]; omega
      · exact hoK u hc
    · rw [hp] at k
      rcases k.inv with ⟨_, l2, e⟩ | k
      · exact absurd (by rw [e]; simp) (hSrest x hx)
      · exact absurd k.mem (hSrest x hx)
  have hsub : ∀ x ∈ rest, x ∈ s.path := fun x hx => by rw [hp]; exact List.mem_cons_of_mem _ hx
  have hTnS : ∀ x ∈ T, x ∉ A ++ [v] := fun x hx hS => by have := hTlt x hx; have := ((hmemS x).1 hS).2; omega
  refine ⟨{ s with path := rest, low := lo, stk := T, of_ := o, number := s.number + 1 }, ?_, ?_, rfl, rfl⟩
  · rw [hup]
    unfold tjDone
    rw [if_pos (show lo.getD v 0 = s.index.getD v 0 by rw [hlo]; exact hlow)]
    show (match popM v (s.number + 1) s.stk s.of_ with | some (k, o) => _ | none => none) = _
    rw [hAT, hpop]
  · refine ⟨h.l1, hll, ?_, h.l4, ?_, hTs, h.cnt, ?_, ?_, fun x hx => h.plt x (hsub x hx), ?_, hps.2, fun u x hu => h.plink u x (by rw [hp]; exact hu.cons), h.ple, h.pos0, ?_, ?_, ?_, ?_, ?_, fun p hpp hpi x hx => h.desc p (hsub p hpp) hpi x (hTstk x hx), ?_, ?_, ?_⟩
    · show o.length = _; rw [ho, markL_len]; exact h.l3
    · intro x
      show x ∈ T ↔ s.ix x ≠ 0 ∧ o.getD x 0 = 0
      constructor
      · intro hx
        have h1 := (h.stk x).1 (hTstk x hx)
        exact ⟨h1.1, by rw [hoN x (hTnS x hx)]; exact h1.2⟩
      · rintro ⟨h1, h2⟩
        by_cases hS : x ∈ A ++ [v]
        · rw [hoS x hS] at h2; omega
        · rw [hoN x hS] at h2
          have h3 := (h.stk x).2 ⟨h1, h2⟩
          refine (hmemT x h3).2 (Classical.byContradiction fun hn => hS ((hmemS x).2 ⟨h3, by omega⟩))
    · intro x
      show o.getD x 0 ≤ s.number + 1
      rw [hog]; split
      · exact Nat.le_refl _
      · have := h.num x; omega
    · intro x hx
      have hx : o.getD x 0 ≠ 0 := hx
      by_cases hS : x ∈ A ++ [v]
      · exact ((h.stk x).1 ((hmemS x).1 hS).1).1
      · rw [hoN x hS] at hx; exact h.ent x hx
    · intro x hx
      show o.getD x 0 = 0
      rw [hoN x (fun hS => hSrest x hS hx)]
      exact h.pco x (hsub x hx)
    · intro x hx hxp
      by_cases e : x = v
      · rw [e]; exact hd
      · exact h.fin x hx (by rw [hp]; exact fun hm => (List.mem_cons.1 hm).elim e hxp)
    · intro x hx
      show lo.getD x 0 ≤ s.ix x
      rw [hlo]; exact h.low x (hTstk x hx)
    · intro x hx
      show ∃ y ∈ T, s.ix y = lo.getD x 0 ∧ _
      obtain ⟨y, hy, k1, k2⟩ := h.reach x (hTstk x hx)
      have h1 := h.low x (hTstk x hx)
      have h2 := hTlt x hx
      exact ⟨y, (hmemT y hy).2 (by omega), by rw [hlo]; exact k1, k2⟩
    · intro x hx hxp
      show lo.getD x 0 < s.ix x
      rw [hlo]
      refine h.flow x (hTstk x hx) (fun hm => ?_)
      rw [hp] at hm
      rcases List.mem_cons.1 hm with rfl | hm
      · have := hTlt x hx; omega
      · exact hxp hm
    · intro x hx j hj
      show o.getD _ 0 ≠ 0 ∨ (s.ix _ ≠ 0 ∧ lo.getD x 0 ≤ s.ix _) ∨ Ahead rest _ x
      rw [hlo]
      rcases h.edge x (hTstk x hx) j hj with k | k | k
      · exact .inl (hoK _ k)
      · exact .inr (.inl k)
      · rw [hp] at k
        rcases k.inv with ⟨e, _⟩ | k
        · rw [e]; exact .inl (by rw [hoS v (by simp)]; omega)
        · exact .inr (.inr k)
    · intro p hpp hpi x hx hpx
      show lo.getD p 0 ≤ lo.getD x 0 ∨ ∃ q ∈ rest, s.ix p < s.ix q ∧ s.ix q ≤ s.ix x
      rw [hlo, hlo]
      refine (h.lowp p (hsub p hpp) hpi x (hTstk x hx) hpx).imp id ?_
      rintro ⟨q, hq, k1, k2⟩
      rw [hp] at hq
      rcases List.mem_cons.1 hq with rfl | hq
      · have := hTlt x hx; omega
      · exact ⟨q, hq, k1, k2⟩
    · intro x hx u hu
      have hx : o.getD x 0 ≠ 0 := hx
      by_cases hS : x ∈ A ++ [v]
      · exact hclosS x hS u hu
      · rw [hoN x hS] at hx; exact hoK u (h.clos x hx u hu)
    · intro x y hx hy
      have hx : o.getD x 0 ≠ 0 := hx
      have hy : o.getD y 0 ≠ 0 := hy
      show o.getD x 0 = o.getD y 0 ↔ _
      by_cases hSx : x ∈ A ++ [v]
      · by_cases hSy : y ∈ A ++ [v]
        · rw [hoS x hSx, hoS y hSy]
          exact ⟨fun _ => ⟨hmut x hSx y hSy, hmut y hSy x hSx⟩, fun _ => rfl⟩
        · rw [hoS x hSx]
          rw [hoN y hSy] at hy ⊢
          refine ⟨fun e => ?_, fun ⟨_, k⟩ => ?_⟩
          · have := h.num y; omega
          · exact absurd ((h.stk x).1 ((hmemS x).1 hSx).1).2 (h.done_reach k hy)
      · rw [hoN x hSx] at hx ⊢
        by_cases hSy : y ∈ A ++ [v]
        · rw [hoS y hSy]
          refine ⟨fun e => ?_, fun ⟨k, _⟩ => ?_⟩
          · have := h.num x; omega
          · exact absurd ((h.stk y).1 ((hmemS y).1 hSy).1).2 (h.done_reach k hx)
        · rw [hoN y hSy] at hy ⊢
          exact h.comp x y hx hy
end Go.Ltl
end
section
/- Tarjan's components: always found, and rightly. -/
namespace Go.Ltl
open Go.W
theorem sum_setN : ∀ (l : List Nat) (i : Nat), i < l.length → (l.set i (l.getD i 0 + 1)).sum = l.sum + 1 := by
  intro l
  induction l with
  | nil => intro i h; cases h
  | cons a l ih =>
    intro i h
    cases i with
    | zero => show (a + 1 + l.sum) = _; rw [List.sum_cons]; omega
    | succ i =>
      have := ih i (by simpa using h)
      show a + (l.set i (l.getD i 0 + 1)).sum = _
      rw [this, List.sum_cons]; omega
theorem sum_leN : ∀ (a : List Nat) (b : List (List Nat)), a.length = b.length → (∀ x, a.getD x 0 ≤ (b.getD x []).length) → a.sum ≤ (b.map List.length).sum := by
  intro a
  induction a with
  | nil => intro b _ _; exact Nat.zero_le _
  | cons x a ih =>
    intro b hl h
    cases b with
    | nil => cases hl
    | cons y b =>
      have h0 : x ≤ y.length := h 0
      have := ih b (by simpa using hl) (fun i => h (i + 1))
      rw [List.sum_cons, List.map_cons, List.sum_cons]
      omega
def degS (next : List (List Nat)) : Nat := (next.map List.length).sum
def tjPot (next : List (List Nat)) (s : Tj) : Nat := 2 * (degS next - s.at_.sum) + s.path.length
variable {next : List (List Nat)}
theorem enter_same (s : Tj) (v : Nat) : (tjEnter s v).at_ = s.at_ ∧ ∀ x, s.ix x ≠ 0 → (tjEnter s v).ix x ≠ 0 := by
  unfold tjEnter
  split
  · refine ⟨rfl, fun x hx => ?_⟩
    show (s.index.set v (s.count + 1)).getD x 0 ≠ 0
    by_cases hi : v < s.index.length
    · rw [getD_setN hi]
      split
      · omega
      · exact hx
    · rw [List.set_eq_of_length_le (by omega)]; exact hx
  · exact ⟨rfl, fun x hx => hx⟩
theorem go_same (s : Tj) (v u : Nat) : (tjGo (tjNext s v) v u).at_ = s.at_.set v (s.pos v + 1) ∧ (tjGo (tjNext s v) v u).index = s.index ∧ ((tjGo (tjNext s v) v u).path = u :: s.path ∨ (tjGo (tjNext s v) v u).path = s.path) := by
  unfold tjGo tjNext
  simp only
  split
  · exact ⟨rfl, rfl, .inl rfl⟩
  · split
    · exact ⟨rfl, rfl, .inr rfl⟩
    · exact ⟨rfl, rfl, .inr rfl⟩
theorem up_simple (s : Tj) (v : Nat) (rest : List Nat) : (tjUp s v rest).at_ = s.at_ ∧ (tjUp s v rest).index = s.index ∧ (tjUp s v rest).path = rest := by
  cases rest <;> exact ⟨rfl, rfl, rfl⟩
theorem done_index {s s' : Tj} {v : Nat} (h : tjDone s v = some s') : s'.index = s.index := by
  unfold tjDone at h
  split at h
  · split at h
    · simp only [Option.some.injEq] at h; rw [← h]
    · cases h
  · simp only [Option.some.injEq] at h; rw [← h]
/-- One step: it succeeds, keeps what holds, and the potential falls. -/
theorem tjStep_ok {s : Tj} (h : TInv next s) (hp : s.path ≠ []) (hrow : ∀ v, ∀ u ∈ next.getD v [], u < next.length) :
    ∃ s', tjStep next s = some s' ∧ TInv next s' ∧ tjPot next s' < tjPot next s ∧ ∀ x, (s.ix x ≠ 0 ∨ x ∈ s.path) → s'.ix x ≠ 0 := by
  cases hpe : s.path with
  | nil => exact absurd hpe hp
  | cons v rest =>
    obtain ⟨h1, hp1, hv1⟩ := h.enter hpe
    obtain ⟨ea, ei⟩ := enter_same s v
    have hps := h.psort
    rw [hpe, List.pairwise_cons] at hps
    have hmono : ∀ x, (s.ix x ≠ 0 ∨ x ∈ v :: rest) → (tjEnter s v).ix x ≠ 0 := fun x hx => by
      rcases hx with hx | hx
      · exact ei x hx
      · rcases List.mem_cons.1 hx with rfl | hx
        · exact hv1
        · exact ei x (hps.1 x hx).1
    have hsum1 : (tjEnter s v).at_.sum ≤ degS next := sum_leN _ _ h1.l4 h1.ple
    have hstep : tjStep next s = tjTurn next (tjEnter s v) v rest := by unfold tjStep; rw [hpe]
    rw [hstep]
    have hpot : tjPot next s = 2 * (degS next - (tjEnter s v).at_.sum) + (rest.length + 1) := by unfold tjPot; rw [ea, hpe]; rfl
    rw [hpot]
    generalize tjEnter s v = t at *
    unfold tjTurn
    by_cases hd : t.pos v < (next.getD v []).length
    · rw [if_pos hd]
      have h2 := h1.go hp1 hv1 hd hrow
      obtain ⟨k1, k2, k3⟩ := go_same t v ((next.getD v []).getD (t.pos v) 0)
      show ∃ s', some (tjGo (tjNext t v) v ((next.getD v []).getD (t.pos v) 0)) = some s' ∧ _
      generalize tjGo (tjNext t v) v ((next.getD v []).getD (t.pos v) 0) = g at h2 k1 k2 k3 ⊢
      refine ⟨_, rfl, h2, ?_, fun x hx => ?_⟩
      · have hv : v < t.at_.length := by rw [h1.l4]; exact h1.plt v (by rw [hp1]; simp)
        have hs2 : g.at_.sum = t.at_.sum + 1 := by rw [k1]; exact sum_setN _ _ hv
        have hs3 : g.at_.sum ≤ degS next := sum_leN _ _ h2.l4 h2.ple
        unfold tjPot
        rw [hs2] at hs3 ⊢
        have hl : g.path.length ≤ rest.length + 2 := by
          rcases k3 with k | k <;> rw [k, hp1] <;> simp only [List.length_cons] <;> omega
        omega
      · show g.index.getD x 0 ≠ 0
        rw [k2]; exact hmono x hx
    · rw [if_neg hd]
      have hd : t.pos v = (next.getD v []).length := by have := h1.ple v; omega
      have hvs : v ∈ t.stk := (h1.stk v).2 ⟨hv1, h1.pco v (by rw [hp1]; simp)⟩
      obtain ⟨u1, u2, u3⟩ := up_simple t v rest
      by_cases hlow : t.lw v = t.ix v
      · obtain ⟨s', k1, k2, k3, k4⟩ := h1.pop hp1 hv1 hd hlow
        refine ⟨s', k1, k2, ?_, fun x hx => ?_⟩
        · unfold tjPot; rw [k3, k4]; omega
        · show s'.index.getD x 0 ≠ 0
          rw [done_index k1, u2]; exact hmono x hx
      · have h2 := h1.up hp1 hv1 hd (by have := h1.low v hvs; omega)
        have hps1 := h1.psort
        rw [hp1, List.pairwise_cons] at hps1
        have hlv : (tjUp t v rest).low.getD v 0 = t.low.getD v 0 := by
          cases rest with
          | nil => rfl
          | cons up r =>
            have hup := hps1.1 up (by simp)
            have hne : up ≠ v := fun e => by have := hup.2.resolve_left hv1; rw [e] at this; omega
            show (t.low.set up _).getD v 0 = _
            rw [getD_setN (by rw [h1.l2]; exact h1.plt up (by rw [hp1]; simp)), if_neg hne]
        refine ⟨tjUp t v rest, ?_, h2, ?_, fun x hx => ?_⟩
        · unfold tjDone
          rw [if_neg (by rw [hlv, u2]; exact hlow)]
        · unfold tjPot; rw [u1, u3]; omega
        · show (tjUp t v rest).index.getD x 0 ≠ 0
          rw [u2]; exact hmono x hx
theorem tjRun_ok (hrow : ∀ v, ∀ u ∈ next.getD v [], u < next.length) : ∀ (f k : Nat) (s : Tj), TInv next s → tjPot next s + k ≤ f →
    ∃ f' s', tjRun next f s = some (f', s') ∧ TInv next s' ∧ s'.path = [] ∧ tjPot next s' + k ≤ f' ∧ ∀ x, (s.ix x ≠ 0 ∨ x ∈ s.path) → s'.ix x ≠ 0 := by
  intro f
  induction f with
  | zero =>
    intro k s h hf
    have hp : s.path = [] := by
      unfold tjPot at hf
      exact List.eq_nil_of_length_eq_zero (by omega)
    refine ⟨0, s, ?_, h, hp, hf, fun x hx => hx.elim id (fun k => by rw [hp] at k; cases k)⟩
    unfold tjRun
    rw [if_pos hp]
  | succ f ih =>
    intro k s h hf
    by_cases hp : s.path = []
    · refine ⟨f + 1, s, ?_, h, hp, hf, fun x hx => hx.elim id (fun k => by rw [hp] at k; cases k)⟩
      unfold tjRun
      rw [if_pos hp]
    · obtain ⟨s1, k1, k2, k3, k4⟩ := tjStep_ok h hp hrow
      obtain ⟨f', s', r1, r2, r3, r4, r5⟩ := ih k s1 k2 (by omega)
      refine ⟨f', s', ?_, r2, r3, r4, fun x hx => r5 x (.inl (k4 x hx))⟩
      unfold tjRun
      rw [if_neg hp, k1]
      exact r1
theorem TInv.root {s : Tj} (h : TInv next s) (hp : s.path = []) {r : Nat} (hr : r < next.length) (h0 : s.ix r = 0) : TInv next { s with path := [r] } := by
  have hA : ∀ u x, ¬ Ahead [r] u x := fun u x k => by
    rcases k.inv with ⟨_, l2, e⟩ | ⟨l1, l2, e⟩
    · cases e
    · cases l1 <;> cases e
  refine ⟨h.l1, h.l2, h.l3, h.l4, h.stk, h.sort, h.cnt, h.num, h.ent, ?_, ?_, ?_, fun u x k => absurd k (hA u x), h.ple, h.pos0, ?_, h.low, h.reach, ?_, ?_, ?_, ?_, h.clos, h.comp⟩
  · intro x hx; rw [List.mem_singleton.1 hx]; exact hr
  · intro x hx; rw [List.mem_singleton.1 hx]; exact Classical.byContradiction fun hc => h.ent r hc h0
  · exact List.pairwise_singleton _ _
  · intro x hx _; exact h.fin x hx (by rw [hp]; simp)
  · intro x hx _; exact h.flow x hx (by rw [hp]; simp)
  · intro x hx j hj
    refine (h.edge x hx j hj).imp id (Or.imp id (fun k => ?_))
    rw [hp] at k
    obtain ⟨l1, l2, e⟩ := k
    cases l1 <;> cases e
  · intro p hpp hpi; rw [List.mem_singleton.1 hpp] at hpi; exact absurd h0 hpi
  · intro p hpp hpi; rw [List.mem_singleton.1 hpp] at hpi; exact absurd h0 hpi
theorem compRoots_ok (hrow : ∀ v, ∀ u ∈ next.getD v [], u < next.length) : ∀ (k root f : Nat) (s : Tj), TInv next s → s.path = [] → root + k = next.length → tjPot next s + k ≤ f → (∀ x, x < root → s.ix x ≠ 0) →
    ∃ s', compRoots next k root f s = some s' ∧ TInv next s' ∧ s'.path = [] ∧ ∀ x, x < next.length → s'.ix x ≠ 0 := by
  intro k
  induction k with
  | zero =>
    intro root f s h hp hk _ hx
    exact ⟨s, rfl, h, hp, fun x hl => hx x (by omega)⟩
  | succ k ih =>
    intro root f s h hp hk hf hx
    unfold compRoots
    by_cases h0 : s.index.getD root 0 = 0
    · rw [if_neg (fun k => k h0)]
      have h1 := h.root hp (r := root) (by omega) h0
      have hpot : tjPot next { s with path := [root] } = tjPot next s + 1 := by unfold tjPot; rw [hp]; rfl
      obtain ⟨f', s', r1, r2, r3, r4, r5⟩ := tjRun_ok hrow f k _ h1 (by omega)
      rw [r1]
      exact ih (root + 1) f' s' r2 r3 (by omega) r4 (fun x hl => by
        by_cases e : x = root
        · exact r5 x (.inr (by rw [e]; simp))
        · exact r5 x (.inl (hx x (by omega))))
    · rw [if_pos h0]
      exact ih (root + 1) f s h hp (by omega) (by omega) (fun x hl => by
        by_cases e : x = root
        · rw [e]; exact h0
        · exact hx x (by omega))
theorem rep_get (n x : Nat) : (List.replicate n 0).getD x 0 = 0 := by
  rw [List.getD_eq_getElem?_getD, List.getElem?_replicate]
  split <;> rfl
theorem TInv.zero : TInv next (tj0 next.length) := by
  have hA : ∀ u x, ¬ Ahead [] u x := fun u x ⟨l1, l2, e⟩ => by cases l1 <;> cases e
  refine ⟨List.length_replicate, List.length_replicate, List.length_replicate, List.length_replicate, ?_, List.Pairwise.nil, ?_, ?_, ?_, fun x hx => absurd hx List.not_mem_nil, fun x hx => absurd hx List.not_mem_nil, List.Pairwise.nil, fun u x k => absurd k (hA u x), ?_, fun x _ => rep_get _ _, ?_, fun x hx => absurd hx List.not_mem_nil, fun x hx => absurd hx List.not_mem_nil, fun x hx => absurd hx List.not_mem_nil, fun x hx => absurd hx List.not_mem_nil, fun p hx => absurd hx List.not_mem_nil, fun p hx => absurd hx List.not_mem_nil, ?_, ?_⟩
  · intro x
    constructor
    · intro hx; cases hx
    · rintro ⟨h, _⟩; exact absurd (rep_get _ _) h
  · intro x; exact Nat.le_of_eq (rep_get _ _)
  · intro x; exact Nat.le_of_eq (rep_get _ _)
  · intro x hx; exact absurd (rep_get _ _) hx
  · intro x
    show (List.replicate next.length 0).getD x 0 ≤ _
    rw [rep_get]; exact Nat.zero_le _
  · intro x hx; exact absurd (rep_get _ _) hx
  · intro x hx; exact absurd (rep_get _ _) hx
  · intro x y hx; exact absurd (rep_get _ _) hx
/-- Components are always found: equal numbers, and only they, are in reach of each other. -/
theorem compM_ok (hrow : ∀ v, ∀ u ∈ next.getD v [], u < next.length) {F : Nat} (hF : 2 * degS next + next.length ≤ F) :
    ∃ of_, compM F next = some of_ ∧ of_.length = next.length ∧ (∀ x, x < next.length → of_.getD x 0 ≠ 0) ∧ ∀ x y, x < next.length → y < next.length → (of_.getD x 0 = of_.getD y 0 ↔ Rch next x y ∧ Rch next y x) := by
  have hs : (tj0 next.length).at_.sum = 0 := by
    have : ∀ n : Nat, (List.replicate n 0).sum = 0 := by
      intro n
      induction n with
      | zero => rfl
      | succ n ih => rw [List.replicate_succ, List.sum_cons, ih]
    exact this _
  obtain ⟨s', k1, k2, k3, k4⟩ := compRoots_ok hrow next.length 0 F (tj0 next.length) TInv.zero rfl (Nat.zero_add _) (by
    unfold tjPot
    rw [hs]
    show 2 * (degS next - 0) + 0 + next.length ≤ F
    omega) (fun x hx => by omega)
  have hst := k2.stk_nil k3
  have hne : ∀ x, x < next.length → s'.co x ≠ 0 := fun x hx hc => by
    have := (k2.stk x).2 ⟨k4 x hx, hc⟩
    rw [hst] at this
    cases this
  refine ⟨s'.of_, ?_, k2.l3, hne, fun x y hx hy => k2.comp x y (hne x hx) (hne y hy)⟩
  unfold compM
  rw [k1]; rfl
end Go.Ltl
end
section
/- The loop of the lasso: always found in a component that has an edge and all bits. -/
namespace Go.Ltl
open Go.W
theorem fairC_bit (of_ fair : List Nat) (c b : Nat) : ∀ m, (fairC of_ fair m c).testBit b = true ↔ ∃ x, x < m ∧ of_.getD x 0 = c ∧ (fair.getD x 0).testBit b = true := by
  intro m
  induction m with
  | zero => exact ⟨fun h => absurd h (by rw [fairC, Nat.zero_testBit]; decide), fun ⟨x, h, _⟩ => by omega⟩
  | succ m ih =>
    rw [fairC]
    split
    · rename_i hc
      rw [Nat.testBit_or, Bool.or_eq_true, ih]
      constructor
      · rintro (⟨x, h1, h2⟩ | h)
        · exact ⟨x, by omega, h2⟩
        · exact ⟨m, by omega, hc, h⟩
      · rintro ⟨x, h1, h2, h3⟩
        by_cases e : x = m
        · rw [e] at h3; exact .inr h3
        · exact .inl ⟨x, by omega, h2, h3⟩
    · rename_i hc
      rw [ih]
      constructor
      · rintro ⟨x, h1, h2⟩; exact ⟨x, by omega, h2⟩
      · rintro ⟨x, h1, h2, h3⟩
        by_cases e : x = m
        · rw [e] at h2; exact absurd h2 hc
        · exact ⟨x, by omega, h2, h3⟩
theorem turnC_iff (of_ : List Nat) (next : List (List Nat)) (c : Nat) : ∀ m, turnC of_ next m c = true ↔ ∃ x, x < m ∧ of_.getD x 0 = c ∧ ∃ u ∈ next.getD x [], of_.getD u 0 = c := by
  intro m
  induction m with
  | zero => exact ⟨fun h => Bool.noConfusion h, fun ⟨x, h, _⟩ => by omega⟩
  | succ m ih =>
    rw [turnC]
    split
    · rename_i hc
      rw [Bool.or_eq_true, ih, List.any_eq_true]
      constructor
      · rintro (⟨x, h1, h2⟩ | ⟨u, hu, hu2⟩)
        · exact ⟨x, by omega, h2⟩
        · exact ⟨m, by omega, hc, u, hu, of_decide_eq_true hu2⟩
      · rintro ⟨x, h1, h2, u, h3, h4⟩
        by_cases e : x = m
        · rw [e] at h3; exact .inr ⟨u, h3, decide_eq_true h4⟩
        · exact .inl ⟨x, by omega, h2, u, h3, h4⟩
    · rename_i hc
      rw [ih]
      constructor
      · rintro ⟨x, h1, h2⟩; exact ⟨x, by omega, h2⟩
      · rintro ⟨x, h1, h2, h3⟩
        by_cases e : x = m
        · rw [e] at h2; exact absurd h2 hc
        · exact ⟨x, by omega, h2, h3⟩
theorem seenM_bit (fair : List Nat) (b : Nat) : ∀ (part : List Nat) (seen : Nat), (seenM fair seen part).testBit b = true ↔ seen.testBit b = true ∨ ∃ v ∈ part, (fair.getD v 0).testBit b = true := by
  intro part
  induction part with
  | nil => intro seen; exact ⟨fun h => .inl h, fun h => h.elim id (fun ⟨v, hv, _⟩ => by cases hv)⟩
  | cons x part ih =>
    intro seen
    show (seenM fair (seen ||| fair.getD x 0) part).testBit b = true ↔ _
    rw [ih, Nat.testBit_or, Bool.or_eq_true]
    constructor
    · rintro ((h | h) | ⟨v, hv, h⟩)
      · exact .inl h
      · exact .inr ⟨x, by simp, h⟩
      · exact .inr ⟨v, List.mem_cons_of_mem _ hv, h⟩
    · rintro (h | ⟨v, hv, h⟩)
      · exact .inl (.inl h)
      · rcases List.mem_cons.1 hv with rfl | hv
        · exact .inl (.inr h)
        · exact .inr ⟨v, hv, h⟩
variable {next : List (List Nat)}
theorem Rch.head {a y : Nat} (h : Rch next a y) : a = y ∨ ∃ w ∈ next.getD a [], Rch next w y := by
  induction h with
  | refl => exact .inl rfl
  | tail h1 h2 ih =>
    rcases ih with rfl | ⟨w, hw, k⟩
    · exact .inr ⟨_, h2, .refl _⟩
    · exact .inr ⟨w, hw, .tail k h2⟩
/-- Numbers of components. -/
def CompOk (next : List (List Nat)) (of_ : List Nat) : Prop := ∀ x y, x < next.length → y < next.length → (of_.getD x 0 = of_.getD y 0 ↔ Rch next x y ∧ Rch next y x)
theorem comp_reach {of_ : List Nat} (hrow : ∀ v, ∀ u ∈ next.getD v [], u < next.length) (hc : CompOk next of_) {a x y z c : Nat} (ha : a < next.length) (hx : x < next.length) (hy : y < next.length) (ea : of_.getD a 0 = c) (ex : of_.getD x 0 = c) (ey : of_.getD y 0 = c) (hz : z ∈ next.getD y []) (ez : of_.getD z 0 = c) :
    ReachW next (next.getD a []) (fun v => decide (of_.getD v 0 = c)) x := by
  have hzl := hrow y z hz
  have h1 := ((hc a y ha hy).1 (ea.trans ey.symm)).1
  have h2 := ((hc z x hzl hx).1 (ez.trans ex.symm)).1
  have h3 := ((hc x a hx ha).1 (ex.trans ea.symm)).1
  obtain ⟨w, hw, hwx⟩ : ∃ w ∈ next.getD a [], Rch next w x := by
    rcases h1.head with rfl | ⟨w, hw, k⟩
    · exact ⟨z, hz, h2⟩
    · exact ⟨w, hw, k.trans ((Rch.edge hz).trans h2)⟩
  have key : ∀ m, Rch next w m → Rch next m x → ReachW next (next.getD a []) (fun v => decide (of_.getD v 0 = c)) m := by
    intro m hm
    have same : ∀ m, m < next.length → Rch next w m → Rch next m x → decide (of_.getD m 0 = c) = true := fun m hl k1 k2 =>
      decide_eq_true (((hc m a hl ha).2 ⟨k2.trans h3, (Rch.edge hw).trans k1⟩).trans ea)
    induction hm with
    | refl => intro k; exact .start hw (same w (hrow a w hw) (.refl _) k)
    | tail h4 h5 ih => intro k; exact .step (ih ((Rch.edge h5).trans k)) h5 (same _ (hrow _ _ h5) (.tail h4 h5) k)
  exact key x hwx (.refl _)
theorem linkL_app : ∀ (l : List Nat) (a : Nat) (p : List Nat), linkL next a (l ++ p) ↔ linkL next a l ∧ linkL next (l.getLastD a) p := by
  intro l
  induction l with
  | nil => intro a p; exact ⟨fun h => ⟨trivial, h⟩, fun h => h.2⟩
  | cons x l ih =>
    intro a p
    show x ∈ _ ∧ linkL next x (l ++ p) ↔ (x ∈ _ ∧ linkL next x l) ∧ _
    rw [ih, List.getLastD_cons]
    exact ⟨fun ⟨h1, h2, h3⟩ => ⟨⟨h1, h2⟩, h3⟩, fun ⟨⟨h1, h2⟩, h3⟩ => ⟨h1, h2, h3⟩⟩
theorem linkL_lt (hrow : ∀ v, ∀ u ∈ next.getD v [], u < next.length) : ∀ (l : List Nat) (a : Nat), linkL next a l → ∀ v ∈ l, v < next.length := by
  intro l
  induction l with
  | nil => intro a _ v hv; cases hv
  | cons x l ih =>
    rintro a ⟨h1, h2⟩ v hv
    rcases List.mem_cons.1 hv with rfl | hv
    · exact hrow a v h1
    · exact ih x h2 v hv
theorem lastD_mem : ∀ (l : List Nat) (x d : Nat), (x :: l).getLastD d ∈ x :: l := by
  intro l
  induction l with
  | nil => intro x d; simp
  | cons y l ih => intro x d; rw [List.getLastD_cons]; exact List.mem_cons_of_mem _ (ih y x)
theorem lastD_any (x : Nat) (l : List Nat) (d e : Nat) : (x :: l).getLastD d = (x :: l).getLastD e := by rw [List.getLastD_cons, List.getLastD_cons]
/-- How many bits are missing. -/
def missB (nl seen : Nat) : Nat := ((List.range nl).filter fun b => !seen.testBit b).length
theorem missB_lt {nl s t b : Nat} (hst : ∀ i, s.testBit i = true → t.testBit i = true) (hb : b < nl) (hs : s.testBit b = false) (ht : t.testBit b = true) : missB nl t < missB nl s := by
  unfold missB
  have : ∀ l : List Nat, b ∈ l → (l.filter fun b => !t.testBit b).length < (l.filter fun b => !s.testBit b).length := by
    have le : ∀ l : List Nat, (l.filter fun b => !t.testBit b).length ≤ (l.filter fun b => !s.testBit b).length := by
      intro l
      induction l with
      | nil => exact Nat.le_refl _
      | cons x l ih =>
        rw [List.filter_cons, List.filter_cons]
        cases h1 : s.testBit x with
        | true => rw [hst x h1]; exact ih
        | false =>
          cases h2 : t.testBit x with
          | true => simp only [Bool.not_true, Bool.not_false, if_true, List.length_cons]; exact Nat.le_succ_of_le ih
          | false => simp only [Bool.not_false, if_true, List.length_cons]; exact Nat.succ_le_succ ih
    intro l
    induction l with
    | nil => intro h; cases h
    | cons x l ih =>
      intro h
      rw [List.filter_cons, List.filter_cons]
      by_cases e : b = x
      · subst e
        rw [hs, ht]
        have := le l
        simp only [Bool.not_true, Bool.not_false, if_true, List.length_cons]
        exact Nat.lt_succ_of_le this
      · have ih := ih ((List.mem_cons.1 h).resolve_left e)
        cases h1 : s.testBit x with
        | true => rw [hst x h1]; exact ih
        | false =>
          cases h2 : t.testBit x with
          | true => simp only [Bool.not_true, Bool.not_false, if_true, List.length_cons]; exact Nat.lt_succ_of_lt ih
          | false => simp only [Bool.not_false, if_true, List.length_cons]; exact Nat.succ_lt_succ ih
  exact this _ (List.mem_range.2 hb)
theorem loopM_ok {of_ fair : List Nat} {nl home c y z : Nat} {G : Nat} (hG : next.length ≤ G) (hrow : ∀ v, ∀ u ∈ next.getD v [], u < next.length) (hc : CompOk next of_) (hh : home < next.length) (eh : of_.getD home 0 = c) (hy : y < next.length) (ey : of_.getD y 0 = c) (hz : z ∈ next.getD y []) (ez : of_.getD z 0 = c)
    (hall : fairC of_ fair next.length c = 2 ^ nl - 1) {M : Nat} (hM : ∀ l : List Nat, l.Nodup → (∀ v ∈ l, v < next.length ∧ of_.getD v 0 = c) → l.length ≤ M) : ∀ (f at_ seen : Nat) (acc : List Nat), at_ < next.length → of_.getD at_ 0 = c → (∀ b, seen.testBit b = true → (2 ^ nl - 1).testBit b = true) → missB nl seen + 1 ≤ f →
    ∃ x part, loopM G next of_ fair (2 ^ nl - 1) home f at_ seen acc = some (acc ++ x :: part) ∧ linkL next at_ (x :: part) ∧ (∀ v ∈ x :: part, of_.getD v 0 = c) ∧ (x :: part).getLastD 0 = home ∧ (∀ b, b < nl → seen.testBit b = true ∨ ∃ v ∈ x :: part, (fair.getD v 0).testBit b = true) ∧ (x :: part).length ≤ (missB nl seen + 1) * M := by
  have hbit : ∀ b, (2 ^ nl - 1).testBit b = true ↔ b < nl := fun b => by rw [Nat.testBit_two_pow_sub_one]; exact decide_eq_true_iff
  have hin : ∀ b v, v < next.length → of_.getD v 0 = c → (fair.getD v 0).testBit b = true → (2 ^ nl - 1).testBit b = true := fun b v h1 h2 h3 => by
    rw [← hall]; exact (fairC_bit of_ fair c b next.length).2 ⟨v, h1, h2, h3⟩
  intro f
  induction f with
  | zero => intro at_ seen acc _ _ _ h; omega
  | succ f ih =>
    intro at_ seen acc ha ea hs hf
    unfold loopM
    rw [eh]
    rcases wayM_ok (next := next) (start := next.getD at_ []) (may := fun v => decide (of_.getD v 0 = c)) (fits := loopFits fair (2 ^ nl - 1) home seen) hG (hrow at_) hrow with ⟨_, hno⟩ | ⟨l, hl, x, r, rfl, hx, hlk, hmay, hfit, hnd⟩
    · exfalso
      by_cases he : seen = 2 ^ nl - 1
      · have h1 := hno home (comp_reach hrow hc ha hh hy ea eh ey hz ez)
        unfold loopFits at h1
        rw [decide_eq_true he, decide_eq_true rfl] at h1
        simp at h1
      · obtain ⟨b, hb⟩ : ∃ b, seen.testBit b ≠ (2 ^ nl - 1).testBit b := Classical.byContradiction fun hn => he (Nat.eq_of_testBit_eq fun b => Classical.byContradiction fun h => hn ⟨b, h⟩)
        have hsb : seen.testBit b = false := by
          cases h : seen.testBit b with
          | false => rfl
          | true => exact absurd (h.trans (hs b h).symm) hb
        have hab : (2 ^ nl - 1).testBit b = true := by
          cases h : (2 ^ nl - 1).testBit b with
          | true => rfl
          | false => exact absurd (hsb.trans h.symm) hb
        rw [← hall] at hab
        obtain ⟨t, h1, h2, h3⟩ := (fairC_bit of_ fair c b next.length).1 hab
        have h4 := hno t (comp_reach hrow hc ha h1 hy ea h2 ey hz ez)
        unfold loopFits at h4
        rw [Bool.or_eq_false_iff] at h4
        have h5 : bd (fair.getD t 0) seen = 0 := Classical.byContradiction fun h => by rw [decide_eq_true h] at h4; exact Bool.noConfusion h4.1
        have h6 : (bd (fair.getD t 0) seen).testBit b = true := by rw [testBit_bd, h3, hsb]; rfl
        rw [h5, Nat.zero_testBit] at h6
        cases h6
    · rw [hl]
      have hmay2 : ∀ v ∈ x :: r, of_.getD v 0 = c := fun v hv => of_decide_eq_true (hmay v hv)
      have hlk2 : linkL next at_ (x :: r) := ⟨hx, hlk⟩
      have hlt := linkL_lt hrow _ _ hlk2
      have hlast := lastD_mem r x 0
      have hlen := hM _ hnd (fun v hv => ⟨hlt v hv, hmay2 v hv⟩)
      have hsub : ∀ b, (seenM fair seen (x :: r)).testBit b = true → (2 ^ nl - 1).testBit b = true := fun b hb => by
        rcases (seenM_bit fair b (x :: r) seen).1 hb with h | ⟨v, hv, h⟩
        · exact hs b h
        · exact hin b v (hlt v hv) (hmay2 v hv) h
      show ∃ x1 part, (if seenM fair seen (x :: r) = 2 ^ nl - 1 ∧ (x :: r).getLastD 0 = home then _ else _) = _ ∧ _
      by_cases hfin : seenM fair seen (x :: r) = 2 ^ nl - 1 ∧ (x :: r).getLastD 0 = home
      · rw [if_pos hfin]
        refine ⟨x, r, rfl, hlk2, hmay2, hfin.2, fun b hb => ?_, Nat.le_trans hlen (Nat.le_mul_of_pos_left _ (Nat.succ_pos _))⟩
        have := (hbit b).2 hb
        rw [← hfin.1] at this
        exact (seenM_bit fair b (x :: r) seen).1 this
      · rw [if_neg hfin]
        have hmiss : missB nl (seenM fair seen (x :: r)) < missB nl seen := by
          unfold loopFits at hfit
          rw [Bool.or_eq_true] at hfit
          rcases hfit with hfit | hfit
          · have h0 : bd (fair.getD ((x :: r).getLastD 0) 0) seen ≠ 0 := of_decide_eq_true hfit
            obtain ⟨b, hb⟩ : ∃ b, (bd (fair.getD ((x :: r).getLastD 0) 0) seen).testBit b = true := Classical.byContradiction fun hn => h0 (Nat.eq_of_testBit_eq fun b => by
              rw [Nat.zero_testBit]
              cases h : (bd (fair.getD ((x :: r).getLastD 0) 0) seen).testBit b with
              | false => rfl
              | true => exact absurd ⟨b, h⟩ hn)
            rw [testBit_bd, Bool.and_eq_true, Bool.not_eq_true'] at hb
            have h1 : (seenM fair seen (x :: r)).testBit b = true := (seenM_bit fair b (x :: r) seen).2 (.inr ⟨_, hlast, hb.1⟩)
            exact missB_lt (fun i hi => (seenM_bit fair i (x :: r) seen).2 (.inl hi)) ((hbit b).1 (hsub b h1)) hb.2 h1
          · rw [Bool.and_eq_true] at hfit
            have h1 : seen = 2 ^ nl - 1 := of_decide_eq_true hfit.1
            have h2 : (x :: r).getLastD 0 = home := of_decide_eq_true hfit.2
            refine absurd ⟨Nat.eq_of_testBit_eq fun b => ?_, h2⟩ hfin
            cases h : (2 ^ nl - 1).testBit b with
            | true => exact (seenM_bit fair b (x :: r) seen).2 (.inl (by rw [h1]; exact h))
            | false =>
              cases h3 : (seenM fair seen (x :: r)).testBit b with
              | false => rfl
              | true => rw [hsub b h3] at h; cases h
        obtain ⟨x2, p2, k1, k2, k3, k4, k5, k6⟩ := ih ((x :: r).getLastD 0) (seenM fair seen (x :: r)) (acc ++ x :: r) (hlt _ hlast) (hmay2 _ hlast) hsub (by omega)
        refine ⟨x, r ++ x2 :: p2, ?_, ?_, ?_, ?_, ?_, ?_⟩
        · rw [k1, List.append_assoc]; rfl
        · show linkL next at_ ((x :: r) ++ x2 :: p2)
          rw [linkL_app]
          exact ⟨hlk2, by rw [lastD_any x r at_ 0]; exact k2⟩
        · intro v hv
          have hv : v ∈ (x :: r) ++ x2 :: p2 := hv
          rcases List.mem_append.1 hv with hv | hv
          · exact hmay2 v hv
          · exact k3 v hv
        · have : ∀ (l : List Nat) (d : Nat), (l ++ x2 :: p2).getLastD d = (x2 :: p2).getLastD 0 := by
            intro l
            induction l with
            | nil => intro d; exact lastD_any x2 p2 d 0
            | cons w l ih => intro d; rw [List.cons_append, List.getLastD_cons]; exact ih w
          exact (this (x :: r) 0).trans k4
        · intro b hb
          rcases k5 b hb with h | ⟨v, hv, h⟩
          · rcases (seenM_bit fair b (x :: r) seen).1 h with h | ⟨v, hv, h⟩
            · exact .inl h
            · exact .inr ⟨v, List.mem_append_left _ hv, h⟩
          · exact .inr ⟨v, by show v ∈ (x :: r) ++ x2 :: p2; exact List.mem_append_right _ hv, h⟩
        · have e : (x :: (r ++ x2 :: p2)).length = (x :: r).length + (x2 :: p2).length := by rw [← List.length_append]; rfl
          rw [e]
          have h7 : (missB nl (seenM fair seen (x :: r)) + 1 + 1) * M ≤ (missB nl seen + 1) * M := Nat.mul_le_mul_right _ (by omega)
          rw [Nat.succ_mul] at h7
          omega
end Go.Ltl
end
section
/- The search always answers: a lasso, or none that is fair is in reach. -/
namespace Go.Ltl
open Go.W
theorem missB_le (nl s : Nat) : missB nl s ≤ nl := by
  have := List.length_filter_le (fun b => !s.testBit b) (List.range nl)
  rwa [List.length_range] at this
theorem reachW_lt {next : List (List Nat)} (hrow : ∀ v, ∀ u ∈ next.getD v [], u < next.length) {start : List Nat} (hs : ∀ u ∈ start, u < next.length) {may : Nat → Bool} {v : Nat} (h : ReachW next start may v) : v < next.length := by
  cases h with
  | start h1 _ => exact hs v h1
  | step _ h2 _ => exact hrow _ v h2
/-- What a lasso of states of the search is. -/
def FairLasso (next : List (List Nat)) (start fair : List Nat) (nl : Nat) (stem loop : List Nat) : Prop :=
  ∃ x r y p, stem = x :: r ∧ loop = y :: p ∧ x ∈ start ∧ linkL next x r ∧ linkL next (stem.getLastD 0) loop ∧ loop.getLastD 0 = stem.getLastD 0 ∧ ∀ b, b < nl → ∃ v ∈ loop, (fair.getD v 0).testBit b = true
theorem runM_ok {next : List (List Nat)} {F G pairs starts nl : Nat} {truth : List Bool} {fair : List Nat} (hrow : ∀ v, ∀ u ∈ next.getD v [], u < next.length) (hF : 2 * degS next + next.length ≤ F) (hG : next.length ≤ G) (hG2 : nl + 1 ≤ G)
    (hs : ∀ u ∈ beginM pairs starts truth, u < next.length) (hfair : ∀ x, x < next.length → ∀ b, (fair.getD x 0).testBit b = true → b < nl) {M K : Nat} (hM : ∀ (v0 : Nat) (l : List Nat), v0 < next.length → l.Nodup → (∀ v ∈ l, v < next.length ∧ Rch next v0 v ∧ Rch next v v0) → l.length ≤ M) (hK : ∀ v, v < next.length → missB nl (fair.getD v 0) ≤ K) :
    (runM F G next pairs starts nl truth fair = some none ∧ ∀ v, ReachW next (beginM pairs starts truth) (fun _ => true) v → (∃ y z, Rch next v y ∧ z ∈ next.getD y [] ∧ Rch next z v) → ¬ ∀ b, b < nl → ∃ x, Rch next v x ∧ Rch next x v ∧ (fair.getD x 0).testBit b = true) ∨
    ∃ stem loop, runM F G next pairs starts nl truth fair = some (some (stem, loop)) ∧ FairLasso next (beginM pairs starts truth) fair nl stem loop ∧ stem.length ≤ next.length ∧ loop.length ≤ (K + 1) * M := by
  obtain ⟨of_, hof, hlen, hne, hc⟩ := compM_ok hrow hF
  have hrch : ∀ {v y}, v < next.length → Rch next v y → y < next.length := fun {v y} hv h => by
    cases h with
    | refl => exact hv
    | tail _ h2 => exact hrow _ _ h2
  have hbit : ∀ b, (2 ^ nl - 1).testBit b = true ↔ b < nl := fun b => by rw [Nat.testBit_two_pow_sub_one]; exact decide_eq_true_iff
  unfold runM
  rw [hof]
  simp only
  rcases wayM_ok (next := next) (start := beginM pairs starts truth) (may := fun _ => true) (fits := stemFits of_ fair next (2 ^ nl - 1)) hG hs hrow with ⟨h1, h2⟩ | ⟨l, h1, x, r, rfl, hx, hlk, _, hfit, hnd⟩
  · refine .inl ⟨by rw [h1], fun v hv hedge hbits => ?_⟩
    have hvl := reachW_lt hrow hs hv
    have h3 := h2 v hv
    unfold stemFits at h3
    have ht : turnC of_ next next.length (of_.getD v 0) = true := by
      obtain ⟨y, z, k1, k2, k3⟩ := hedge
      have hyl := hrch hvl k1
      have hzl := hrow y z k2
      refine (turnC_iff of_ next _ _).2 ⟨y, hyl, ((hc y v hyl hvl).2 ⟨(Rch.edge k2).trans k3, k1⟩), z, k2, ((hc z v hzl hvl).2 ⟨k3, k1.trans (Rch.edge k2)⟩)⟩
    have hf : fairC of_ fair next.length (of_.getD v 0) = 2 ^ nl - 1 := by
      refine Nat.eq_of_testBit_eq fun b => ?_
      by_cases hb : b < nl
      · obtain ⟨x, k1, k2, k3⟩ := hbits b hb
        have hxl := hrch hvl k1
        rw [(hbit b).2 hb]
        exact (fairC_bit of_ fair _ b _).2 ⟨x, hxl, (hc x v hxl hvl).2 ⟨k2, k1⟩, k3⟩
      · have e1 : (2 ^ nl - 1).testBit b = false := by
          cases h : (2 ^ nl - 1).testBit b with
          | false => rfl
          | true => exact absurd ((hbit b).1 h) hb
        rw [e1]
        cases h : (fairC of_ fair next.length (of_.getD v 0)).testBit b with
        | false => rfl
        | true =>
          obtain ⟨x, k1, _, k3⟩ := (fairC_bit of_ fair _ b _).1 h
          exact absurd (hfair x k1 b k3) hb
    rw [ht, decide_eq_true hf] at h3
    cases h3
  · rw [h1]
    simp only
    have hlt : ∀ u ∈ x :: r, u < next.length := fun u hu => by
      rcases List.mem_cons.1 hu with rfl | hu
      · exact hs u hx
      · exact linkL_lt hrow r x hlk u hu
    have hhm := lastD_mem r x 0
    obtain ⟨home, hhome⟩ : ∃ home, home = (x :: r).getLastD 0 := ⟨_, rfl⟩
    rw [← hhome] at hhm hfit ⊢
    have hhl := hlt home hhm
    unfold stemFits at hfit
    rw [Bool.and_eq_true] at hfit
    obtain ⟨y, hy, ey, z, hz, ez⟩ := (turnC_iff of_ next _ _).1 hfit.1
    obtain ⟨y2, p2, k1, k2, _, k4, k5, k6⟩ := loopM_ok (fair := fair) (nl := nl) hG hrow hc hhl rfl hy ey hz ez (of_decide_eq_true hfit.2) (M := M) (fun l hl hv => hM home l hhl hl (fun v hvl => ⟨(hv v hvl).1, (hc home v hhl (hv v hvl).1).1 (hv v hvl).2.symm⟩)) G home (fair.getD home 0) [] hhl rfl (fun b hb => (hbit b).2 (hfair home hhl b hb)) (by have := missB_le nl (fair.getD home 0); omega)
    rw [k1]
    refine .inr ⟨_, _, rfl, ⟨x, r, y2, p2, rfl, rfl, hx, hlk, ?_, ?_, fun b hb => ?_⟩, nd_lt hnd hlt, Nat.le_trans k6 (Nat.mul_le_mul_right _ (Nat.succ_le_succ (hK home hhl)))⟩
    · rw [← hhome]; exact k2
    · rw [← hhome]; exact k4
    · rcases k5 b hb with h | h
      · exact ⟨home, by rw [List.nil_append, ← k4]; exact lastD_mem p2 y2 0, h⟩
      · exact h
end Go.Ltl
end
section
/- The truth of formulas of endless sequences, and the values on lassos. -/
namespace Go.Ltl
open Go.W
/-- Whether a formula is true of a sequence, from a position on. -/
def satS (σ : Nat → Int) : Fm → Nat → Prop
  | .at_ w, i => holdsM w (σ i) = true
  | .on_ w f, i => if w = wNot then ¬ satS σ f i else if w = wNext then satS σ f (i + 1) else if w = wAlways then ∀ j, i ≤ j → satS σ f j else ∃ j, i ≤ j ∧ satS σ f j
  | .tw_ w f g, i => if w = wAnd then satS σ f i ∧ satS σ g i else if w = wOr then satS σ f i ∨ satS σ g i
    else if w = wUntil then ∃ j, i ≤ j ∧ satS σ g j ∧ ∀ k, i ≤ k → k < j → satS σ f k
    else ∀ j, i ≤ j → satS σ g j ∨ ∃ k, i ≤ k ∧ k < j ∧ satS σ f k
/-- The position on a lasso. -/
def pos (n lp : Nat) : Nat → Nat
  | 0 => 0
  | i + 1 => aft n lp (pos n lp i)
theorem aft_lt {n lp i : Nat} (h : lp < n) : aft n lp i < n := by unfold aft; split <;> omega
theorem pos_lt {n lp : Nat} (h : lp < n) : ∀ i, pos n lp i < n
  | 0 => by unfold pos; omega
  | i + 1 => aft_lt h
/-- The sequence of a lasso. -/
def seqL (ms : List Int) (lp i : Nat) : Int := ms.getD (pos ms.length lp i) 0
section
variable {n lp : Nat} (hlp : lp < n) (A B : Nat → Bool)
theorem getD_set_ne {l : List Bool} {i j : Nat} {x : Bool} (h : i ≠ j) : (l.set i x).getD j false = l.getD j false := by simp [h]
end
/-- Only the sequence counts. -/
theorem satS_congr {σ τ : Nat → Int} {a b : Nat} (h : ∀ k, σ (a + k) = τ (b + k)) : ∀ f i, satS σ f (a + i) ↔ satS τ f (b + i) := by
  intro f
  induction f with
  | at_ w => intro i; unfold satS; rw [h i]
  | on_ w f ih =>
    intro i
    unfold satS
    split
    · rw [ih i]
    · split
      · exact ih (i + 1)
      · split
        · constructor
          · intro hh j hj; have := (ih (j - b)).1 (hh (a + (j - b)) (by omega)); rwa [show b + (j - b) = j by omega] at this
          · intro hh j hj; have := (ih (j - a)).2 (hh (b + (j - a)) (by omega)); rwa [show a + (j - a) = j by omega] at this
        · constructor
          · rintro ⟨j, h1, h2⟩; exact ⟨b + (j - a), by omega, (ih (j - a)).1 (by rwa [show a + (j - a) = j by omega])⟩
          · rintro ⟨j, h1, h2⟩; exact ⟨a + (j - b), by omega, (ih (j - b)).2 (by rwa [show b + (j - b) = j by omega])⟩
  | tw_ w f g ihf ihg =>
    intro i
    unfold satS
    split
    · rw [ihf i, ihg i]
    · split
      · rw [ihf i, ihg i]
      · split
        · constructor
          · rintro ⟨j, h1, h2, h3⟩
            exact ⟨b + (j - a), by omega, (ihg (j - a)).1 (by rwa [show a + (j - a) = j by omega]), fun k hk1 hk2 => by have := (ihf (k - b)).1 (h3 (a + (k - b)) (by omega) (by omega)); rwa [show b + (k - b) = k by omega] at this⟩
          · rintro ⟨j, h1, h2, h3⟩
            exact ⟨a + (j - b), by omega, (ihg (j - b)).2 (by rwa [show b + (j - b) = j by omega]), fun k hk1 hk2 => by have := (ihf (k - a)).2 (h3 (b + (k - a)) (by omega) (by omega)); rwa [show a + (k - a) = k by omega] at this⟩
        · constructor
          · intro hh j hj
            rcases hh (a + (j - b)) (by omega) with h1 | ⟨k, h1, h2, h3⟩
            · left; have := (ihg (j - b)).1 h1; rwa [show b + (j - b) = j by omega] at this
            · exact .inr ⟨b + (k - a), by omega, by omega, (ihf (k - a)).1 (by rwa [show a + (k - a) = k by omega])⟩
          · intro hh j hj
            rcases hh (b + (j - a)) (by omega) with h1 | ⟨k, h1, h2, h3⟩
            · left; have := (ihg (j - a)).2 h1; rwa [show a + (j - a) = j by omega] at this
            · exact .inr ⟨a + (k - b), by omega, by omega, (ihf (k - b)).2 (by rwa [show b + (k - b) = k by omega])⟩
end Go.Ltl
end
section
/- What a guess says, bit by bit. -/
namespace Go.Ltl
open Go.W
/-- Truth at a place with a mark and a guess; k is the number of the first bit. -/
def tvF (m : Int) (bs : Nat) : Fm → Nat → Bool
  | .at_ w, _ => holdsM w m
  | .on_ w f, k => if w = wNot then !tvF m bs f k else if w = wNext then bs.testBit (k + looksN f) else if w = wAlways then tvF m bs f k && bs.testBit (k + looksN f) else tvF m bs f k || bs.testBit (k + looksN f)
  | .tw_ w f g, k => if w = wAnd then tvF m bs f k && tvF m bs g (k + looksN f) else if w = wOr then tvF m bs f k || tvF m bs g (k + looksN f)
    else if w = wUntil then tvF m bs g (k + looksN f) || (tvF m bs f k && bs.testBit (k + looksN f + looksN g))
    else tvF m bs g (k + looksN f) && (tvF m bs f k || bs.testBit (k + looksN f + looksN g))
/-- What is looked for under a bit: whether it holds here. -/
def lkF (m : Int) (bs : Nat) : Fm → Nat → Nat → Bool
  | .at_ _, _, _ => false
  | .on_ w f, k, b => if w = wNot then lkF m bs f k b else lkF m bs f k b || (decide (b = k + looksN f) && (if w = wNext then tvF m bs f k else tvF m bs (.on_ w f) k))
  | .tw_ w f g, k, b => if w = wAnd ∨ w = wOr then lkF m bs f k b || lkF m bs g (k + looksN f) b else lkF m bs f k b || lkF m bs g (k + looksN f) b || (decide (b = k + looksN f + looksN g) && tvF m bs (.tw_ w f g) k)
/-- Whether a bit is not put off here. -/
def frF (m : Int) (bs : Nat) : Fm → Nat → Nat → Bool
  | .at_ _, _, _ => false
  | .on_ w f, k, b => if w = wNot then frF m bs f k b else frF m bs f k b || (decide (b = k + looksN f) && (if w = wNext then true else if w = wAlways then tvF m bs (.on_ w f) k || !tvF m bs f k else !tvF m bs (.on_ w f) k || tvF m bs f k))
  | .tw_ w f g, k, b => if w = wAnd ∨ w = wOr then frF m bs f k b || frF m bs g (k + looksN f) b else frF m bs f k b || frF m bs g (k + looksN f) b ||
    (decide (b = k + looksN f + looksN g) && (if w = wUntil then !tvF m bs (.tw_ w f g) k || tvF m bs g (k + looksN f) else tvF m bs (.tw_ w f g) k || !tvF m bs g (k + looksN f)))
theorem note_bit (x : Nat) (q : Bool) (k b : Nat) : (if q then x ||| 2 ^ k else x).testBit b = (x.testBit b || (decide (b = k) && q)) := by
  cases q with
  | false => simp
  | true =>
    simp only [if_true, Nat.testBit_or, Nat.testBit_two_pow, Bool.and_true]
    congr 1
    exact decide_eq_decide.2 ⟨fun h => h.symm, fun h => h.symm⟩
theorem note_look (c w1 f1 kk b : Nat) (q r : Bool) : (noteM (c, w1, f1) (2 ^ kk) q r).2.1.testBit b = (w1.testBit b || (decide (b = kk) && q)) := note_bit w1 q kk b
theorem note_fair (c w1 f1 kk b : Nat) (q r : Bool) : (noteM (c, w1, f1) (2 ^ kk) q r).2.2.testBit b = (f1.testBit b || (decide (b = kk) && r)) := note_bit f1 r kk b
/-- The numbers of a guess's value, bit by bit. -/
theorem gval_bits (m : Int) (bs : Nat) : ∀ (f : Fm) (k w0 f0 : Nat), ∃ w1 f1, gval m bs f (k, w0, f0) = (tvF m bs f k, (k + looksN f, w1, f1)) ∧ (∀ b, w1.testBit b = (w0.testBit b || lkF m bs f k b)) ∧ ∀ b, f1.testBit b = (f0.testBit b || frF m bs f k b) := by
  intro f
  induction f with
  | at_ w => intro k w0 f0; exact ⟨w0, f0, rfl, fun b => by simp [lkF], fun b => by simp [frF]⟩
  | on_ w f ih =>
    intro k w0 f0
    obtain ⟨w1, f1, e, h1, h2⟩ := ih k w0 f0
    unfold gval
    simp only [e]
    by_cases c1 : w = wNot
    · simp only [if_pos c1]
      refine ⟨w1, f1, ?_, ?_, ?_⟩
      · simp only [tvF, looksN, if_pos c1, Nat.add_zero]
      · intro b; rw [h1]; simp only [lkF, if_pos c1]
      · intro b; rw [h2]; simp only [frF, if_pos c1]
    · simp only [if_neg c1]
      by_cases c2 : w = wNext
      · simp only [if_pos c2]
        refine ⟨(noteM (k + looksN f + 1, w1, f1) (2 ^ (k + looksN f)) (tvF m bs f k) (true)).2.1, (noteM (k + looksN f + 1, w1, f1) (2 ^ (k + looksN f)) (tvF m bs f k) (true)).2.2, ?_, ?_, ?_⟩
        · simp only [tvF, looksN, if_neg c1, if_pos c2, noteM]; rfl
        · intro b; rw [note_look, h1]; simp only [lkF, if_neg c1, if_pos c2, Bool.or_assoc]
        · intro b; rw [note_fair, h2]; simp only [frF, if_neg c1, if_pos c2, Bool.or_assoc]
      · simp only [if_neg c2]
        by_cases c3 : w = wAlways
        · simp only [if_pos c3]
          refine ⟨(noteM (k + looksN f + 1, w1, f1) (2 ^ (k + looksN f)) ((tvF m bs f k && bs.testBit (k + looksN f))) (((tvF m bs f k && bs.testBit (k + looksN f)) || !tvF m bs f k))).2.1, (noteM (k + looksN f + 1, w1, f1) (2 ^ (k + looksN f)) ((tvF m bs f k && bs.testBit (k + looksN f))) (((tvF m bs f k && bs.testBit (k + looksN f)) || !tvF m bs f k))).2.2, ?_, ?_, ?_⟩
          · simp only [tvF, looksN, if_neg c1, if_neg c2, if_pos c3, noteM]; rfl
          · intro b; rw [note_look, h1]; simp only [lkF, tvF, if_neg c1, if_neg c2, if_pos c3, Bool.or_assoc]
          · intro b; rw [note_fair, h2]; simp only [frF, tvF, if_neg c1, if_neg c2, if_pos c3, Bool.or_assoc]
        · simp only [if_neg c3]
          refine ⟨(noteM (k + looksN f + 1, w1, f1) (2 ^ (k + looksN f)) ((tvF m bs f k || bs.testBit (k + looksN f))) ((!(tvF m bs f k || bs.testBit (k + looksN f)) || tvF m bs f k))).2.1, (noteM (k + looksN f + 1, w1, f1) (2 ^ (k + looksN f)) ((tvF m bs f k || bs.testBit (k + looksN f))) ((!(tvF m bs f k || bs.testBit (k + looksN f)) || tvF m bs f k))).2.2, ?_, ?_, ?_⟩
          · simp only [tvF, looksN, if_neg c1, if_neg c2, if_neg c3, noteM]; rfl
          · intro b; rw [note_look, h1]; simp only [lkF, tvF, if_neg c1, if_neg c2, if_neg c3, Bool.or_assoc]
          · intro b; rw [note_fair, h2]; simp only [frF, tvF, if_neg c1, if_neg c2, if_neg c3, Bool.or_assoc]
  | tw_ w f g ihf ihg =>
    intro k w0 f0
    obtain ⟨w1, f1, e, h1, h2⟩ := ihf k w0 f0
    obtain ⟨w2, f2, e2, h3, h4⟩ := ihg (k + looksN f) w1 f1
    unfold gval
    simp only [e, e2]
    by_cases c1 : w = wAnd
    · simp only [if_pos c1]
      refine ⟨w2, f2, ?_, ?_, ?_⟩
      · simp only [tvF, looksN, if_pos c1, if_pos (show w = wAnd ∨ w = wOr from .inl c1), Nat.add_zero, Nat.add_assoc]
      · intro b; rw [h3, h1]; simp only [lkF, if_pos (show w = wAnd ∨ w = wOr from .inl c1), Bool.or_assoc]
      · intro b; rw [h4, h2]; simp only [frF, if_pos (show w = wAnd ∨ w = wOr from .inl c1), Bool.or_assoc]
    · simp only [if_neg c1]
      by_cases c2 : w = wOr
      · simp only [if_pos c2]
        refine ⟨w2, f2, ?_, ?_, ?_⟩
        · simp only [tvF, looksN, if_neg c1, if_pos c2, if_pos (show w = wAnd ∨ w = wOr from .inr c2), Nat.add_zero, Nat.add_assoc]
        · intro b; rw [h3, h1]; simp only [lkF, if_pos (show w = wAnd ∨ w = wOr from .inr c2), Bool.or_assoc]
        · intro b; rw [h4, h2]; simp only [frF, if_pos (show w = wAnd ∨ w = wOr from .inr c2), Bool.or_assoc]
      · have cn : ¬ (w = wAnd ∨ w = wOr) := fun h => h.elim c1 c2
        simp only [if_neg c2]
        by_cases c3 : w = wUntil
        · simp only [if_pos c3]
          refine ⟨(noteM (k + looksN f + looksN g + 1, w2, f2) (2 ^ (k + looksN f + looksN g)) ((tvF m bs g (k + looksN f) || (tvF m bs f k && bs.testBit (k + looksN f + looksN g)))) ((!(tvF m bs g (k + looksN f) || (tvF m bs f k && bs.testBit (k + looksN f + looksN g))) || tvF m bs g (k + looksN f)))).2.1, (noteM (k + looksN f + looksN g + 1, w2, f2) (2 ^ (k + looksN f + looksN g)) ((tvF m bs g (k + looksN f) || (tvF m bs f k && bs.testBit (k + looksN f + looksN g)))) ((!(tvF m bs g (k + looksN f) || (tvF m bs f k && bs.testBit (k + looksN f + looksN g))) || tvF m bs g (k + looksN f)))).2.2, ?_, ?_, ?_⟩
          · simp only [tvF, looksN, if_neg c1, if_neg c2, if_pos c3, if_neg cn, noteM, ← Nat.add_assoc]
          · intro b; rw [note_look, h3, h1]; simp only [lkF, tvF, if_neg c1, if_neg c2, if_neg cn, if_pos c3, Bool.or_assoc]
          · intro b; rw [note_fair, h4, h2]; simp only [frF, tvF, if_neg c1, if_neg c2, if_neg cn, if_pos c3, Bool.or_assoc]
        · simp only [if_neg c3]
          refine ⟨(noteM (k + looksN f + looksN g + 1, w2, f2) (2 ^ (k + looksN f + looksN g)) ((tvF m bs g (k + looksN f) && (tvF m bs f k || bs.testBit (k + looksN f + looksN g)))) (((tvF m bs g (k + looksN f) && (tvF m bs f k || bs.testBit (k + looksN f + looksN g))) || !tvF m bs g (k + looksN f)))).2.1, (noteM (k + looksN f + looksN g + 1, w2, f2) (2 ^ (k + looksN f + looksN g)) ((tvF m bs g (k + looksN f) && (tvF m bs f k || bs.testBit (k + looksN f + looksN g)))) (((tvF m bs g (k + looksN f) && (tvF m bs f k || bs.testBit (k + looksN f + looksN g))) || !tvF m bs g (k + looksN f)))).2.2, ?_, ?_, ?_⟩
          · simp only [tvF, looksN, if_neg c1, if_neg c2, if_neg c3, if_neg cn, noteM, ← Nat.add_assoc]
          · intro b; rw [note_look, h3, h1]; simp only [lkF, tvF, if_neg c1, if_neg c2, if_neg cn, if_neg c3, Bool.or_assoc]
          · intro b; rw [note_fair, h4, h2]; simp only [frF, tvF, if_neg c1, if_neg c2, if_neg cn, if_neg c3, Bool.or_assoc]
/-- Guesses that agree with what comes, on the bits from k to k + n. -/
def AgreeF (σ : Nat → Int) (β : Nat → Nat) (f : Fm) (k : Nat) : Prop := ∀ i b, k ≤ b → b < k + looksN f → (β i).testBit b = lkF (σ (i + 1)) (β (i + 1)) f k b
def FairF (σ : Nat → Int) (β : Nat → Nat) (f : Fm) (k : Nat) : Prop := ∀ b, k ≤ b → b < k + looksN f → ∀ i, ∃ j, i ≤ j ∧ frF (σ j) (β j) f k b = true
/-- Bits outside a formula's own are not its own. -/
theorem lkF_out (m : Int) (bs : Nat) : ∀ (f : Fm) (k b : Nat), (b < k ∨ k + looksN f ≤ b) → lkF m bs f k b = false ∧ frF m bs f k b = false := by
  intro f
  induction f with
  | at_ w => intro k b _; exact ⟨rfl, rfl⟩
  | on_ w f ih =>
    intro k b h
    unfold looksN at h
    unfold lkF frF
    by_cases c1 : w = wNot
    · rw [if_pos c1] at h
      simp only [if_pos c1]
      exact ih k b (by omega)
    · rw [if_neg c1] at h
      simp only [if_neg c1]
      obtain ⟨h1, h2⟩ := ih k b (by omega)
      rw [h1, h2, decide_eq_false (by omega)]
      exact ⟨rfl, rfl⟩
  | tw_ w f g ihf ihg =>
    intro k b h
    unfold looksN at h
    unfold lkF frF
    by_cases c1 : w = wAnd ∨ w = wOr
    · rw [if_pos c1] at h
      simp only [if_pos c1]
      obtain ⟨h1, h2⟩ := ihf k b (by omega)
      obtain ⟨h3, h4⟩ := ihg (k + looksN f) b (by omega)
      rw [h1, h2, h3, h4]
      exact ⟨rfl, rfl⟩
    · rw [if_neg c1] at h
      simp only [if_neg c1]
      obtain ⟨h1, h2⟩ := ihf k b (by omega)
      obtain ⟨h3, h4⟩ := ihg (k + looksN f) b (by omega)
      rw [h1, h2, h3, h4, decide_eq_false (by omega)]
      exact ⟨rfl, rfl⟩
end Go.Ltl
end
section
/- Guesses that agree and are fair tell the truth. -/
namespace Go.Ltl
open Go.W
theorem looks_on (w : Str) (f : Fm) : looksN (.on_ w f) = looksN f + if w = wNot then 0 else 1 := rfl
theorem looks_tw (w : Str) (f g : Fm) : looksN (.tw_ w f g) = looksN f + looksN g + if w = wAnd ∨ w = wOr then 0 else 1 := rfl
theorem seq_always {A T : Nat → Bool} (h : ∀ i, T i = (A i && T (i + 1))) (hf : ∀ i, ∃ j, i ≤ j ∧ (T j || !A j) = true) (i : Nat) : T i = true ↔ ∀ j, i ≤ j → A j = true := by
  constructor
  · intro ht
    have key : ∀ d, T (i + d) = true := by
      intro d
      induction d with
      | zero => exact ht
      | succ d ih => have := h (i + d); rw [ih] at this; have h2 := this.symm; rw [Bool.and_eq_true] at h2; exact h2.2
    intro j hj
    have h1 := key (j - i)
    rw [Nat.add_sub_cancel' hj, h, Bool.and_eq_true] at h1
    exact h1.1
  · intro ha
    obtain ⟨j, hj, hfj⟩ := hf i
    have htj : T j = true := by
      rw [ha j hj] at hfj
      simpa using hfj
    have key : ∀ d i, i + d = j → (∀ q, i ≤ q → A q = true) → T i = true := by
      intro d
      induction d with
      | zero => intro i hi _; rw [show i = j by omega]; exact htj
      | succ d ih => intro i hi hq; rw [h, hq i (Nat.le_refl _), ih (i + 1) (by omega) (fun q hq2 => hq q (by omega))]; rfl
    exact key (j - i) i (by omega) ha
theorem seq_until {A B T : Nat → Bool} (h : ∀ i, T i = (B i || (A i && T (i + 1)))) (hf : ∀ i, ∃ j, i ≤ j ∧ (!T j || B j) = true) (i : Nat) : T i = true ↔ ∃ j, i ≤ j ∧ B j = true ∧ ∀ k, i ≤ k → k < j → A k = true := by
  constructor
  · intro ht
    obtain ⟨j, hj, hfj⟩ := hf i
    have key : ∀ d i, i + d = j → T i = true → ∃ q, i ≤ q ∧ B q = true ∧ ∀ k, i ≤ k → k < q → A k = true := by
      intro d
      induction d with
      | zero =>
        intro i hi hti
        have e : i = j := by omega
        subst e
        rw [hti] at hfj
        exact ⟨i, Nat.le_refl _, by simpa using hfj, fun k h1 h2 => by omega⟩
      | succ d ih =>
        intro i hi hti
        cases hb : B i with
        | true => exact ⟨i, Nat.le_refl _, hb, fun k h1 h2 => by omega⟩
        | false =>
          rw [h, hb, Bool.false_or, Bool.and_eq_true] at hti
          obtain ⟨q, h1, h2, h3⟩ := ih (i + 1) (by omega) hti.2
          refine ⟨q, by omega, h2, fun k hk1 hk2 => ?_⟩
          by_cases e : k = i
          · rw [e]; exact hti.1
          · exact h3 k (by omega) hk2
    exact key (j - i) i (by omega) ht
  · rintro ⟨j, hj, hb, ha⟩
    have key : ∀ d i, i + d = j → (∀ k, i ≤ k → k < j → A k = true) → T i = true := by
      intro d
      induction d with
      | zero => intro i hi _; rw [h, show i = j by omega, hb]; rfl
      | succ d ih =>
        intro i hi hk
        rw [h, hk i (Nat.le_refl _) (by omega), ih (i + 1) (by omega) (fun k h1 h2 => hk k (by omega) h2)]
        simp
    exact key (j - i) i (by omega) ha
theorem seq_finally {A T : Nat → Bool} (h : ∀ i, T i = (A i || T (i + 1))) (hf : ∀ i, ∃ j, i ≤ j ∧ (!T j || A j) = true) (i : Nat) : T i = true ↔ ∃ j, i ≤ j ∧ A j = true := by
  have := seq_until (A := fun _ => true) (B := A) (T := T) (fun i => by rw [h]; simp) hf i
  rw [this]
  exact ⟨fun ⟨j, h1, h2, _⟩ => ⟨j, h1, h2⟩, fun ⟨j, h1, h2⟩ => ⟨j, h1, h2, fun _ _ _ => rfl⟩⟩
theorem seq_release {A B T : Nat → Bool} (h : ∀ i, T i = (B i && (A i || T (i + 1)))) (hf : ∀ i, ∃ j, i ≤ j ∧ (T j || !B j) = true) (i : Nat) : T i = true ↔ ∀ j, i ≤ j → B j = true ∨ ∃ k, i ≤ k ∧ k < j ∧ A k = true := by
  constructor
  · intro ht j hj
    have key : ∀ d i, i + d = j → T i = true → B j = true ∨ ∃ k, i ≤ k ∧ k < j ∧ A k = true := by
      intro d
      induction d with
      | zero =>
        intro i hi hti
        rw [h, Bool.and_eq_true] at hti
        exact .inl (by rw [show j = i by omega]; exact hti.1)
      | succ d ih =>
        intro i hi hti
        rw [h, Bool.and_eq_true, Bool.or_eq_true] at hti
        rcases hti.2 with h1 | h1
        · exact .inr ⟨i, Nat.le_refl _, by omega, h1⟩
        · rcases ih (i + 1) (by omega) h1 with h2 | ⟨k, h2, h3, h4⟩
          · exact .inl h2
          · exact .inr ⟨k, by omega, h3, h4⟩
    exact key (j - i) i (by omega) ht
  · intro hs
    obtain ⟨j, hj, hfj⟩ := hf i
    have key : ∀ d i, i + d = j → (∀ j, i ≤ j → B j = true ∨ ∃ k, i ≤ k ∧ k < j ∧ A k = true) → T i = true := by
      intro d
      induction d with
      | zero =>
        intro i hi hq
        have e : i = j := by omega
        subst e
        rcases hq i (Nat.le_refl _) with h1 | ⟨k, h1, h2, _⟩
        · rw [h1] at hfj
          simpa using hfj
        · omega
      | succ d ih =>
        intro i hi hq
        have hb : B i = true := by
          rcases hq i (Nat.le_refl _) with h1 | ⟨k, h1, h2, _⟩
          · exact h1
          · omega
        rw [h, hb, Bool.true_and]
        cases ha : A i with
        | true => rfl
        | false =>
          rw [Bool.false_or]
          refine ih (i + 1) (by omega) (fun q hq2 => ?_)
          rcases hq q (by omega) with h1 | ⟨k, h1, h2, h3⟩
          · exact .inl h1
          · by_cases e : k = i
            · rw [e, ha] at h3; cases h3
            · exact .inr ⟨k, by omega, h2, h3⟩
    exact key (j - i) i (by omega) hs
theorem sound {σ : Nat → Int} {β : Nat → Nat} : ∀ (f : Fm) (k : Nat), AgreeF σ β f k → FairF σ β f k → ∀ i, tvF (σ i) (β i) f k = true ↔ satS σ f i := by
  intro f
  induction f with
  | at_ w => intro k _ _ i; exact Iff.rfl
  | on_ w f ih =>
    intro k ha hf i
    by_cases c1 : w = wNot
    · have h1 : AgreeF σ β f k := fun i b h1 h2 => by
        have := ha i b h1 (by rw [looks_on, if_pos c1]; omega)
        simp only [lkF, if_pos c1] at this
        exact this
      have h2 : FairF σ β f k := fun b h1 h2 i => by
        obtain ⟨j, hj, hfj⟩ := hf b h1 (by rw [looks_on, if_pos c1]; omega) i
        simp only [frF, if_pos c1] at hfj
        exact ⟨j, hj, hfj⟩
      have := ih k h1 h2 i
      simp only [tvF, satS, if_pos c1]
      rw [← this]
      simp
    · have hlen : looksN (.on_ w f) = looksN f + 1 := by rw [looks_on, if_neg c1]
      have h1 : AgreeF σ β f k := fun i b h1 h2 => by
        have := ha i b h1 (by rw [hlen]; omega)
        simp only [lkF, if_neg c1] at this
        rw [this, decide_eq_false (by omega)]; simp
      have h2 : FairF σ β f k := fun b h1 h2 i => by
        obtain ⟨j, hj, hfj⟩ := hf b h1 (by rw [hlen]; omega) i
        simp only [frF, if_neg c1] at hfj
        rw [decide_eq_false (by omega)] at hfj
        exact ⟨j, hj, by simpa using hfj⟩
      have hA := ih k h1 h2
      have hbit : ∀ i, (β i).testBit (k + looksN f) = if w = wNext then tvF (σ (i + 1)) (β (i + 1)) f k else tvF (σ (i + 1)) (β (i + 1)) (.on_ w f) k := fun i => by
        have := ha i (k + looksN f) (by omega) (by rw [hlen]; omega)
        rw [this]
        unfold lkF
        simp only [if_neg c1]
        rw [(lkF_out _ _ f k (k + looksN f) (by omega)).1]
        simp
      have hfr : ∀ i, ∃ j, i ≤ j ∧ (if w = wNext then true else if w = wAlways then tvF (σ j) (β j) (.on_ w f) k || !tvF (σ j) (β j) f k else !tvF (σ j) (β j) (.on_ w f) k || tvF (σ j) (β j) f k) = true := fun i => by
        obtain ⟨j, hj, hfj⟩ := hf (k + looksN f) (by omega) (by rw [hlen]; omega) i
        unfold frF at hfj
        simp only [if_neg c1] at hfj
        rw [(lkF_out _ _ f k (k + looksN f) (by omega)).2] at hfj
        exact ⟨j, hj, by simpa using hfj⟩
      by_cases c2 : w = wNext
      · simp only [if_pos c2] at hbit
        simp only [tvF, satS, if_neg c1, if_pos c2, hbit i]
        exact hA (i + 1)
      · simp only [if_neg c2] at hbit hfr
        by_cases c3 : w = wAlways
        · simp only [if_pos c3] at hfr
          have hT : ∀ i, tvF (σ i) (β i) (.on_ w f) k = (tvF (σ i) (β i) f k && tvF (σ (i + 1)) (β (i + 1)) (.on_ w f) k) := fun i => by
            rw [← hbit i]; conv => lhs; unfold tvF
            simp only [if_neg c1, if_neg c2, if_pos c3]
          have := seq_always (A := fun i => tvF (σ i) (β i) f k) (T := fun i => tvF (σ i) (β i) (.on_ w f) k) hT hfr i
          refine this.trans ?_
          simp only [satS, if_neg c1, if_neg c2, if_pos c3]
          exact ⟨fun h j hj => (hA j).1 (h j hj), fun h j hj => (hA j).2 (h j hj)⟩
        · simp only [if_neg c3] at hfr
          have hT : ∀ i, tvF (σ i) (β i) (.on_ w f) k = (tvF (σ i) (β i) f k || tvF (σ (i + 1)) (β (i + 1)) (.on_ w f) k) := fun i => by
            rw [← hbit i]; conv => lhs; unfold tvF
            simp only [if_neg c1, if_neg c2, if_neg c3]
          have := seq_finally (A := fun i => tvF (σ i) (β i) f k) (T := fun i => tvF (σ i) (β i) (.on_ w f) k) hT hfr i
          refine this.trans ?_
          simp only [satS, if_neg c1, if_neg c2, if_neg c3]
          exact ⟨fun ⟨j, h1, h2⟩ => ⟨j, h1, (hA j).1 h2⟩, fun ⟨j, h1, h2⟩ => ⟨j, h1, (hA j).2 h2⟩⟩
  | tw_ w f g ihf ihg =>
    intro k ha hf i
    by_cases c0 : w = wAnd ∨ w = wOr
    · have hlen : looksN (.tw_ w f g) = looksN f + looksN g := by rw [looks_tw, if_pos c0]; omega
      have a1 : AgreeF σ β f k := fun i b h1 h2 => by
        have := ha i b h1 (by rw [hlen]; omega)
        simp only [lkF, if_pos c0] at this
        rw [this, (lkF_out _ _ g (k + looksN f) b (by omega)).1, Bool.or_false]
      have a2 : AgreeF σ β g (k + looksN f) := fun i b h1 h2 => by
        have := ha i b (by omega) (by rw [hlen]; omega)
        simp only [lkF, if_pos c0] at this
        rw [this, (lkF_out _ _ f k b (by omega)).1, Bool.false_or]
      have f1 : FairF σ β f k := fun b h1 h2 i => by
        obtain ⟨j, hj, hfj⟩ := hf b h1 (by rw [hlen]; omega) i
        simp only [frF, if_pos c0] at hfj
        rw [(lkF_out _ _ g (k + looksN f) b (by omega)).2, Bool.or_false] at hfj
        exact ⟨j, hj, hfj⟩
      have f2 : FairF σ β g (k + looksN f) := fun b h1 h2 i => by
        obtain ⟨j, hj, hfj⟩ := hf b (by omega) (by rw [hlen]; omega) i
        simp only [frF, if_pos c0] at hfj
        rw [(lkF_out _ _ f k b (by omega)).2, Bool.false_or] at hfj
        exact ⟨j, hj, hfj⟩
      have hA := ihf k a1 f1 i
      have hB := ihg (k + looksN f) a2 f2 i
      by_cases c1 : w = wAnd
      · simp only [tvF, satS, if_pos c1, Bool.and_eq_true, hA, hB]
      · have c2 := c0.resolve_left c1
        simp only [tvF, satS, if_neg c1, if_pos c2, Bool.or_eq_true, hA, hB]
    · have c1 : ¬ w = wAnd := fun h => c0 (.inl h)
      have c2 : ¬ w = wOr := fun h => c0 (.inr h)
      have hlen : looksN (.tw_ w f g) = looksN f + looksN g + 1 := by rw [looks_tw, if_neg c0]
      have a1 : AgreeF σ β f k := fun i b h1 h2 => by
        have := ha i b h1 (by rw [hlen]; omega)
        simp only [lkF, if_neg c0] at this
        rw [this, (lkF_out _ _ g (k + looksN f) b (by omega)).1, decide_eq_false (by omega)]; simp
      have a2 : AgreeF σ β g (k + looksN f) := fun i b h1 h2 => by
        have := ha i b (by omega) (by rw [hlen]; omega)
        simp only [lkF, if_neg c0] at this
        rw [this, (lkF_out _ _ f k b (by omega)).1, decide_eq_false (by omega)]; simp
      have f1 : FairF σ β f k := fun b h1 h2 i => by
        obtain ⟨j, hj, hfj⟩ := hf b h1 (by rw [hlen]; omega) i
        simp only [frF, if_neg c0] at hfj
        rw [(lkF_out _ _ g (k + looksN f) b (by omega)).2, decide_eq_false (by omega)] at hfj
        exact ⟨j, hj, by simpa using hfj⟩
      have f2 : FairF σ β g (k + looksN f) := fun b h1 h2 i => by
        obtain ⟨j, hj, hfj⟩ := hf b (by omega) (by rw [hlen]; omega) i
        simp only [frF, if_neg c0] at hfj
        rw [(lkF_out _ _ f k b (by omega)).2, decide_eq_false (by omega)] at hfj
        exact ⟨j, hj, by simpa using hfj⟩
      have hA := ihf k a1 f1
      have hB := ihg (k + looksN f) a2 f2
      have hbit : ∀ i, (β i).testBit (k + looksN f + looksN g) = tvF (σ (i + 1)) (β (i + 1)) (.tw_ w f g) k := fun i => by
        have := ha i (k + looksN f + looksN g) (by omega) (by rw [hlen]; omega)
        rw [this]
        unfold lkF
        simp only [if_neg c0]
        rw [(lkF_out _ _ f k _ (by omega)).1, (lkF_out _ _ g (k + looksN f) _ (by omega)).1]
        simp
      have hfr : ∀ i, ∃ j, i ≤ j ∧ (if w = wUntil then !tvF (σ j) (β j) (.tw_ w f g) k || tvF (σ j) (β j) g (k + looksN f) else tvF (σ j) (β j) (.tw_ w f g) k || !tvF (σ j) (β j) g (k + looksN f)) = true := fun i => by
        obtain ⟨j, hj, hfj⟩ := hf (k + looksN f + looksN g) (by omega) (by rw [hlen]; omega) i
        unfold frF at hfj
        simp only [if_neg c0] at hfj
        rw [(lkF_out _ _ f k _ (by omega)).2, (lkF_out _ _ g (k + looksN f) _ (by omega)).2] at hfj
        exact ⟨j, hj, by simpa using hfj⟩
      by_cases c3 : w = wUntil
      · simp only [if_pos c3] at hfr
        have hT : ∀ i, tvF (σ i) (β i) (.tw_ w f g) k = (tvF (σ i) (β i) g (k + looksN f) || (tvF (σ i) (β i) f k && tvF (σ (i + 1)) (β (i + 1)) (.tw_ w f g) k)) := fun i => by
          rw [← hbit i]; conv => lhs; unfold tvF
          simp only [if_neg c1, if_neg c2, if_pos c3]
        have := seq_until (A := fun i => tvF (σ i) (β i) f k) (B := fun i => tvF (σ i) (β i) g (k + looksN f)) (T := fun i => tvF (σ i) (β i) (.tw_ w f g) k) hT hfr i
        refine this.trans ?_
        simp only [satS, if_neg c1, if_neg c2, if_pos c3, hA, hB]
      · simp only [if_neg c3] at hfr
        have hT : ∀ i, tvF (σ i) (β i) (.tw_ w f g) k = (tvF (σ i) (β i) g (k + looksN f) && (tvF (σ i) (β i) f k || tvF (σ (i + 1)) (β (i + 1)) (.tw_ w f g) k)) := fun i => by
          rw [← hbit i]; conv => lhs; unfold tvF
          simp only [if_neg c1, if_neg c2, if_neg c3]
        have := seq_release (A := fun i => tvF (σ i) (β i) f k) (B := fun i => tvF (σ i) (β i) g (k + looksN f)) (T := fun i => tvF (σ i) (β i) (.tw_ w f g) k) hT hfr i
        refine this.trans ?_
        simp only [satS, if_neg c1, if_neg c2, if_neg c3, hA, hB]
end Go.Ltl
end
section
/- Every sequence has guesses that agree and are fair. -/
namespace Go.Ltl
open Go.W
/-- What holds at a place under a bit. -/
def lkS (σ : Nat → Int) : Fm → Nat → Nat → Nat → Prop
  | .at_ _, _, _, _ => False
  | .on_ w f, k, b, i => if w = wNot then lkS σ f k b i else lkS σ f k b i ∨ (b = k + looksN f ∧ if w = wNext then satS σ f i else satS σ (.on_ w f) i)
  | .tw_ w f g, k, b, i => if w = wAnd ∨ w = wOr then lkS σ f k b i ∨ lkS σ g (k + looksN f) b i else lkS σ f k b i ∨ lkS σ g (k + looksN f) b i ∨ (b = k + looksN f + looksN g ∧ satS σ (.tw_ w f g) i)
theorem lkS_out (σ : Nat → Int) : ∀ (f : Fm) (k b i : Nat), (b < k ∨ k + looksN f ≤ b) → ¬ lkS σ f k b i := by
  intro f
  induction f with
  | at_ w => intro k b i _ h; exact h
  | on_ w f ih =>
    intro k b i h hl
    rw [looks_on] at h
    unfold lkS at hl
    by_cases c1 : w = wNot
    · rw [if_pos c1] at h hl
      exact ih k b i (by omega) hl
    · rw [if_neg c1] at h hl
      rcases hl with hl | ⟨hl, _⟩
      · exact ih k b i (by omega) hl
      · omega
  | tw_ w f g ihf ihg =>
    intro k b i h hl
    rw [looks_tw] at h
    unfold lkS at hl
    by_cases c1 : w = wAnd ∨ w = wOr
    · rw [if_pos c1] at h hl
      rcases hl with hl | hl
      · exact ihf k b i (by omega) hl
      · exact ihg (k + looksN f) b i (by omega) hl
    · rw [if_neg c1] at h hl
      rcases hl with hl | hl | ⟨hl, _⟩
      · exact ihf k b i (by omega) hl
      · exact ihg (k + looksN f) b i (by omega) hl
      · omega
/-- A number with given bits. -/
theorem numB (P : Nat → Prop) : ∀ n : Nat, ∃ x : Nat, ∀ b, x.testBit b = true ↔ b < n ∧ P b := by
  intro n
  induction n with
  | zero => exact ⟨0, fun b => ⟨fun h => absurd h (by rw [Nat.zero_testBit]; decide), fun h => absurd h.1 (Nat.not_lt_zero _)⟩⟩
  | succ n ih =>
    obtain ⟨x, ih⟩ := ih
    rcases Classical.em (P n) with hp | hp
    · refine ⟨x ||| 2 ^ n, fun b => ?_⟩
      rw [Nat.testBit_or, Bool.or_eq_true, ih, Nat.testBit_two_pow, decide_eq_true_eq]
      constructor
      · rintro (⟨h1, h2⟩ | rfl)
        · exact ⟨by omega, h2⟩
        · exact ⟨Nat.lt_succ_self _, hp⟩
      · rintro ⟨h1, h2⟩
        by_cases e : n = b
        · exact .inr e
        · exact .inl ⟨by omega, h2⟩
    · refine ⟨x, fun b => ?_⟩
      rw [ih]
      constructor
      · rintro ⟨h1, h2⟩; exact ⟨by omega, h2⟩
      · rintro ⟨h1, h2⟩
        by_cases e : n = b
        · subst e; exact absurd h2 hp
        · exact ⟨by omega, h2⟩
/-- The guesses say what holds at the next place. -/
def SaysF (σ : Nat → Int) (β : Nat → Nat) (f : Fm) (k : Nat) : Prop := ∀ i b, k ≤ b → b < k + looksN f → ((β i).testBit b = true ↔ lkS σ f k b (i + 1))
theorem says_ok {σ : Nat → Int} {β : Nat → Nat} : ∀ (f : Fm) (k : Nat), SaysF σ β f k → ∀ i, (tvF (σ i) (β i) f k = true ↔ satS σ f i) ∧ ∀ b, lkF (σ i) (β i) f k b = true ↔ lkS σ f k b i := by
  intro f
  induction f with
  | at_ w => intro k _ i; exact ⟨Iff.rfl, fun b => ⟨fun h => Bool.noConfusion h, fun h => h.elim⟩⟩
  | on_ w f ih =>
    intro k hS i
    by_cases c1 : w = wNot
    · have h1 : SaysF σ β f k := fun i b h1 h2 => by
        have := hS i b h1 (by rw [looks_on, if_pos c1]; omega)
        simp only [lkS, if_pos c1] at this
        exact this
      obtain ⟨k1, k2⟩ := ih k h1 i
      refine ⟨?_, fun b => ?_⟩
      · simp only [tvF, satS, if_pos c1]; rw [← k1]; simp
      · simp only [lkF, lkS, if_pos c1]; exact k2 b
    · have hlen : looksN (.on_ w f) = looksN f + 1 := by rw [looks_on, if_neg c1]
      have h1 : SaysF σ β f k := fun i b h1 h2 => by
        have := hS i b h1 (by rw [hlen]; omega)
        simp only [lkS, if_neg c1] at this
        rw [this]
        exact ⟨fun h => h.elim id (fun h => by omega), .inl⟩
      have hbit : ∀ i, (β i).testBit (k + looksN f) = true ↔ if w = wNext then satS σ f (i + 1) else satS σ (.on_ w f) (i + 1) := fun i => by
        have := hS i (k + looksN f) (by omega) (by rw [hlen]; omega)
        rw [this]
        simp only [lkS, if_neg c1]
        exact ⟨fun h => h.elim (fun h => absurd h (lkS_out σ f k _ _ (by omega))) (fun h => h.2), fun h => .inr ⟨trivial, h⟩⟩
      have hA := fun i => (ih k h1 i).1
      have hL := fun i => (ih k h1 i).2
      have hT : ∀ i, tvF (σ i) (β i) (.on_ w f) k = true ↔ satS σ (.on_ w f) i := fun i => by
        by_cases c2 : w = wNext
        · have := hbit i
          simp only [if_pos c2] at this
          simp only [tvF, satS, if_neg c1, if_pos c2]
          exact this
        · have := hbit i
          simp only [if_neg c2] at this
          by_cases c3 : w = wAlways
          · simp only [satS, if_neg c1, if_neg c2, if_pos c3] at this ⊢
            simp only [tvF, if_neg c1, if_neg c2, if_pos c3, Bool.and_eq_true, hA i, this]
            constructor
            · rintro ⟨h1, h2⟩ j hj
              by_cases e : j = i
              · rw [e]; exact h1
              · exact h2 j (by omega)
            · exact fun h => ⟨h i (Nat.le_refl _), fun j hj => h j (by omega)⟩
          · simp only [satS, if_neg c1, if_neg c2, if_neg c3] at this ⊢
            simp only [tvF, if_neg c1, if_neg c2, if_neg c3, Bool.or_eq_true, hA i, this]
            constructor
            · rintro (h | ⟨j, h1, h2⟩)
              · exact ⟨i, Nat.le_refl _, h⟩
              · exact ⟨j, by omega, h2⟩
            · rintro ⟨j, h1, h2⟩
              by_cases e : j = i
              · rw [e] at h2; exact .inl h2
              · exact .inr ⟨j, by omega, h2⟩
      refine ⟨hT i, fun b => ?_⟩
      unfold lkF lkS
      simp only [if_neg c1]
      rw [Bool.or_eq_true, Bool.and_eq_true, decide_eq_true_eq, hL i b]
      by_cases c2 : w = wNext
      · simp only [if_pos c2, hA i]
      · simp only [if_neg c2, hT i]
  | tw_ w f g ihf ihg =>
    intro k hS i
    by_cases c0 : w = wAnd ∨ w = wOr
    · have hlen : looksN (.tw_ w f g) = looksN f + looksN g := by rw [looks_tw, if_pos c0]; omega
      have s1 : SaysF σ β f k := fun i b h1 h2 => by
        have := hS i b h1 (by rw [hlen]; omega)
        simp only [lkS, if_pos c0] at this
        rw [this]
        exact ⟨fun h => h.elim id (fun h => absurd h (lkS_out σ g _ _ _ (by omega))), .inl⟩
      have s2 : SaysF σ β g (k + looksN f) := fun i b h1 h2 => by
        have := hS i b (by omega) (by rw [hlen]; omega)
        simp only [lkS, if_pos c0] at this
        rw [this]
        exact ⟨fun h => h.elim (fun h => absurd h (lkS_out σ f _ _ _ (by omega))) id, .inr⟩
      obtain ⟨k1, k2⟩ := ihf k s1 i
      obtain ⟨k3, k4⟩ := ihg (k + looksN f) s2 i
      refine ⟨?_, fun b => ?_⟩
      · by_cases c1 : w = wAnd
        · simp only [tvF, satS, if_pos c1, Bool.and_eq_true, k1, k3]
        · simp only [tvF, satS, if_neg c1, if_pos (c0.resolve_left c1), Bool.or_eq_true, k1, k3]
      · simp only [lkF, lkS, if_pos c0, Bool.or_eq_true, k2 b, k4 b]
    · have c1 : ¬ w = wAnd := fun h => c0 (.inl h)
      have c2 : ¬ w = wOr := fun h => c0 (.inr h)
      have hlen : looksN (.tw_ w f g) = looksN f + looksN g + 1 := by rw [looks_tw, if_neg c0]
      have s1 : SaysF σ β f k := fun i b h1 h2 => by
        have := hS i b h1 (by rw [hlen]; omega)
        simp only [lkS, if_neg c0] at this
        rw [this]
        exact ⟨fun h => h.elim id (fun h => h.elim (fun h => absurd h (lkS_out σ g _ _ _ (by omega))) (fun h => by omega)), .inl⟩
      have s2 : SaysF σ β g (k + looksN f) := fun i b h1 h2 => by
        have := hS i b (by omega) (by rw [hlen]; omega)
        simp only [lkS, if_neg c0] at this
        rw [this]
        exact ⟨fun h => h.elim (fun h => absurd h (lkS_out σ f _ _ _ (by omega))) (fun h => h.elim id (fun h => by omega)), fun h => .inr (.inl h)⟩
      have hbit : ∀ i, (β i).testBit (k + looksN f + looksN g) = true ↔ satS σ (.tw_ w f g) (i + 1) := fun i => by
        have := hS i (k + looksN f + looksN g) (by omega) (by rw [hlen]; omega)
        rw [this]
        simp only [lkS, if_neg c0]
        exact ⟨fun h => h.elim (fun h => absurd h (lkS_out σ f _ _ _ (by omega))) (fun h => h.elim (fun h => absurd h (lkS_out σ g _ _ _ (by omega))) (fun h => h.2)), fun h => .inr (.inr ⟨trivial, h⟩)⟩
      have hA := fun i => (ihf k s1 i).1
      have hB := fun i => (ihg (k + looksN f) s2 i).1
      have hT : ∀ i, tvF (σ i) (β i) (.tw_ w f g) k = true ↔ satS σ (.tw_ w f g) i := fun i => by
        have := hbit i
        by_cases c3 : w = wUntil
        · simp only [satS, if_neg c1, if_neg c2, if_pos c3] at this ⊢
          simp only [tvF, if_neg c1, if_neg c2, if_pos c3, Bool.or_eq_true, Bool.and_eq_true, hA i, hB i, this]
          constructor
          · rintro (h | ⟨h, j, h1, h2, h3⟩)
            · exact ⟨i, Nat.le_refl _, h, fun q h1 h2 => by omega⟩
            · refine ⟨j, by omega, h2, fun q h4 h5 => ?_⟩
              by_cases e : q = i
              · rw [e]; exact h
              · exact h3 q (by omega) h5
          · rintro ⟨j, h1, h2, h3⟩
            by_cases e : j = i
            · rw [e] at h2; exact .inl h2
            · exact .inr ⟨h3 i (Nat.le_refl _) (by omega), j, by omega, h2, fun q h4 h5 => h3 q (by omega) h5⟩
        · simp only [satS, if_neg c1, if_neg c2, if_neg c3] at this ⊢
          simp only [tvF, if_neg c1, if_neg c2, if_neg c3, Bool.or_eq_true, Bool.and_eq_true, hA i, hB i, this]
          constructor
          · rintro ⟨h, h2⟩ j hj
            by_cases e : j = i
            · rw [e]; exact .inl h
            · rcases h2 with h2 | h2
              · exact .inr ⟨i, Nat.le_refl _, by omega, h2⟩
              · rcases h2 j (by omega) with h3 | ⟨q, h3, h4, h5⟩
                · exact .inl h3
                · exact .inr ⟨q, by omega, h4, h5⟩
          · intro h
            refine ⟨(h i (Nat.le_refl _)).elim id (fun ⟨q, h1, h2, _⟩ => by omega), ?_⟩
            rcases Classical.em (satS σ f i) with hf | hf
            · exact .inl hf
            · refine .inr (fun j hj => ?_)
              rcases h j (by omega) with h3 | ⟨q, h3, h4, h5⟩
              · exact .inl h3
              · by_cases e : q = i
                · rw [e] at h5; exact absurd h5 hf
                · exact .inr ⟨q, by omega, h4, h5⟩
      refine ⟨hT i, fun b => ?_⟩
      unfold lkF lkS
      simp only [if_neg c0]
      rw [Bool.or_eq_true, Bool.or_eq_true, Bool.and_eq_true, decide_eq_true_eq, (ihf k s1 i).2 b, (ihg (k + looksN f) s2 i).2 b, hT i, or_assoc]
theorem says_agree {σ : Nat → Int} {β : Nat → Nat} {f : Fm} {k : Nat} (h : SaysF σ β f k) : AgreeF σ β f k := fun i b h1 h2 => by
  have h3 := h i b h1 h2
  have h4 := (says_ok f k h (i + 1)).2 b
  cases h5 : lkF (σ (i + 1)) (β (i + 1)) f k b with
  | true => exact h3.2 (h4.1 h5)
  | false =>
    cases h6 : (β i).testBit b with
    | false => rfl
    | true => rw [h4.2 (h3.1 h6)] at h5; cases h5
theorem says_fair {σ : Nat → Int} {β : Nat → Nat} : ∀ (f : Fm) (k : Nat), SaysF σ β f k → FairF σ β f k := by
  intro f
  induction f with
  | at_ w => intro k _ b h1 h2; unfold looksN at h2; omega
  | on_ w f ih =>
    intro k hS b hb1 hb2 i
    by_cases c1 : w = wNot
    · have h1 : SaysF σ β f k := fun i b h1 h2 => by
        have := hS i b h1 (by rw [looks_on, if_pos c1]; omega)
        simp only [lkS, if_pos c1] at this
        exact this
      rw [looks_on, if_pos c1] at hb2
      obtain ⟨j, h2, h3⟩ := ih k h1 b hb1 (by omega) i
      exact ⟨j, h2, by simp only [frF, if_pos c1]; exact h3⟩
    · have hlen : looksN (.on_ w f) = looksN f + 1 := by rw [looks_on, if_neg c1]
      have h1 : SaysF σ β f k := fun i b h1 h2 => by
        have := hS i b h1 (by rw [hlen]; omega)
        simp only [lkS, if_neg c1] at this
        rw [this]
        exact ⟨fun h => h.elim id (fun h => by omega), .inl⟩
      rw [hlen] at hb2
      by_cases e : b = k + looksN f
      · subst e
        have hA := fun i => (says_ok f k h1 i).1
        have hT := fun i => (says_ok (.on_ w f) k hS i).1
        have done : ∀ j, i ≤ j → (if w = wNext then true else if w = wAlways then tvF (σ j) (β j) (.on_ w f) k || !tvF (σ j) (β j) f k else !tvF (σ j) (β j) (.on_ w f) k || tvF (σ j) (β j) f k) = true → ∃ j, i ≤ j ∧ frF (σ j) (β j) (.on_ w f) k (k + looksN f) = true := fun j hj h => ⟨j, hj, by
          unfold frF
          simp only [if_neg c1]
          rw [h]
          simp⟩
        by_cases c2 : w = wNext
        · exact done i (Nat.le_refl _) (by rw [if_pos c2])
        · by_cases c3 : w = wAlways
          · rcases Classical.em (∃ j, i ≤ j ∧ ¬ satS σ f j) with ⟨j, h2, h3⟩ | hn
            · refine done j h2 ?_
              rw [if_neg c2, if_pos c3, Bool.or_eq_true, Bool.not_eq_true']
              exact .inr (by rw [← Bool.not_eq_true]; exact fun h => h3 ((hA j).1 h))
            · refine done i (Nat.le_refl _) ?_
              rw [if_neg c2, if_pos c3, Bool.or_eq_true]
              refine .inl ((hT i).2 ?_)
              simp only [satS, if_neg c1, if_neg c2, if_pos c3]
              exact fun j hj => Classical.byContradiction fun h => hn ⟨j, hj, h⟩
          · rcases Classical.em (∃ j, i ≤ j ∧ satS σ f j) with ⟨j, h2, h3⟩ | hn
            · refine done j h2 ?_
              rw [if_neg c2, if_neg c3, Bool.or_eq_true]
              exact .inr ((hA j).2 h3)
            · refine done i (Nat.le_refl _) ?_
              rw [if_neg c2, if_neg c3, Bool.or_eq_true, Bool.not_eq_true']
              refine .inl (by
                rw [← Bool.not_eq_true]
                intro h
                have h := (hT i).1 h
                simp only [satS, if_neg c1, if_neg c2, if_neg c3] at h
                exact hn h)
      · obtain ⟨j, h2, h3⟩ := ih k h1 b hb1 (by omega) i
        exact ⟨j, h2, by simp only [frF, if_neg c1, h3, Bool.true_or]⟩
  | tw_ w f g ihf ihg =>
    intro k hS b hb1 hb2 i
    by_cases c0 : w = wAnd ∨ w = wOr
    · have hlen : looksN (.tw_ w f g) = looksN f + looksN g := by rw [looks_tw, if_pos c0]; omega
      have s1 : SaysF σ β f k := fun i b h1 h2 => by
        have := hS i b h1 (by rw [hlen]; omega)
        simp only [lkS, if_pos c0] at this
        rw [this]
        exact ⟨fun h => h.elim id (fun h => absurd h (lkS_out σ g _ _ _ (by omega))), .inl⟩
      have s2 : SaysF σ β g (k + looksN f) := fun i b h1 h2 => by
        have := hS i b (by omega) (by rw [hlen]; omega)
        simp only [lkS, if_pos c0] at this
        rw [this]
        exact ⟨fun h => h.elim (fun h => absurd h (lkS_out σ f _ _ _ (by omega))) id, .inr⟩
      rw [hlen] at hb2
      by_cases e : b < k + looksN f
      · obtain ⟨j, h2, h3⟩ := ihf k s1 b hb1 e i
        exact ⟨j, h2, by simp only [frF, if_pos c0, h3, Bool.true_or]⟩
      · obtain ⟨j, h2, h3⟩ := ihg (k + looksN f) s2 b (by omega) (by omega) i
        exact ⟨j, h2, by simp only [frF, if_pos c0, h3, Bool.or_true]⟩
    · have c1 : ¬ w = wAnd := fun h => c0 (.inl h)
      have c2 : ¬ w = wOr := fun h => c0 (.inr h)
      have hlen : looksN (.tw_ w f g) = looksN f + looksN g + 1 := by rw [looks_tw, if_neg c0]
      have s1 : SaysF σ β f k := fun i b h1 h2 => by
        have := hS i b h1 (by rw [hlen]; omega)
        simp only [lkS, if_neg c0] at this
        rw [this]
        exact ⟨fun h => h.elim id (fun h => h.elim (fun h => absurd h (lkS_out σ g _ _ _ (by omega))) (fun h => by omega)), .inl⟩
      have s2 : SaysF σ β g (k + looksN f) := fun i b h1 h2 => by
        have := hS i b (by omega) (by rw [hlen]; omega)
        simp only [lkS, if_neg c0] at this
        rw [this]
        exact ⟨fun h => h.elim (fun h => absurd h (lkS_out σ f _ _ _ (by omega))) (fun h => h.elim id (fun h => by omega)), fun h => .inr (.inl h)⟩
      rw [hlen] at hb2
      by_cases e1 : b < k + looksN f
      · obtain ⟨j, h2, h3⟩ := ihf k s1 b hb1 e1 i
        exact ⟨j, h2, by simp only [frF, if_neg c0, h3, Bool.true_or]⟩
      · by_cases e2 : b < k + looksN f + looksN g
        · obtain ⟨j, h2, h3⟩ := ihg (k + looksN f) s2 b (by omega) e2 i
          exact ⟨j, h2, by simp only [frF, if_neg c0, h3, Bool.or_true, Bool.true_or]⟩
        · obtain rfl : b = k + looksN f + looksN g := by omega
          have hB := fun i => (says_ok g (k + looksN f) s2 i).1
          have hT := fun i => (says_ok (.tw_ w f g) k hS i).1
          have done : ∀ j, i ≤ j → (if w = wUntil then !tvF (σ j) (β j) (.tw_ w f g) k || tvF (σ j) (β j) g (k + looksN f) else tvF (σ j) (β j) (.tw_ w f g) k || !tvF (σ j) (β j) g (k + looksN f)) = true → ∃ j, i ≤ j ∧ frF (σ j) (β j) (.tw_ w f g) k (k + looksN f + looksN g) = true := fun j hj h => ⟨j, hj, by
            unfold frF
            simp only [if_neg c0]
            rw [h]
            simp⟩
          by_cases c3 : w = wUntil
          · rcases Classical.em (∃ j, i ≤ j ∧ satS σ g j) with ⟨j, h2, h3⟩ | hn
            · refine done j h2 ?_
              rw [if_pos c3, Bool.or_eq_true]
              exact .inr ((hB j).2 h3)
            · refine done i (Nat.le_refl _) ?_
              rw [if_pos c3, Bool.or_eq_true, Bool.not_eq_true']
              refine .inl (by
                rw [← Bool.not_eq_true]
                intro h
                have h := (hT i).1 h
                simp only [satS, if_neg c1, if_neg c2, if_pos c3] at h
                obtain ⟨j, h1, h2, _⟩ := h
                exact hn ⟨j, h1, h2⟩)
          · rcases Classical.em (∃ j, i ≤ j ∧ ¬ satS σ g j) with ⟨j, h2, h3⟩ | hn
            · refine done j h2 ?_
              rw [if_neg c3, Bool.or_eq_true, Bool.not_eq_true']
              exact .inr (by rw [← Bool.not_eq_true]; exact fun h => h3 ((hB j).1 h))
            · refine done i (Nat.le_refl _) ?_
              rw [if_neg c3, Bool.or_eq_true]
              refine .inl ((hT i).2 ?_)
              simp only [satS, if_neg c1, if_neg c2, if_neg c3]
              exact fun j hj => .inl (Classical.byContradiction fun h => hn ⟨j, hj, h⟩)
end Go.Ltl
end
section
/- Push keeps the truth, or turns it about. -/
namespace Go.Ltl
open Go.W
theorem push_sat (σ : Nat → Int) : ∀ (f : Fm) (c : Bool) (i : Nat), wfF f → (satS σ (pushM f c) i ↔ if c = true then ¬ satS σ f i else satS σ f i) := by
  intro f
  induction f with
  | at_ w =>
    intro c i hw
    have hs2 : w = wTrue ∨ w = wFalse ∨ w = [112, 48] ∨ w = [112, 49] ∨ w = [112, 50] ∨ w = [112, 51] := by
      have : w ∈ atomsL := hw
      simpa [atomsL] using this
    cases c with
    | false =>
      rcases hs2 with rfl | rfl | rfl | rfl | rfl | rfl <;> exact Iff.rfl
    | true =>
      rcases hs2 with rfl | rfl | rfl | rfl | rfl | rfl
      · show (false = true) ↔ ¬ (true = true); simp
      · show (true = true) ↔ ¬ (false = true); simp
      all_goals exact Iff.rfl
  | on_ w f ih =>
    rintro c i ⟨hw, hf⟩
    have hs2 : w = wNot ∨ w = wNext ∨ w = wAlways ∨ w = wFinally := by simpa [onesL] using hw
    rcases hs2 with rfl | rfl | rfl | rfl
    · show satS σ (pushM f (!c)) i ↔ _
      rw [ih (!c) i hf]
      cases c <;> simp [satS]
    · have h := fun j => ih c j hf
      cases c with
      | false => show satS σ (pushM f false) (i + 1) ↔ satS σ f (i + 1); rw [h]; simp
      | true => show satS σ (pushM f true) (i + 1) ↔ ¬ satS σ f (i + 1); rw [h]; simp
    · have h := fun j => ih c j hf
      cases c with
      | false => show (∀ j, i ≤ j → satS σ (pushM f false) j) ↔ ∀ j, i ≤ j → satS σ f j; simp only [h]; simp
      | true => show (∃ j, i ≤ j ∧ satS σ (pushM f true) j) ↔ ¬ ∀ j, i ≤ j → satS σ f j; simp only [h]; simp
    · have h := fun j => ih c j hf
      cases c with
      | false => show (∃ j, i ≤ j ∧ satS σ (pushM f false) j) ↔ ∃ j, i ≤ j ∧ satS σ f j; simp only [h]; simp
      | true => show (∀ j, i ≤ j → satS σ (pushM f true) j) ↔ ¬ ∃ j, i ≤ j ∧ satS σ f j; simp only [h]; simp
  | tw_ w f g ihf ihg =>
    rintro c i ⟨hw, hf, hg⟩
    have hs2 : w = wAnd ∨ w = wOr ∨ w = wUntil ∨ w = wRelease := by simpa [twosL] using hw
    have h1 := fun j => ihf c j hf
    have h2 := fun j => ihg c j hg
    rcases hs2 with rfl | rfl | rfl | rfl
    · cases c with
      | false => show (satS σ (pushM f false) i ∧ satS σ (pushM g false) i) ↔ (satS σ f i ∧ satS σ g i); simp only [h1, h2]; simp
      | true => show (satS σ (pushM f true) i ∨ satS σ (pushM g true) i) ↔ ¬ (satS σ f i ∧ satS σ g i); simp only [h1, h2, Classical.not_and_iff_not_or_not]; simp
    · cases c with
      | false => show (satS σ (pushM f false) i ∨ satS σ (pushM g false) i) ↔ (satS σ f i ∨ satS σ g i); simp only [h1, h2]; simp
      | true => show (satS σ (pushM f true) i ∧ satS σ (pushM g true) i) ↔ ¬ (satS σ f i ∨ satS σ g i); simp only [h1, h2]; simp
    · cases c with
      | false => show (∃ j, i ≤ j ∧ satS σ (pushM g false) j ∧ ∀ k, i ≤ k → k < j → satS σ (pushM f false) k) ↔ ∃ j, i ≤ j ∧ satS σ g j ∧ ∀ k, i ≤ k → k < j → satS σ f k; simp only [h1, h2]; simp
      | true =>
        show (∀ j, i ≤ j → satS σ (pushM g true) j ∨ ∃ k, i ≤ k ∧ k < j ∧ satS σ (pushM f true) k) ↔ ¬ ∃ j, i ≤ j ∧ satS σ g j ∧ ∀ k, i ≤ k → k < j → satS σ f k
        simp only [h1, h2, if_true]
        constructor
        · rintro h ⟨j, k1, k2, k3⟩
          rcases h j k1 with h | ⟨k, r1, r2, r3⟩
          · exact h k2
          · exact r3 (k3 k r1 r2)
        · intro h j hj
          rcases Classical.em (satS σ g j) with hg | hg
          · refine .inr (Classical.byContradiction fun hn => h ⟨j, hj, hg, fun k r1 r2 => Classical.byContradiction fun hk => hn ⟨k, r1, r2, hk⟩⟩)
          · exact .inl hg
    · cases c with
      | false => show (∀ j, i ≤ j → satS σ (pushM g false) j ∨ ∃ k, i ≤ k ∧ k < j ∧ satS σ (pushM f false) k) ↔ ∀ j, i ≤ j → satS σ g j ∨ ∃ k, i ≤ k ∧ k < j ∧ satS σ f k; simp only [h1, h2]; simp
      | true =>
        show (∃ j, i ≤ j ∧ satS σ (pushM g true) j ∧ ∀ k, i ≤ k → k < j → satS σ (pushM f true) k) ↔ ¬ ∀ j, i ≤ j → satS σ g j ∨ ∃ k, i ≤ k ∧ k < j ∧ satS σ f k
        simp only [h1, h2, if_true]
        constructor
        · rintro ⟨j, k1, k2, k3⟩ h
          rcases h j k1 with h | ⟨k, r1, r2, r3⟩
          · exact k2 h
          · exact k3 k r1 r2 r3
        · intro h
          obtain ⟨j, hj⟩ := Classical.not_forall.1 h
          rw [Classical.not_imp, not_or] at hj
          exact ⟨j, hj.1, hj.2.1, fun k r1 r2 r3 => hj.2.2 ⟨k, r1, r2, r3⟩⟩
end Go.Ltl
end
section
/- W, part Z: panics, interfaces, methods, recover. -/
set_option linter.unusedSectionVars false
set_option linter.unusedVariables false
namespace Go.W
open Go.RowKit
/-- A function that returns or panics. -/
def RetZ (P : Program) (f : FuncId) (args : List Value) (w : World) (R : Value → World → Prop) (Z : Pan) : Prop :=
  Calls P f args.toArray w fun e w' => (∃ v, e = .returned v ∧ R v w') ∨ ∃ ch, e = .panicked ch ∧ Z ch w'
theorem enterZ {P : Program} {f : FuncId} {fn : Func} {c : Code} {args : List Value} {n : Nat} {w : World} {R : Value → World → Prop} {Z : Pan} {e : Env}
    (hf : P.funcs[f]? = some fn) (hb : fn.body = some c) (hn : fn.ntmps = n) (hl : Nat.ble args.length n = true ∧ Nat.ble n 1000000000 = true) (he : envArgs 0 args = e)
    (h : WC P none n c (Res P fn R) (Res P fn R) (fun _ _ _ => False) Z e w) : RetZ P f args w R Z := by
  have h := h.mono (N' := ResM P fn R) (R' := ResM P fn R) (X' := fun _ _ _ => False) (fun _ _ h => h.toM) (fun _ _ h => h.toM) (fun _ _ _ h => h)
  refine (callsIn_wide (n := 0)).1 (callsIn_of_wp_marks (F := Fence.wide) hf hb trivial ?_)
  have hl' : args.length ≤ n := by simpa using hl.1
  have hk : Kn n e { tmps := args.toArray ++ Array.replicate (fn.ntmps - args.toArray.size) undef, defers := [] } := by
    have hle : n ≤ 1000000000 := by simpa using hl.2
    refine ⟨hle, by simp [hn]; omega, ?_, ?_⟩
    · rw [← he]
      have : marks (envArgs 0 args) = [] := by
        have : ∀ (vs : List Value) (i : Nat), i + vs.length ≤ 1000000000 → marks (envArgs i vs) = [] := by
          intro vs
          induction vs with
          | nil => intro i _; rfl
          | cons u vs ih =>
            intro i hi
            simp only [List.length_cons] at hi
            rw [envArgs, marks_cons (by omega)]
            exact ih (i + 1) (by omega)
        exact this args 0 (by omega)
      rw [this]; rfl
    intro t v ht
    rw [← he] at ht
    obtain ⟨j, hj, hv⟩ := look_envArgs args 0 t v ht
    have hjt : t = j := by omega
    subst hjt
    rw [Array.getD_eq_getD_getElem?]
    have hlt : t < args.length := (List.getElem?_eq_some_iff.1 hv).1
    have : (args.toArray ++ Array.replicate (fn.ntmps - args.toArray.size) undef)[t]? = some v := by
      rw [Array.getElem?_append_left (by simpa using hlt)]; simpa using hv
    rw [this]; rfl
  refine wpIn_mono (h _ hk) ?_
  intro ex a' w' hq
  have key : ∀ e', Kn n e' a' → ResM P fn R e' w' → LeavesInM Fence.wide 0 P fn a'.tmps (fun e w' => (∃ v, e = .returned v ∧ R v w') ∨ ∃ ch, e = .panicked ch ∧ Z ch w') a'.defers .returning w' := by
    rintro e' hk' ⟨ho, v, hv, hR⟩
    rw [hk'.defers]
    exact leaves_marks _ _ ho (hv _ hk'.slot) (.inl ⟨v, rfl, hR⟩)
  cases ex with
  | normal => obtain ⟨e', hk', hr⟩ := hq; exact key e' hk' hr
  | ret => obtain ⟨e', hk', hr⟩ := hq; exact key e' hk' hr
  | exit i => obtain ⟨_, _, hf⟩ := hq; exact hf.elim
  | panic ch =>
    obtain ⟨hd, hz⟩ := hq
    show LeavesInM Fence.wide 0 P fn a'.tmps _ a'.defers (.panicking ch) w'
    rw [hd]
    exact .inr ⟨ch, rfl, hz⟩
  | goto l => exact hq.elim
  | outgrown => exact hq.elim

section
variable {P : Program} [T : TT P] {ro : Option Nat} {n : Nat} {l0 rest : List Oper} {N : Nor} {Z : Pan} {e : Env} {w : World} {ty : TypeId} {pos : String} {aft : Array Edge} {g : Option (Nat × Bool)}
theorem WL.callZ {d : Nat} {fo : Operand} {f : FuncId} {fi ca : Array Value} {args : Array Operand} {tys : Array TypeId} {vs all : List Value} {R : Value → World → Prop} {Z' : Pan}
    (hg : grd l0 e g = some true) (hf : opv e fo = some (.func (.func f) fi ca)) (ha : opvs e args.toList = some vs) (hall : fi.toList ++ vs ++ ca.toList = all) (hd : Nat.blt d n = true) (hE : Ents P f) (hm : marks e = [])
    (hc : RetZ P f all w R Z') (h : ∀ v w', R v w' → WL P ro n l0 N Z rest ((d, v) :: e) w') (hz : ∀ ch w', Z' ch w' → Z ch w') :
    WL P ro n l0 N Z (⟨some d, .call ⟨.value fo, args, tys⟩, ty, pos, aft, g⟩ :: rest) e w := by
  intro a ka
  unfold wpListIn
  rw [if_pos (by rw [grd_wanted ka (o := ⟨some d, .call ⟨.value fo, args, tys⟩, ty, pos, aft, g⟩) hg])]
  refine ⟨fun f _ => fen_fn ro f, ?_⟩
  rw [semAt_ok (callee_run (P := P) (w := w) (ty := ty) hf ha hall hE a.eval ka.agree _ _ _ _) (fun d h => by cases h)]
  rw [Oper.uponIn_enter]
  refine ⟨fun h => (by rw [fen_depth] at h; cases h), CallsIn.mono (fen_calls hc) ?_⟩
  rintro en w' (⟨v, rfl, hv⟩ | ⟨ch, rfl, hv⟩)
  · exact h v w' hv _ (ka.put hd)
  · exact ⟨by rw [ka.defers, hm]; rfl, hz _ _ hv⟩
theorem WL.panicI {x : Operand} {t : TypeId} {v : Value} (hg : grd l0 e g = some true) (hx : opv e x = some (.iface t v)) (hm : marks e = []) (hz : Z [{ v := .iface t v, recovered := false }] w) :
    WL P ro n l0 N Z (⟨none, .panic x, ty, pos, aft, g⟩ :: rest) e w := by
  intro a ka
  unfold wpListIn
  rw [if_pos (by rw [grd_wanted ka (o := ⟨none, .panic x, ty, pos, aft, g⟩) hg])]
  refine ⟨fun f _ => fen_fn ro f, ?_⟩
  rw [Oper.semAt_eq _ _ _ (fun c hc => by cases hc)]
  simp only [execOp, ka.agree _ _ hx, Sem.run_bind, run_panic_iface, Result.andThen]
  rw [Oper.uponIn_panic]
  exact ⟨by rw [ka.defers, hm]; rfl, hz⟩
theorem yMkI {e : Env} {w : World} {ty t : TypeId} {x : Operand} {v : Value} {i : TI} (ht : T.ti t = some i) (hk : i.k.isAgg = true) (hx : opv e x = some v) : Yv P e (.makeInterface t x) ty w (.iface t v) w := by
  intro ρ hρ d pos aft g
  have hk2 := (T.ok t i ht).k
  cases hi : i.k with
  | struct fs =>
    rw [hi] at hk2
    obtain ⟨farr, hu, _⟩ := hk2
    simp [execOp, hρ _ _ hx, Instr.makeInterface, run_underlying hu]
  | array m E =>
    rw [hi] at hk2
    have hu : P.underlying t = some (.array m E) := hk2
    simp [execOp, hρ _ _ hx, Instr.makeInterface, run_underlying hu]
  | _ => rw [hi] at hk; cases hk
theorem yAsT {e : Env} {w : World} {ty xT t u : TypeId} {x : Operand} {v : Value} {i : TI} (ht : T.ti t = some i) (hk : i.k.isAgg = true) (hx : opv e x = some (.iface u v)) :
    Yv P e (.typeAssert x xT t true) ty w (if u = t then .tuple #[v, .bool true] else .tuple #[i.zero, .bool false]) w := by
  intro ρ hρ d pos aft g
  have hk2 := (T.ok t i ht).k
  have hz := (T.ok t i ht).zeroValue w
  cases hi : i.k with
  | struct fs =>
    rw [hi] at hk2
    obtain ⟨farr, hu, _⟩ := hk2
    by_cases h : u = t <;> simp [execOp, hρ _ _ hx, Instr.typeAssert, run_underlying hu, h, hz]
  | array m E =>
    rw [hi] at hk2
    have hu : P.underlying t = some (.array m E) := hk2
    by_cases h : u = t <;> simp [execOp, hρ _ _ hx, Instr.typeAssert, run_underlying hu, h, hz]
  | _ => rw [hi] at hk; cases hk
/-- A method of an interface value: which function it is. -/
def Meth (P : Program) (t : TypeId) (name : String) (f : FuncId) : Prop := ∀ (v : Value) (args : Array Value) (w : World), (callMethod (.iface t v) name args).run P w = .ok (.enter f (#[v] ++ args)) w
theorem meth_run {e : Env} {w : World} {ty : TypeId} {recv : Operand} {name : String} {tys : Array TypeId} {t : TypeId} {v : Value} {f : FuncId} (hr : opv e recv = some (.iface t v)) (hM : Meth P t name f) :
    ∀ ρ, Agree e ρ → ∀ d pos aft g, (execOp ρ ⟨d, .call ⟨.invoke recv name, #[], tys⟩, ty, pos, aft, g⟩).run P w = .ok (.enter f #[v]) w := by
  intro ρ hρ d pos aft g
  have e1 : (#[] : Array Operand).map ρ = #[] := by simp
  have e2 : (#[Value.iface t v] ++ (#[] : Array Value)).extract 1 (#[Value.iface t v] ++ (#[] : Array Value)).size = #[] := by simp
  simp only [execOp, resolve, hρ _ _ hr, Sem.run_bind, Sem.run_pure, Result.andThen_ok, invoke, e1, e2]
  have := hM v #[] w
  simpa using this
theorem WL.callI {d : Nat} {recv : Operand} {name : String} {tys : Array TypeId} {t : TypeId} {v0 : Value} {f : FuncId} {R : Value → World → Prop}
    (hg : grd l0 e g = some true) (hr : opv e recv = some (.iface t v0)) (hd : Nat.blt d n = true) (hM : Meth P t name f)
    (hc : Ret P f [v0] w R) (h : ∀ v w', R v w' → WL P ro n l0 N Z rest ((d, v) :: e) w') :
    WL P ro n l0 N Z (⟨some d, .call ⟨.invoke recv name, #[], tys⟩, ty, pos, aft, g⟩ :: rest) e w := by
  intro a ka
  unfold wpListIn
  rw [if_pos (by rw [grd_wanted ka (o := ⟨some d, .call ⟨.invoke recv name, #[], tys⟩, ty, pos, aft, g⟩) hg])]
  refine ⟨fun f _ => fen_fn ro f, ?_⟩
  rw [semAt_ok (meth_run (P := P) (w := w) (ty := ty) hr hM a.eval ka.agree _ _ _ _) (fun d h => by cases h)]
  rw [Oper.uponIn_enter]
  refine ⟨fun h => (by rw [fen_depth] at h; cases h), CallsIn.mono (fen_calls hc) ?_⟩
  rintro en w' ⟨v, rfl, hv⟩
  exact h v w' hv _ (ka.put hd)
theorem WQ.callI {C : World → Prop} {M : Env → Prop} {d : Nat} {recv : Operand} {name : String} {tys : Array TypeId} {t : TypeId} {v0 v : Value} {f : FuncId}
    (hg : grd l0 e g = some true) (hr : opv e recv = some (.iface t v0)) (hd : Nat.blt d n = true) (hM : Meth P t name f)
    (hc : ∀ w, C w → Ret P f [v0] w fun u w' => u = v ∧ C w') (h : WQ P n l0 C M rest ((d, v) :: e)) :
    WQ P n l0 C M (⟨some d, .call ⟨.invoke recv name, #[], tys⟩, ty, pos, aft, g⟩ :: rest) e := by
  intro a ka
  unfold wpQuiet
  rw [if_pos (by rw [grd_wanted ka (o := ⟨some d, .call ⟨.invoke recv name, #[], tys⟩, ty, pos, aft, g⟩) hg])]
  refine ⟨v, fun w hw => ?_, h _ (ka.put hd)⟩
  unfold Oper.quietAt
  rw [meth_run (P := P) (w := w) (ty := ty) hr hM a.eval ka.agree]
  refine ⟨rfl, Calls.mono (hc w hw) ?_⟩
  rintro en w' ⟨u, rfl, rfl, hw'⟩
  exact ⟨rfl, hw'⟩
end
section
variable {P : Program} [T : TT P]
theorem kn_args {args : List Value} {n : Nat} (hl : Nat.ble args.length n = true ∧ Nat.ble n 1000000000 = true) :
    Kn n (envArgs 0 args) { tmps := args.toArray ++ Array.replicate (n - args.toArray.size) undef, defers := [] } := by
  have hl' : args.length ≤ n := by simpa using hl.1
  have hle : n ≤ 1000000000 := by simpa using hl.2
  refine ⟨hle, by simp; omega, ?_, ?_⟩
  · have : marks (envArgs 0 args) = [] := by
      have : ∀ (vs : List Value) (i : Nat), i + vs.length ≤ 1000000000 → marks (envArgs i vs) = [] := by
        intro vs
        induction vs with
        | nil => intro i _; rfl
        | cons u vs ih =>
          intro i hi
          simp only [List.length_cons] at hi
          rw [envArgs, marks_cons (by omega)]
          exact ih (i + 1) (by omega)
      exact this args 0 (by omega)
    rw [this]; rfl
  intro t v ht
  obtain ⟨j, hj, hv⟩ := look_envArgs args 0 t v ht
  have hjt : t = j := by omega
  subst hjt
  rw [Array.getD_eq_getD_getElem?]
  have hlt : t < args.length := (List.getElem?_eq_some_iff.1 hv).1
  have : (args.toArray ++ Array.replicate (n - args.toArray.size) undef)[t]? = some v := by
    rw [Array.getElem?_append_left (by simpa using hlt)]; simpa using hv
  rw [this]; rfl
/-- A deferred function that begins with recover. -/
theorem rec_enter {f : FuncId} {fn : Func} {rest : Code} {args : List Value} {n d id : Nat} {ty : TypeId} {pos : String} {w : World} {R : Value → World → Prop} {u u' : FrameMode} {v : Value}
    (hf : P.funcs[f]? = some fn) (hb : fn.body = some (.seq (.region id #[⟨some d, .call ⟨.builtin .recover, #[], #[]⟩, ty, pos, #[], none⟩] false) rest)) (hn : fn.ntmps = n)
    (hl : Nat.ble args.length n = true ∧ Nat.ble n 1000000000 = true) (hd : Nat.blt d n = true)
    (hu : (∃ older, u = .panicking ({ v := v, recovered := false } :: older) ∧ u' = .panicking ({ v := v, recovered := true } :: older)) ∨ (u = .returning ∧ u' = .returning ∧ v = .nilIface))
    (h : WC P none n rest (Res P fn R) (Res P fn R) (fun _ _ _ => False) (fun _ _ => False) ((d, v) :: envArgs 0 args) w) :
    CallsD P f args.toArray u w fun e u2 w' => u2 = u' ∧ ∃ r, e = .returned r ∧ R r w' := by
  refine callsD_of_wpS hf hb fun c₀ cs hm => ?_
  refine wpS_seq (wpS_region ?_)
  have hk := (kn_args (args := args) hl).put (v := v) hd
  rw [← hn] at hk
  have key : ∀ (a : Act), Kn fn.ntmps ((d, v) :: envArgs 0 args) a → rest.wpS P (bodyPostS P fn c₀ cs fun e u2 w' => u2 = u' ∧ ∃ r, e = .returned r ∧ R r w') a ({ c₀ with mode := u' } :: cs) w := by
    intro a ka
    refine wpS_of_wp ?_
    refine (wpIn_wide (n := 0)).1 ?_
    rw [hn] at ka
    refine wpIn_mono (h a ka) ?_
    intro ex a' w' hq
    have fin : ∀ e', Kn n e' a' → Res P fn R e' w' → bodyPostS P fn c₀ cs (fun e u2 w' => u2 = u' ∧ ∃ r, e = .returned r ∧ R r w') .ret a' ({ c₀ with mode := u' } :: cs) w' := by
      rintro e' hk' ⟨hmk, r, hr, hR⟩
      exact ⟨by rw [hk'.defers, hmk]; rfl, u', rfl, r, hr _ hk'.slot, rfl, r, rfl, hR⟩
    cases ex with
    | normal => obtain ⟨e', hk', hr⟩ := hq; exact fin e' hk' hr
    | ret => obtain ⟨e', hk', hr⟩ := hq; exact fin e' hk' hr
    | exit i => obtain ⟨_, _, hf⟩ := hq; exact hf.elim
    | panic ch => exact hq.2.elim
    | goto l => exact hq.elim
    | outgrown => exact hq.elim
  have he : ∀ ρ : Operand → Value, (execOp ρ ⟨some d, .call ⟨.builtin .recover, #[], #[]⟩, ty, pos, #[], none⟩).run P w = .ok .recover w := by
    intro ρ
    simp [execOp, resolve, invoke, builtin]
  have hw : Region.wanted ⟨some d, .call ⟨.builtin .recover, #[], #[]⟩, ty, pos, #[], none⟩ (yielded #[⟨some d, .call ⟨.builtin .recover, #[], #[]⟩, ty, pos, #[], none⟩] (args.toArray ++ Array.replicate (fn.ntmps - args.toArray.size) undef)) = true := rfl
  show wpOpsS P _ _ [0] _ _ _
  unfold wpOpsS
  simp only [List.getElem?_toArray, List.getElem?_cons_zero, hw, if_true, he]
  rcases hu with ⟨older, rfl, rfl⟩ | ⟨rfl, rfl, rfl⟩
  · simp only [recoverD, hm]
    exact key _ hk
  · simp only [recoverD, hm]
    have : ({ c₀ with mode := FrameMode.returning } : Frame) = c₀ := by rw [← hm]
    rw [← this]
    exact key _ hk
end
section
variable {P : Program} {w : World}
theorem run_equalIn_ni (d : Nat) (t u : TypeId) (v : Value) {ms : Array (String × TypeId)} (hu : P.underlying t = some (.interface ms)) : (Op.equalIn (d + 1) t (.iface u v) .nilIface).run P w = .ok false w := by
  simp [Op.equalIn, run_underlying hu]
theorem run_equalIn_nn (d : Nat) (t : TypeId) {ms : Array (String × TypeId)} (hu : P.underlying t = some (.interface ms)) : (Op.equalIn (d + 1) t .nilIface .nilIface).run P w = .ok true w := by
  simp [Op.equalIn, run_underlying hu]
end
section
variable {P : Program} [T : TT P] {e : Env} {w : World} {ty : TypeId}
theorem yEqI {t t2 u : TypeId} {x : Operand} {v z : Value} {s0 b0 : Nat} (ht : T.ti t = some ⟨.iface, z, s0, b0⟩) (hx : opv e x = some (.iface u v)) : Yv P e (.binOp .eql t x (.const .nilIface) t2) ty w (.bool false) w := by
  intro ρ hρ d pos aft g
  obtain ⟨ms, hu⟩ := (T.ok t _ ht).k
  have h2 : ρ (.const .nilIface) = .nilIface := hρ _ _ rfl
  have hq : (Op.equal t (.iface u v) .nilIface).run P w = .ok false w := run_equalIn_ni 9999 t u v hu
  simp [execOp, hρ _ _ hx, h2, eqGuard, binOp, hq]
theorem yEqN {t t2 : TypeId} {x : Operand} {z : Value} {s0 b0 : Nat} (ht : T.ti t = some ⟨.iface, z, s0, b0⟩) (hx : opv e x = some .nilIface) : Yv P e (.binOp .eql t x (.const .nilIface) t2) ty w (.bool true) w := by
  intro ρ hρ d pos aft g
  obtain ⟨ms, hu⟩ := (T.ok t _ ht).k
  have h2 : ρ (.const .nilIface) = .nilIface := hρ _ _ rfl
  have hq : (Op.equal t .nilIface .nilIface).run P w = .ok true w := run_equalIn_nn 9999 t hu
  simp [execOp, hρ _ _ hx, h2, eqGuard, binOp, hq]
end
section
variable {P : Program} [T : TT P] {e : Env} {w : World} {ty : TypeId}
theorem yBuildT {t : TypeId} {fs : List (Nat × TypeId)} {z : Value} {s0 b0 : Nat} {parts : Array (Nat × Operand)} {ps : List (Nat × Value)} {cs : List Value}
    (ht : T.ti t = some ⟨.struct fs, z, s0, b0⟩) (hfs : (fs.all fun f => (T.ti f.2).isSome) = true)
    (hp : partsV e parts.toList = some ps) (hf : fillL (fun j => nth (fs.map fun f => (f.1, ((T.ti f.2).map (·.size)).getD 0)) j) z.cells.toList ps = some cs) : Yv P e (.build t parts) ty w (.agg cs.toArray) w := by
  obtain ⟨farr, hu, hff⟩ := (T.ok t _ ht).k
  have hzv := (T.ok t _ ht).zeroValue w
  intro ρ hρ d' pos' aft' g'
  have hparts : (parts.map fun (x : Nat × Operand) => (x.1, ρ x.2)).toList = ps := by rw [Array.toList_map]; exact partsV_eq hρ _ _ hp
  have hfill := fill_eq _ ps z.cells cs hf
  rw [← hparts] at hfill
  have hall : ∀ f ∈ farr.toList, ∃ i, T.ti f.type = some i := by
    intro f hfm
    have h1 : (f.offset, f.type) ∈ fs := by rw [← hff]; exact List.mem_map.2 ⟨f, hfm, rfl⟩
    have h2 := List.all_eq_true.1 hfs _ h1
    exact Option.isSome_iff_exists.1 h2
  have hm := run_mapM_fields (P := P) w farr.toList hall
  have hplaces : (fun j => nth (fs.map fun f => (f.1, ((T.ti f.2).map (·.size)).getD 0)) j) = fun j => (farr.toList.map fun f => (f.offset, ((T.ti f.type).map (·.size)).getD 0))[j]? := by
    funext j
    rw [nth_eq, ← hff, List.map_map]
    rfl
  rw [hplaces] at hfill
  have hm' : (farr.mapM (fun f => (do Pure.pure (f.offset, ← sizeOf f.type) : Sem (Nat × Nat)))).run P w = .ok (farr.toList.map fun f => (f.offset, ((T.ti f.type).map (·.size)).getD 0)).toArray w := by
    rw [Array.mapM_eq_mapM_toList, Sem.run_map, hm]
    rfl
  have hfill2 : Instr.fill (fun x => ((farr.toList.map fun f => (f.offset, ((T.ti f.type).map (·.size)).getD 0)).toArray)[x]?) z.cells (parts.map fun (x : Nat × Operand) => (x.1, ρ x.2)).toList = some cs.toArray := by
    rw [← hfill]; congr 1; funext j; simp
  simp only [execOp, Instr.build, Sem.run_bind, run_underlying hu, Result.andThen_ok, hzv, hm']
  simp only [hfill2, Sem.run_pure, Result.andThen_ok]
end
end Go.W
end
