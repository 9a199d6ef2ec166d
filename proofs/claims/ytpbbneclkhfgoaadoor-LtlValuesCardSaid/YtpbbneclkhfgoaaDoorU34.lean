/- ltl, thirty-fourth: the reference's parse and Parse. -/
import Derived.Test.YtpbbneclkhfgoaaDoorU33
import Derived.Test.YtpbbneclkhfgoaaDoorYk
namespace Go.Proofs.YtpbbneclkhfgoaaDoor
open Go.W Go.Ltl Go.RowKit
set_option maxRecDepth 100000
attribute [local irreducible] WC WL WQ WS WH

def ndC (l : List Nd) : List Value := l.flatMap fun x => [st x.1, .int .i64 x.2.1, .int .i64 x.2.2]
theorem ndC_len (l : List Nd) : (ndC l).length = l.length * 3 := by
  induction l with
  | nil => rfl
  | cons x l ih => unfold ndC at ih ⊢; rw [List.flatMap_cons, List.length_append, ih, List.length_cons]; show 3 + l.length * 3 = (l.length + 1) * 3; omega
theorem ndC_app (a b : List Nd) : ndC (a ++ b) = ndC a ++ ndC b := by unfold ndC; rw [List.flatMap_append]
theorem ndC_cells (l : List Nd) : Cells (ndC l) := by
  intro v hv
  obtain ⟨x, _, h⟩ := List.mem_flatMap.1 hv
  simp only [List.mem_cons, List.not_mem_nil, or_false] at h
  rcases h with rfl | rfl | rfl <;> rfl
theorem ndC_at {l : List Nd} {k : Nat} {x : Nd} (h : l[k]? = some x) : ∀ (q : Nat) (u : Value), [st x.1, .int .i64 x.2.1, .int .i64 x.2.2][q]? = some u → (ndC l)[k * 3 + q]? = some u := by
  obtain ⟨hk, hx⟩ := List.getElem?_eq_some_iff.1 h
  have e : ndC l = ndC (l.take k) ++ ([st x.1, .int .i64 x.2.1, .int .i64 x.2.2] ++ ndC (l.drop (k + 1))) := by
    conv => lhs; rw [← List.take_append_drop k l, List.drop_eq_getElem_cons hk, hx]
    rw [ndC_app]; rfl
  intro q u hq
  have hq3 : q < 3 := (List.getElem?_eq_some_iff.1 hq).1
  rw [e, List.getElem?_append_right (by rw [ndC_len, List.length_take]; omega), ndC_len, List.length_take, Nat.min_eq_left (by omega), Nat.add_sub_cancel_left, List.getElem?_append_left hq3]
  exact hq
/-- A row of nodes. -/
abbrev Rnd (v : Value) (l : List Nd) : Ent := .row 98 3 v l.length (ndC l)
theorem Rnd_snoc (a : Option Addr) (c : Nat) (l : List Nd) (x : Nd) : Rnd (.slice a (l ++ [x]).length c) (l ++ [x]) = .row 98 3 (.slice a (l.length + 1) c) (l.length + 1) (ndC l ++ [st x.1, .int .i64 x.2.1, .int .i64 x.2.2]) := by
  unfold Rnd; rw [List.length_append, ndC_app]; rfl
theorem st_at {t : List Str} {i : Nat} (h : i < t.length) : (t.map st)[i]? = some (st t[i]) := by simp [h]
theorem arM_0 (w : Str) : arM w = 0 ↔ w ∈ atomsL := by
  unfold arM
  split
  · rename_i h; simp [h]
  · rename_i h; split <;> (try split) <;> simp [h]
theorem arM_lt (w : Str) : (arM w < 1) ↔ w ∉ onesL ∧ w ∉ twosL := by
  by_cases h : w ∈ atomsL
  · have h1 : w ∉ onesL := fun h2 => ops_word w (by simp [h2]) h
    have h3 : w ∉ twosL := fun h2 => ops_word w (by simp [h2]) h
    rw [(arM_0 w).2 h]
    exact ⟨fun _ => ⟨h1, h3⟩, fun _ => by decide⟩
  · unfold arM
    rw [if_neg h]
    split
    · rename_i h1; simp [h1]
    · rename_i h1
      split
      · rename_i h2; simp [h2]
      · rename_i h2; simp [h1, h2]
theorem rprs_suf : ∀ (n : Nat) (l : List Str) (f : Fm) (r : List Str), rprs n l = some (f, r) → ∃ p, l = p ++ r := by
  intro n
  induction n with
  | zero => intro l f r h; cases h
  | succ n ih =>
    intro l f r h
    cases l with
    | nil => cases h
    | cons s l =>
      unfold rprs at h
      split at h
      · simp only [Option.some.injEq, Prod.mk.injEq] at h
        obtain ⟨rfl, rfl⟩ := h
        exact ⟨[s], rfl⟩
      · split at h
        · cases h
        · cases l with
          | nil => cases h
          | cons s2 l2 =>
            simp only at h
            split at h
            · split at h
              · rename_i f1 l3 hp
                simp only [Option.some.injEq, Prod.mk.injEq] at h
                obtain ⟨rfl, rfl⟩ := h
                obtain ⟨p, hp2⟩ := ih _ _ _ hp
                exact ⟨s :: s2 :: (p ++ [[41]]), by rw [hp2]; simp⟩
              · cases h
            · split at h
              · split at h
                · rename_i f1 l3 hp
                  split at h
                  · rename_i g1 l4 hq
                    simp only [Option.some.injEq, Prod.mk.injEq] at h
                    obtain ⟨rfl, rfl⟩ := h
                    obtain ⟨p, hp2⟩ := ih _ _ _ hp
                    obtain ⟨q, hq2⟩ := ih _ _ _ hq
                    exact ⟨s :: s2 :: (p ++ (q ++ [[41]])), by rw [hp2, hq2]; simp⟩
                  · cases h
                · cases h
              · cases h
theorem rprs_drop {n at_ : Nat} {t : List Str} {f : Fm} {r : List Str} (h : rprs n (t.drop at_) = some (f, r)) (hat : at_ ≤ t.length) : r = t.drop (t.length - r.length) ∧ r.length ≤ t.length - at_ := by
  obtain ⟨p, hp⟩ := rprs_suf _ _ _ _ h
  have hl := congrArg List.length hp
  rw [List.length_drop, List.length_append] at hl
  refine ⟨?_, by omega⟩
  have e : t = (t.take at_ ++ p) ++ r := by rw [List.append_assoc, ← hp, List.take_append_drop]
  have e2 : t.length - r.length = (t.take at_ ++ p).length := by rw [List.length_append, List.length_take]; omega
  rw [e2]
  have e3 := congrArg (List.drop (t.take at_ ++ p).length) e
  rw [List.drop_left] at e3
  exact e3.symm
theorem rprs_size : ∀ (n : Nat) (l : List Str) (f : Fm) (r : List Str), rprs n l = some (f, r) → sizeF f + r.length ≤ l.length := by
  intro n
  induction n with
  | zero => intro l f r h; cases h
  | succ n ih =>
    intro l f r h
    cases l with
    | nil => cases h
    | cons s l =>
      unfold rprs at h
      split at h
      · simp only [Option.some.injEq, Prod.mk.injEq] at h
        obtain ⟨rfl, rfl⟩ := h
        show 1 + l.length ≤ l.length + 1
        omega
      · split at h
        · cases h
        · cases l with
          | nil => cases h
          | cons s2 l2 =>
            simp only at h
            split at h
            · split at h
              · rename_i f1 l3 hp
                simp only [Option.some.injEq, Prod.mk.injEq] at h
                obtain ⟨rfl, rfl⟩ := h
                have hp2 := ih _ _ _ hp
                simp only [List.length_cons] at hp2 ⊢
                show 1 + sizeF f1 + l3.length ≤ _
                omega
              · cases h
            · split at h
              · split at h
                · rename_i f1 l3 hp
                  split at h
                  · rename_i g1 l4 hq
                    simp only [Option.some.injEq, Prod.mk.injEq] at h
                    obtain ⟨rfl, rfl⟩ := h
                    have hp2 := ih _ _ _ hp
                    have hq2 := ih _ _ _ hq
                    simp only [List.length_cons] at hp2 hq2 ⊢
                    show 1 + sizeF f1 + sizeF g1 + l4.length ≤ _
                    omega
                  · cases h
                · cases h
              · cases h
/-- A closing parenthesis. -/
def finR (x : Fm) : List Str → Option (Fm × List Str)
  | [41] :: l => some (x, l)
  | _ => none
theorem rprs_on {n : Nat} {s : Str} {l : List Str} (h1 : s ∈ onesL) : rprs (n + 1) ([40] :: s :: l) = match rprs n l with
    | some (f, r) => finR (.on_ s f) r
    | none => none := by
  conv => lhs; unfold rprs
  rw [if_neg atoms_40, if_neg (by simp)]
  simp only [if_pos h1]
  cases rprs n l with
  | none => rfl
  | some q =>
    obtain ⟨f, r⟩ := q
    show _ = finR (.on_ s f) r
    unfold finR
    split <;> split <;> simp_all
theorem rprs_tw {n : Nat} {s : Str} {l : List Str} (h1 : s ∉ onesL) (h2 : s ∈ twosL) : rprs (n + 1) ([40] :: s :: l) = match rprs n l with
    | some (f, r) => match rprs n r with
      | some (g, r) => finR (.tw_ s f g) r
      | none => none
    | none => none := by
  conv => lhs; unfold rprs
  rw [if_neg atoms_40, if_neg (by simp)]
  simp only [if_neg h1, if_pos h2]
  cases rprs n l with
  | none => rfl
  | some q =>
    obtain ⟨f, r⟩ := q
    simp only
    cases rprs n r with
    | none => rfl
    | some q2 =>
      obtain ⟨g, r2⟩ := q2
      show _ = finR (.tw_ s f g) r2
      unfold finR
      split <;> split <;> simp_all
theorem rprs_un {n : Nat} {s : Str} {l : List Str} (h1 : s ∉ onesL) (h2 : s ∉ twosL) : rprs (n + 1) ([40] :: s :: l) = none := by
  unfold rprs
  rw [if_neg atoms_40, if_neg (by simp)]
  simp only [if_neg h1, if_neg h2]
theorem arM_2 (w : Str) (h : w ∈ onesL ∨ w ∈ twosL) : arM w = if w ∈ onesL then 1 else 2 := by
  unfold arM
  have h0 : w ∉ atomsL := ops_word w (by rcases h with h | h <;> simp [h])
  rw [if_neg h0]
  split
  · rfl
  · rename_i h1; rw [if_pos (h.resolve_left h1)]
/-- What the reference's parse answers. -/
def RpR (w0 : World) (acc : List Nd) (tl : Nat) (L : List Ent) (r : Option (Fm × List Str)) (v : Value) (w' : World) : Prop := match r with
  | some (f, rest) => ∃ la lc, v = .tuple #[.slice la (acc ++ nodesN acc.length f).length lc, .int .i64 ((tl - rest.length : Nat) : Int)] ∧ Hp w0 w' (Rnd (.slice la (acc ++ nodesN acc.length f).length lc) (acc ++ nodesN acc.length f) :: L)
  | none => ∃ la n lc, v = .tuple #[.slice la n lc, .int .i64 (-1)] ∧ Hp w0 w' L
theorem rparse_any {w0 : World} (t : List Str) (ta : Option Addr) (tc : Nat) (ht : t.length ≤ 5000) : ∀ (n at_ : Nat) (L : List Ent) (acc : List Nd) (la : Option Addr) (lc : Nat) (w : World), t.length - at_ < n → at_ ≤ 6000 → acc.length + (t.length - at_) ≤ 10000 → Sl w0 ta (t.map st) → Hp w0 w (Rnd (.slice la acc.length lc) acc :: L) →
    Ret Tryd.prog 51 [.slice la acc.length lc, .slice ta t.length tc, .int .i64 (at_ : Nat)] w fun v w' => RpR w0 acc t.length L (rprs n (t.drop at_)) v w' := by
  intro n
  induction n with
  | zero => intro at_ L acc la lc w h; exact absurd h (Nat.not_lt_zero _)
  | succ n ih =>
    intro at_ L acc la lc w hn hat hacc hs hp
    refine enter Tryd.func51 rfl rfl ⟨rfl, rfl⟩ rfl ?_
    repeat (first | refine WC.seq ?_ | refine WC.reg ?_ | refine WL.pure rfl rfl rfl ?_ | refine WL.nil ?_ | refine WC.skip ?_ | refine WC.block ?_ | refine WC.condT rfl ?_ | refine WC.condF rfl ?_ | refine WL.off rfl rfl rfl ?_ | refine WL.off0 rfl rfl ?_ | refine WC.exit ?_ | refine blk_hit ?_ | refine blk_miss rfl ?_ | refine WC.ret ?_)
    refine WC.cond rfl (fun c1 => ?_) (fun c1 => ?_)
    · have c1 : t.length ≤ at_ := by have h : ((t.length : Nat) : Int) ≤ ((at_ : Nat) : Int) := of_decide_eq_true c1; omega
      rw [List.drop_of_length_le c1]
      repeat (first | refine WC.seq ?_ | refine WC.reg ?_ | refine WL.pure rfl rfl rfl ?_ | refine WL.nil ?_ | refine WC.skip ?_ | refine WC.block ?_ | refine WC.condT rfl ?_ | refine WC.condF rfl ?_ | refine WL.off rfl rfl rfl ?_ | refine WL.off0 rfl rfl ?_ | refine WC.exit ?_ | refine blk_hit ?_ | refine blk_miss rfl ?_ | refine WC.ret ?_)
      exact Res.two rfl rfl rfl rfl ⟨la, acc.length, lc, rfl, hp.tail⟩
    · have c1 : at_ < t.length := by have h : ¬ ((t.length : Nat) : Int) ≤ ((at_ : Nat) : Int) := of_decide_eq_false c1; omega
      have hd : t.drop at_ = t[at_] :: t.drop (at_ + 1) := List.drop_eq_getElem_cons c1
      have step1 := wrap_succ (i := at_) (n := at_ + 1) (by omega) (by omega)
      have step2 : IntKind.i64.wrap (((at_ : Nat) : Int) + 2) = ((at_ + 2 : Nat) : Int) := by rw [wrap_mid (by omega) (by omega)]; omega
      obtain ⟨s, hsx⟩ : ∃ s, s = t[at_] := ⟨_, rfl⟩
      rw [← hsx] at hd
      rw [hd]
      repeat (first | refine WC.seq ?_ | refine WC.reg ?_ | refine WL.pure rfl rfl rfl ?_ | refine WL.nil ?_ | refine WC.skip ?_ | refine WC.block ?_ | refine WC.condT rfl ?_ | refine WC.condF rfl ?_ | refine WL.off rfl rfl rfl ?_ | refine WL.off0 rfl rfl ?_ | refine WC.exit ?_ | refine blk_hit ?_ | refine blk_miss rfl ?_ | refine WC.ret ?_)
      refine WL.ixload rfl (fun _ => rfl) rfl rfl rfl rfl rfl rfl rfl c1 rfl rfl (hs.hp hp) (st_at c1) ?_
      intro q0
      rw [← hsx]
      refine WL.call rfl rfl rfl rfl rfl ent55 (Arity_any s w) ?_
      rintro _ w1 ⟨rfl, hw1⟩
      obtain rfl := hw1.symm
      repeat (first | refine WC.seq ?_ | refine WC.reg ?_ | refine WL.pure rfl rfl rfl ?_ | refine WL.nil ?_ | refine WC.skip ?_ | refine WC.block ?_ | refine WC.condT rfl ?_ | refine WC.condF rfl ?_ | refine WL.off rfl rfl rfl ?_ | refine WL.off0 rfl rfl ?_ | refine WC.exit ?_ | refine blk_hit ?_ | refine blk_miss rfl ?_ | refine WC.ret ?_)
      refine WC.cond rfl (fun c2 => ?_) (fun c2 => ?_)
      · have c2 : s ∈ atomsL := (arM_0 s).1 (beq_iff_eq.1 c2)
        have hr : rprs (n + 1) (s :: t.drop (at_ + 1)) = some (.at_ s, t.drop (at_ + 1)) := by unfold rprs; rw [if_pos c2]
        rw [hr]
        repeat (first | refine WC.seq ?_ | refine WC.reg ?_ | refine WL.pure rfl rfl rfl ?_ | refine WL.nil ?_ | refine WC.skip ?_ | refine WC.block ?_ | refine WC.condT rfl ?_ | refine WC.condF rfl ?_ | refine WL.off rfl rfl rfl ?_ | refine WL.off0 rfl rfl ?_ | refine WC.exit ?_ | refine blk_hit ?_ | refine blk_miss rfl ?_ | refine WC.ret ?_)
        refine WL.ixload rfl (fun _ => rfl) rfl rfl rfl rfl rfl rfl rfl c1 rfl rfl (hs.hp hp) (st_at c1) ?_
        intro q1
        rw [← hsx]
        refine WL.buildT (cs := [st s, .int .i64 (-1), .int .i64 (-1)]) rfl rfl rfl rfl rfl rfl ?_
        refine WL.buildS (cs := [st s, .int .i64 (-1), .int .i64 (-1)]) rfl rfl rfl rfl rfl rfl rfl rfl rfl (fun b2 w2 h2 => ?_)
        have hp2 := hp.new h2
        refine WL.append 1 hp2 rfl rfl rfl rfl rfl (by decide) rfl rfl rfl (news := [st s, .int .i64 (-1), .int .i64 (-1)]) (Sl.of_obj (hp2.obj 0 rfl) (fun q u hq => by simpa using hq)) rfl (ndC_cells [(s, -1, -1)]) (by unfold maxLen; omega) (by show (acc.length + 1) * 32 ≤ _; omega) ?_
        intro pa pc w3 hp3 _
        refine WL.pure rfl rfl rfl ?_
        refine WL.pure rfl rfl rfl ?_
        refine WL.known (d := 30) (congrArg (fun z => some (Value.int .i64 z)) step1) ?_
        repeat (first | refine WC.seq ?_ | refine WC.reg ?_ | refine WL.pure rfl rfl rfl ?_ | refine WL.nil ?_ | refine WC.skip ?_ | refine WC.block ?_ | refine WC.condT rfl ?_ | refine WC.condF rfl ?_ | refine WL.off rfl rfl rfl ?_ | refine WL.off0 rfl rfl ?_ | refine WC.exit ?_ | refine blk_hit ?_ | refine blk_miss rfl ?_ | refine WC.ret ?_)
        refine Res.two rfl rfl rfl rfl ⟨pa, pc, ?_, ?_⟩
        · have e1 : t.length - (t.drop (at_ + 1)).length = at_ + 1 := by rw [List.length_drop]; omega
          rw [e1]
          show _ = Value.tuple #[.slice pa (acc ++ [(s, -1, -1)]).length pc, _]
          rw [List.length_append]; rfl
        · show Hp w0 w3 (Rnd (.slice pa (acc ++ [(s, -1, -1)]).length pc) (acc ++ [(s, -1, -1)]) :: L)
          rw [Rnd_snoc]
          exact hp3.tail
      · have c2 : s ∉ atomsL := fun h => by
          have := (arM_0 s).2 h
          rw [this] at c2
          exact absurd c2 (by decide)
        repeat (first | refine WC.seq ?_ | refine WC.reg ?_ | refine WL.pure rfl rfl rfl ?_ | refine WL.nil ?_ | refine WC.skip ?_ | refine WC.block ?_ | refine WC.condT rfl ?_ | refine WC.condF rfl ?_ | refine WL.off rfl rfl rfl ?_ | refine WL.off0 rfl rfl ?_ | refine WC.exit ?_ | refine blk_hit ?_ | refine blk_miss rfl ?_ | refine WC.ret ?_)
        refine WL.ixload rfl (fun _ => rfl) rfl rfl rfl rfl rfl rfl rfl c1 rfl rfl (hs.hp hp) (st_at c1) ?_
        intro q1
        rw [← hsx]
        have hcmp : cmpS .neq s [40] = some (!decide (s = [40])) := rfl
        refine WL.sCmp (a := s) (b := [40]) rfl rfl rfl rfl hcmp ?_
        refine WL.pure rfl rfl rfl ?_
        refine WL.split 36 rfl (fun c3 => ?_) (fun c3 => ?_)
        · have c3 : s ≠ [40] := by simpa using c3
          have hr : rprs (n + 1) (s :: t.drop (at_ + 1)) = none := by unfold rprs; rw [if_neg c2, if_pos c3]
          rw [hr]
          repeat (first | refine WC.seq ?_ | refine WC.reg ?_ | refine WL.pure rfl rfl rfl ?_ | refine WL.nil ?_ | refine WC.skip ?_ | refine WC.block ?_ | refine WC.condT rfl ?_ | refine WC.condF rfl ?_ | refine WL.off rfl rfl rfl ?_ | refine WL.off0 rfl rfl ?_ | refine WC.exit ?_ | refine blk_hit ?_ | refine blk_miss rfl ?_ | refine WC.ret ?_)
          exact Res.two rfl rfl rfl rfl ⟨la, acc.length, lc, rfl, hp.tail⟩
        have c3 : s = [40] := by simpa using c3
        subst c3
        refine WL.pure rfl rfl rfl ?_
        refine WL.pure rfl rfl rfl ?_
        refine WL.known (d := 38) (congrArg (fun z => some (Value.int .i64 z)) step1) ?_
        repeat (first | refine WC.seq ?_ | refine WC.reg ?_ | refine WL.pure rfl rfl rfl ?_ | refine WL.nil ?_ | refine WC.skip ?_ | refine WC.block ?_ | refine WC.condT rfl ?_ | refine WC.condF rfl ?_ | refine WL.off rfl rfl rfl ?_ | refine WL.off0 rfl rfl ?_ | refine WC.exit ?_ | refine blk_hit ?_ | refine blk_miss rfl ?_ | refine WC.ret ?_)
        refine WL.split 43 rfl (fun c4 => ?_) (fun c4 => ?_)
        · have c4 : t.length ≤ at_ + 1 := by have h : ((t.length : Nat) : Int) ≤ ((at_ + 1 : Nat) : Int) := of_decide_eq_true c4; omega
          have hr : rprs (n + 1) ([40] :: t.drop (at_ + 1)) = none := by rw [List.drop_of_length_le c4]; unfold rprs; rw [if_neg c2, if_neg (by simp)]
          rw [hr]
          repeat (first | refine WC.seq ?_ | refine WC.reg ?_ | refine WL.pure rfl rfl rfl ?_ | refine WL.nil ?_ | refine WC.skip ?_ | refine WC.block ?_ | refine WC.condT rfl ?_ | refine WC.condF rfl ?_ | refine WL.off rfl rfl rfl ?_ | refine WL.off0 rfl rfl ?_ | refine WC.exit ?_ | refine blk_hit ?_ | refine blk_miss rfl ?_ | refine WC.ret ?_)
          exact Res.two rfl rfl rfl rfl ⟨la, acc.length, lc, rfl, hp.tail⟩
        have c4 : at_ + 1 < t.length := by have h : ¬ ((t.length : Nat) : Int) ≤ ((at_ + 1 : Nat) : Int) := of_decide_eq_false c4; omega
        have hd2 : t.drop (at_ + 1) = t[at_ + 1] :: t.drop (at_ + 2) := List.drop_eq_getElem_cons c4
        obtain ⟨s2, hsx2⟩ : ∃ s2, s2 = t[at_ + 1] := ⟨_, rfl⟩
        rw [← hsx2] at hd2
        rw [hd2]
        repeat (first | refine WC.seq ?_ | refine WC.reg ?_ | refine WL.pure rfl rfl rfl ?_ | refine WL.nil ?_ | refine WC.skip ?_ | refine WC.block ?_ | refine WC.condT rfl ?_ | refine WC.condF rfl ?_ | refine WL.off rfl rfl rfl ?_ | refine WL.off0 rfl rfl ?_ | refine WC.exit ?_ | refine blk_hit ?_ | refine blk_miss rfl ?_ | refine WC.ret ?_)
        refine WL.known (d := 46) (congrArg (fun z => some (Value.int .i64 z)) step1) ?_
        refine WL.ixload (j := at_ + 1) rfl (fun _ => rfl) rfl rfl rfl rfl rfl rfl rfl c4 rfl rfl (hs.hp hp) (st_at c4) ?_
        intro q2
        rw [← hsx2]
        refine WL.call rfl rfl rfl rfl rfl ent55 (Arity_any s2 _) ?_
        rintro _ w2 ⟨rfl, hw2⟩
        obtain rfl := hw2.symm
        repeat (first | refine WC.seq ?_ | refine WC.reg ?_ | refine WL.pure rfl rfl rfl ?_ | refine WL.nil ?_ | refine WC.skip ?_ | refine WC.block ?_ | refine WC.condT rfl ?_ | refine WC.condF rfl ?_ | refine WL.off rfl rfl rfl ?_ | refine WL.off0 rfl rfl ?_ | refine WC.exit ?_ | refine blk_hit ?_ | refine blk_miss rfl ?_ | refine WC.ret ?_)
        refine WC.cond rfl (fun c5 => ?_) (fun c5 => ?_)
        · have c5 := (arM_lt s2).1 (of_decide_eq_true c5)
          rw [rprs_un c5.1 c5.2]
          repeat (first | refine WC.seq ?_ | refine WC.reg ?_ | refine WL.pure rfl rfl rfl ?_ | refine WL.nil ?_ | refine WC.skip ?_ | refine WC.block ?_ | refine WC.condT rfl ?_ | refine WC.condF rfl ?_ | refine WL.off rfl rfl rfl ?_ | refine WL.off0 rfl rfl ?_ | refine WC.exit ?_ | refine blk_hit ?_ | refine blk_miss rfl ?_ | refine WC.ret ?_)
          exact Res.two rfl rfl rfl rfl ⟨la, acc.length, lc, rfl, hp.tail⟩
        have c5 : s2 ∈ onesL ∨ s2 ∈ twosL := by
          have h := mt (arM_lt s2).2 (of_decide_eq_false c5)
          rcases Classical.em (s2 ∈ onesL) with h1 | h1
          · exact .inl h1
          · exact .inr (Classical.byContradiction fun h2 => h ⟨h1, h2⟩)
        repeat (first | refine WC.seq ?_ | refine WC.reg ?_ | refine WL.pure rfl rfl rfl ?_ | refine WL.nil ?_ | refine WC.skip ?_ | refine WC.block ?_ | refine WC.condT rfl ?_ | refine WC.condF rfl ?_ | refine WL.off rfl rfl rfl ?_ | refine WL.off0 rfl rfl ?_ | refine WC.exit ?_ | refine blk_hit ?_ | refine blk_miss rfl ?_ | refine WC.ret ?_)
        refine WL.known (d := 55) (congrArg (fun z => some (Value.int .i64 z)) step1) ?_
        refine WL.ixload (j := at_ + 1) rfl (fun _ => rfl) rfl rfl rfl rfl rfl rfl rfl c4 rfl rfl (hs.hp hp) (st_at c4) ?_
        intro q3
        rw [← hsx2]
        refine WL.buildT (cs := [st s2, .int .i64 (-1), .int .i64 (-1)]) rfl rfl rfl rfl rfl rfl ?_
        refine WL.alloc rfl rfl rfl (fun b8 w3 h3 => ?_)
        have hp3 := hp.new h3
        refine WL.storeN rfl rfl rfl rfl rfl (by simp [Value.oneCell', st]) (hp3.obj 0 rfl) (Nat.le_refl _) rfl (fun w4 h4 => ?_)
        have hp4 : Hp w0 w4 (Rnd (.slice la acc.length lc) acc :: .blk b8 (.cells #[st s2, .int .i64 (-1), .int .i64 (-1)] 98 (0, 0)) :: L) := (hp3.set 0 rfl rfl h4).swap
        clear hp3
        repeat (first | refine WC.seq ?_ | refine WC.reg ?_ | refine WL.pure rfl rfl rfl ?_ | refine WL.nil ?_ | refine WC.skip ?_ | refine WC.block ?_ | refine WC.condT rfl ?_ | refine WC.condF rfl ?_ | refine WL.off rfl rfl rfl ?_ | refine WL.off0 rfl rfl ?_ | refine WC.exit ?_ | refine blk_hit ?_ | refine blk_miss rfl ?_ | refine WC.ret ?_)
        refine WL.known (d := 63) (congrArg (fun z => some (Value.int .i64 z)) step2) ?_
        refine WL.call rfl rfl rfl rfl rfl ent51 (ih (at_ + 2) _ acc la lc w4 (by omega) (by omega) (by omega) hs hp4) ?_
        intro v w5 hv
        cases hr1 : rprs n (t.drop (at_ + 2)) with
        | none =>
          rw [hr1] at hv
          obtain ⟨la5, n5, lc5, rfl, hp5⟩ := hv
          have hr : rprs (n + 1) ([40] :: s2 :: t.drop (at_ + 2)) = none := by
            by_cases h1 : s2 ∈ onesL
            · rw [rprs_on h1, hr1]
            · rw [rprs_tw h1 (c5.resolve_left h1), hr1]
          rw [hr]
          repeat (first | refine WC.seq ?_ | refine WC.reg ?_ | refine WL.pure rfl rfl rfl ?_ | refine WL.nil ?_ | refine WC.skip ?_ | refine WC.block ?_ | refine WC.condT rfl ?_ | refine WC.condF rfl ?_ | refine WL.off rfl rfl rfl ?_ | refine WL.off0 rfl rfl ?_ | refine WC.exit ?_ | refine blk_hit ?_ | refine blk_miss rfl ?_ | refine WC.ret ?_)
          exact Res.two rfl rfl rfl rfl ⟨la5, n5, lc5, rfl, hp5.tail⟩
        | some qq =>
        obtain ⟨f1, r1⟩ := qq
        rw [hr1] at hv
        obtain ⟨la5, lc5, rfl, hp5⟩ := hv
        obtain ⟨hrd, hrl⟩ := rprs_drop hr1 (by omega)
        have hnl : sizeF f1 + r1.length ≤ t.length - (at_ + 2) := by have := rprs_size _ _ _ _ hr1; rwa [List.length_drop] at this
        obtain ⟨nx, hnx⟩ : ∃ nx, nx = t.length - r1.length := ⟨_, rfl⟩
        rw [← hnx] at hrd ⊢
        have hpos := sizeF_pos f1
        have hlen : (acc ++ nodesN acc.length f1).length = acc.length + sizeF f1 := by rw [List.length_append, nodesN_len]
        have e3 : IntKind.i64.wrap (((acc ++ nodesN acc.length f1).length : Nat) - 1 : Int) = ((acc.length + sizeF f1 - 1 : Nat) : Int) := by rw [hlen, wrap_mid (by omega) (by omega)]; omega
        repeat (first | refine WC.seq ?_ | refine WC.reg ?_ | refine WL.pure rfl rfl rfl ?_ | refine WL.nil ?_ | refine WC.skip ?_ | refine WC.block ?_ | refine WC.condT rfl ?_ | refine WC.condF rfl ?_ | refine WL.off rfl rfl rfl ?_ | refine WL.off0 rfl rfl ?_ | refine WC.exit ?_ | refine blk_hit ?_ | refine blk_miss rfl ?_ | refine WC.ret ?_)
        refine WL.known (d := 72) (congrArg (fun z => some (Value.int .i64 z)) e3) ?_
        refine WL.store rfl rfl rfl rfl rfl rfl (hp5.obj 1 rfl) (by show 1 < 3; decide) (fun w6 h6 => ?_)
        have hp6 : Hp w0 w6 (.blk b8 (.cells #[st s2, .int .i64 ((acc.length + sizeF f1 - 1 : Nat) : Int), .int .i64 (-1)] 98 (0, 0)) :: Rnd (.slice la5 (acc ++ nodesN acc.length f1).length lc5) (acc ++ nodesN acc.length f1) :: L) := (hp5.set 1 rfl rfl h6).swap
        clear hp5
        refine WL.nil ?_
        refine WC.seq ?_
        refine WC.mid (Option Addr × Nat × Fm × List Str × Int × List Nd) (fun (a, c, _, r, _, body) => [(0, .slice a body.length c), (1, .slice ta t.length tc), (8, ptr b8), (9, .int .i64 ((t.length - r.length : Nat) : Int))])
          (fun (a, c, fm, r, B, body) w' => Hp w0 w' (.blk b8 (.cells #[st s2, .int .i64 ((acc.length + sizeF f1 - 1 : Nat) : Int), .int .i64 B] 98 (0, 0)) :: Rnd (.slice a body.length c) body :: L)
            ∧ rprs (n + 1) ([40] :: s2 :: t.drop (at_ + 2)) = finR fm r ∧ body ++ [(s2, ((acc.length + sizeF f1 - 1 : Nat) : Int), B)] = acc ++ nodesN acc.length fm ∧ r = t.drop (t.length - r.length) ∧ r.length ≤ t.length ∧ body.length < 10000) ?_ ?_
        · repeat (first | refine WC.seq ?_ | refine WC.reg ?_ | refine WL.pure rfl rfl rfl ?_ | refine WL.nil ?_ | refine WC.skip ?_ | refine WC.block ?_ | refine WC.condT rfl ?_ | refine WC.condF rfl ?_ | refine WL.off rfl rfl rfl ?_ | refine WL.off0 rfl rfl ?_ | refine WC.exit ?_ | refine blk_hit ?_ | refine blk_miss rfl ?_ | refine WC.ret ?_)
          refine WL.loadB rfl rfl rfl rfl rfl (hp6.obj 0 rfl) (j := 0) rfl ?_
          refine WL.call rfl rfl rfl rfl rfl ent55 (Arity_any s2 _) ?_
          rintro _ w7 ⟨rfl, hw7⟩
          obtain rfl := hw7.symm
          repeat (first | refine WC.seq ?_ | refine WC.reg ?_ | refine WL.pure rfl rfl rfl ?_ | refine WL.nil ?_ | refine WC.skip ?_ | refine WC.block ?_ | refine WC.condT rfl ?_ | refine WC.condF rfl ?_ | refine WL.off rfl rfl rfl ?_ | refine WL.off0 rfl rfl ?_ | refine WC.exit ?_ | refine blk_hit ?_ | refine blk_miss rfl ?_ | refine WC.ret ?_)
          refine WC.cond rfl (fun c7 => ?_) (fun c7 => ?_)
          · have c7 : s2 ∉ onesL := fun h => by
              have c8 := beq_iff_eq.1 c7
              rw [arM_2 s2 c5, if_pos h] at c8
              exact absurd c8 (by decide)
            repeat (first | refine WC.seq ?_ | refine WC.reg ?_ | refine WL.pure rfl rfl rfl ?_ | refine WL.nil ?_ | refine WC.skip ?_ | refine WC.block ?_ | refine WC.condT rfl ?_ | refine WC.condF rfl ?_ | refine WL.off rfl rfl rfl ?_ | refine WL.off0 rfl rfl ?_ | refine WC.exit ?_ | refine blk_hit ?_ | refine blk_miss rfl ?_ | refine WC.ret ?_)
            refine WL.call rfl rfl rfl rfl rfl ent51 (ih nx _ (acc ++ nodesN acc.length f1) la5 lc5 _ (by omega) (by omega) (by omega) hs (hp6.swap)) ?_
            intro v w8 hv
            rw [← hrd] at hv
            cases hr2 : rprs n r1 with
            | none =>
              rw [hr2] at hv
              obtain ⟨la6, n6, lc6, rfl, hp8⟩ := hv
              have hr : rprs (n + 1) ([40] :: s2 :: t.drop (at_ + 2)) = none := by rw [rprs_tw c7 (c5.resolve_left c7), hr1]; simp only; rw [hr2]
              rw [hr]
              repeat (first | refine WC.seq ?_ | refine WC.reg ?_ | refine WL.pure rfl rfl rfl ?_ | refine WL.nil ?_ | refine WC.skip ?_ | refine WC.block ?_ | refine WC.condT rfl ?_ | refine WC.condF rfl ?_ | refine WL.off rfl rfl rfl ?_ | refine WL.off0 rfl rfl ?_ | refine WC.exit ?_ | refine blk_hit ?_ | refine blk_miss rfl ?_ | refine WC.ret ?_)
              exact Res.two rfl rfl rfl rfl ⟨la6, n6, lc6, rfl, hp8.tail⟩
            | some qq =>
            obtain ⟨f2, r2⟩ := qq
            rw [hr2] at hv
            obtain ⟨la6, lc6, rfl, hp8⟩ := hv
            have hr2' := hr2
            rw [hrd] at hr2'
            obtain ⟨hrd2, hrl2⟩ := rprs_drop hr2' (by omega)
            have hnl2 := rprs_size _ _ _ _ hr2
            have hpos2 := sizeF_pos f2
            have hlen2 : ((acc ++ nodesN acc.length f1) ++ nodesN (acc ++ nodesN acc.length f1).length f2).length = acc.length + sizeF f1 + sizeF f2 := by rw [List.length_append, hlen, nodesN_len]
            have e4 : IntKind.i64.wrap ((((acc ++ nodesN acc.length f1) ++ nodesN (acc ++ nodesN acc.length f1).length f2).length : Nat) - 1 : Int) = ((acc.length + sizeF f1 + sizeF f2 - 1 : Nat) : Int) := by rw [hlen2, wrap_mid (by omega) (by omega)]; omega
            repeat (first | refine WC.seq ?_ | refine WC.reg ?_ | refine WL.pure rfl rfl rfl ?_ | refine WL.nil ?_ | refine WC.skip ?_ | refine WC.block ?_ | refine WC.condT rfl ?_ | refine WC.condF rfl ?_ | refine WL.off rfl rfl rfl ?_ | refine WL.off0 rfl rfl ?_ | refine WC.exit ?_ | refine blk_hit ?_ | refine blk_miss rfl ?_ | refine WC.ret ?_)
            refine WL.known (d := 90) (congrArg (fun z => some (Value.int .i64 z)) e4) ?_
            refine WL.store rfl rfl rfl rfl rfl rfl (hp8.obj 1 rfl) (by show 2 < 3; decide) (fun w9 h9 => ?_)
            have hp9 := (hp8.set 1 rfl rfl h9).swap
            refine WL.nil ?_
            refine ⟨(la6, lc6, .tw_ s2 f1 f2, r2, ((acc.length + sizeF f1 + sizeF f2 - 1 : Nat) : Int), (acc ++ nodesN acc.length f1) ++ nodesN (acc ++ nodesN acc.length f1).length f2), ⟨rfl, rfl, rfl, rfl, rfl⟩, hp9, ?_, ?_, hrd2, by omega, by omega⟩
            · rw [rprs_tw c7 (c5.resolve_left c7), hr1]; simp only; rw [hr2]
            · rw [hlen]
              show _ = acc ++ (nodesN acc.length f1 ++ nodesN (acc.length + sizeF f1) f2 ++ [_])
              simp only [List.append_assoc]
          · have c7 : s2 ∈ onesL := Classical.byContradiction fun h => by
              rw [arM_2 s2 c5, if_neg h] at c7
              exact absurd c7 (by decide)
            repeat (first | refine WC.seq ?_ | refine WC.reg ?_ | refine WL.pure rfl rfl rfl ?_ | refine WL.nil ?_ | refine WC.skip ?_ | refine WC.block ?_ | refine WC.condT rfl ?_ | refine WC.condF rfl ?_ | refine WL.off rfl rfl rfl ?_ | refine WL.off0 rfl rfl ?_ | refine WC.exit ?_ | refine blk_hit ?_ | refine blk_miss rfl ?_ | refine WC.ret ?_)
            refine ⟨(la5, lc5, .on_ s2 f1, r1, -1, acc ++ nodesN acc.length f1), ⟨rfl, rfl, rfl, congrArg (fun z => some (Value.int .i64 ((z : Nat) : Int))) hnx, rfl⟩, hp6, ?_, ?_, hnx ▸ hrd, by omega, by omega⟩
            · rw [rprs_on c7, hr1]
            · show _ = acc ++ (nodesN acc.length f1 ++ [_])
              simp only [List.append_assoc]
        rintro ⟨a, c, fm, r, B, body⟩ e9 w7 hsub ⟨hp7, hR, hbody, hrd3, hrl3, hbl⟩
        refine WC.sub hsub ?_
        rw [hR]
        clear hsub e9 hp6
        obtain ⟨nz, hnz⟩ : ∃ nz, nz = t.length - r.length := ⟨_, rfl⟩
        simp only [← hnz]
        rw [← hnz] at hrd3
        have e5 := wrap_succ (i := nz) (n := nz + 1) (by omega) (by omega)
        repeat (first | refine WC.seq ?_ | refine WC.reg ?_ | refine WL.pure rfl rfl rfl ?_ | refine WL.nil ?_ | refine WC.skip ?_ | refine WC.block ?_ | refine WC.condT rfl ?_ | refine WC.condF rfl ?_ | refine WL.off rfl rfl rfl ?_ | refine WL.off0 rfl rfl ?_ | refine WC.exit ?_ | refine blk_hit ?_ | refine blk_miss rfl ?_ | refine WC.ret ?_)
        refine WL.split 96 rfl (fun c6 => ?_) (fun c6 => ?_)
        · have c6 : t.length ≤ nz := by have h : ((t.length : Nat) : Int) ≤ ((nz : Nat) : Int) := of_decide_eq_true c6; omega
          have hr : r = [] := by rw [hrd3, List.drop_of_length_le c6]
          rw [hr]
          repeat (first | refine WC.seq ?_ | refine WC.reg ?_ | refine WL.pure rfl rfl rfl ?_ | refine WL.nil ?_ | refine WC.skip ?_ | refine WC.block ?_ | refine WC.condT rfl ?_ | refine WC.condF rfl ?_ | refine WL.off rfl rfl rfl ?_ | refine WL.off0 rfl rfl ?_ | refine WC.exit ?_ | refine blk_hit ?_ | refine blk_miss rfl ?_ | refine WC.ret ?_)
          exact Res.two rfl rfl rfl rfl ⟨_, _, _, rfl, hp7.tail.tail⟩
        have c6 : nz < t.length := by have h : ¬ ((t.length : Nat) : Int) ≤ ((nz : Nat) : Int) := of_decide_eq_false c6; omega
        have hd4 : t.drop nz = t[nz] :: t.drop (nz + 1) := List.drop_eq_getElem_cons c6
        obtain ⟨s4, hsx4⟩ : ∃ s4, s4 = t[nz] := ⟨_, rfl⟩
        rw [← hsx4] at hd4
        rw [hd4] at hrd3
        repeat (first | refine WC.seq ?_ | refine WC.reg ?_ | refine WL.pure rfl rfl rfl ?_ | refine WL.nil ?_ | refine WC.skip ?_ | refine WC.block ?_ | refine WC.condT rfl ?_ | refine WC.condF rfl ?_ | refine WL.off rfl rfl rfl ?_ | refine WL.off0 rfl rfl ?_ | refine WC.exit ?_ | refine blk_hit ?_ | refine blk_miss rfl ?_ | refine WC.ret ?_)
        refine WL.ixload (j := nz) rfl (fun _ => rfl) rfl rfl rfl rfl rfl rfl rfl c6 rfl rfl (hs.hp hp7) (st_at c6) ?_
        intro q5
        rw [← hsx4]
        have hcmp : cmpS .neq s4 [41] = some (!decide (s4 = [41])) := rfl
        refine WL.sCmp (a := s4) (b := [41]) rfl rfl rfl rfl hcmp ?_
        repeat (first | refine WC.seq ?_ | refine WC.reg ?_ | refine WL.pure rfl rfl rfl ?_ | refine WL.nil ?_ | refine WC.skip ?_ | refine WC.block ?_ | refine WC.condT rfl ?_ | refine WC.condF rfl ?_ | refine WL.off rfl rfl rfl ?_ | refine WL.off0 rfl rfl ?_ | refine WC.exit ?_ | refine blk_hit ?_ | refine blk_miss rfl ?_ | refine WC.ret ?_)
        refine WC.cond rfl (fun c8 => ?_) (fun c8 => ?_)
        · have c8 : s4 ≠ [41] := by simpa using c8
          have hr : finR fm r = none := by
            rw [hrd3]
            unfold finR
            split
            · rename_i h; injection h with h1 h2; exact absurd h1 c8
            · rfl
          rw [hr]
          repeat (first | refine WC.seq ?_ | refine WC.reg ?_ | refine WL.pure rfl rfl rfl ?_ | refine WL.nil ?_ | refine WC.skip ?_ | refine WC.block ?_ | refine WC.condT rfl ?_ | refine WC.condF rfl ?_ | refine WL.off rfl rfl rfl ?_ | refine WL.off0 rfl rfl ?_ | refine WC.exit ?_ | refine blk_hit ?_ | refine blk_miss rfl ?_ | refine WC.ret ?_)
          exact Res.two rfl rfl rfl rfl ⟨_, _, _, rfl, hp7.tail.tail⟩
        have c8 : s4 = [41] := by simpa using c8
        subst c8
        have hr : finR fm r = some (fm, t.drop (nz + 1)) := by rw [hrd3]; rfl
        rw [hr]
        repeat (first | refine WC.seq ?_ | refine WC.reg ?_ | refine WL.pure rfl rfl rfl ?_ | refine WL.nil ?_ | refine WC.skip ?_ | refine WC.block ?_ | refine WC.condT rfl ?_ | refine WC.condF rfl ?_ | refine WL.off rfl rfl rfl ?_ | refine WL.off0 rfl rfl ?_ | refine WC.exit ?_ | refine blk_hit ?_ | refine blk_miss rfl ?_ | refine WC.ret ?_)
        refine WL.loadN (cs := [st s2, .int .i64 ((acc.length + sizeF f1 - 1 : Nat) : Int), .int .i64 B]) rfl rfl rfl rfl rfl rfl (fun j v hj => cell_of_obj (hp7.obj 0 rfl) (by rw [Nat.zero_add]; simpa using hj)) ?_
        refine WL.buildS (cs := [st s2, .int .i64 ((acc.length + sizeF f1 - 1 : Nat) : Int), .int .i64 B]) rfl rfl rfl rfl rfl rfl rfl rfl rfl (fun b2 w8 h8 => ?_)
        have hp8 := hp7.new h8
        refine WL.append 2 hp8 rfl rfl rfl rfl rfl (by decide) rfl rfl rfl (news := [st s2, .int .i64 ((acc.length + sizeF f1 - 1 : Nat) : Int), .int .i64 B]) (Sl.of_obj (hp8.obj 0 rfl) (fun q u hq => by simpa using hq)) rfl (ndC_cells [(s2, ((acc.length + sizeF f1 - 1 : Nat) : Int), B)]) (by unfold maxLen; omega) (by show (body.length + 1) * 32 ≤ _; omega) ?_
        intro pa pc w9 hp9 _
        refine WL.pure rfl rfl rfl ?_
        refine WL.pure rfl rfl rfl ?_
        refine WL.known (d := 109) (congrArg (fun z => some (Value.int .i64 z)) e5) ?_
        repeat (first | refine WC.seq ?_ | refine WC.reg ?_ | refine WL.pure rfl rfl rfl ?_ | refine WL.nil ?_ | refine WC.skip ?_ | refine WC.block ?_ | refine WC.condT rfl ?_ | refine WC.condF rfl ?_ | refine WL.off rfl rfl rfl ?_ | refine WL.off0 rfl rfl ?_ | refine WC.exit ?_ | refine blk_hit ?_ | refine blk_miss rfl ?_ | refine WC.ret ?_)
        refine Res.two rfl rfl rfl rfl ⟨pa, pc, ?_, ?_⟩
        · have e1 : t.length - (t.drop (nz + 1)).length = nz + 1 := by rw [List.length_drop]; omega
          rw [e1, ← hbody, List.length_append]
          rfl
        · rw [← hbody, Rnd_snoc]
          exact hp9.tail.tail
end Go.Proofs.YtpbbneclkhfgoaaDoor
