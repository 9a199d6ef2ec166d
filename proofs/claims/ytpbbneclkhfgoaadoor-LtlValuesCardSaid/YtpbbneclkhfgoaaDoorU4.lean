/- ltl, fourth: the parser. -/
import Derived.Test.YtpbbneclkhfgoaaDoorU3
namespace Go.W
open Go.RowKit Go.Ltl
/-- A formula as a value. -/
def fmV : Fm → Value
  | .at_ w => .iface 129 (.agg #[st w])
  | .on_ w f => .iface 132 (.agg #[st w, fmV f])
  | .tw_ w f g => .iface 108 (.agg #[st w, fmV f, fmV g])
end Go.W
namespace Go.Ltl
open Go.W
def finF (x : Fm) (k : Nat) : List Str → Option (Fm × List Str × Nat)
  | [41] :: l => some (x, l, k)
  | _ => none
theorem finF_no (x : Fm) (k : Nat) (s : Str) (l : List Str) (h : s ≠ [41]) : finF x k (s :: l) = none := by
  unfold finF
  split
  · rename_i h1; simp only [List.cons.injEq] at h1; exact absurd h1.1 h
  · rfl
theorem prsN_big (n : Nat) (s : Str) (l : List Str) (k : Nat) (h : s ≠ [40]) (hk : 12 < k + 1) : prsN (n + 1) (s :: l) k = none := by unfold prsN; simp only [ne_eq, h, not_false_eq_true, if_true, if_pos hk]
theorem prsN_at (n : Nat) (s : Str) (l : List Str) (k : Nat) (h : s ≠ [40]) (hk : k + 1 ≤ 12) : prsN (n + 1) (s :: l) k = if s ∈ atomsL then some (.at_ s, l, k + 1) else none := by
  unfold prsN
  simp only [ne_eq, h, not_false_eq_true, if_true, if_neg (show ¬ 12 < k + 1 by omega)]
theorem prsN_nil (n : Nat) (k : Nat) : prsN n [] k = none := by cases n <;> rfl
theorem prsN_p0 (n : Nat) (k : Nat) : prsN (n + 1) [[40]] k = none := rfl
theorem prsN_pb (n : Nat) (s : Str) (l : List Str) (k : Nat) (hk : 12 < k + 1) : prsN (n + 1) ([40] :: s :: l) k = none := by rw [prsN, if_neg (by simp)]; simp only [if_pos hk]
theorem prsN_on (n : Nat) (s : Str) (l : List Str) (k : Nat) (hk : k + 1 ≤ 12) (h1 : s ∈ onesL) : prsN (n + 1) ([40] :: s :: l) k = match prsN n l (k + 1) with
    | some (f, l, k) => finF (.on_ s f) k l
    | none => none := by
  rw [prsN, if_neg (by simp)]
  simp only [if_neg (show ¬ 12 < k + 1 by omega), if_pos h1]
  cases prsN n l (k + 1) with
  | none => rfl
  | some r =>
    obtain ⟨f, l, k⟩ := r
    show _ = finF (.on_ s f) k l
    unfold finF
    split <;> split <;> simp_all
theorem prsN_tw (n : Nat) (s : Str) (l : List Str) (k : Nat) (hk : k + 1 ≤ 12) (h1 : s ∉ onesL) (h2 : s ∈ twosL) : prsN (n + 1) ([40] :: s :: l) k = match prsN n l (k + 1) with
    | some (f, l, k) => match prsN n l k with
      | some (g, l, k) => finF (.tw_ s f g) k l
      | none => none
    | none => none := by
  rw [prsN, if_neg (by simp)]
  simp only [if_neg (show ¬ 12 < k + 1 by omega), if_neg h1, if_pos h2]
  cases prsN n l (k + 1) with
  | none => rfl
  | some r =>
    obtain ⟨f, l, k⟩ := r
    simp only
    cases prsN n l k with
    | none => rfl
    | some r =>
      obtain ⟨g, l, k⟩ := r
      show _ = finF (.tw_ s f g) k l
      unfold finF
      split <;> split <;> simp_all
theorem prsN_un (n : Nat) (s : Str) (l : List Str) (k : Nat) (h1 : s ∉ onesL) (h2 : s ∉ twosL) : prsN (n + 1) ([40] :: s :: l) k = none := by
  rw [prsN, if_neg (by simp)]
  simp only [if_neg h1, if_neg h2]
  split <;> rfl
end Go.Ltl
namespace Go.Proofs.YtpbbneclkhfgoaaDoor
open Go.W Go.Ltl Go.RowKit
set_option maxRecDepth 100000
attribute [local irreducible] WC WL WQ WS WH

theorem formula_any {w0 : World} {L : List Ent} (pb : Nat) (hG : Gl w0) : ∀ (n : Nat) (l : List Str) (k : Nat) (a : Option Addr) (c : Nat) (w : World), l.length < n → l.length ≤ 1000000 → k ≤ 12 → l.length ≤ c → Sl w0 a (l.map st) → Hp w0 w (Pb pb a l.length c k :: L) →
    RetZ Tryd.prog 74 [ptr pb] w (fun v w' => ∃ f l' k' a' c', prsN n l k = some (f, l', k') ∧ v = fmV f ∧ Sl w0 a' (l'.map st) ∧ l'.length ≤ c' ∧ k' ≤ 12 ∧ l'.length ≤ l.length ∧ Hp w0 w' (Pb pb a' l'.length c' k' :: L))
      (fun ch w' => ch = tr 4 ∧ prsN n l k = none ∧ ∃ a' n' c' k', Hp w0 w' (Pb pb a' n' c' k' :: L)) := by
  intro n
  induction n with
  | zero => intro l k a c w h; exact absurd h (Nat.not_lt_zero _)
  | succ n ih =>
    intro l k a c w hln hl6 hk hlc hs hp
    obtain ⟨aA, cA, hA1, hA2⟩ := hG.atoms
    obtain ⟨aO, cO, hO1, hO2⟩ := hG.ones
    obtain ⟨aT, cT, hT1, hT2⟩ := hG.twos
    refine enterZ Tryd.func74 rfl rfl ⟨rfl, rfl⟩ rfl ?_
    repeat (first | refine WC.seq ?_ | refine WC.reg ?_ | refine WL.pure rfl rfl rfl ?_ | refine WL.nil ?_ | refine WC.skip ?_ | refine WC.block ?_ | refine WC.condT rfl ?_ | refine WC.condF rfl ?_ | refine WL.off rfl rfl rfl ?_ | refine WL.off0 rfl rfl ?_ | refine WC.exit ?_ | refine blk_hit ?_ | refine blk_miss rfl ?_ | refine WC.ret ?_)
    refine WL.callZ rfl rfl rfl rfl rfl ent98 rfl (take_any hp hs hlc hl6) ?_ ?_
    rotate_left
    · rintro ch w' ⟨rfl, rfl, hp'⟩
      exact ⟨rfl, prsN_nil _ _, _, _, _, _, hp'⟩
    rintro v w1 ⟨s, l1, a1, c1, rfl, rfl, hs1, hc1, hp1⟩
    have hl1 : l1.length + 1 < n + 1 := hln
    have hl61 : l1.length + 1 ≤ 1000000 := hl6
    repeat (first | refine WC.seq ?_ | refine WC.reg ?_ | refine WL.pure rfl rfl rfl ?_ | refine WL.nil ?_ | refine WC.skip ?_ | refine WC.block ?_ | refine WC.condT rfl ?_ | refine WC.condF rfl ?_ | refine WL.off rfl rfl rfl ?_ | refine WL.off0 rfl rfl ?_ | refine WC.exit ?_ | refine blk_hit ?_ | refine blk_miss rfl ?_ | refine WC.ret ?_)
    refine WL.sCmp rfl rfl rfl rfl rfl ?_
    repeat (first | refine WC.seq ?_ | refine WC.reg ?_ | refine WL.pure rfl rfl rfl ?_ | refine WL.nil ?_ | refine WC.skip ?_ | refine WC.block ?_ | refine WC.condT rfl ?_ | refine WC.condF rfl ?_ | refine WL.off rfl rfl rfl ?_ | refine WL.off0 rfl rfl ?_ | refine WC.exit ?_ | refine blk_hit ?_ | refine blk_miss rfl ?_ | refine WC.ret ?_)
    refine WC.cond rfl (fun h1 => ?_) (fun h1 => ?_)
    · have h1 : s ≠ [40] := by simpa using h1
      repeat (first | refine WC.seq ?_ | refine WC.reg ?_ | refine WL.pure rfl rfl rfl ?_ | refine WL.nil ?_ | refine WC.skip ?_ | refine WC.block ?_ | refine WC.condT rfl ?_ | refine WC.condF rfl ?_ | refine WL.off rfl rfl rfl ?_ | refine WL.off0 rfl rfl ?_ | refine WC.exit ?_ | refine blk_hit ?_ | refine blk_miss rfl ?_ | refine WC.ret ?_)
      refine WL.callZ rfl rfl rfl rfl rfl ent99 rfl (word_any hp1 hk) ?_ ?_
      rotate_left
      · rintro ch w' ⟨rfl, hk2, hp'⟩
        exact ⟨rfl, prsN_big _ _ _ _ h1 hk2, _, _, _, _, hp'⟩
      rintro v w2 ⟨hk2, hp2⟩
      repeat (first | refine WC.seq ?_ | refine WC.reg ?_ | refine WL.pure rfl rfl rfl ?_ | refine WL.nil ?_ | refine WC.skip ?_ | refine WC.block ?_ | refine WC.condT rfl ?_ | refine WC.condF rfl ?_ | refine WL.off rfl rfl rfl ?_ | refine WL.off0 rfl rfl ?_ | refine WC.exit ?_ | refine blk_hit ?_ | refine blk_miss rfl ?_ | refine WC.ret ?_)
      refine WL.load rfl rfl rfl rfl rfl (cell_below hp2.below hA1) ?_
      repeat (first | refine WC.seq ?_ | refine WC.reg ?_ | refine WL.pure rfl rfl rfl ?_ | refine WL.nil ?_ | refine WC.skip ?_ | refine WC.block ?_ | refine WC.condT rfl ?_ | refine WC.condF rfl ?_ | refine WL.off rfl rfl rfl ?_ | refine WL.off0 rfl rfl ?_ | refine WC.exit ?_ | refine blk_hit ?_ | refine blk_miss rfl ?_ | refine WC.ret ?_)
      refine WL.call rfl rfl rfl rfl rfl ent100 (Contains_any aA cA atomsL s (by decide) w2 (hA2.hp hp2)) ?_
      rintro v w3 ⟨rfl, rfl⟩
      repeat (first | refine WC.seq ?_ | refine WC.reg ?_ | refine WL.pure rfl rfl rfl ?_ | refine WL.nil ?_ | refine WC.skip ?_ | refine WC.block ?_ | refine WC.condT rfl ?_ | refine WC.condF rfl ?_ | refine WL.off rfl rfl rfl ?_ | refine WL.off0 rfl rfl ?_ | refine WC.exit ?_ | refine blk_hit ?_ | refine blk_miss rfl ?_ | refine WC.ret ?_)
      have hpr := prsN_at n s l1 k h1 hk2
      refine WC.cond rfl (fun h2 => ?_) (fun h2 => ?_)
      · have h2 : s ∉ atomsL := by simpa using h2
        rw [if_neg h2] at hpr
        repeat (first | refine WC.seq ?_ | refine WC.reg ?_ | refine WL.pure rfl rfl rfl ?_ | refine WL.nil ?_ | refine WC.skip ?_ | refine WC.block ?_ | refine WC.condT rfl ?_ | refine WC.condF rfl ?_ | refine WL.off rfl rfl rfl ?_ | refine WL.off0 rfl rfl ?_ | refine WC.exit ?_ | refine blk_hit ?_ | refine blk_miss rfl ?_ | refine WC.ret ?_)
        refine WL.callZ rfl rfl rfl rfl rfl ent75 rfl (fail_z 4 w3 (Z := fun ch w' => ch = tr 4 ∧ w' = w3) ⟨rfl, rfl⟩) (fun v w' h => h.elim) ?_
        rintro ch w' ⟨rfl, rfl⟩
        exact ⟨rfl, hpr, _, _, _, _, hp2⟩
      · have h2 : s ∈ atomsL := by simpa using h2
        rw [if_pos h2] at hpr
        repeat (first | refine WC.seq ?_ | refine WC.reg ?_ | refine WL.pure rfl rfl rfl ?_ | refine WL.nil ?_ | refine WC.skip ?_ | refine WC.block ?_ | refine WC.condT rfl ?_ | refine WC.condF rfl ?_ | refine WL.off rfl rfl rfl ?_ | refine WL.off0 rfl rfl ?_ | refine WC.exit ?_ | refine blk_hit ?_ | refine blk_miss rfl ?_ | refine WC.ret ?_)
        refine WL.buildT rfl rfl rfl rfl rfl rfl ?_
        refine WL.val rfl rfl rfl (yMkI rfl rfl rfl) ?_
        repeat (first | refine WC.seq ?_ | refine WC.reg ?_ | refine WL.pure rfl rfl rfl ?_ | refine WL.nil ?_ | refine WC.skip ?_ | refine WC.block ?_ | refine WC.condT rfl ?_ | refine WC.condF rfl ?_ | refine WL.off rfl rfl rfl ?_ | refine WL.off0 rfl rfl ?_ | refine WC.exit ?_ | refine blk_hit ?_ | refine blk_miss rfl ?_ | refine WC.ret ?_)
        exact Res.one rfl rfl rfl ⟨_, _, _, _, _, hpr, rfl, hs1, hc1, hk2, by rw [List.length_cons]; omega, hp2⟩
    · have h1 : s = [40] := by simpa using h1
      subst h1
      repeat (first | refine WC.seq ?_ | refine WC.reg ?_ | refine WL.pure rfl rfl rfl ?_ | refine WL.nil ?_ | refine WC.skip ?_ | refine WC.block ?_ | refine WC.condT rfl ?_ | refine WC.condF rfl ?_ | refine WL.off rfl rfl rfl ?_ | refine WL.off0 rfl rfl ?_ | refine WC.exit ?_ | refine blk_hit ?_ | refine blk_miss rfl ?_ | refine WC.ret ?_)
      refine WL.callZ rfl rfl rfl rfl rfl ent98 rfl (take_any hp1 hs1 hc1 (by omega)) ?_ ?_
      rotate_left
      · rintro ch w' ⟨rfl, rfl, hp'⟩
        exact ⟨rfl, prsN_p0 _ _, _, _, _, _, hp'⟩
      rintro v w2 ⟨s, l2, a2, c2, rfl, rfl, hs2, hc2, hp2⟩
      have hl2 : l2.length + 1 + 1 < n + 1 := hl1
      have hl62 : l2.length + 1 + 1 ≤ 1000000 := hl61
      repeat (first | refine WC.seq ?_ | refine WC.reg ?_ | refine WL.pure rfl rfl rfl ?_ | refine WL.nil ?_ | refine WC.skip ?_ | refine WC.block ?_ | refine WC.condT rfl ?_ | refine WC.condF rfl ?_ | refine WL.off rfl rfl rfl ?_ | refine WL.off0 rfl rfl ?_ | refine WC.exit ?_ | refine blk_hit ?_ | refine blk_miss rfl ?_ | refine WC.ret ?_)
      refine WL.callZ rfl rfl rfl rfl rfl ent99 rfl (word_any hp2 hk) ?_ ?_
      rotate_left
      · rintro ch w' ⟨rfl, hk2, hp'⟩
        exact ⟨rfl, prsN_pb _ _ _ _ hk2, _, _, _, _, hp'⟩
      rintro v w3 ⟨hk2, hp3⟩
      refine WL.nil ?_
      refine WC.seq ?_
      refine WC.mid (Fm × List Str × Nat × Option Addr × Nat) (fun (x, _, _, _, _) => [(0, ptr pb), (4, fmV x)]) (fun (x, l3, k3, a3, c3) w' => prsN (n + 1) ([40] :: s :: l2) k = finF x k3 l3 ∧ Sl w0 a3 (l3.map st) ∧ l3.length ≤ c3 ∧ k3 ≤ 12 ∧ l3.length ≤ l2.length ∧ Hp w0 w' (Pb pb a3 l3.length c3 k3 :: L)) ?_ ?_
      · repeat (first | refine WC.seq ?_ | refine WC.reg ?_ | refine WL.pure rfl rfl rfl ?_ | refine WL.nil ?_ | refine WC.skip ?_ | refine WC.block ?_ | refine WC.condT rfl ?_ | refine WC.condF rfl ?_ | refine WL.off rfl rfl rfl ?_ | refine WL.off0 rfl rfl ?_ | refine WC.exit ?_ | refine blk_hit ?_ | refine blk_miss rfl ?_ | refine WC.ret ?_)
        refine WL.load rfl rfl rfl rfl rfl (cell_below hp3.below hO1) ?_
        repeat (first | refine WC.seq ?_ | refine WC.reg ?_ | refine WL.pure rfl rfl rfl ?_ | refine WL.nil ?_ | refine WC.skip ?_ | refine WC.block ?_ | refine WC.condT rfl ?_ | refine WC.condF rfl ?_ | refine WL.off rfl rfl rfl ?_ | refine WL.off0 rfl rfl ?_ | refine WC.exit ?_ | refine blk_hit ?_ | refine blk_miss rfl ?_ | refine WC.ret ?_)
        refine WL.call rfl rfl rfl rfl rfl ent100 (Contains_any aO cO onesL s (by decide) w3 (hO2.hp hp3)) ?_
        rintro v w4 ⟨rfl, rfl⟩
        repeat (first | refine WC.seq ?_ | refine WC.reg ?_ | refine WL.pure rfl rfl rfl ?_ | refine WL.nil ?_ | refine WC.skip ?_ | refine WC.block ?_ | refine WC.condT rfl ?_ | refine WC.condF rfl ?_ | refine WL.off rfl rfl rfl ?_ | refine WL.off0 rfl rfl ?_ | refine WC.exit ?_ | refine blk_hit ?_ | refine blk_miss rfl ?_ | refine WC.ret ?_)
        refine WC.cond rfl (fun h2 => ?_) (fun h2 => ?_)
        · have h2 : s ∈ onesL := of_decide_eq_true h2
          have hpr := prsN_on n s l2 k hk2 h2
          repeat (first | refine WC.seq ?_ | refine WC.reg ?_ | refine WL.pure rfl rfl rfl ?_ | refine WL.nil ?_ | refine WC.skip ?_ | refine WC.block ?_ | refine WC.condT rfl ?_ | refine WC.condF rfl ?_ | refine WL.off rfl rfl rfl ?_ | refine WL.off0 rfl rfl ?_ | refine WC.exit ?_ | refine blk_hit ?_ | refine blk_miss rfl ?_ | refine WC.ret ?_)
          refine WL.callZ rfl rfl rfl rfl rfl ent74 rfl (ih l2 (k + 1) a2 c2 w4 (by omega) (by omega) hk2 hc2 hs2 hp3) ?_ ?_
          rotate_left
          · rintro ch w' ⟨rfl, hn, hp'⟩
            rw [hn] at hpr
            exact ⟨rfl, hpr, hp'⟩
          rintro v w5 ⟨f, l3, k3, a3, c3, hn, rfl, hs3, hc3, hk3, hl3, hp5⟩
          rw [hn] at hpr
          refine WL.buildT (cs := [st s, fmV f]) rfl rfl rfl rfl rfl (by cases f <;> rfl) ?_
          refine WL.val rfl rfl rfl (yMkI rfl rfl rfl) ?_
          repeat (first | refine WC.seq ?_ | refine WC.reg ?_ | refine WL.pure rfl rfl rfl ?_ | refine WL.nil ?_ | refine WC.skip ?_ | refine WC.block ?_ | refine WC.condT rfl ?_ | refine WC.condF rfl ?_ | refine WL.off rfl rfl rfl ?_ | refine WL.off0 rfl rfl ?_ | refine WC.exit ?_ | refine blk_hit ?_ | refine blk_miss rfl ?_ | refine WC.ret ?_)
          exact ⟨(.on_ s f, l3, k3, a3, c3), ⟨rfl, rfl, rfl⟩, hpr, hs3, hc3, hk3, hl3, hp5⟩
        · have h2 : s ∉ onesL := of_decide_eq_false h2
          repeat (first | refine WC.seq ?_ | refine WC.reg ?_ | refine WL.pure rfl rfl rfl ?_ | refine WL.nil ?_ | refine WC.skip ?_ | refine WC.block ?_ | refine WC.condT rfl ?_ | refine WC.condF rfl ?_ | refine WL.off rfl rfl rfl ?_ | refine WL.off0 rfl rfl ?_ | refine WC.exit ?_ | refine blk_hit ?_ | refine blk_miss rfl ?_ | refine WC.ret ?_)
          refine WL.load rfl rfl rfl rfl rfl (cell_below hp3.below hT1) ?_
          repeat (first | refine WC.seq ?_ | refine WC.reg ?_ | refine WL.pure rfl rfl rfl ?_ | refine WL.nil ?_ | refine WC.skip ?_ | refine WC.block ?_ | refine WC.condT rfl ?_ | refine WC.condF rfl ?_ | refine WL.off rfl rfl rfl ?_ | refine WL.off0 rfl rfl ?_ | refine WC.exit ?_ | refine blk_hit ?_ | refine blk_miss rfl ?_ | refine WC.ret ?_)
          refine WL.call rfl rfl rfl rfl rfl ent100 (Contains_any aT cT twosL s (by decide) w4 (hT2.hp hp3)) ?_
          rintro v w5 ⟨rfl, rfl⟩
          repeat (first | refine WC.seq ?_ | refine WC.reg ?_ | refine WL.pure rfl rfl rfl ?_ | refine WL.nil ?_ | refine WC.skip ?_ | refine WC.block ?_ | refine WC.condT rfl ?_ | refine WC.condF rfl ?_ | refine WL.off rfl rfl rfl ?_ | refine WL.off0 rfl rfl ?_ | refine WC.exit ?_ | refine blk_hit ?_ | refine blk_miss rfl ?_ | refine WC.ret ?_)
          refine WC.cond rfl (fun h3 => ?_) (fun h3 => ?_)
          · have h3 : s ∈ twosL := of_decide_eq_true h3
            have hpr := prsN_tw n s l2 k hk2 h2 h3
            repeat (first | refine WC.seq ?_ | refine WC.reg ?_ | refine WL.pure rfl rfl rfl ?_ | refine WL.nil ?_ | refine WC.skip ?_ | refine WC.block ?_ | refine WC.condT rfl ?_ | refine WC.condF rfl ?_ | refine WL.off rfl rfl rfl ?_ | refine WL.off0 rfl rfl ?_ | refine WC.exit ?_ | refine blk_hit ?_ | refine blk_miss rfl ?_ | refine WC.ret ?_)
            refine WL.callZ rfl rfl rfl rfl rfl ent74 rfl (ih l2 (k + 1) a2 c2 w5 (by omega) (by omega) hk2 hc2 hs2 hp3) ?_ ?_
            rotate_left
            · rintro ch w' ⟨rfl, hn, hp'⟩
              rw [hn] at hpr
              exact ⟨rfl, hpr, hp'⟩
            rintro v w6 ⟨f, l3, k3, a3, c3, hn, rfl, hs3, hc3, hk3, hl3, hp6⟩
            rw [hn] at hpr
            repeat (first | refine WC.seq ?_ | refine WC.reg ?_ | refine WL.pure rfl rfl rfl ?_ | refine WL.nil ?_ | refine WC.skip ?_ | refine WC.block ?_ | refine WC.condT rfl ?_ | refine WC.condF rfl ?_ | refine WL.off rfl rfl rfl ?_ | refine WL.off0 rfl rfl ?_ | refine WC.exit ?_ | refine blk_hit ?_ | refine blk_miss rfl ?_ | refine WC.ret ?_)
            refine WL.callZ rfl rfl rfl rfl rfl ent74 rfl (ih l3 k3 a3 c3 w6 (by omega) (by omega) hk3 hc3 hs3 hp6) ?_ ?_
            rotate_left
            · rintro ch w' ⟨rfl, hn2, hp'⟩
              simp only [hn2] at hpr
              exact ⟨rfl, hpr, hp'⟩
            rintro v w7 ⟨g, l4, k4, a4, c4, hn2, rfl, hs4, hc4, hk4, hl4, hp7⟩
            simp only [hn2] at hpr
            refine WL.buildT (cs := [st s, fmV f, fmV g]) rfl rfl rfl rfl rfl (by cases f <;> cases g <;> rfl) ?_
            refine WL.val rfl rfl rfl (yMkI rfl rfl rfl) ?_
            repeat (first | refine WC.seq ?_ | refine WC.reg ?_ | refine WL.pure rfl rfl rfl ?_ | refine WL.nil ?_ | refine WC.skip ?_ | refine WC.block ?_ | refine WC.condT rfl ?_ | refine WC.condF rfl ?_ | refine WL.off rfl rfl rfl ?_ | refine WL.off0 rfl rfl ?_ | refine WC.exit ?_ | refine blk_hit ?_ | refine blk_miss rfl ?_ | refine WC.ret ?_)
            exact ⟨(.tw_ s f g, l4, k4, a4, c4), ⟨rfl, rfl, rfl⟩, hpr, hs4, hc4, hk4, by omega, hp7⟩
          · have h3 : s ∉ twosL := of_decide_eq_false h3
            repeat (first | refine WC.seq ?_ | refine WC.reg ?_ | refine WL.pure rfl rfl rfl ?_ | refine WL.nil ?_ | refine WC.skip ?_ | refine WC.block ?_ | refine WC.condT rfl ?_ | refine WC.condF rfl ?_ | refine WL.off rfl rfl rfl ?_ | refine WL.off0 rfl rfl ?_ | refine WC.exit ?_ | refine blk_hit ?_ | refine blk_miss rfl ?_ | refine WC.ret ?_)
            refine WL.callZ rfl rfl rfl rfl rfl ent75 rfl (fail_z 4 w5 (Z := fun ch w' => ch = tr 4 ∧ w' = w5) ⟨rfl, rfl⟩) (fun v w' h => h.elim) ?_
            rintro ch w' ⟨rfl, rfl⟩
            exact ⟨rfl, prsN_un _ _ _ _ h2 h3, _, _, _, _, hp3⟩
      · rintro ⟨x, l3, k3, a3, c3⟩ e6 w6 hsub ⟨hpr, hs3, hc3, hk3, hl3, hp6⟩
        replace hpr : prsN (n + 1) ([40] :: s :: l2) k = finF x k3 l3 := hpr
        replace hp6 : Hp w0 w6 (Pb pb a3 l3.length c3 k3 :: L) := hp6
        replace hl3 : l3.length ≤ l2.length := hl3
        refine WC.sub hsub ?_
        clear hsub e6
        repeat (first | refine WC.seq ?_ | refine WC.reg ?_ | refine WL.pure rfl rfl rfl ?_ | refine WL.nil ?_ | refine WC.skip ?_ | refine WC.block ?_ | refine WC.condT rfl ?_ | refine WC.condF rfl ?_ | refine WL.off rfl rfl rfl ?_ | refine WL.off0 rfl rfl ?_ | refine WC.exit ?_ | refine blk_hit ?_ | refine blk_miss rfl ?_ | refine WC.ret ?_)
        refine WL.callZ rfl rfl rfl rfl rfl ent98 rfl (take_any hp6 hs3 hc3 (by omega)) ?_ ?_
        rotate_left
        · rintro ch w' ⟨rfl, rfl, hp'⟩
          exact ⟨rfl, hpr, _, _, _, _, hp'⟩
        rintro v w7 ⟨s2, l4, a4, c4, rfl, rfl, hs4, hc4, hp7⟩
        replace hl3 : l4.length + 1 ≤ l2.length := hl3
        repeat (first | refine WC.seq ?_ | refine WC.reg ?_ | refine WL.pure rfl rfl rfl ?_ | refine WL.nil ?_ | refine WC.skip ?_ | refine WC.block ?_ | refine WC.condT rfl ?_ | refine WC.condF rfl ?_ | refine WL.off rfl rfl rfl ?_ | refine WL.off0 rfl rfl ?_ | refine WC.exit ?_ | refine blk_hit ?_ | refine blk_miss rfl ?_ | refine WC.ret ?_)
        refine WL.sCmp rfl rfl rfl rfl rfl ?_
        repeat (first | refine WC.seq ?_ | refine WC.reg ?_ | refine WL.pure rfl rfl rfl ?_ | refine WL.nil ?_ | refine WC.skip ?_ | refine WC.block ?_ | refine WC.condT rfl ?_ | refine WC.condF rfl ?_ | refine WL.off rfl rfl rfl ?_ | refine WL.off0 rfl rfl ?_ | refine WC.exit ?_ | refine blk_hit ?_ | refine blk_miss rfl ?_ | refine WC.ret ?_)
        refine WC.cond rfl (fun h2 => ?_) (fun h2 => ?_)
        · have h2 : s2 ≠ [41] := by simpa using h2
          repeat (first | refine WC.seq ?_ | refine WC.reg ?_ | refine WL.pure rfl rfl rfl ?_ | refine WL.nil ?_ | refine WC.skip ?_ | refine WC.block ?_ | refine WC.condT rfl ?_ | refine WC.condF rfl ?_ | refine WL.off rfl rfl rfl ?_ | refine WL.off0 rfl rfl ?_ | refine WC.exit ?_ | refine blk_hit ?_ | refine blk_miss rfl ?_ | refine WC.ret ?_)
          refine WL.callZ rfl rfl rfl rfl rfl ent75 rfl (fail_z 4 w7 (Z := fun ch w' => ch = tr 4 ∧ w' = w7) ⟨rfl, rfl⟩) (fun v w' h => h.elim) ?_
          rintro ch w' ⟨rfl, rfl⟩
          rw [finF_no _ _ _ _ h2] at hpr
          exact ⟨rfl, hpr, _, _, _, _, hp7⟩
        · have h2 : s2 = [41] := by simpa using h2
          subst h2
          repeat (first | refine WC.seq ?_ | refine WC.reg ?_ | refine WL.pure rfl rfl rfl ?_ | refine WL.nil ?_ | refine WC.skip ?_ | refine WC.block ?_ | refine WC.condT rfl ?_ | refine WC.condF rfl ?_ | refine WL.off rfl rfl rfl ?_ | refine WL.off0 rfl rfl ?_ | refine WC.exit ?_ | refine blk_hit ?_ | refine blk_miss rfl ?_ | refine WC.ret ?_)
          exact Res.one rfl rfl rfl ⟨_, _, _, _, _, hpr, rfl, hs4, hc4, hk3, by rw [List.length_cons, List.length_cons]; omega, hp7⟩
end Go.Proofs.YtpbbneclkhfgoaaDoor
