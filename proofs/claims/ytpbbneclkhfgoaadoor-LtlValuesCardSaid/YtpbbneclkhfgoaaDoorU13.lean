/- ltl, thirteenth: Value. -/
import Derived.Test.YtpbbneclkhfgoaaDoorU12
namespace Go.Ltl
open Go.W
theorem prsN_wf : ∀ (n : Nat) (l : List Str) (k : Nat) (f : Fm) (l' : List Str) (k' : Nat), prsN n l k = some (f, l', k') → wfF f := by
  intro n
  induction n with
  | zero => intro l k f l' k' h; cases h
  | succ n ih =>
    intro l k f l' k' h
    cases l with
    | nil => cases h
    | cons s l =>
      by_cases hs : s = [40]
      · subst hs
        cases l with
        | nil => cases h
        | cons s l =>
          by_cases hk : 12 < k + 1
          · rw [prsN_pb _ _ _ _ hk] at h; cases h
          · by_cases h1 : s ∈ onesL
            · rw [prsN_on _ _ _ _ (by omega) h1] at h
              cases hq : prsN n l (k + 1) with
              | none => rw [hq] at h; cases h
              | some r =>
                obtain ⟨f1, l1, k1⟩ := r
                have i1 := ih _ _ _ _ _ hq
                rw [hq] at h
                have h : finF (.on_ s f1) k1 l1 = some (f, l', k') := h
                unfold finF at h
                split at h
                · simp only [Option.some.injEq, Prod.mk.injEq] at h
                  obtain ⟨rfl, rfl, rfl⟩ := h
                  exact ⟨h1, i1⟩
                · cases h
            · by_cases h2 : s ∈ twosL
              · rw [prsN_tw _ _ _ _ (by omega) h1 h2] at h
                cases hq : prsN n l (k + 1) with
                | none => rw [hq] at h; cases h
                | some r =>
                  obtain ⟨f1, l1, k1⟩ := r
                  have i1 := ih _ _ _ _ _ hq
                  simp only [hq] at h
                  cases hq2 : prsN n l1 k1 with
                  | none => rw [hq2] at h; cases h
                  | some r =>
                    obtain ⟨f2, l2, k2⟩ := r
                    have j1 := ih _ _ _ _ _ hq2
                    rw [hq2] at h
                    have h : finF (.tw_ s f1 f2) k2 l2 = some (f, l', k') := h
                    unfold finF at h
                    split at h
                    · simp only [Option.some.injEq, Prod.mk.injEq] at h
                      obtain ⟨rfl, rfl, rfl⟩ := h
                      exact ⟨h2, i1, j1⟩
                    · cases h
              · rw [prsN_un _ _ _ _ h1 h2] at h; cases h
      · by_cases hk : 12 < k + 1
        · rw [prsN_big _ _ _ _ hs hk] at h; cases h
        · rw [prsN_at _ _ _ _ hs (by omega)] at h
          by_cases h1 : s ∈ atomsL
          · rw [if_pos h1] at h
            simp only [Option.some.injEq, Prod.mk.injEq] at h
            obtain ⟨rfl, rfl, rfl⟩ := h
            exact h1
          · rw [if_neg h1] at h; cases h
theorem parseM_wf {s : Str} {f : Fm} (h : parseM s = some f) : wfF f := by
  unfold parseM at h
  split at h
  · rename_i f' k hq
    simp only [Option.some.injEq] at h
    subst h
    exact prsN_wf _ _ _ _ _ _ hq
  · cases h
end Go.Ltl
namespace Go.Proofs.YtpbbneclkhfgoaaDoor
open Go.W Go.Ltl Go.RowKit
set_option maxRecDepth 100000
attribute [local irreducible] WC WL WQ WS WH

/-- What Value gives. -/
def ValueM (l1 l2 : List Int) (s : Str) : Bool × Int :=
  if lassoB l1.length l2.length = true ∧ (l1 ++ l2).any (fun z => !markB z) = false then match parseM s with
    | some f => ((valsM (l1 ++ l2) l1.length f).getD 0 false, 0)
    | none => (false, 4)
  else (false, 2)
theorem Value_any (a1 a2 : Option Addr) (c1 c2 : Nat) (l1 l2 : List Int) (s : Str) (hs : s.length ≤ 1000) (hl : l1.length + l2.length ≤ 1000000) (w : World) (hG : Gl w) (hs1 : Sl w a1 (zs l1)) (hs2 : Sl w a2 (zs l2)) :
    Ret Tryd.prog 17 [.slice a1 l1.length c1, .slice a2 l2.length c2, st s] w fun v w' => v = .tuple #[.bool (ValueM l1 l2 s).1, .int .i64 (ValueM l1 l2 s).2] ∧ Hp w w' [] := by
  have hcat : catL [(a1, c1, l1), (a2, c2, l2)] = l1 ++ l2 := by simp [catL]
  refine enter Tryd.func17 rfl rfl ⟨rfl, rfl⟩ rfl ?_
  repeat (first | refine WC.seq ?_ | refine WC.reg ?_ | refine WL.pure rfl rfl rfl ?_ | refine WL.nil ?_ | refine WC.skip ?_ | refine WC.block ?_ | refine WC.condT rfl ?_ | refine WC.condF rfl ?_ | refine WL.off rfl rfl rfl ?_ | refine WL.off0 rfl rfl ?_ | refine WC.exit ?_ | refine blk_hit ?_ | refine blk_miss rfl ?_ | refine WC.ret ?_)
  refine WL.buildS (cs := catV [(a1, c1, l1), (a2, c2, l2)]) rfl rfl rfl rfl rfl rfl rfl rfl rfl ?_
  intro b w1 hb
  have hp1 := (Hp.start w).new hb
  have hC := Concat_any (some ⟨b, 0, none⟩) 2 [(a1, c1, l1), (a2, c2, l2)] (by show 2 ≤ 1000; omega) (by rw [hcat, List.length_append]; exact hl) w1 (Sl.of_obj (hp1.obj 0 rfl) (fun q u hq => by simpa using hq))
    (by
      intro x hx
      simp only [List.mem_cons, List.not_mem_nil, or_false] at hx
      rcases hx with rfl | rfl
      · exact hs1.hp hp1
      · exact hs2.hp hp1)
  rw [hcat] at hC
  refine WL.call rfl rfl rfl rfl rfl ent43 hC ?_
  rintro v w2 ⟨pa, pc, rfl, hp2⟩
  have hp2 := hp1.comb hp2
  have hsl2 : Sl w2 pa (zs (l1 ++ l2)) := Sl.of_row (hp2.at 0 rfl)
  repeat (first | refine WC.seq ?_ | refine WC.reg ?_ | refine WL.pure rfl rfl rfl ?_ | refine WL.nil ?_ | refine WC.skip ?_ | refine WC.block ?_ | refine WC.condT rfl ?_ | refine WC.condF rfl ?_ | refine WL.off rfl rfl rfl ?_ | refine WL.off0 rfl rfl ?_ | refine WC.exit ?_ | refine blk_hit ?_ | refine blk_miss rfl ?_ | refine WC.ret ?_)
  refine WL.buildT rfl rfl rfl rfl rfl rfl ?_
  refine WL.alloc rfl rfl rfl (fun lb w3 h3 => ?_)
  have hp3 := hp2.new h3
  refine WL.storeN rfl rfl rfl rfl rfl (by simp [Value.oneCell']) (hp3.obj 0 rfl) (Nat.le_refl _) rfl (fun w4 h4 => ?_)
  have hp4 : Hp w w4 [Lx lb pa (l1 ++ l2).length pc l1.length] := (hp3.set 0 rfl rfl h4).pick [0] (by decide)
  have hsl4 : Sl w4 pa (zs (l1 ++ l2)) := Sl.of_row ((hp3.set 0 rfl rfl h4).at 1 rfl)
  have hlen : (l1 ++ l2).length ≤ 1000000 := by rw [List.length_append]; exact hl
  repeat (first | refine WC.seq ?_ | refine WC.reg ?_ | refine WL.pure rfl rfl rfl ?_ | refine WL.nil ?_ | refine WC.skip ?_ | refine WC.block ?_ | refine WC.condT rfl ?_ | refine WC.condF rfl ?_ | refine WL.off rfl rfl rfl ?_ | refine WL.off0 rfl rfl ?_ | refine WC.exit ?_ | refine blk_hit ?_ | refine blk_miss rfl ?_ | refine WC.ret ?_)
  refine WL.call rfl rfl rfl rfl rfl ent44 (isLasso_any a1 a2 l1.length c1 l2.length c2 w4) ?_
  rintro v w5 ⟨rfl, rfl⟩
  repeat (first | refine WC.seq ?_ | refine WC.reg ?_ | refine WL.pure rfl rfl rfl ?_ | refine WL.nil ?_ | refine WC.skip ?_ | refine WC.block ?_ | refine WC.condT rfl ?_ | refine WC.condF rfl ?_ | refine WL.off rfl rfl rfl ?_ | refine WL.off0 rfl rfl ?_ | refine WC.exit ?_ | refine blk_hit ?_ | refine blk_miss rfl ?_ | refine WC.ret ?_)
  cases hlb : lassoB l1.length l2.length with
  | false =>
    have e1 : ValueM l1 l2 s = (false, 2) := by unfold ValueM; rw [if_neg (by rw [hlb]; simp)]
    rw [e1]
    repeat (first | refine WC.seq ?_ | refine WC.reg ?_ | refine WL.pure rfl rfl rfl ?_ | refine WL.nil ?_ | refine WC.skip ?_ | refine WC.block ?_ | refine WC.condT rfl ?_ | refine WC.condF rfl ?_ | refine WL.off rfl rfl rfl ?_ | refine WL.off0 rfl rfl ?_ | refine WC.exit ?_ | refine blk_hit ?_ | refine blk_miss rfl ?_ | refine WC.ret ?_)
    exact Res.two rfl rfl rfl rfl ⟨rfl, hp4.nil'⟩
  | true =>
    repeat (first | refine WC.seq ?_ | refine WC.reg ?_ | refine WL.pure rfl rfl rfl ?_ | refine WL.nil ?_ | refine WC.skip ?_ | refine WC.block ?_ | refine WC.condT rfl ?_ | refine WC.condF rfl ?_ | refine WL.off rfl rfl rfl ?_ | refine WL.off0 rfl rfl ?_ | refine WC.exit ?_ | refine blk_hit ?_ | refine blk_miss rfl ?_ | refine WC.ret ?_)
    refine WL.loadB rfl rfl rfl rfl rfl (hp4.obj 0 rfl) (j := 0) rfl ?_
    refine WL.call rfl rfl rfl rfl rfl ent45 (ContainsFunc_any pa pc (l1 ++ l2) hlen ent46 (fun z => !markB z) value1_any w5 hsl4) ?_
    rintro v w6 ⟨rfl, rfl⟩
    cases hmk : (l1 ++ l2).any (fun z => !markB z) with
    | true =>
      have e1 : ValueM l1 l2 s = (false, 2) := by unfold ValueM; rw [if_neg (by rw [hmk]; simp)]
      rw [e1]
      repeat (first | refine WC.seq ?_ | refine WC.reg ?_ | refine WL.pure rfl rfl rfl ?_ | refine WL.nil ?_ | refine WC.skip ?_ | refine WC.block ?_ | refine WC.condT rfl ?_ | refine WC.condF rfl ?_ | refine WL.off rfl rfl rfl ?_ | refine WL.off0 rfl rfl ?_ | refine WC.exit ?_ | refine blk_hit ?_ | refine blk_miss rfl ?_ | refine WC.ret ?_)
      exact Res.two rfl rfl rfl rfl ⟨rfl, hp4.nil'⟩
    | false =>
      repeat (first | refine WC.seq ?_ | refine WC.reg ?_ | refine WL.pure rfl rfl rfl ?_ | refine WL.nil ?_ | refine WC.skip ?_ | refine WC.block ?_ | refine WC.condT rfl ?_ | refine WC.condF rfl ?_ | refine WL.off rfl rfl rfl ?_ | refine WL.off0 rfl rfl ?_ | refine WC.exit ?_ | refine blk_hit ?_ | refine blk_miss rfl ?_ | refine WC.ret ?_)
      refine WL.call rfl rfl rfl rfl rfl ent48 (parse_any s hs w6 (hG.hp hp4)) ?_
      rintro v w7 ⟨⟨f, hf, rfl⟩ | ⟨hf, x, rfl⟩, hp7⟩
      · have hp8 := hp4.comb hp7
        have e1 : ValueM l1 l2 s = ((valsM (l1 ++ l2) l1.length f).getD 0 false, 0) := by unfold ValueM; rw [if_pos ⟨hlb, hmk⟩, hf]
        rw [e1]
        have hm : ∀ m ∈ l1 ++ l2, 0 ≤ m ∧ m ≤ 15 := by
          intro m hm
          have := List.any_eq_false.1 hmk m hm
          simpa [markB] using this
        have hlp : l1.length < (l1 ++ l2).length := by
          simp only [lassoB, Bool.and_eq_true, decide_eq_true_eq] at hlb
          rw [List.length_append]; omega
        repeat (first | refine WC.seq ?_ | refine WC.reg ?_ | refine WL.pure rfl rfl rfl ?_ | refine WL.nil ?_ | refine WC.skip ?_ | refine WC.block ?_ | refine WC.condT rfl ?_ | refine WC.condF rfl ?_ | refine WL.off rfl rfl rfl ?_ | refine WL.off0 rfl rfl ?_ | refine WC.exit ?_ | refine blk_hit ?_ | refine blk_miss rfl ?_ | refine WC.ret ?_)
        refine WL.loadN rfl rfl rfl rfl rfl (cs := [.slice pa (l1 ++ l2).length pc, .int .i64 (l1.length : Nat)]) rfl (fun q v hq => cell_of_obj (hp8.obj 0 rfl) (by rw [Nat.zero_add]; simpa using hq)) ?_
        repeat (first | refine WC.seq ?_ | refine WC.reg ?_ | refine WL.pure rfl rfl rfl ?_ | refine WL.nil ?_ | refine WC.skip ?_ | refine WC.block ?_ | refine WC.condT rfl ?_ | refine WC.condF rfl ?_ | refine WL.off rfl rfl rfl ?_ | refine WL.off0 rfl rfl ?_ | refine WC.exit ?_ | refine blk_hit ?_ | refine blk_miss rfl ?_ | refine WC.ret ?_)
        refine WL.call rfl rfl rfl rfl rfl ent49 (values_any pa pc (l1 ++ l2) l1.length hlen hlp hm f (parseM_wf hf) w7 (hsl4.hp hp7)) ?_
        rintro v w9 ⟨vb, rfl, hp9⟩
        refine WL.ix1 (j := 0) rfl rfl rfl rfl rfl rfl rfl (by omega) ?_
        refine WL.load rfl rfl rfl rfl rfl (lb_obj hp9 (by rw [valsM_len]; omega)) ?_
        repeat (first | refine WC.seq ?_ | refine WC.reg ?_ | refine WL.pure rfl rfl rfl ?_ | refine WL.nil ?_ | refine WC.skip ?_ | refine WC.block ?_ | refine WC.condT rfl ?_ | refine WC.condF rfl ?_ | refine WL.off rfl rfl rfl ?_ | refine WL.off0 rfl rfl ?_ | refine WC.exit ?_ | refine blk_hit ?_ | refine blk_miss rfl ?_ | refine WC.ret ?_)
        exact Res.two rfl rfl rfl rfl ⟨rfl, (hp8.comb hp9).nil'⟩
      · have e1 : ValueM l1 l2 s = (false, 4) := by unfold ValueM; rw [if_pos ⟨hlb, hmk⟩, hf]
        rw [e1]
        repeat (first | refine WC.seq ?_ | refine WC.reg ?_ | refine WL.pure rfl rfl rfl ?_ | refine WL.nil ?_ | refine WC.skip ?_ | refine WC.block ?_ | refine WC.condT rfl ?_ | refine WC.condF rfl ?_ | refine WL.off rfl rfl rfl ?_ | refine WL.off0 rfl rfl ?_ | refine WC.exit ?_ | refine blk_hit ?_ | refine blk_miss rfl ?_ | refine WC.ret ?_)
        exact Res.two rfl rfl rfl rfl ⟨rfl, (hp4.comb hp7).nil'⟩
end Go.Proofs.YtpbbneclkhfgoaaDoor
