/- ltl, seventh: text, Push. -/
import Derived.Test.YtpbbneclkhfgoaaDoorU6
namespace Go.Ltl
open Go.W
/-- Words of at most seven bytes. -/
def shF : Fm → Prop
  | .at_ w => w.length ≤ 7
  | .on_ w f => w.length ≤ 7 ∧ shF f
  | .tw_ w f g => w.length ≤ 7 ∧ shF f ∧ shF g
theorem textF_len : ∀ f, shF f → (textF f).length ≤ 11 * sizeF f := by
  intro f
  induction f with
  | at_ w => intro h; have : w.length ≤ 7 := h; show w.length ≤ 11 * 1; omega
  | on_ w f ih =>
    intro h
    obtain ⟨h1, h2⟩ : w.length ≤ 7 ∧ shF f := h
    have := ih h2
    show ([40] ++ w ++ [32] ++ textF f ++ [41] : Str).length ≤ 11 * (1 + sizeF f)
    simp only [List.length_append, List.length_cons, List.length_nil]
    omega
  | tw_ w f g ihf ihg =>
    intro h
    obtain ⟨h1, h2, h3⟩ : w.length ≤ 7 ∧ shF f ∧ shF g := h
    have := ihf h2
    have := ihg h3
    show ([40] ++ w ++ [32] ++ textF f ++ [32] ++ textF g ++ [41] : Str).length ≤ 11 * (1 + sizeF f + sizeF g)
    simp only [List.length_append, List.length_cons, List.length_nil]
    omega
theorem dualM_len (w v : Str) (h : dualM w = some v) : v.length ≤ 7 := by
  unfold dualM at h
  obtain ⟨p, hp, rfl⟩ := Option.map_eq_some_iff.1 h
  have hm := List.mem_of_find?_eq_some hp
  have : ∀ p ∈ dualL, p.2.length ≤ 7 := by decide
  exact this p hm
theorem nameM_len (c : Bool) (w : Str) (h : w.length ≤ 7) : (nameM c w).length ≤ 7 := by
  unfold nameM
  cases c with
  | false => exact h
  | true =>
    rw [if_pos rfl]
    cases hd : dualM w with
    | none => exact Nat.zero_le _
    | some v => exact dualM_len w v hd
theorem pushM_sh : ∀ f c, shF f → shF (pushM f c) ∧ sizeF (pushM f c) ≤ 2 * sizeF f := by
  intro f
  induction f with
  | at_ w =>
    intro c h
    have h : w.length ≤ 7 := h
    unfold pushM
    split
    · exact ⟨nameM_len c w h, by show 1 ≤ 2 * 1; omega⟩
    · split
      · exact ⟨⟨by decide, h⟩, by show 1 + 1 ≤ 2 * 1; omega⟩
      · exact ⟨h, by show 1 ≤ 2 * 1; omega⟩
  | on_ w f ih =>
    intro c h
    obtain ⟨h1, h2⟩ : w.length ≤ 7 ∧ shF f := h
    unfold pushM
    split
    · have := ih (!c) h2
      refine ⟨this.1, ?_⟩
      have h3 := this.2
      show _ ≤ 2 * (1 + sizeF f)
      omega
    · have := ih c h2
      refine ⟨⟨nameM_len c w h1, this.1⟩, ?_⟩
      have h3 := this.2
      show 1 + sizeF (pushM f c) ≤ 2 * (1 + sizeF f)
      omega
  | tw_ w f g ihf ihg =>
    intro c h
    obtain ⟨h1, h2, h3⟩ : w.length ≤ 7 ∧ shF f ∧ shF g := h
    unfold pushM
    have := ihf c h2
    have h5 := ihg c h3
    refine ⟨⟨nameM_len c w h1, this.1, h5.1⟩, ?_⟩
    have h4 := this.2
    have h6 := h5.2
    show 1 + sizeF (pushM f c) + sizeF (pushM g c) ≤ 2 * (1 + sizeF f + sizeF g)
    omega
/-- What is read is small. -/
theorem mem_le {w : Str} {l : List Str} (hl : ∀ x ∈ l, x.length ≤ 7) (h : w ∈ l) : w.length ≤ 7 := hl w h
theorem prsN_sz : ∀ (n : Nat) (l : List Str) (k : Nat) (f : Fm) (l' : List Str) (k' : Nat), prsN n l k = some (f, l', k') → shF f ∧ k' = k + sizeF f ∧ k' ≤ 12 := by
  intro n
  induction n with
  | zero => intro l k f l' k' h; cases h
  | succ n ih =>
    intro l k f l' k' h
    cases l with
    | nil => cases h
    | cons s l =>
      by_cases hs : s = [40]
      · subst hs
        cases l with
        | nil => cases h
        | cons s l =>
          by_cases hk : 12 < k + 1
          · rw [prsN_pb _ _ _ _ hk] at h; cases h
          · by_cases h1 : s ∈ onesL
            · rw [prsN_on _ _ _ _ (by omega) h1] at h
              cases hq : prsN n l (k + 1) with
              | none => rw [hq] at h; cases h
              | some r =>
                obtain ⟨f1, l1, k1⟩ := r
                obtain ⟨i1, i2, i3⟩ := ih _ _ _ _ _ hq
                rw [hq] at h
                have h : finF (.on_ s f1) k1 l1 = some (f, l', k') := h
                unfold finF at h
                split at h
                · simp only [Option.some.injEq, Prod.mk.injEq] at h
                  obtain ⟨rfl, rfl, rfl⟩ := h
                  exact ⟨⟨mem_le (by decide) h1, i1⟩, by show k1 = k + (1 + sizeF f1); omega, i3⟩
                · cases h
            · by_cases h2 : s ∈ twosL
              · rw [prsN_tw _ _ _ _ (by omega) h1 h2] at h
                cases hq : prsN n l (k + 1) with
                | none => rw [hq] at h; cases h
                | some r =>
                  obtain ⟨f1, l1, k1⟩ := r
                  obtain ⟨i1, i2, i3⟩ := ih _ _ _ _ _ hq
                  simp only [hq] at h
                  cases hq2 : prsN n l1 k1 with
                  | none => rw [hq2] at h; cases h
                  | some r =>
                    obtain ⟨f2, l2, k2⟩ := r
                    obtain ⟨j1, j2, j3⟩ := ih _ _ _ _ _ hq2
                    rw [hq2] at h
                    have h : finF (.tw_ s f1 f2) k2 l2 = some (f, l', k') := h
                    unfold finF at h
                    split at h
                    · simp only [Option.some.injEq, Prod.mk.injEq] at h
                      obtain ⟨rfl, rfl, rfl⟩ := h
                      exact ⟨⟨mem_le (by decide) h2, i1, j1⟩, by show k2 = k + (1 + sizeF f1 + sizeF f2); omega, j3⟩
                    · cases h
              · rw [prsN_un _ _ _ _ h1 h2] at h; cases h
      · by_cases hk : 12 < k + 1
        · rw [prsN_big _ _ _ _ hs hk] at h; cases h
        · rw [prsN_at _ _ _ _ hs (by omega)] at h
          by_cases h1 : s ∈ atomsL
          · rw [if_pos h1] at h
            simp only [Option.some.injEq, Prod.mk.injEq] at h
            obtain ⟨rfl, rfl, rfl⟩ := h
            exact ⟨mem_le (by decide) h1, rfl, by omega⟩
          · rw [if_neg h1] at h; cases h
theorem parseM_sz {s : Str} {f : Fm} (h : parseM s = some f) : shF f ∧ sizeF f ≤ 12 := by
  unfold parseM at h
  split at h
  · rename_i f' k hq
    simp only [Option.some.injEq] at h
    subst h
    obtain ⟨h1, h2, h3⟩ := prsN_sz _ _ _ _ _ _ hq
    exact ⟨h1, by omega⟩
  · cases h
end Go.Ltl
namespace Go.Proofs.YtpbbneclkhfgoaaDoor
open Go.W Go.Ltl Go.RowKit
set_option maxRecDepth 100000
attribute [local irreducible] WC WL WQ WS WH

theorem text_any : ∀ (f : Fm) (w : World), (textF f).length ≤ 1000000 → Ret Tryd.prog (fmN f) [fmP f] w fun v w' => v = st (textF f) ∧ Hp w w' [] := by
  intro f
  induction f with
  | at_ s =>
    intro w hl
    refine enter Tryd.func122 rfl rfl ⟨rfl, rfl⟩ rfl ?_
    repeat (first | refine WC.seq ?_ | refine WC.reg ?_ | refine WL.pure rfl rfl rfl ?_ | refine WL.nil ?_ | refine WC.skip ?_ | refine WC.block ?_ | refine WC.condT rfl ?_ | refine WC.condF rfl ?_ | refine WL.off rfl rfl rfl ?_ | refine WL.off0 rfl rfl ?_ | refine WC.exit ?_ | refine blk_hit ?_ | refine blk_miss rfl ?_ | refine WC.ret ?_)
    refine WL.box rfl rfl rfl (fun b w1 h1 => ?_)
    have hp1 : Hp w w1 [.blk b (.cells #[st s] 129 (0, 0))] := (Hp.start w).new h1
    repeat (first | refine WC.seq ?_ | refine WC.reg ?_ | refine WL.pure rfl rfl rfl ?_ | refine WL.nil ?_ | refine WC.skip ?_ | refine WC.block ?_ | refine WC.condT rfl ?_ | refine WC.condF rfl ?_ | refine WL.off rfl rfl rfl ?_ | refine WL.off0 rfl rfl ?_ | refine WC.exit ?_ | refine blk_hit ?_ | refine blk_miss rfl ?_ | refine WC.ret ?_)
    refine WL.loadB rfl rfl rfl rfl rfl (hp1.obj 0 rfl) (j := 0) rfl ?_
    repeat (first | refine WC.seq ?_ | refine WC.reg ?_ | refine WL.pure rfl rfl rfl ?_ | refine WL.nil ?_ | refine WC.skip ?_ | refine WC.block ?_ | refine WC.condT rfl ?_ | refine WC.condF rfl ?_ | refine WL.off rfl rfl rfl ?_ | refine WL.off0 rfl rfl ?_ | refine WC.exit ?_ | refine blk_hit ?_ | refine blk_miss rfl ?_ | refine WC.ret ?_)
    exact Res.one rfl rfl rfl ⟨rfl, hp1.nil'⟩
  | on_ s f ih =>
    intro w hl
    have hl2 : ([40] ++ s ++ [32] ++ textF f ++ [41] : Str).length ≤ 1000000 := hl
    simp only [List.length_append, List.length_cons, List.length_nil] at hl2
    refine enter Tryd.func123 rfl rfl ⟨rfl, rfl⟩ rfl ?_
    repeat (first | refine WC.seq ?_ | refine WC.reg ?_ | refine WL.pure rfl rfl rfl ?_ | refine WL.nil ?_ | refine WC.skip ?_ | refine WC.block ?_ | refine WC.condT rfl ?_ | refine WC.condF rfl ?_ | refine WL.off rfl rfl rfl ?_ | refine WL.off0 rfl rfl ?_ | refine WC.exit ?_ | refine blk_hit ?_ | refine blk_miss rfl ?_ | refine WC.ret ?_)
    refine WL.box rfl rfl rfl (fun b w1 h1 => ?_)
    have hp1 : Hp w w1 [Q1b b s f] := (Hp.start w).new h1
    repeat (first | refine WC.seq ?_ | refine WC.reg ?_ | refine WL.pure rfl rfl rfl ?_ | refine WL.nil ?_ | refine WC.skip ?_ | refine WC.block ?_ | refine WC.condT rfl ?_ | refine WC.condF rfl ?_ | refine WL.off rfl rfl rfl ?_ | refine WL.off0 rfl rfl ?_ | refine WC.exit ?_ | refine blk_hit ?_ | refine blk_miss rfl ?_ | refine WC.ret ?_)
    refine WC.regQ (fun w' => Hp w w' [Q1b b s f]) mixed (by kernel_rfl) (fun w' hw' => hp1.keep hw') ?_
    repeat (first | refine WQ.pure rfl rfl rfl ?_ | refine WQ.off rfl rfl rfl ?_ | refine WQ.nil ?_)
    refine WQ.load rfl rfl rfl rfl rfl (fun w' h => cell_of_obj (h.obj 0 rfl) (j := 0) rfl) ?_
    refine WQ.sCat (a := [40]) rfl rfl rfl rfl (by simp only [List.length_cons, List.length_nil]; omega) ?_
    refine WQ.sCat (b := [32]) rfl rfl rfl rfl (by simp only [List.length_append, List.length_cons, List.length_nil]; omega) ?_
    repeat (first | refine WQ.pure rfl rfl rfl ?_ | refine WQ.off rfl rfl rfl ?_ | refine WQ.nil ?_)
    refine WQ.load rfl rfl rfl rfl rfl (fun w' h => cell_of_obj (h.obj 0 rfl) (j := 1) rfl) ?_
    refine WQ.callI rfl (congrArg some (fmV_eq f)) rfl (meth_any f) (fun w' h => (ih w' (by omega)).mono fun v w'' hh => ⟨hh.1, h.comb hh.2⟩) ?_
    refine WQ.sCat rfl rfl rfl rfl (by simp only [List.length_append, List.length_cons, List.length_nil]; omega) ?_
    refine WQ.sCat (b := [41]) rfl rfl rfl rfl (by simp only [List.length_append, List.length_cons, List.length_nil]; omega) ?_
    repeat (first | refine WQ.pure rfl rfl rfl ?_ | refine WQ.off rfl rfl rfl ?_ | refine WQ.nil ?_)
    intro w4 hp4
    repeat (first | refine WC.seq ?_ | refine WC.reg ?_ | refine WL.pure rfl rfl rfl ?_ | refine WL.nil ?_ | refine WC.skip ?_ | refine WC.block ?_ | refine WC.condT rfl ?_ | refine WC.condF rfl ?_ | refine WL.off rfl rfl rfl ?_ | refine WL.off0 rfl rfl ?_ | refine WC.exit ?_ | refine blk_hit ?_ | refine blk_miss rfl ?_ | refine WC.ret ?_)
    exact Res.one rfl rfl rfl ⟨rfl, hp4.nil'⟩
  | tw_ s f g ihf ihg =>
    intro w hl
    have hl2 : ([40] ++ s ++ [32] ++ textF f ++ [32] ++ textF g ++ [41] : Str).length ≤ 1000000 := hl
    simp only [List.length_append, List.length_cons, List.length_nil] at hl2
    refine enter Tryd.func121 rfl rfl ⟨rfl, rfl⟩ rfl ?_
    repeat (first | refine WC.seq ?_ | refine WC.reg ?_ | refine WL.pure rfl rfl rfl ?_ | refine WL.nil ?_ | refine WC.skip ?_ | refine WC.block ?_ | refine WC.condT rfl ?_ | refine WC.condF rfl ?_ | refine WL.off rfl rfl rfl ?_ | refine WL.off0 rfl rfl ?_ | refine WC.exit ?_ | refine blk_hit ?_ | refine blk_miss rfl ?_ | refine WC.ret ?_)
    refine WL.box rfl rfl rfl (fun b w1 h1 => ?_)
    have hp1 : Hp w w1 [Q2b b s f g] := (Hp.start w).new h1
    repeat (first | refine WC.seq ?_ | refine WC.reg ?_ | refine WL.pure rfl rfl rfl ?_ | refine WL.nil ?_ | refine WC.skip ?_ | refine WC.block ?_ | refine WC.condT rfl ?_ | refine WC.condF rfl ?_ | refine WL.off rfl rfl rfl ?_ | refine WL.off0 rfl rfl ?_ | refine WC.exit ?_ | refine blk_hit ?_ | refine blk_miss rfl ?_ | refine WC.ret ?_)
    refine WC.regQ (fun w' => Hp w w' [Q2b b s f g]) mixed (by kernel_rfl) (fun w' hw' => hp1.keep hw') ?_
    repeat (first | refine WQ.pure rfl rfl rfl ?_ | refine WQ.off rfl rfl rfl ?_ | refine WQ.nil ?_)
    refine WQ.load rfl rfl rfl rfl rfl (fun w' h => cell_of_obj (h.obj 0 rfl) (j := 0) rfl) ?_
    refine WQ.sCat (a := [40]) rfl rfl rfl rfl (by simp only [List.length_cons, List.length_nil]; omega) ?_
    refine WQ.sCat (b := [32]) rfl rfl rfl rfl (by simp only [List.length_append, List.length_cons, List.length_nil]; omega) ?_
    repeat (first | refine WQ.pure rfl rfl rfl ?_ | refine WQ.off rfl rfl rfl ?_ | refine WQ.nil ?_)
    refine WQ.load rfl rfl rfl rfl rfl (fun w' h => cell_of_obj (h.obj 0 rfl) (j := 1) rfl) ?_
    refine WQ.callI rfl (congrArg some (fmV_eq f)) rfl (meth_any f) (fun w' h => (ihf w' (by omega)).mono fun v w'' hh => ⟨hh.1, h.comb hh.2⟩) ?_
    refine WQ.sCat rfl rfl rfl rfl (by simp only [List.length_append, List.length_cons, List.length_nil]; omega) ?_
    refine WQ.sCat (b := [32]) rfl rfl rfl rfl (by simp only [List.length_append, List.length_cons, List.length_nil]; omega) ?_
    repeat (first | refine WQ.pure rfl rfl rfl ?_ | refine WQ.off rfl rfl rfl ?_ | refine WQ.nil ?_)
    refine WQ.load rfl rfl rfl rfl rfl (fun w' h => cell_of_obj (h.obj 0 rfl) (j := 2) rfl) ?_
    refine WQ.callI rfl (congrArg some (fmV_eq g)) rfl (meth_any g) (fun w' h => (ihg w' (by omega)).mono fun v w'' hh => ⟨hh.1, h.comb hh.2⟩) ?_
    refine WQ.sCat rfl rfl rfl rfl (by simp only [List.length_append, List.length_cons, List.length_nil]; omega) ?_
    refine WQ.sCat (b := [41]) rfl rfl rfl rfl (by simp only [List.length_append, List.length_cons, List.length_nil]; omega) ?_
    repeat (first | refine WQ.pure rfl rfl rfl ?_ | refine WQ.off rfl rfl rfl ?_ | refine WQ.nil ?_)
    intro w4 hp4
    repeat (first | refine WC.seq ?_ | refine WC.reg ?_ | refine WL.pure rfl rfl rfl ?_ | refine WL.nil ?_ | refine WC.skip ?_ | refine WC.block ?_ | refine WC.condT rfl ?_ | refine WC.condF rfl ?_ | refine WL.off rfl rfl rfl ?_ | refine WL.off0 rfl rfl ?_ | refine WC.exit ?_ | refine blk_hit ?_ | refine blk_miss rfl ?_ | refine WC.ret ?_)
    exact Res.one rfl rfl rfl ⟨rfl, hp4.nil'⟩
/-- What Push gives. -/
def PushM (s : Str) : Value := match parseM s with
  | some f => .tuple #[st (textF (pushM f false)), .int .i64 0]
  | none => .tuple #[st [], .int .i64 4]
theorem Push_any (s : Str) (hs : s.length ≤ 1000) (w : World) (hG : Gl w) : Ret Tryd.prog 22 [st s] w fun v w' => v = PushM s ∧ Hp w w' [] := by
  refine enter Tryd.func22 rfl rfl ⟨rfl, rfl⟩ rfl ?_
  repeat (first | refine WC.seq ?_ | refine WC.reg ?_ | refine WL.pure rfl rfl rfl ?_ | refine WL.nil ?_ | refine WC.skip ?_ | refine WC.block ?_ | refine WC.condT rfl ?_ | refine WC.condF rfl ?_ | refine WL.off rfl rfl rfl ?_ | refine WL.off0 rfl rfl ?_ | refine WC.exit ?_ | refine blk_hit ?_ | refine blk_miss rfl ?_ | refine WC.ret ?_)
  refine WL.call rfl rfl rfl rfl rfl ent48 (parse_any s hs w hG) ?_
  rintro v w1 ⟨⟨f, hf, rfl⟩ | ⟨hf, x, rfl⟩, hp1⟩
  · repeat (first | refine WC.seq ?_ | refine WC.reg ?_ | refine WL.pure rfl rfl rfl ?_ | refine WL.nil ?_ | refine WC.skip ?_ | refine WC.block ?_ | refine WC.condT rfl ?_ | refine WC.condF rfl ?_ | refine WL.off rfl rfl rfl ?_ | refine WL.off0 rfl rfl ?_ | refine WC.exit ?_ | refine blk_hit ?_ | refine blk_miss rfl ?_ | refine WC.ret ?_)
    refine WL.call rfl rfl rfl rfl rfl ent53 (push_any f false w1 (hG.hp hp1)) ?_
    rintro v w2 ⟨rfl, hp2⟩
    obtain ⟨h1, h2⟩ := parseM_sz hf
    obtain ⟨h3, h4⟩ := pushM_sh f false h1
    have h5 := textF_len _ h3
    refine WL.callI rfl (congrArg some (fmV_eq (pushM f false))) rfl (meth_any _) (text_any (pushM f false) w2 (by omega)) ?_
    rintro v w3 ⟨rfl, hp3⟩
    repeat (first | refine WC.seq ?_ | refine WC.reg ?_ | refine WL.pure rfl rfl rfl ?_ | refine WL.nil ?_ | refine WC.skip ?_ | refine WC.block ?_ | refine WC.condT rfl ?_ | refine WC.condF rfl ?_ | refine WL.off rfl rfl rfl ?_ | refine WL.off0 rfl rfl ?_ | refine WC.exit ?_ | refine blk_hit ?_ | refine blk_miss rfl ?_ | refine WC.ret ?_)
    refine Res.two rfl rfl rfl rfl ⟨?_, (hp1.comb hp2).comb hp3⟩
    unfold PushM
    rw [hf]
  · repeat (first | refine WC.seq ?_ | refine WC.reg ?_ | refine WL.pure rfl rfl rfl ?_ | refine WL.nil ?_ | refine WC.skip ?_ | refine WC.block ?_ | refine WC.condT rfl ?_ | refine WC.condF rfl ?_ | refine WL.off rfl rfl rfl ?_ | refine WL.off0 rfl rfl ?_ | refine WC.exit ?_ | refine blk_hit ?_ | refine blk_miss rfl ?_ | refine WC.ret ?_)
    refine Res.two rfl rfl rfl rfl ⟨?_, hp1⟩
    unfold PushM
    rw [hf]
    rfl
end Go.Proofs.YtpbbneclkhfgoaaDoor
