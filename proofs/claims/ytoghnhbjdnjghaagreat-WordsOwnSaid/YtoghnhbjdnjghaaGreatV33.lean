/- The reference's fits, and what a clash says of a round. -/
import Derived.Test.YtoghnhbjdnjghaaGreatV31
namespace Go.Words
open Go.W Go.Proofs.YtoghnhbjdnjghaaGreat
/-- The reference looks at both sides, the program at the left ones: the same where no rule makes a string longer. -/
theorem fits_both {l : List Rl} (hd : Dn l) : fitsB l = (decide (l.length ≤ 64) && l.all fun r => decide (r.1.length ≤ 24) && decide (r.2.length ≤ 24)) := by
  unfold fitsB
  congr 1
  rw [Bool.eq_iff_iff, List.all_eq_true, List.all_eq_true]
  constructor
  · intro h r hr
    have h1 := of_decide_eq_true (h r hr)
    have h2 := hd r hr
    rw [Bool.and_eq_true, decide_eq_true_iff, decide_eq_true_iff]
    omega
  · intro h r hr
    exact (Bool.and_eq_true_iff.1 (h r hr)).1
theorem rndN_grow {l : List Rl} : ∀ (ps acc t : List Rl), rndN l ps acc = some t → acc.length ≤ t.length := by
  intro ps
  induction ps with
  | nil => intro acc t h; obtain rfl := Option.some.inj h; exact Nat.le_refl _
  | cons p ps ih =>
    intro acc t h
    rw [rndN_at rfl] at h
    cases hf : formsM l p with
    | none => rw [hf] at h; cases h
    | some q =>
      rw [hf] at h
      have := ih _ _ h
      split at this
      · exact this
      · rw [List.length_append] at this; omega
theorem rnd_none {l : List Rl} : ∀ (ps acc : List Rl) (i : Nat), clashN l ps i = none → rndN l ps acc = none := by
  intro ps
  induction ps with
  | nil => intro acc i h; cases h
  | cons p ps ih =>
    intro acc i h
    rw [clashN_at rfl] at h
    rw [rndN_at rfl]
    cases hf : formsM l p with
    | none => rfl
    | some q =>
      rw [hf] at h
      simp only at h ⊢
      split at h
      · exact ih _ _ h
      · cases h
theorem rnd_same {l : List Rl} : ∀ (ps acc : List Rl) (i : Nat) (n : Int), clashN l ps i = some n → n < 0 → rndN l ps acc = some acc := by
  intro ps
  induction ps with
  | nil => intro acc i n _ _; rfl
  | cons p ps ih =>
    intro acc i n h hn
    rw [clashN_at rfl] at h
    rw [rndN_at rfl]
    cases hf : formsM l p with
    | none => rw [hf] at h; cases h
    | some q =>
      rw [hf] at h
      simp only at h ⊢
      split at h
      · rename_i he; rw [if_pos he]; exact ih _ _ _ h hn
      · simp only [Option.some.injEq] at h; omega
theorem rnd_more {l : List Rl} : ∀ (ps acc t : List Rl) (i : Nat) (n : Int), clashN l ps i = some n → ¬ n < 0 → rndN l ps acc = some t → acc.length < t.length := by
  intro ps
  induction ps with
  | nil => intro acc t i n h hn; rw [clashN] at h; simp only [Option.some.injEq] at h; omega
  | cons p ps ih =>
    intro acc t i n h hn hr
    rw [clashN_at rfl] at h
    rw [rndN_at rfl] at hr
    cases hf : formsM l p with
    | none => rw [hf] at h; cases h
    | some q =>
      rw [hf] at h hr
      simp only at h hr
      split at h
      · rename_i he
        rw [if_pos he] at hr
        exact ih _ _ _ _ h hn hr
      · rename_i he
        rw [if_neg he] at hr
        have := rndN_grow _ _ _ hr
        rw [List.length_append, List.length_singleton] at this
        omega
theorem compN_none {t : List Rl} (j : Nat) (h : clashM t = none) : compN j t = none := by
  cases j with
  | zero => rw [compN, h]
  | succ j => rw [compN, show roundM t = none from rnd_none _ _ _ h]
theorem compN_conf {t : List Rl} {n : Int} (j : Nat) (h : clashM t = some n) (hn : n < 0) : compN j t = some (t, true) := by
  cases j with
  | zero => rw [compN, h]; simp only [decide_eq_true hn]
  | succ j => rw [compN, show roundM t = some t from rnd_same _ _ _ _ h hn]; simp only [if_true]
theorem compN_stop {t : List Rl} {n : Int} (h : clashM t = some n) (hn : ¬ n < 0) : compN 0 t = some (t, false) := by
  rw [compN, h]; simp only [decide_eq_false hn]
theorem compN_more {t : List Rl} {n : Int} (j : Nat) (h : clashM t = some n) (hn : ¬ n < 0) : compN (j + 1) t = match roundM t with
    | none => none
    | some nx => match settleM nx with
      | none => none
      | some u => compN j u := by
  rw [compN]
  cases hr : roundM t with
  | none => rfl
  | some nx =>
    have := rnd_more _ _ _ _ _ h hn hr
    simp only
    rw [if_neg (by omega)]
    cases settleM nx <;> rfl
end Go.Words
namespace Go.Proofs.YtoghnhbjdnjghaaGreat
open Go.W Go.Words Go.RowKit
set_option maxRecDepth 100000
attribute [local irreducible] WC WL WQ WS WH

theorem rfits_any (a : Option Addr) (cap : Nat) (l : List Rl) (hl : l.length ≤ 1000000) (hd : Dn l) (hm : Sm 1000 l) (w : World) (hs : Sl w a (rcs l)) :
    Ret Tryz.prog 43 [.slice a l.length cap] w fun u w' => u = .bool (fitsB l) ∧ Hp w w' [] := by
  obtain ⟨Q, hQ⟩ : ∃ Q : Rl → Bool, Q = fun r => decide (r.1.length ≤ 24) && decide (r.2.length ≤ 24) := ⟨_, rfl⟩
  have hF : fitsB l = (decide (l.length ≤ 64) && l.all Q) := by rw [hQ]; exact fits_both hd
  rw [hF]
  refine enter Tryz.func43 rfl rfl ⟨rfl, rfl⟩ rfl ?_
  repeat (first | refine WC.seq ?_ | refine WC.reg ?_ | refine WL.pure rfl rfl rfl ?_ | refine WL.nil ?_ | refine WC.skip ?_ | refine WC.block ?_ | refine WC.condT rfl ?_ | refine WC.condF rfl ?_ | refine WL.off rfl rfl rfl ?_ | refine WL.off0 rfl rfl ?_ | refine WC.exit ?_ | refine blk_hit ?_ | refine blk_miss rfl ?_ | refine WC.ret ?_)
  refine WC.loop Nat (fun i => [(0, .slice a l.length cap), (3, .int .i64 (i : Nat))]) (fun i w' => i ≤ l.length ∧ (l.take i).all Q = true ∧ Hp w w' []) (fun i => l.length - i) 0 ⟨rfl, rfl, rfl⟩ ⟨Nat.zero_le _, rfl, Hp.start w⟩ ?_
  rintro i w1 ⟨hi, hall, hp1⟩
  repeat (first | refine WC.seq ?_ | refine WC.reg ?_ | refine WL.pure rfl rfl rfl ?_ | refine WL.nil ?_ | refine WC.skip ?_ | refine WC.block ?_ | refine WC.condT rfl ?_ | refine WC.condF rfl ?_ | refine WL.off rfl rfl rfl ?_ | refine WL.off0 rfl rfl ?_ | refine WC.exit ?_ | refine blk_hit ?_ | refine blk_miss rfl ?_ | refine WC.ret ?_)
  refine WC.cond rfl (fun hc => ?_) (fun hc => ?_)
  · have hi : i < l.length := by have := of_decide_eq_true hc; omega
    have step := wrap_succ hi (by omega)
    have hsz := hm.at_ hi
    obtain ⟨b, o, rfl⟩ := rcs_some hs (by omega)
    have hs1 := hs.hp hp1
    have hq : Q l[i] = (decide (l[i].1.length ≤ 24) && decide (l[i].2.length ≤ 24)) := by rw [hQ]
    have hnext : Q l[i] = true → (l.take (i + 1)).all Q = true := fun h => by
      rw [List.take_succ_eq_append_getElem hi, List.all_append, hall, List.all_cons, h]; rfl
    have hbad : Q l[i] = false → l.all Q = false := fun h => by
      rw [List.all_eq_false]
      exact ⟨l[i], List.getElem_mem hi, by rw [h]; decide⟩
    repeat (first | refine WC.seq ?_ | refine WC.reg ?_ | refine WL.pure rfl rfl rfl ?_ | refine WL.nil ?_ | refine WC.skip ?_ | refine WC.block ?_ | refine WC.condT rfl ?_ | refine WC.condF rfl ?_ | refine WL.off rfl rfl rfl ?_ | refine WL.off0 rfl rfl ?_ | refine WC.exit ?_ | refine blk_hit ?_ | refine blk_miss rfl ?_ | refine WC.ret ?_)
    refine WL.ix rfl rfl rfl rfl rfl (j := i) hi rfl ?_
    repeat (first | refine WC.seq ?_ | refine WC.reg ?_ | refine WL.pure rfl rfl rfl ?_ | refine WL.nil ?_ | refine WC.skip ?_ | refine WC.block ?_ | refine WC.condT rfl ?_ | refine WC.condF rfl ?_ | refine WL.off rfl rfl rfl ?_ | refine WL.off0 rfl rfl ?_ | refine WC.exit ?_ | refine blk_hit ?_ | refine blk_miss rfl ?_ | refine WC.ret ?_)
    refine WL.load rfl rfl rfl rfl rfl (rcs_cell hs1 hi (q := 0) rfl) ?_
    repeat (first | refine WC.seq ?_ | refine WC.reg ?_ | refine WL.pure rfl rfl rfl ?_ | refine WL.nil ?_ | refine WC.skip ?_ | refine WC.block ?_ | refine WC.condT rfl ?_ | refine WC.condF rfl ?_ | refine WL.off rfl rfl rfl ?_ | refine WL.off0 rfl rfl ?_ | refine WC.exit ?_ | refine blk_hit ?_ | refine blk_miss rfl ?_ | refine WC.ret ?_)
    refine WL.split 17 rfl (fun h1 => ?_) (fun h1 => ?_)
    · have h1 : ¬ l[i].1.length ≤ 24 := by have := of_decide_eq_true h1; rw [sb_size] at this; omega
      have hb : Q l[i] = false := by rw [hq, decide_eq_false h1]; rfl
      repeat (first | refine WC.seq ?_ | refine WC.reg ?_ | refine WL.pure rfl rfl rfl ?_ | refine WL.nil ?_ | refine WC.skip ?_ | refine WC.block ?_ | refine WC.condT rfl ?_ | refine WC.condF rfl ?_ | refine WL.off rfl rfl rfl ?_ | refine WL.off0 rfl rfl ?_ | refine WC.exit ?_ | refine blk_hit ?_ | refine blk_miss rfl ?_ | refine WC.ret ?_)
      exact Res.one rfl rfl rfl ⟨by rw [hbad hb, Bool.and_false], hp1⟩
    have h1 : l[i].1.length ≤ 24 := by have := of_decide_eq_false h1; rw [sb_size] at this; omega
    repeat (first | refine WC.seq ?_ | refine WC.reg ?_ | refine WL.pure rfl rfl rfl ?_ | refine WL.nil ?_ | refine WC.skip ?_ | refine WC.block ?_ | refine WC.condT rfl ?_ | refine WC.condF rfl ?_ | refine WL.off rfl rfl rfl ?_ | refine WL.off0 rfl rfl ?_ | refine WC.exit ?_ | refine blk_hit ?_ | refine blk_miss rfl ?_ | refine WC.ret ?_)
    refine WL.ix rfl rfl rfl rfl rfl (j := i) hi rfl ?_
    repeat (first | refine WC.seq ?_ | refine WC.reg ?_ | refine WL.pure rfl rfl rfl ?_ | refine WL.nil ?_ | refine WC.skip ?_ | refine WC.block ?_ | refine WC.condT rfl ?_ | refine WC.condF rfl ?_ | refine WL.off rfl rfl rfl ?_ | refine WL.off0 rfl rfl ?_ | refine WC.exit ?_ | refine blk_hit ?_ | refine blk_miss rfl ?_ | refine WC.ret ?_)
    refine WL.load rfl rfl rfl rfl rfl (rcs_cell hs1 hi (q := 1) rfl) ?_
    repeat (first | refine WC.seq ?_ | refine WC.reg ?_ | refine WL.pure rfl rfl rfl ?_ | refine WL.nil ?_ | refine WC.skip ?_ | refine WC.block ?_ | refine WC.condT rfl ?_ | refine WC.condF rfl ?_ | refine WL.off rfl rfl rfl ?_ | refine WL.off0 rfl rfl ?_ | refine WC.exit ?_ | refine blk_hit ?_ | refine blk_miss rfl ?_ | refine WC.ret ?_)
    refine WC.cond rfl (fun h2 => ?_) (fun h2 => ?_)
    · have h2 : ¬ l[i].2.length ≤ 24 := by have := of_decide_eq_true h2; rw [sb_size] at this; omega
      have hb : Q l[i] = false := by rw [hq, decide_eq_false h2, Bool.and_false]
      repeat (first | refine WC.seq ?_ | refine WC.reg ?_ | refine WL.pure rfl rfl rfl ?_ | refine WL.nil ?_ | refine WC.skip ?_ | refine WC.block ?_ | refine WC.condT rfl ?_ | refine WC.condF rfl ?_ | refine WL.off rfl rfl rfl ?_ | refine WL.off0 rfl rfl ?_ | refine WC.exit ?_ | refine blk_hit ?_ | refine blk_miss rfl ?_ | refine WC.ret ?_)
      exact Res.one rfl rfl rfl ⟨by rw [hbad hb, Bool.and_false], hp1⟩
    · have h2 : l[i].2.length ≤ 24 := by have := of_decide_eq_false h2; rw [sb_size] at this; omega
      have hb : Q l[i] = true := by rw [hq, decide_eq_true h1, decide_eq_true h2]; rfl
      repeat (first | refine WC.seq ?_ | refine WC.reg ?_ | refine WL.pure rfl rfl rfl ?_ | refine WL.nil ?_ | refine WC.skip ?_ | refine WC.block ?_ | refine WC.condT rfl ?_ | refine WC.condF rfl ?_ | refine WL.off rfl rfl rfl ?_ | refine WL.off0 rfl rfl ?_ | refine WC.exit ?_ | refine blk_hit ?_ | refine blk_miss rfl ?_ | refine WC.ret ?_)
      exact ⟨i + 1, by omega, ⟨rfl, congrArg (fun z => some (Value.int .i64 z)) step, rfl⟩, by omega, hnext hb, hp1⟩
  · have hi : l.length ≤ i := by have := of_decide_eq_false hc; omega
    rw [List.take_of_length_le hi] at hall
    repeat (first | refine WC.seq ?_ | refine WC.reg ?_ | refine WL.pure rfl rfl rfl ?_ | refine WL.nil ?_ | refine WC.skip ?_ | refine WC.block ?_ | refine WC.condT rfl ?_ | refine WC.condF rfl ?_ | refine WL.off rfl rfl rfl ?_ | refine WL.off0 rfl rfl ?_ | refine WC.exit ?_ | refine blk_hit ?_ | refine blk_miss rfl ?_ | refine WC.ret ?_)
    refine Res.one rfl rfl rfl ⟨?_, hp1⟩
    rw [hall, Bool.and_true]
    congr 1
    rw [Bool.eq_iff_iff, decide_eq_true_iff, decide_eq_true_iff]
    omega
end Go.Proofs.YtoghnhbjdnjghaaGreat
