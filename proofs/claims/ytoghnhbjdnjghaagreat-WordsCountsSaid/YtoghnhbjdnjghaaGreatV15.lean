/- The walks of Tidy, settle, round. -/
import Derived.Test.YtoghnhbjdnjghaaGreatV14
namespace Go.Words
open Go.W Go.Sort Go.Proofs.YtoghnhbjdnjghaaGreat
theorem tidyN_inv {n : Nat} : ∀ (k : Nat) (l t : List Rl), tidyN k l = some t → Ss l → Dn l → Sm n l → Ss t ∧ Dn t ∧ Sm n t ∧ t.length ≤ l.length ∧ nextI t = none := by
  intro k
  induction k with
  | zero =>
    intro l t h h1 h2 h3
    cases hn : nextI l with
    | none =>
      rw [tidyN_none hn] at h
      obtain rfl := Option.some.inj h
      exact ⟨h1, h2, h3, Nat.le_refl _, hn⟩
    | some i => rw [tidyN_out hn] at h; cases h
  | succ k ih =>
    intro l t h h1 h2 h3
    cases hn : nextI l with
    | none =>
      rw [tidyN_none hn] at h
      obtain rfl := Option.some.inj h
      exact ⟨h1, h2, h3, Nat.le_refl _, hn⟩
    | some i =>
      have hi := nextI_lt hn
      rw [tidyN_go hn hi] at h
      have hel : (l.eraseIdx i).length + 1 = l.length := by rw [List.length_eraseIdx_of_lt hi]; omega
      cases hf : formsM (l.eraseIdx i) l[i] with
      | none => rw [hf] at h; cases h
      | some q =>
        have hq := formsM_some hf
        have hsz := h3.at_ hi
        have na := nrS_len (h2.erase i) l[i].1
        have nb := nrS_len (h2.erase i) l[i].2
        rw [hf] at h
        simp only at h
        by_cases he : q.1 = q.2
        · rw [if_pos he] at h
          obtain ⟨k1, k2, k3, k4, k5⟩ := ih _ _ h (h1.erase i) (h2.erase i) (h3.erase i)
          exact ⟨k1, k2, k3, by omega, k5⟩
        · rw [if_neg he] at h
          have hp := putM_len (l.eraseIdx i) (dirM q.1 q.2)
          obtain ⟨k1, k2, k3, k4, k5⟩ := ih _ _ h (putM_ss (h1.erase i) _) ((h2.erase i).put (dirM_dn _ _)) ((h3.erase i).put (dirM_sm (by rw [hq]; exact Nat.le_trans na hsz.1) (by rw [hq]; exact Nat.le_trans nb hsz.2)))
          exact ⟨k1, k2, k3, by omega, k5⟩
theorem tidyM_inv {n : Nat} {l t : List Rl} (h : tidyM l = some t) (h2 : Dn l) (h3 : Sm n l) : Ss t ∧ Dn t ∧ Sm n t ∧ t.length ≤ l.length ∧ nextI t = none := by
  obtain ⟨k1, k2, k3, k4, k5⟩ := tidyN_inv (n := n) 2000 _ _ h (srtM_ss l) (fun r hr => h2 r (mem_srtM.1 hr)) (fun r hr => h3 r (mem_srtM.1 hr))
  exact ⟨k1, k2, k3, Nat.le_trans k4 (srtM_len_le l), k5⟩
def fitsB (l : List Rl) : Bool := decide (l.length ≤ 64) && l.all fun r => decide (r.1.length ≤ 24)
def settleM (l : List Rl) : Option (List Rl) := if l.length ≤ 400 then match tidyM l with
    | some t => if fitsB t then some t else none
    | none => none
  else none
def rndN (l : List Rl) : List Rl → List Rl → Option (List Rl)
  | [], acc => some acc
  | p :: ps, acc => match formsM l p with
    | none => none
    | some q => rndN l ps (if q.1 = q.2 then acc else acc ++ [dirM q.1 q.2])
def roundM (l : List Rl) : Option (List Rl) := rndN l (pairsM l) l
theorem rndN_at {l ps acc : List Rl} {p : Rl} {qs : List Rl} (h : ps = p :: qs) : rndN l ps acc = match formsM l p with
    | none => none
    | some q => rndN l qs (if q.1 = q.2 then acc else acc ++ [dirM q.1 q.2]) := by rw [h]; rfl
/-- The Tidy's answer. -/
def TidyM (l : List Rl) : Option (List Rl) := tidyM l
theorem rndN_inv {n : Nat} {l : List Rl} (hd : Dn l) : ∀ (ps acc t : List Rl), rndN l ps acc = some t → Sm n ps → Dn acc → Sm n acc → Dn t ∧ Sm n t ∧ t.length ≤ acc.length + ps.length ∧ acc.length ≤ t.length := by
  intro ps
  induction ps with
  | nil => intro acc t h _ h2 h3; obtain rfl := Option.some.inj h; exact ⟨h2, h3, by simp, Nat.le_refl _⟩
  | cons p ps ih =>
    intro acc t h h1 h2 h3
    rw [rndN] at h
    cases hf : formsM l p with
    | none => rw [hf] at h; cases h
    | some q =>
      rw [hf] at h
      simp only at h
      have hq := formsM_some hf
      have hsz := h1 p (by simp)
      have na := nrS_len hd p.1
      have nb := nrS_len hd p.2
      by_cases he : q.1 = q.2
      · rw [if_pos he] at h
        obtain ⟨k1, k2, k3, k4⟩ := ih _ _ h (fun r hr => h1 r (by simp [hr])) h2 h3
        exact ⟨k1, k2, by rw [List.length_cons]; omega, k4⟩
      · rw [if_neg he] at h
        have hds := dirM_sm (n := n) (a := q.1) (b := q.2) (by rw [hq]; exact Nat.le_trans na hsz.1) (by rw [hq]; exact Nat.le_trans nb hsz.2)
        obtain ⟨k1, k2, k3, k4⟩ := ih _ _ h (fun r hr => h1 r (by simp [hr])) (fun r hr => by
            rcases List.mem_append.1 hr with hr | hr
            · exact h2 r hr
            · rw [List.mem_singleton.1 hr]; exact dirM_dn _ _) (fun r hr => by
            rcases List.mem_append.1 hr with hr | hr
            · exact h3 r hr
            · rw [List.mem_singleton.1 hr]; exact hds)
        rw [List.length_append, List.length_singleton] at k3 k4
        exact ⟨k1, k2, by rw [List.length_cons]; omega, by omega⟩
end Go.Words
namespace Go.Proofs.YtoghnhbjdnjghaaGreat
open Go.W Go.Words Go.RowKit Go.Sort
set_option maxRecDepth 100000
attribute [local irreducible] WC WL WQ WS WH

theorem fitsC_any (r : Rl) (w : World) : Ret Tryz.prog 102 [.agg #[st r.1, st r.2]] w fun u w' => u = .bool (!decide (r.1.length ≤ 24)) ∧ Hp w w' [] := by
  refine enter Tryz.func102 rfl rfl ⟨rfl, rfl⟩ rfl ?_
  repeat (first | refine WC.seq ?_ | refine WC.reg ?_ | refine WL.pure rfl rfl rfl ?_ | refine WL.nil ?_ | refine WC.skip ?_ | refine WC.block ?_ | refine WC.condT rfl ?_ | refine WC.condF rfl ?_ | refine WL.off rfl rfl rfl ?_ | refine WL.off0 rfl rfl ?_ | refine WC.exit ?_ | refine blk_hit ?_ | refine blk_miss rfl ?_ | refine WC.ret ?_)
  refine WL.box rfl rfl rfl ?_
  intro b1 w1 hb1
  have hp1 := (Hp.start w).new hb1
  repeat (first | refine WC.seq ?_ | refine WC.reg ?_ | refine WL.pure rfl rfl rfl ?_ | refine WL.nil ?_ | refine WC.skip ?_ | refine WC.block ?_ | refine WC.condT rfl ?_ | refine WC.condF rfl ?_ | refine WL.off rfl rfl rfl ?_ | refine WL.off0 rfl rfl ?_ | refine WC.exit ?_ | refine blk_hit ?_ | refine blk_miss rfl ?_ | refine WC.ret ?_)
  refine WL.loadB rfl rfl rfl rfl rfl (hp1.obj 0 rfl) (j := 0) rfl ?_
  repeat (first | refine WC.seq ?_ | refine WC.reg ?_ | refine WL.pure rfl rfl rfl ?_ | refine WL.nil ?_ | refine WC.skip ?_ | refine WC.block ?_ | refine WC.condT rfl ?_ | refine WC.condF rfl ?_ | refine WL.off rfl rfl rfl ?_ | refine WL.off0 rfl rfl ?_ | refine WC.exit ?_ | refine blk_hit ?_ | refine blk_miss rfl ?_ | refine WC.ret ?_)
  refine Res.one rfl rfl rfl ⟨?_, hp1.nil'⟩
  congr 1
  show decide (((r.1.length : Nat) : Int) > 24) = _
  by_cases h : r.1.length ≤ 24
  · rw [decide_eq_true h, decide_eq_false (by omega)]; rfl
  · rw [decide_eq_false h, decide_eq_true (by omega)]; rfl
theorem fits_any (a : Option Addr) (cap : Nat) (l : List Rl) (w : World) (hs : Sl w a (rcs l)) :
    Ret Tryz.prog 90 [.slice a l.length cap] w fun u w' => u = .bool (fitsB l) ∧ Hp w w' [] := by
  refine enter Tryz.func90 rfl rfl ⟨rfl, rfl⟩ rfl ?_
  repeat (first | refine WC.seq ?_ | refine WC.reg ?_ | refine WL.pure rfl rfl rfl ?_ | refine WL.nil ?_ | refine WC.skip ?_ | refine WC.block ?_ | refine WC.condT rfl ?_ | refine WC.condF rfl ?_ | refine WL.off rfl rfl rfl ?_ | refine WL.off0 rfl rfl ?_ | refine WC.exit ?_ | refine blk_hit ?_ | refine blk_miss rfl ?_ | refine WC.ret ?_)
  refine WL.split 6 rfl (fun h1 => ?_) (fun h1 => ?_)
  · have h1 : l.length ≤ 64 := by have := of_decide_eq_true h1; omega
    repeat (first | refine WC.seq ?_ | refine WC.reg ?_ | refine WL.pure rfl rfl rfl ?_ | refine WL.nil ?_ | refine WC.skip ?_ | refine WC.block ?_ | refine WC.condT rfl ?_ | refine WC.condF rfl ?_ | refine WL.off rfl rfl rfl ?_ | refine WL.off0 rfl rfl ?_ | refine WC.exit ?_ | refine blk_hit ?_ | refine blk_miss rfl ?_ | refine WC.ret ?_)
    refine WL.call rfl rfl rfl rfl rfl ent59 (ContainsRules_any a cap l 102 #[] (fun r => !decide (r.1.length ≤ 24)) ent102 (by omega) w hs (fun r hr w' _ => fitsC_any r w')) ?_
    rintro _ w1 ⟨rfl, hp1⟩
    repeat (first | refine WC.seq ?_ | refine WC.reg ?_ | refine WL.pure rfl rfl rfl ?_ | refine WL.nil ?_ | refine WC.skip ?_ | refine WC.block ?_ | refine WC.condT rfl ?_ | refine WC.condF rfl ?_ | refine WL.off rfl rfl rfl ?_ | refine WL.off0 rfl rfl ?_ | refine WC.exit ?_ | refine blk_hit ?_ | refine blk_miss rfl ?_ | refine WC.ret ?_)
    refine Res.one rfl rfl rfl ⟨?_, hp1⟩
    unfold fitsB
    rw [decide_eq_true h1, Bool.true_and]
    congr 1
    rw [Bool.eq_iff_iff]
    simp
  · have h1 : ¬ l.length ≤ 64 := by have := of_decide_eq_false h1; omega
    repeat (first | refine WC.seq ?_ | refine WC.reg ?_ | refine WL.pure rfl rfl rfl ?_ | refine WL.nil ?_ | refine WC.skip ?_ | refine WC.block ?_ | refine WC.condT rfl ?_ | refine WC.condF rfl ?_ | refine WL.off rfl rfl rfl ?_ | refine WL.off0 rfl rfl ?_ | refine WC.exit ?_ | refine blk_hit ?_ | refine blk_miss rfl ?_ | refine WC.ret ?_)
    exact Res.one rfl rfl rfl ⟨by unfold fitsB; rw [decide_eq_false h1]; rfl, Hp.start w⟩
/-- What Tidy hands back. -/
def TidyQ (l : List Rl) (w : World) (u : Value) (w' : World) : Prop := if sysB l then match tidyM l with
    | some t => ∃ pa pc, u = .tuple #[.slice pa t.length pc, .int .i64 0] ∧ Hp w w' [Rt (.slice pa t.length pc) t]
    | none => u = .tuple #[.slice none 0 0, .int .i64 5] ∧ Hp w w' []
  else u = .tuple #[.slice none 0 0, .int .i64 2] ∧ Hp w w' []
theorem Tidy_any (a : Option Addr) (cap : Nat) (l : List Rl) (hm : Sm 9223372036854775807 l) (w : World) (hmx : Mx w) (hs : Sl w a (rcs l)) :
    Ret Tryz.prog 24 [.slice a l.length cap] w (TidyQ l w) := by
  refine enter Tryz.func24 rfl rfl ⟨rfl, rfl⟩ rfl ?_
  repeat (first | refine WC.seq ?_ | refine WC.reg ?_ | refine WL.pure rfl rfl rfl ?_ | refine WL.nil ?_ | refine WC.skip ?_ | refine WC.block ?_ | refine WC.condT rfl ?_ | refine WC.condF rfl ?_ | refine WL.off rfl rfl rfl ?_ | refine WL.off0 rfl rfl ?_ | refine WC.exit ?_ | refine blk_hit ?_ | refine blk_miss rfl ?_ | refine WC.ret ?_)
  refine WL.call rfl rfl rfl rfl rfl ent33 (isSystem_any a cap l hm w hs) ?_
  rintro _ w1 ⟨rfl, hp1⟩
  unfold TidyQ
  repeat (first | refine WC.seq ?_ | refine WC.reg ?_ | refine WL.pure rfl rfl rfl ?_ | refine WL.nil ?_ | refine WC.skip ?_ | refine WC.block ?_ | refine WC.condT rfl ?_ | refine WC.condF rfl ?_ | refine WL.off rfl rfl rfl ?_ | refine WL.off0 rfl rfl ?_ | refine WC.exit ?_ | refine blk_hit ?_ | refine blk_miss rfl ?_ | refine WC.ret ?_)
  refine WC.cond rfl (fun h1 => ?_) (fun h1 => ?_)
  · have h1 : sysB l = false := by simpa using h1
    repeat (first | refine WC.seq ?_ | refine WC.reg ?_ | refine WL.pure rfl rfl rfl ?_ | refine WL.nil ?_ | refine WC.skip ?_ | refine WC.block ?_ | refine WC.condT rfl ?_ | refine WC.condF rfl ?_ | refine WL.off rfl rfl rfl ?_ | refine WL.off0 rfl rfl ?_ | refine WC.exit ?_ | refine blk_hit ?_ | refine blk_miss rfl ?_ | refine WC.ret ?_)
    exact Res.two rfl rfl rfl rfl (by rw [h1]; exact ⟨rfl, hp1⟩)
  · have h1 : sysB l = true := by simpa using h1
    have hln : l.length ≤ 64 := of_decide_eq_true (Bool.and_eq_true_iff.1 h1).1
    have hm2 : Sm 1000 l := fun r hr => ⟨by have := (sys_side h1 r hr).1; omega, by have := (sys_side h1 r hr).2; omega⟩
    rw [h1]
    repeat (first | refine WC.seq ?_ | refine WC.reg ?_ | refine WL.pure rfl rfl rfl ?_ | refine WL.nil ?_ | refine WC.skip ?_ | refine WC.block ?_ | refine WC.condT rfl ?_ | refine WC.condF rfl ?_ | refine WL.off rfl rfl rfl ?_ | refine WL.off0 rfl rfl ?_ | refine WC.exit ?_ | refine blk_hit ?_ | refine blk_miss rfl ?_ | refine WC.ret ?_)
    refine WL.call rfl rfl rfl rfl rfl ent47 (tidy_any a cap l (by omega) (sys_dn h1) hm2 w1 (hmx.hp hp1) (hs.hp hp1)) ?_
    intro u w2 hu
    cases ht : tidyM l with
    | none =>
      rw [ht] at hu
      obtain ⟨rfl, hp2⟩ := hu
      repeat (first | refine WC.seq ?_ | refine WC.reg ?_ | refine WL.pure rfl rfl rfl ?_ | refine WL.nil ?_ | refine WC.skip ?_ | refine WC.block ?_ | refine WC.condT rfl ?_ | refine WC.condF rfl ?_ | refine WL.off rfl rfl rfl ?_ | refine WL.off0 rfl rfl ?_ | refine WC.exit ?_ | refine blk_hit ?_ | refine blk_miss rfl ?_ | refine WC.ret ?_)
      exact Res.two rfl rfl rfl rfl ⟨rfl, hp1.over hp2⟩
    | some t =>
      rw [ht] at hu
      obtain ⟨pa, pc, rfl, hp2⟩ := hu
      repeat (first | refine WC.seq ?_ | refine WC.reg ?_ | refine WL.pure rfl rfl rfl ?_ | refine WL.nil ?_ | refine WC.skip ?_ | refine WC.block ?_ | refine WC.condT rfl ?_ | refine WC.condF rfl ?_ | refine WL.off rfl rfl rfl ?_ | refine WL.off0 rfl rfl ?_ | refine WC.exit ?_ | refine blk_hit ?_ | refine blk_miss rfl ?_ | refine WC.ret ?_)
      exact Res.two rfl rfl rfl rfl ⟨pa, pc, rfl, hp1.over hp2⟩
/-- What settle hands back. -/
def SetP (o : Option (List Rl)) (w : World) (u : Value) (w' : World) : Prop := match o with
  | some t => ∃ pa pc, u = .tuple #[.slice pa t.length pc, .bool true] ∧ Hp w w' [Rt (.slice pa t.length pc) t]
  | none => ∃ pa n pc, u = .tuple #[.slice pa n pc, .bool false] ∧ Hp w w' []
theorem settle_any (a : Option Addr) (cap : Nat) (l : List Rl) (hl : l.length ≤ 1000000000000) (hd : Dn l) (hm : Sm 1000 l) (w : World) (hmx : Mx w) (hs : Sl w a (rcs l)) :
    Ret Tryz.prog 69 [.slice a l.length cap] w (SetP (settleM l) w) := by
  refine enter Tryz.func69 rfl rfl ⟨rfl, rfl⟩ rfl ?_
  repeat (first | refine WC.seq ?_ | refine WC.reg ?_ | refine WL.pure rfl rfl rfl ?_ | refine WL.nil ?_ | refine WC.skip ?_ | refine WC.block ?_ | refine WC.condT rfl ?_ | refine WC.condF rfl ?_ | refine WL.off rfl rfl rfl ?_ | refine WL.off0 rfl rfl ?_ | refine WC.exit ?_ | refine blk_hit ?_ | refine blk_miss rfl ?_ | refine WC.ret ?_)
  unfold settleM
  refine WC.cond rfl (fun h1 => ?_) (fun h1 => ?_)
  · have h1 : ¬ l.length ≤ 400 := by have := of_decide_eq_true h1; omega
    rw [if_neg h1]
    repeat (first | refine WC.seq ?_ | refine WC.reg ?_ | refine WL.pure rfl rfl rfl ?_ | refine WL.nil ?_ | refine WC.skip ?_ | refine WC.block ?_ | refine WC.condT rfl ?_ | refine WC.condF rfl ?_ | refine WL.off rfl rfl rfl ?_ | refine WL.off0 rfl rfl ?_ | refine WC.exit ?_ | refine blk_hit ?_ | refine blk_miss rfl ?_ | refine WC.ret ?_)
    exact Res.two rfl rfl rfl rfl ⟨none, 0, 0, rfl, Hp.start w⟩
  · have h1 : l.length ≤ 400 := by have := of_decide_eq_false h1; omega
    rw [if_pos h1]
    repeat (first | refine WC.seq ?_ | refine WC.reg ?_ | refine WL.pure rfl rfl rfl ?_ | refine WL.nil ?_ | refine WC.skip ?_ | refine WC.block ?_ | refine WC.condT rfl ?_ | refine WC.condF rfl ?_ | refine WL.off rfl rfl rfl ?_ | refine WL.off0 rfl rfl ?_ | refine WC.exit ?_ | refine blk_hit ?_ | refine blk_miss rfl ?_ | refine WC.ret ?_)
    refine WL.call rfl rfl rfl rfl rfl ent47 (tidy_any a cap l (by omega) hd hm w hmx hs) ?_
    intro u w2 hu
    cases ht : tidyM l with
    | none =>
      rw [ht] at hu
      obtain ⟨rfl, hp2⟩ := hu
      repeat (first | refine WC.seq ?_ | refine WC.reg ?_ | refine WL.pure rfl rfl rfl ?_ | refine WL.nil ?_ | refine WC.skip ?_ | refine WC.block ?_ | refine WC.condT rfl ?_ | refine WC.condF rfl ?_ | refine WL.off rfl rfl rfl ?_ | refine WL.off0 rfl rfl ?_ | refine WC.exit ?_ | refine blk_hit ?_ | refine blk_miss rfl ?_ | refine WC.ret ?_)
      exact Res.two rfl rfl rfl rfl ⟨none, 0, 0, rfl, hp2⟩
    | some t =>
      rw [ht] at hu
      obtain ⟨pa, pc, rfl, hp2⟩ := hu
      repeat (first | refine WC.seq ?_ | refine WC.reg ?_ | refine WL.pure rfl rfl rfl ?_ | refine WL.nil ?_ | refine WC.skip ?_ | refine WC.block ?_ | refine WC.condT rfl ?_ | refine WC.condF rfl ?_ | refine WL.off rfl rfl rfl ?_ | refine WL.off0 rfl rfl ?_ | refine WC.exit ?_ | refine blk_hit ?_ | refine blk_miss rfl ?_ | refine WC.ret ?_)
      refine WL.call rfl rfl rfl rfl rfl ent90 (fits_any pa pc t w2 (Sl.of_row (hp2.at 0 rfl))) ?_
      rintro _ w3 ⟨rfl, hp3⟩
      have hp3 := hp2.comb hp3
      repeat (first | refine WC.seq ?_ | refine WC.reg ?_ | refine WL.pure rfl rfl rfl ?_ | refine WL.nil ?_ | refine WC.skip ?_ | refine WC.block ?_ | refine WC.condT rfl ?_ | refine WC.condF rfl ?_ | refine WL.off rfl rfl rfl ?_ | refine WL.off0 rfl rfl ?_ | refine WC.exit ?_ | refine blk_hit ?_ | refine blk_miss rfl ?_ | refine WC.ret ?_)
      refine Res.two rfl rfl rfl rfl ?_
      show SetP (if fitsB t = true then some t else none) w _ w3
      cases hf : fitsB t with
      | true =>
        rw [if_pos rfl]
        exact ⟨pa, pc, rfl, hp3⟩
      | false =>
        rw [if_neg (by decide)]
        exact ⟨pa, t.length, pc, rfl, hp3.nil'⟩
theorem round_any (a : Option Addr) (cap : Nat) (l : List Rl) (hl : l.length ≤ 1000) (hd : Dn l) (hm : Sm 1000 l) (w : World) (hs : Sl w a (rcs l)) :
    Ret Tryz.prog 70 [.slice a l.length cap] w (SetP (roundM l) w) := by
  have hpl := pairsM_len hm
  have hpl2 : (pairsM l).length ≤ 2000000000 := by
    refine Nat.le_trans hpl ?_
    refine Nat.le_trans (Nat.mul_le_mul hl (Nat.mul_le_mul_right _ hl)) ?_
    decide
  have hps := pairsM_sm hm
  refine enter Tryz.func70 rfl rfl ⟨rfl, rfl⟩ rfl ?_
  repeat (first | refine WC.seq ?_ | refine WC.reg ?_ | refine WL.pure rfl rfl rfl ?_ | refine WL.nil ?_ | refine WC.skip ?_ | refine WC.block ?_ | refine WC.condT rfl ?_ | refine WC.condF rfl ?_ | refine WL.off rfl rfl rfl ?_ | refine WL.off0 rfl rfl ?_ | refine WC.exit ?_ | refine blk_hit ?_ | refine blk_miss rfl ?_ | refine WC.ret ?_)
  refine WL.call rfl rfl rfl rfl rfl ent72 (Clone_any a cap l (by omega) w hs) ?_
  rintro _ w1 ⟨ca, cc, rfl, hp1⟩
  repeat (first | refine WC.seq ?_ | refine WC.reg ?_ | refine WL.pure rfl rfl rfl ?_ | refine WL.nil ?_ | refine WC.skip ?_ | refine WC.block ?_ | refine WC.condT rfl ?_ | refine WC.condF rfl ?_ | refine WL.off rfl rfl rfl ?_ | refine WL.off0 rfl rfl ?_ | refine WC.exit ?_ | refine blk_hit ?_ | refine blk_miss rfl ?_ | refine WC.ret ?_)
  refine WL.call rfl rfl rfl rfl rfl ent44 (pairs_any a cap l hl hm w1 (hs.hp hp1)) ?_
  rintro _ w2 ⟨pa, pc, rfl, hp2⟩
  have hp2 := hp1.comb hp2
  unfold roundM
  generalize pairsM l = ps at *
  repeat (first | refine WC.seq ?_ | refine WC.reg ?_ | refine WL.pure rfl rfl rfl ?_ | refine WL.nil ?_ | refine WC.skip ?_ | refine WC.block ?_ | refine WC.condT rfl ?_ | refine WC.condF rfl ?_ | refine WL.off rfl rfl rfl ?_ | refine WL.off0 rfl rfl ?_ | refine WC.exit ?_ | refine blk_hit ?_ | refine blk_miss rfl ?_ | refine WC.ret ?_)
  refine WC.loop (Nat × Option Addr × Nat × List Rl) (fun (i, oa, oc, acc) => [(0, .slice a l.length cap), (4, .slice oa acc.length oc), (13, .slice pa ps.length pc), (14, .int .i64 (ps.length : Nat)), (15, .int .i64 (i : Nat))])
    (fun (i, oa, oc, acc) w' => i ≤ ps.length ∧ acc.length ≤ 1000 + i ∧ rndN l ps l = rndN l (ps.drop i) acc ∧ Hp w w' [Rt (.slice oa acc.length oc) acc, Rr (.slice pa ps.length pc) ps]) (fun (i, _) => ps.length - i) (0, ca, cc, l) ⟨rfl, rfl, rfl, rfl, rfl, rfl⟩ ⟨Nat.zero_le _, by omega, rfl, hp2.swap⟩ ?_
  clear hp2 hp1
  rintro ⟨i, oa, oc, acc⟩ w1 ⟨hi, hal, hN, hp1⟩
  repeat (first | refine WC.seq ?_ | refine WC.reg ?_ | refine WL.pure rfl rfl rfl ?_ | refine WL.nil ?_ | refine WC.skip ?_ | refine WC.block ?_ | refine WC.condT rfl ?_ | refine WC.condF rfl ?_ | refine WL.off rfl rfl rfl ?_ | refine WL.off0 rfl rfl ?_ | refine WC.exit ?_ | refine blk_hit ?_ | refine blk_miss rfl ?_ | refine WC.ret ?_)
  refine WC.cond rfl (fun hc => ?_) (fun hc => ?_)
  · have hi : i < ps.length := by have := of_decide_eq_true hc; omega
    have step := wrap_succ hi (by omega)
    have hsz := hps.at_ hi
    rw [rndN_at (List.drop_eq_getElem_cons hi)] at hN
    repeat (first | refine WC.seq ?_ | refine WC.reg ?_ | refine WL.pure rfl rfl rfl ?_ | refine WL.nil ?_ | refine WC.skip ?_ | refine WC.block ?_ | refine WC.condT rfl ?_ | refine WC.condF rfl ?_ | refine WL.off rfl rfl rfl ?_ | refine WL.off0 rfl rfl ?_ | refine WC.exit ?_ | refine blk_hit ?_ | refine blk_miss rfl ?_ | refine WC.ret ?_)
    refine WL.ixload2 rfl (fun _ => rfl) rfl rfl rfl rfl rfl rfl rfl hi rfl rfl (Sl.of_row (hp1.at 1 rfl)) hi ?_
    intro pp
    refine WL.alloc rfl rfl rfl ?_
    intro b5 w2 hb5
    have hp2 := hp1.new hb5
    repeat (first | refine WC.seq ?_ | refine WC.reg ?_ | refine WL.pure rfl rfl rfl ?_ | refine WL.nil ?_ | refine WC.skip ?_ | refine WC.block ?_ | refine WC.condT rfl ?_ | refine WC.condF rfl ?_ | refine WL.off rfl rfl rfl ?_ | refine WL.off0 rfl rfl ?_ | refine WC.exit ?_ | refine blk_hit ?_ | refine blk_miss rfl ?_ | refine WC.ret ?_)
    refine WL.storeN (vs := #[st ps[i].1, st ps[i].2]) (arr2 := #[st ps[i].1, st ps[i].2]) rfl rfl rfl rfl rfl (fun v hv => by
      simp only [List.mem_cons, List.not_mem_nil, or_false] at hv
      rcases hv with rfl | rfl <;> rfl) (hp2.obj 0 rfl) (Nat.le_refl 2) rfl (fun w3 hw3 => ?_)
    have hp3 := hp2.set 0 rfl rfl hw3
    repeat (first | refine WC.seq ?_ | refine WC.reg ?_ | refine WL.pure rfl rfl rfl ?_ | refine WL.nil ?_ | refine WC.skip ?_ | refine WC.block ?_ | refine WC.condT rfl ?_ | refine WC.condF rfl ?_ | refine WL.off rfl rfl rfl ?_ | refine WL.off0 rfl rfl ?_ | refine WC.exit ?_ | refine blk_hit ?_ | refine blk_miss rfl ?_ | refine WC.ret ?_)
    refine WL.loadN (cs := [st ps[i].1, st ps[i].2]) rfl rfl rfl rfl rfl rfl (fun q v hq => by rw [Nat.zero_add]; exact cell_of_obj (hp3.obj 0 rfl) (by simpa using hq)) ?_
    refine WL.call rfl rfl rfl rfl rfl ent52 (forms_any a cap l ps[i] (by omega) hd (by omega) (hm.mono (by omega)) w3 (hs.hp hp3)) ?_
    rintro _ w4 ⟨rfl, hp4⟩
    have hp4 : Hp w w4 [Rt (.slice oa acc.length oc) acc, Rr (.slice pa ps.length pc) ps] := hp3.tail.comb hp4
    unfold formsV
    clear hp3 hp2 hw3 hb5
    cases hf : formsM l ps[i] with
    | none =>
      rw [hf] at hN
      repeat (first | refine WC.seq ?_ | refine WC.reg ?_ | refine WL.pure rfl rfl rfl ?_ | refine WL.nil ?_ | refine WC.skip ?_ | refine WC.block ?_ | refine WC.condT rfl ?_ | refine WC.condF rfl ?_ | refine WL.off rfl rfl rfl ?_ | refine WL.off0 rfl rfl ?_ | refine WC.exit ?_ | refine blk_hit ?_ | refine blk_miss rfl ?_ | refine WC.ret ?_)
      exact Res.two rfl rfl rfl rfl (by rw [hN]; exact ⟨none, 0, 0, rfl, hp4.nil'⟩)
    | some q =>
      have hq := formsM_some hf
      rw [hf, hq] at hN
      repeat (first | refine WC.seq ?_ | refine WC.reg ?_ | refine WL.pure rfl rfl rfl ?_ | refine WL.nil ?_ | refine WC.skip ?_ | refine WC.block ?_ | refine WC.condT rfl ?_ | refine WC.condF rfl ?_ | refine WL.off rfl rfl rfl ?_ | refine WL.off0 rfl rfl ?_ | refine WC.exit ?_ | refine blk_hit ?_ | refine blk_miss rfl ?_ | refine WC.ret ?_)
      refine WL.sCmp rfl rfl rfl rfl rfl ?_
      repeat (first | refine WC.seq ?_ | refine WC.reg ?_ | refine WL.pure rfl rfl rfl ?_ | refine WL.nil ?_ | refine WC.skip ?_ | refine WC.block ?_ | refine WC.condT rfl ?_ | refine WC.condF rfl ?_ | refine WL.off rfl rfl rfl ?_ | refine WL.off0 rfl rfl ?_ | refine WC.exit ?_ | refine blk_hit ?_ | refine blk_miss rfl ?_ | refine WC.ret ?_)
      refine WC.cond rfl (fun h1 => ?_) (fun h1 => ?_)
      · have h1 : ¬ nrS l ps[i].1 = nrS l ps[i].2 := by simpa using h1
        simp only [if_neg h1] at hN
        generalize nrS l ps[i].1 = x at *
        generalize nrS l ps[i].2 = y at *
        repeat (first | refine WC.seq ?_ | refine WC.reg ?_ | refine WL.pure rfl rfl rfl ?_ | refine WL.nil ?_ | refine WC.skip ?_ | refine WC.block ?_ | refine WC.condT rfl ?_ | refine WC.condF rfl ?_ | refine WL.off rfl rfl rfl ?_ | refine WL.off0 rfl rfl ?_ | refine WC.exit ?_ | refine blk_hit ?_ | refine blk_miss rfl ?_ | refine WC.ret ?_)
        refine WL.call rfl rfl rfl rfl rfl ent68 (directed_any x y w4) ?_
        rintro _ w5 ⟨rfl, hp5⟩
        have hp5 := hp4.comb hp5
        refine WL.buildS (cs := rc (dirM x y)) rfl rfl rfl rfl rfl rfl rfl rfl rfl ?_
        intro b6 w6 hb6
        have hp6 : Hp w w6 [Bx b6 (dirM x y), Rt (.slice oa acc.length oc) acc, Rr (.slice pa ps.length pc) ps] := hp5.new hb6
        refine WL.append 1 hp6 rfl rfl rfl rfl rfl (by decide) rfl rfl rfl (news := rc (dirM x y)) (Sl.of_obj (hp6.obj 0 rfl) (fun q u hq => by simpa [rc] using hq)) rfl (rcs_cells [dirM x y]) (by unfold maxLen; omega) (by show (acc.length + 1) * 32 ≤ _; omega) ?_
        intro ra rc1 w7 hp7 hg7
        have e1 : (acc ++ [dirM x y]).length = acc.length + 1 := by rw [List.length_append]; rfl
        repeat (first | refine WC.seq ?_ | refine WC.reg ?_ | refine WL.pure rfl rfl rfl ?_ | refine WL.nil ?_ | refine WC.skip ?_ | refine WC.block ?_ | refine WC.condT rfl ?_ | refine WC.condF rfl ?_ | refine WL.off rfl rfl rfl ?_ | refine WL.off0 rfl rfl ?_ | refine WC.exit ?_ | refine blk_hit ?_ | refine blk_miss rfl ?_ | refine WC.ret ?_)
        refine ⟨(i + 1, ra, rc1, acc ++ [dirM x y]), (by show ps.length - (i + 1) < ps.length - i; omega), ⟨rfl, congrArg (fun z : Nat => some (Value.slice ra z rc1)) e1.symm, rfl, rfl, congrArg (fun z => some (Value.int .i64 z)) step, rfl⟩, by omega, by rw [e1]; omega, hN, ?_⟩
        show Hp w w7 [Rt _ _, _]
        unfold Rt
        rw [e1, rcs_app]
        exact hp7.tail
      · have h1 : nrS l ps[i].1 = nrS l ps[i].2 := by simpa using h1
        simp only [if_pos h1] at hN
        repeat (first | refine WC.seq ?_ | refine WC.reg ?_ | refine WL.pure rfl rfl rfl ?_ | refine WL.nil ?_ | refine WC.skip ?_ | refine WC.block ?_ | refine WC.condT rfl ?_ | refine WC.condF rfl ?_ | refine WL.off rfl rfl rfl ?_ | refine WL.off0 rfl rfl ?_ | refine WC.exit ?_ | refine blk_hit ?_ | refine blk_miss rfl ?_ | refine WC.ret ?_)
        exact ⟨(i + 1, oa, oc, acc), (by show ps.length - (i + 1) < ps.length - i; omega), ⟨rfl, rfl, rfl, rfl, congrArg (fun z => some (Value.int .i64 z)) step, rfl⟩, by omega, by omega, hN, hp4⟩
  · have hi : ps.length ≤ i := by have := of_decide_eq_false hc; omega
    rw [List.drop_of_length_le hi] at hN
    repeat (first | refine WC.seq ?_ | refine WC.reg ?_ | refine WL.pure rfl rfl rfl ?_ | refine WL.nil ?_ | refine WC.skip ?_ | refine WC.block ?_ | refine WC.condT rfl ?_ | refine WC.condF rfl ?_ | refine WL.off rfl rfl rfl ?_ | refine WL.off0 rfl rfl ?_ | refine WC.exit ?_ | refine blk_hit ?_ | refine blk_miss rfl ?_ | refine WC.ret ?_)
    exact Res.two rfl rfl rfl rfl (by rw [hN]; exact ⟨oa, oc, rfl, hp1.drop1⟩)
end Go.Proofs.YtoghnhbjdnjghaaGreat
