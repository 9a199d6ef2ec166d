/- The walks of all pairs, of forms, clashes, directed rules, the order of rules. -/
import Derived.Test.YtoghnhbjdnjghaaGreatV4
namespace Go.Words
open Go.W
def ordR (a b : Rl) : Int := if ordS a.1 b.1 = 0 then ordS a.2 b.2 else ordS a.1 b.1
theorem getD_get {l : List Rl} {i : Nat} (h : i < l.length) : l.getD i ([], []) = l[i] := by
  rw [List.getD_eq_getElem?_getD, List.getElem?_eq_getElem h]; rfl
def pairI (l : List Rl) (i k : Nat) : List Rl := overM (l.getD i ([], [])) (l.getD k ([], [])) (i == k)
theorem pairsI_eq (l : List Rl) (i : Nat) : pairsI l i = (List.range l.length).flatMap (pairI l i) := rfl
theorem Sm.getD {n : Nat} {l : List Rl} (h : Sm n l) (i : Nat) : (l.getD i ([], [])).1.length ≤ n ∧ (l.getD i ([], [])).2.length ≤ n := by
  rw [List.getD_eq_getElem?_getD]
  rcases Nat.lt_or_ge i l.length with hi | hi
  · rw [List.getElem?_eq_getElem hi]; exact h.at_ hi
  · rw [List.getElem?_eq_none hi]; simp
theorem pairI_len {n : Nat} {l : List Rl} (h : Sm n l) (i k : Nat) : (pairI l i k).length ≤ n + n := by
  have := overM_len (l.getD i ([], [])) (l.getD k ([], [])) (i == k)
  have := (h.getD i).1
  unfold pairI; omega
theorem pairsI_len {n : Nat} {l : List Rl} (h : Sm n l) (i : Nat) : (pairsI l i).length ≤ l.length * (n + n) := fm_len (pairI l i) (fun k => pairI_len h i k) _
theorem pairsM_len {n : Nat} {l : List Rl} (h : Sm n l) : (pairsM l).length ≤ l.length * (l.length * (n + n)) := fm_len (pairsI l) (fun k => pairsI_len h k) _
/-- The strings of pairs are not long. -/
theorem replM_le {s : Str} {i : Nat} {r : Rl} : (replM s i r).length ≤ s.length + r.2.length := by
  unfold replM
  rw [List.length_append, List.length_append, List.length_take, List.length_drop]
  omega
theorem overM_sm {n : Nat} {a b : Rl} {same : Bool} (ha : a.1.length ≤ n ∧ a.2.length ≤ n) (hb : b.1.length ≤ n ∧ b.2.length ≤ n) : Sm (3 * n) (overM a b same) := by
  intro r hr
  unfold overM at hr
  rcases List.mem_append.1 hr with hr | hr
  · obtain ⟨k, hk, hr⟩ := List.mem_flatMap.1 hr
    unfold overA at hr
    split at hr
    · simp only [List.mem_singleton] at hr
      subst hr
      have h1 := replM_le (s := a.1 ++ b.1.drop (k + 1)) (i := 0) (r := a)
      have h2 := replM_le (s := a.1 ++ b.1.drop (k + 1)) (i := a.1.length - (k + 1)) (r := b)
      rw [List.length_append, List.length_drop] at h1 h2
      exact ⟨by show (replM _ _ _).length ≤ _; omega, by show (replM _ _ _).length ≤ _; omega⟩
    · cases hr
  · split at hr
    · cases hr
    · obtain ⟨k, hk, hr⟩ := List.mem_flatMap.1 hr
      unfold overC at hr
      split at hr
      · simp only [List.mem_singleton] at hr
        subst hr
        have h1 := replM_le (s := a.1) (i := k + 1) (r := b)
        exact ⟨by show a.2.length ≤ _; omega, by show (replM _ _ _).length ≤ _; omega⟩
      · cases hr
theorem pairsM_sm {n : Nat} {l : List Rl} (h : Sm n l) : Sm (3 * n) (pairsM l) := by
  intro r hr
  obtain ⟨i, _, hr⟩ := List.mem_flatMap.1 hr
  obtain ⟨k, _, hr⟩ := List.mem_flatMap.1 hr
  exact overM_sm (h.getD i) (h.getD k) r hr
/-- What 'forms' hands back. -/
def nrS (l : List Rl) (s : Str) : Str := match normM l s with
  | some p => p.1
  | none => []
def formsV (l : List Rl) (p : Rl) : Value := .tuple #[st (nrS l p.1), st (nrS l p.2), .bool (formsM l p).isSome]
theorem formsM_iso (l : List Rl) (p : Rl) : (formsM l p).isSome = ((normM l p.1).isSome && (normM l p.2).isSome) := by
  unfold formsM
  cases normM l p.1 <;> cases normM l p.2 <;> rfl
theorem formsM_some {l : List Rl} {p q : Rl} (h : formsM l p = some q) : q = (nrS l p.1, nrS l p.2) := by
  unfold formsM at h
  unfold nrS
  split at h
  · rename_i a b h1 h2
    rw [h1, h2]
    exact (Option.some.inj h).symm
  · cases h
theorem nrS_len {l : List Rl} (hd : Dn l) (s : Str) : (nrS l s).length ≤ s.length := by
  unfold nrS
  cases h : normM l s with
  | none => exact Nat.zero_le _
  | some p => exact normM_len hd (t := p.1) (m := p.2) h
theorem clashN_at {l ps : List Rl} {i : Nat} {p : Rl} {qs : List Rl} (h : ps = p :: qs) : clashN l ps i = match formsM l p with
    | none => none
    | some q => if q.1 = q.2 then clashN l qs (i + 1) else some (i : Int) := by rw [h]; rfl
end Go.Words
namespace Go.Proofs.YtoghnhbjdnjghaaGreat
open Go.W Go.Words Go.RowKit
set_option maxRecDepth 100000
attribute [local irreducible] WC WL WQ WS WH

set_option maxHeartbeats 1000000 in
theorem pairs_any (a : Option Addr) (cap : Nat) (l : List Rl) (hl : l.length ≤ 1000) (hm : Sm 1000 l) (w : World) (hs : Sl w a (rcs l)) :
    Ret Tryz.prog 44 [.slice a l.length cap] w fun u w' => ∃ pa pc, u = .slice pa (pairsM l).length pc ∧ Hp w w' [Rr u (pairsM l)] := by
  refine enter Tryz.func44 rfl rfl ⟨rfl, rfl⟩ rfl ?_
  repeat (first | refine WC.seq ?_ | refine WC.reg ?_ | refine WL.pure rfl rfl rfl ?_ | refine WL.nil ?_ | refine WC.skip ?_ | refine WC.block ?_ | refine WC.condT rfl ?_ | refine WC.condF rfl ?_ | refine WL.off rfl rfl rfl ?_ | refine WL.off0 rfl rfl ?_ | refine WC.exit ?_ | refine blk_hit ?_ | refine blk_miss rfl ?_ | refine WC.ret ?_)
  refine WC.loop (Nat × Option Addr × Nat) (fun (i, pa, pc) => [(0, .slice a l.length cap), (3, .slice pa ((List.range i).flatMap (pairsI l)).length pc), (8, .slice a l.length cap), (9, .int .i64 (l.length : Nat)), (10, .int .i64 (i : Nat))])
    (fun (i, pa, pc) w' => i ≤ l.length ∧ Hp w w' [Rr (.slice pa ((List.range i).flatMap (pairsI l)).length pc) ((List.range i).flatMap (pairsI l))]) (fun (i, _, _) => l.length - i) (0, none, 0) ⟨rfl, rfl, rfl, rfl, rfl, rfl⟩ ⟨Nat.zero_le _, (Hp.start w).nilrow _ _⟩ ?_
  rintro ⟨i, pa, pc⟩ w1 ⟨hi, hp1⟩
  have hol := fm_len (pairsI l) (fun k => Nat.le_trans (pairsI_len hm k) (Nat.mul_le_mul_right 2000 hl)) i
  have hol' : i * (1000 * 2000) ≤ 1000 * (1000 * 2000) := Nat.mul_le_mul_right _ (by omega)
  have hsucc := fm_succ (pairsI l) i
  obtain ⟨O, hO⟩ : ∃ O, (List.range i).flatMap (pairsI l) = O := ⟨_, rfl⟩
  rw [hO] at hp1 hol hsucc
  have hO2 := congrArg List.length hO
  refine WC.seq ?_
  repeat (first | refine WC.seq ?_ | refine WC.reg ?_ | refine WL.pure rfl rfl rfl ?_ | refine WL.nil ?_ | refine WC.skip ?_ | refine WC.block ?_ | refine WC.condT rfl ?_ | refine WC.condF rfl ?_ | refine WL.off rfl rfl rfl ?_ | refine WL.off0 rfl rfl ?_ | refine WC.exit ?_ | refine blk_hit ?_ | refine blk_miss rfl ?_ | refine WC.ret ?_)
  refine WC.cond rfl (fun hc => ?_) (fun hc => ?_)
  · have hi : i < l.length := by have := of_decide_eq_true hc; omega
    have step := wrap_succ hi (by omega)
    repeat (first | refine WC.seq ?_ | refine WC.reg ?_ | refine WL.pure rfl rfl rfl ?_ | refine WL.nil ?_ | refine WC.skip ?_ | refine WC.block ?_ | refine WC.condT rfl ?_ | refine WC.condF rfl ?_ | refine WL.off rfl rfl rfl ?_ | refine WL.off0 rfl rfl ?_ | refine WC.exit ?_ | refine blk_hit ?_ | refine blk_miss rfl ?_ | refine WC.ret ?_)
    refine WL.ixload2 rfl (fun _ => rfl) rfl rfl rfl rfl rfl rfl rfl hi rfl rfl (hs.hp hp1) hi ?_
    intro pp
    refine WL.alloc rfl rfl rfl ?_
    intro b5 w2 hb5
    have hp2 := hp1.new hb5
    repeat (first | refine WC.seq ?_ | refine WC.reg ?_ | refine WL.pure rfl rfl rfl ?_ | refine WL.nil ?_ | refine WC.skip ?_ | refine WC.block ?_ | refine WC.condT rfl ?_ | refine WC.condF rfl ?_ | refine WL.off rfl rfl rfl ?_ | refine WL.off0 rfl rfl ?_ | refine WC.exit ?_ | refine blk_hit ?_ | refine blk_miss rfl ?_ | refine WC.ret ?_)
    refine WL.storeN (vs := #[st l[i].1, st l[i].2]) (arr2 := #[st l[i].1, st l[i].2]) rfl rfl rfl rfl rfl (fun v hv => by
      simp only [List.mem_cons, List.not_mem_nil, or_false] at hv
      rcases hv with rfl | rfl <;> rfl) (hp2.obj 0 rfl) (Nat.le_refl 2) rfl (fun w3 hw3 => ?_)
    have hp3 : Hp w w3 [Rr (.slice pa O.length pc) (O ++ (List.range 0).flatMap (pairI l i)), Bx b5 l[i]] := by
      have := (hp2.set 0 rfl rfl hw3).swap
      rw [List.range_zero, List.flatMap_nil, List.append_nil]
      exact this
    clear hp2 hp1 hb5 hw3 w2 w1
    repeat (first | refine WC.seq ?_ | refine WC.reg ?_ | refine WL.pure rfl rfl rfl ?_ | refine WL.nil ?_ | refine WC.skip ?_ | refine WC.block ?_ | refine WC.condT rfl ?_ | refine WC.condF rfl ?_ | refine WL.off rfl rfl rfl ?_ | refine WL.off0 rfl rfl ?_ | refine WC.exit ?_ | refine blk_hit ?_ | refine blk_miss rfl ?_ | refine WC.ret ?_)
    refine WC.loop (Nat × Option Addr × Nat) (fun (k, pa, pc) => [(0, .slice a l.length cap), (3, .slice pa (O ++ (List.range k).flatMap (pairI l i)).length pc), (4, .int .i64 (i : Nat)), (5, .pointer (some ⟨b5, 0, none⟩)), (8, .slice a l.length cap), (9, .int .i64 (l.length : Nat)), (10, .int .i64 (i : Nat)), (15, .slice a l.length cap), (16, .int .i64 (l.length : Nat)), (17, .int .i64 (k : Nat))])
      (fun (k, pa, pc) w' => k ≤ l.length ∧ Hp w w' [Rr (.slice pa (O ++ (List.range k).flatMap (pairI l i)).length pc) (O ++ (List.range k).flatMap (pairI l i)), Bx b5 l[i]]) (fun (k, _, _) => l.length - k) (0, pa, pc) ⟨rfl, congrArg (fun z => some (Value.slice pa z pc)) (hO2.trans (by simp)), rfl, rfl, rfl, rfl, rfl, rfl, rfl, rfl, rfl⟩ ⟨Nat.zero_le _, by simpa using hp3⟩ ?_
    clear hp3 w3
    rintro ⟨k, pa, pc⟩ w3 ⟨hk, hp3⟩
    have hol2 := fm_len (pairI l i) (fun k => pairI_len hm i k) k
    have hol2' : k * (1000 + 1000) ≤ 1000 * 2000 := Nat.mul_le_mul_right _ (by omega)
    have hOl : (O ++ (List.range k).flatMap (pairI l i)).length ≤ 3000000000 := by rw [List.length_append]; omega
    repeat (first | refine WC.seq ?_ | refine WC.reg ?_ | refine WL.pure rfl rfl rfl ?_ | refine WL.nil ?_ | refine WC.skip ?_ | refine WC.block ?_ | refine WC.condT rfl ?_ | refine WC.condF rfl ?_ | refine WL.off rfl rfl rfl ?_ | refine WL.off0 rfl rfl ?_ | refine WC.exit ?_ | refine blk_hit ?_ | refine blk_miss rfl ?_ | refine WC.ret ?_)
    refine WC.cond rfl (fun hc => ?_) (fun hc => ?_)
    · have hk : k < l.length := by have := of_decide_eq_true hc; omega
      have stepk := wrap_succ hk (by omega)
      have hsk := fm_succ (pairI l i) k
      have hik : pairI l i k = overM l[i] l[k] (i == k) := by unfold pairI; rw [getD_get hi, getD_get hk]
      repeat (first | refine WC.seq ?_ | refine WC.reg ?_ | refine WL.pure rfl rfl rfl ?_ | refine WL.nil ?_ | refine WC.skip ?_ | refine WC.block ?_ | refine WC.condT rfl ?_ | refine WC.condF rfl ?_ | refine WL.off rfl rfl rfl ?_ | refine WL.off0 rfl rfl ?_ | refine WC.exit ?_ | refine blk_hit ?_ | refine blk_miss rfl ?_ | refine WC.ret ?_)
      refine WL.ixload2 rfl (fun _ => rfl) rfl rfl rfl rfl rfl rfl rfl hk rfl rfl (hs.hp hp3) hk ?_
      intro pp2
      refine WL.alloc rfl rfl rfl ?_
      intro b7 w4 hb7
      have hp4 := hp3.new hb7
      repeat (first | refine WC.seq ?_ | refine WC.reg ?_ | refine WL.pure rfl rfl rfl ?_ | refine WL.nil ?_ | refine WC.skip ?_ | refine WC.block ?_ | refine WC.condT rfl ?_ | refine WC.condF rfl ?_ | refine WL.off rfl rfl rfl ?_ | refine WL.off0 rfl rfl ?_ | refine WC.exit ?_ | refine blk_hit ?_ | refine blk_miss rfl ?_ | refine WC.ret ?_)
      refine WL.storeN (vs := #[st l[k].1, st l[k].2]) (arr2 := #[st l[k].1, st l[k].2]) rfl rfl rfl rfl rfl (fun v hv => by
        simp only [List.mem_cons, List.not_mem_nil, or_false] at hv
        rcases hv with rfl | rfl <;> rfl) (hp4.obj 0 rfl) (Nat.le_refl 2) rfl (fun w5 hw5 => ?_)
      have hp5 : Hp w w5 [Bx b7 l[k], Rr (.slice pa (O ++ (List.range k).flatMap (pairI l i)).length pc) (O ++ (List.range k).flatMap (pairI l i)), Bx b5 l[i]] := hp4.set 0 rfl rfl hw5
      repeat (first | refine WC.seq ?_ | refine WC.reg ?_ | refine WL.pure rfl rfl rfl ?_ | refine WL.nil ?_ | refine WC.skip ?_ | refine WC.block ?_ | refine WC.condT rfl ?_ | refine WC.condF rfl ?_ | refine WL.off rfl rfl rfl ?_ | refine WL.off0 rfl rfl ?_ | refine WC.exit ?_ | refine blk_hit ?_ | refine blk_miss rfl ?_ | refine WC.ret ?_)
      refine WL.loadN rfl rfl rfl rfl rfl rfl (Bx.all hp5 2 rfl) ?_
      refine WL.loadN rfl rfl rfl rfl rfl rfl (Bx.all hp5 0 rfl) ?_
      repeat (first | refine WC.seq ?_ | refine WC.reg ?_ | refine WL.pure rfl rfl rfl ?_ | refine WL.nil ?_ | refine WC.skip ?_ | refine WC.block ?_ | refine WC.condT rfl ?_ | refine WC.condF rfl ?_ | refine WL.off rfl rfl rfl ?_ | refine WL.off0 rfl rfl ?_ | refine WC.exit ?_ | refine blk_hit ?_ | refine blk_miss rfl ?_ | refine WC.ret ?_)
      have he : (((i : Nat) : Int) == ((k : Nat) : Int)) = (i == k) := by
        rw [Bool.eq_iff_iff, beq_iff_eq, beq_iff_eq]; omega
      refine WL.known (d := 27) (congrArg (fun z => some (Value.bool z)) he) ?_
      refine WL.call rfl rfl rfl rfl rfl ent71 (overlaps_any l[i] l[k] (i == k) (by have := hm.at_ hi; omega) (by have := hm.at_ hk; omega) w5) ?_
      rintro _ w6 ⟨qa, qc, rfl, hp6⟩
      rw [← hik] at hp6
      have hp6 := hp5.comb hp6
      have hln := pairI_len hm i k
      refine WL.append 2 hp6 rfl rfl rfl rfl rfl (by decide) rfl rfl rfl (news := rcs (pairI l i k)) (Sl.of_row (hp6.at 0 rfl)) (by rw [rcs_len, hik]; rfl) (rcs_cells _) (by rw [← hik]; unfold maxLen; omega) (by rw [← hik]; show ((O ++ (List.range k).flatMap (pairI l i)).length + (pairI l i k).length) * 32 ≤ _; omega) ?_
      intro pa' pc' w7 hp7 hg7
      have hlen : (O ++ (List.range (k + 1)).flatMap (pairI l i)).length = (O ++ (List.range k).flatMap (pairI l i)).length + (overM l[i] l[k] (i == k)).length := by rw [hsk, ← List.append_assoc, List.length_append, hik]
      have hp8 : Hp w w7 [Rr (.slice pa' (O ++ (List.range (k + 1)).flatMap (pairI l i)).length pc') (O ++ (List.range (k + 1)).flatMap (pairI l i)), Bx b5 l[i]] := by
        show Hp w w7 [.row _ 2 _ _ _, _]
        rw [hlen, hsk, ← List.append_assoc, rcs_app (O ++ _)]
        exact hp7.pick [2, 3] (by decide)
      repeat (first | refine WC.seq ?_ | refine WC.reg ?_ | refine WL.pure rfl rfl rfl ?_ | refine WL.nil ?_ | refine WC.skip ?_ | refine WC.block ?_ | refine WC.condT rfl ?_ | refine WC.condF rfl ?_ | refine WL.off rfl rfl rfl ?_ | refine WL.off0 rfl rfl ?_ | refine WC.exit ?_ | refine blk_hit ?_ | refine blk_miss rfl ?_ | refine WC.ret ?_)
      exact ⟨(k + 1, pa', pc'), by show l.length - (k + 1) < l.length - k; omega, ⟨rfl, congrArg (fun z => some (Value.slice pa' z pc')) hlen.symm, rfl, rfl, rfl, rfl, rfl, rfl, rfl, congrArg (fun z => some (Value.int .i64 z)) stepk, rfl⟩, hk, hp8⟩
    · have hk : k = l.length := by have := of_decide_eq_false hc; omega
      subst hk
      rw [← pairsI_eq, ← hsucc] at hp3
      have hlen : ((List.range (i + 1)).flatMap (pairsI l)).length = (O ++ (List.range l.length).flatMap (pairI l i)).length := by rw [hsucc, pairsI_eq]
      repeat (first | refine WC.seq ?_ | refine WC.reg ?_ | refine WL.pure rfl rfl rfl ?_ | refine WL.nil ?_ | refine WC.skip ?_ | refine WC.block ?_ | refine WC.condT rfl ?_ | refine WC.condF rfl ?_ | refine WL.off rfl rfl rfl ?_ | refine WL.off0 rfl rfl ?_ | refine WC.exit ?_ | refine blk_hit ?_ | refine blk_miss rfl ?_ | refine WC.ret ?_)
      exact ⟨(i + 1, pa, pc), by show l.length - (i + 1) < l.length - i; omega, ⟨rfl, congrArg (fun z => some (Value.slice pa z pc)) hlen.symm, rfl, rfl, congrArg (fun z => some (Value.int .i64 z)) step, rfl⟩, hi, hp3.pick [0] (by decide)⟩
  · have hi : i = l.length := by have := of_decide_eq_false hc; omega
    subst hi
    have hO3 : pairsM l = O := hO
    repeat (first | refine WC.seq ?_ | refine WC.reg ?_ | refine WL.pure rfl rfl rfl ?_ | refine WL.nil ?_ | refine WC.skip ?_ | refine WC.block ?_ | refine WC.condT rfl ?_ | refine WC.condF rfl ?_ | refine WL.off rfl rfl rfl ?_ | refine WL.off0 rfl rfl ?_ | refine WC.exit ?_ | refine blk_hit ?_ | refine blk_miss rfl ?_ | refine WC.ret ?_)
    refine Res.one rfl rfl rfl ⟨pa, pc, by rw [hO3, ← hO2], ?_⟩
    rw [hO3]
    have hp1 : Hp w w1 [Rr (.slice pa O.length pc) O] := hp1
    rw [← hO2] at hp1
    exact hp1
theorem forms_any (a : Option Addr) (cap : Nat) (l : List Rl) (p : Rl) (hlen : l.length ≤ 1000000) (hd : Dn l) (hl : p.1.length ≤ 1000000000 ∧ p.2.length ≤ 1000000000) (hm : Sm 1000000000 l) (w : World) (hs : Sl w a (rcs l)) :
    Ret Tryz.prog 52 [.slice a l.length cap, .agg #[st p.1, st p.2]] w fun u w' => u = formsV l p ∧ Hp w w' [] := by
  have hiso := formsM_iso l p
  refine enter Tryz.func52 rfl rfl ⟨rfl, rfl⟩ rfl ?_
  repeat (first | refine WC.seq ?_ | refine WC.reg ?_ | refine WL.pure rfl rfl rfl ?_ | refine WL.nil ?_ | refine WC.skip ?_ | refine WC.block ?_ | refine WC.condT rfl ?_ | refine WC.condF rfl ?_ | refine WL.off rfl rfl rfl ?_ | refine WL.off0 rfl rfl ?_ | refine WC.exit ?_ | refine blk_hit ?_ | refine blk_miss rfl ?_ | refine WC.ret ?_)
  refine WL.box rfl rfl rfl ?_
  intro b1 w1 hb1
  have hp1 := (Hp.start w).new hb1
  repeat (first | refine WC.seq ?_ | refine WC.reg ?_ | refine WL.pure rfl rfl rfl ?_ | refine WL.nil ?_ | refine WC.skip ?_ | refine WC.block ?_ | refine WC.condT rfl ?_ | refine WC.condF rfl ?_ | refine WL.off rfl rfl rfl ?_ | refine WL.off0 rfl rfl ?_ | refine WC.exit ?_ | refine blk_hit ?_ | refine blk_miss rfl ?_ | refine WC.ret ?_)
  refine WL.loadB rfl rfl rfl rfl rfl (hp1.obj 0 rfl) rfl ?_
  refine WL.call rfl rfl rfl rfl rfl ent35 (normal_any a cap l p.1 hlen hd hl.1 hm w1 (hs.hp hp1)) ?_
  rintro _ w2 ⟨rfl, hp2⟩
  have hp2 := hp1.comb hp2
  have e1 : norV (normM l p.1) = .tuple #[st (nrS l p.1), .int .i64 (((normM l p.1).elim 0 (·.2) : Nat) : Int), .bool (normM l p.1).isSome] := by
    unfold nrS
    cases normM l p.1 <;> rfl
  rw [e1]
  repeat (first | refine WC.seq ?_ | refine WC.reg ?_ | refine WL.pure rfl rfl rfl ?_ | refine WL.nil ?_ | refine WC.skip ?_ | refine WC.block ?_ | refine WC.condT rfl ?_ | refine WC.condF rfl ?_ | refine WL.off rfl rfl rfl ?_ | refine WL.off0 rfl rfl ?_ | refine WC.exit ?_ | refine blk_hit ?_ | refine blk_miss rfl ?_ | refine WC.ret ?_)
  refine WL.loadB rfl rfl rfl rfl rfl (hp2.obj 0 rfl) rfl ?_
  refine WL.call rfl rfl rfl rfl rfl ent35 (normal_any a cap l p.2 hlen hd hl.2 hm w2 (hs.hp hp2)) ?_
  rintro _ w3 ⟨rfl, hp3⟩
  have hp3 := hp2.nil'.over hp3
  have e2 : norV (normM l p.2) = .tuple #[st (nrS l p.2), .int .i64 (((normM l p.2).elim 0 (·.2) : Nat) : Int), .bool (normM l p.2).isSome] := by
    unfold nrS
    cases normM l p.2 <;> rfl
  rw [e2]
  repeat (first | refine WC.seq ?_ | refine WC.reg ?_ | refine WL.pure rfl rfl rfl ?_ | refine WL.nil ?_ | refine WC.skip ?_ | refine WC.block ?_ | refine WC.condT rfl ?_ | refine WC.condF rfl ?_ | refine WL.off rfl rfl rfl ?_ | refine WL.off0 rfl rfl ?_ | refine WC.exit ?_ | refine blk_hit ?_ | refine blk_miss rfl ?_ | refine WC.ret ?_)
  refine WL.split 32 rfl (fun h1 => ?_) (fun h1 => ?_)
  · rw [h1, Bool.true_and] at hiso
    repeat (first | refine WC.seq ?_ | refine WC.reg ?_ | refine WL.pure rfl rfl rfl ?_ | refine WL.nil ?_ | refine WC.skip ?_ | refine WC.block ?_ | refine WC.condT rfl ?_ | refine WC.condF rfl ?_ | refine WL.off rfl rfl rfl ?_ | refine WL.off0 rfl rfl ?_ | refine WC.exit ?_ | refine blk_hit ?_ | refine blk_miss rfl ?_ | refine WC.ret ?_)
    exact Res.three rfl rfl rfl rfl rfl ⟨by unfold formsV; rw [hiso], hp3⟩
  · rw [h1, Bool.false_and] at hiso
    repeat (first | refine WC.seq ?_ | refine WC.reg ?_ | refine WL.pure rfl rfl rfl ?_ | refine WL.nil ?_ | refine WC.skip ?_ | refine WC.block ?_ | refine WC.condT rfl ?_ | refine WC.condF rfl ?_ | refine WL.off rfl rfl rfl ?_ | refine WL.off0 rfl rfl ?_ | refine WC.exit ?_ | refine blk_hit ?_ | refine blk_miss rfl ?_ | refine WC.ret ?_)
    exact Res.three rfl rfl rfl rfl rfl ⟨by unfold formsV; rw [hiso], hp3⟩

def clashV : Option Int → Value
  | some n => .tuple #[.int .i64 n, .bool true]
  | none => .tuple #[.int .i64 0, .bool false]
set_option maxHeartbeats 1000000 in
theorem clash_any (a : Option Addr) (cap : Nat) (l : List Rl) (hl : l.length ≤ 1000) (hm : Sm 1000 l) (hd : Dn l) (w : World) (hs : Sl w a (rcs l)) :
    Ret Tryz.prog 45 [.slice a l.length cap] w fun u w' => u = clashV (clashM l) ∧ Hp w w' [] := by
  have hpl := pairsM_len hm
  have hpl2 : (pairsM l).length ≤ 2000000000 := by
    refine Nat.le_trans hpl ?_
    refine Nat.le_trans (Nat.mul_le_mul hl (Nat.mul_le_mul_right _ hl)) ?_
    decide
  have hps := pairsM_sm hm
  refine enter Tryz.func45 rfl rfl ⟨rfl, rfl⟩ rfl ?_
  repeat (first | refine WC.seq ?_ | refine WC.reg ?_ | refine WL.pure rfl rfl rfl ?_ | refine WL.nil ?_ | refine WC.skip ?_ | refine WC.block ?_ | refine WC.condT rfl ?_ | refine WC.condF rfl ?_ | refine WL.off rfl rfl rfl ?_ | refine WL.off0 rfl rfl ?_ | refine WC.exit ?_ | refine blk_hit ?_ | refine blk_miss rfl ?_ | refine WC.ret ?_)
  refine WL.call rfl rfl rfl rfl rfl ent44 (pairs_any a cap l hl hm w hs) ?_
  rintro _ w1 ⟨pa, pc, rfl, hp1⟩
  unfold clashM
  generalize pairsM l = ps at *
  repeat (first | refine WC.seq ?_ | refine WC.reg ?_ | refine WL.pure rfl rfl rfl ?_ | refine WL.nil ?_ | refine WC.skip ?_ | refine WC.block ?_ | refine WC.condT rfl ?_ | refine WC.condF rfl ?_ | refine WL.off rfl rfl rfl ?_ | refine WL.off0 rfl rfl ?_ | refine WC.exit ?_ | refine blk_hit ?_ | refine blk_miss rfl ?_ | refine WC.ret ?_)
  refine WC.loop Nat (fun i => [(0, .slice a l.length cap), (10, .slice pa ps.length pc), (11, .int .i64 (ps.length : Nat)), (12, .int .i64 (i : Nat))])
    (fun i w' => i ≤ ps.length ∧ clashN l ps 0 = clashN l (ps.drop i) i ∧ Hp w w' [Rr (.slice pa ps.length pc) ps]) (fun i => ps.length - i) 0 ⟨rfl, rfl, rfl, rfl, rfl⟩ ⟨Nat.zero_le _, rfl, hp1⟩ ?_
  clear hp1 w1
  rintro i w1 ⟨hi, hN, hp1⟩
  repeat (first | refine WC.seq ?_ | refine WC.reg ?_ | refine WL.pure rfl rfl rfl ?_ | refine WL.nil ?_ | refine WC.skip ?_ | refine WC.block ?_ | refine WC.condT rfl ?_ | refine WC.condF rfl ?_ | refine WL.off rfl rfl rfl ?_ | refine WL.off0 rfl rfl ?_ | refine WC.exit ?_ | refine blk_hit ?_ | refine blk_miss rfl ?_ | refine WC.ret ?_)
  refine WC.cond rfl (fun hc => ?_) (fun hc => ?_)
  · have hi : i < ps.length := by have := of_decide_eq_true hc; omega
    have step := wrap_succ hi (by omega)
    have hsz := hps.at_ hi
    rw [clashN_at (List.drop_eq_getElem_cons hi)] at hN
    repeat (first | refine WC.seq ?_ | refine WC.reg ?_ | refine WL.pure rfl rfl rfl ?_ | refine WL.nil ?_ | refine WC.skip ?_ | refine WC.block ?_ | refine WC.condT rfl ?_ | refine WC.condF rfl ?_ | refine WL.off rfl rfl rfl ?_ | refine WL.off0 rfl rfl ?_ | refine WC.exit ?_ | refine blk_hit ?_ | refine blk_miss rfl ?_ | refine WC.ret ?_)
    refine WL.ixload2 rfl (fun _ => rfl) rfl rfl rfl rfl rfl rfl rfl hi rfl rfl (Sl.of_row (hp1.at 0 rfl)) hi ?_
    intro pp
    refine WL.alloc rfl rfl rfl ?_
    intro b5 w2 hb5
    have hp2 := hp1.new hb5
    repeat (first | refine WC.seq ?_ | refine WC.reg ?_ | refine WL.pure rfl rfl rfl ?_ | refine WL.nil ?_ | refine WC.skip ?_ | refine WC.block ?_ | refine WC.condT rfl ?_ | refine WC.condF rfl ?_ | refine WL.off rfl rfl rfl ?_ | refine WL.off0 rfl rfl ?_ | refine WC.exit ?_ | refine blk_hit ?_ | refine blk_miss rfl ?_ | refine WC.ret ?_)
    refine WL.storeN (vs := #[st ps[i].1, st ps[i].2]) (arr2 := #[st ps[i].1, st ps[i].2]) rfl rfl rfl rfl rfl (fun v hv => by
      simp only [List.mem_cons, List.not_mem_nil, or_false] at hv
      rcases hv with rfl | rfl <;> rfl) (hp2.obj 0 rfl) (Nat.le_refl 2) rfl (fun w3 hw3 => ?_)
    have hp3 := hp2.set 0 rfl rfl hw3
    repeat (first | refine WC.seq ?_ | refine WC.reg ?_ | refine WL.pure rfl rfl rfl ?_ | refine WL.nil ?_ | refine WC.skip ?_ | refine WC.block ?_ | refine WC.condT rfl ?_ | refine WC.condF rfl ?_ | refine WL.off rfl rfl rfl ?_ | refine WL.off0 rfl rfl ?_ | refine WC.exit ?_ | refine blk_hit ?_ | refine blk_miss rfl ?_ | refine WC.ret ?_)
    refine WL.loadN (cs := [st ps[i].1, st ps[i].2]) rfl rfl rfl rfl rfl rfl (fun q v hq => by rw [Nat.zero_add]; exact cell_of_obj (hp3.obj 0 rfl) (by simpa using hq)) ?_
    refine WL.call rfl rfl rfl rfl rfl ent52 (forms_any a cap l ps[i] (by omega) hd (by omega) (hm.mono (by omega)) w3 (hs.hp hp3)) ?_
    rintro _ w4 ⟨rfl, hp4⟩
    have hp4 := hp3.tail.comb hp4
    unfold formsV
    cases hf : formsM l ps[i] with
    | none =>
      rw [hf] at hN
      repeat (first | refine WC.seq ?_ | refine WC.reg ?_ | refine WL.pure rfl rfl rfl ?_ | refine WL.nil ?_ | refine WC.skip ?_ | refine WC.block ?_ | refine WC.condT rfl ?_ | refine WC.condF rfl ?_ | refine WL.off rfl rfl rfl ?_ | refine WL.off0 rfl rfl ?_ | refine WC.exit ?_ | refine blk_hit ?_ | refine blk_miss rfl ?_ | refine WC.ret ?_)
      exact Res.two rfl rfl rfl rfl ⟨by rw [hN]; rfl, hp4.nil'⟩
    | some q =>
      have hq := formsM_some hf
      rw [hf, hq] at hN
      repeat (first | refine WC.seq ?_ | refine WC.reg ?_ | refine WL.pure rfl rfl rfl ?_ | refine WL.nil ?_ | refine WC.skip ?_ | refine WC.block ?_ | refine WC.condT rfl ?_ | refine WC.condF rfl ?_ | refine WL.off rfl rfl rfl ?_ | refine WL.off0 rfl rfl ?_ | refine WC.exit ?_ | refine blk_hit ?_ | refine blk_miss rfl ?_ | refine WC.ret ?_)
      refine WL.sCmp rfl rfl rfl rfl rfl ?_
      repeat (first | refine WC.seq ?_ | refine WC.reg ?_ | refine WL.pure rfl rfl rfl ?_ | refine WL.nil ?_ | refine WC.skip ?_ | refine WC.block ?_ | refine WC.condT rfl ?_ | refine WC.condF rfl ?_ | refine WL.off rfl rfl rfl ?_ | refine WL.off0 rfl rfl ?_ | refine WC.exit ?_ | refine blk_hit ?_ | refine blk_miss rfl ?_ | refine WC.ret ?_)
      refine WC.cond rfl (fun h1 => ?_) (fun h1 => ?_)
      · have h1 : ¬ nrS l ps[i].1 = nrS l ps[i].2 := by simpa using h1
        simp only [if_neg h1] at hN
        repeat (first | refine WC.seq ?_ | refine WC.reg ?_ | refine WL.pure rfl rfl rfl ?_ | refine WL.nil ?_ | refine WC.skip ?_ | refine WC.block ?_ | refine WC.condT rfl ?_ | refine WC.condF rfl ?_ | refine WL.off rfl rfl rfl ?_ | refine WL.off0 rfl rfl ?_ | refine WC.exit ?_ | refine blk_hit ?_ | refine blk_miss rfl ?_ | refine WC.ret ?_)
        exact Res.two rfl rfl rfl rfl ⟨by rw [hN]; rfl, hp4.nil'⟩
      · have h1 : nrS l ps[i].1 = nrS l ps[i].2 := by simpa using h1
        simp only [if_pos h1] at hN
        repeat (first | refine WC.seq ?_ | refine WC.reg ?_ | refine WL.pure rfl rfl rfl ?_ | refine WL.nil ?_ | refine WC.skip ?_ | refine WC.block ?_ | refine WC.condT rfl ?_ | refine WC.condF rfl ?_ | refine WL.off rfl rfl rfl ?_ | refine WL.off0 rfl rfl ?_ | refine WC.exit ?_ | refine blk_hit ?_ | refine blk_miss rfl ?_ | refine WC.ret ?_)
        exact ⟨i + 1, by show ps.length - (i + 1) < ps.length - i; omega, ⟨rfl, rfl, rfl, congrArg (fun z => some (Value.int .i64 z)) step, rfl⟩, hi, hN, hp4⟩
  · have hi : ps.length ≤ i := by have := of_decide_eq_false hc; omega
    rw [List.drop_of_length_le hi] at hN
    repeat (first | refine WC.seq ?_ | refine WC.reg ?_ | refine WL.pure rfl rfl rfl ?_ | refine WL.nil ?_ | refine WC.skip ?_ | refine WC.block ?_ | refine WC.condT rfl ?_ | refine WC.condF rfl ?_ | refine WL.off rfl rfl rfl ?_ | refine WL.off0 rfl rfl ?_ | refine WC.exit ?_ | refine blk_hit ?_ | refine blk_miss rfl ?_ | refine WC.ret ?_)
    exact Res.two rfl rfl rfl rfl ⟨by rw [hN]; rfl, hp1.nil'⟩
def ClashV (l : List Rl) : Value := if sysB l then match clashM l with
    | some n => .tuple #[.int .i64 n, .int .i64 0]
    | none => .tuple #[.int .i64 0, .int .i64 5]
  else .tuple #[.int .i64 0, .int .i64 2]
theorem Clash_any (a : Option Addr) (cap : Nat) (l : List Rl) (hm : Sm 9223372036854775807 l) (w : World) (hs : Sl w a (rcs l)) :
    Ret Tryz.prog 21 [.slice a l.length cap] w fun u w' => u = ClashV l ∧ Hp w w' [] := by
  refine enter Tryz.func21 rfl rfl ⟨rfl, rfl⟩ rfl ?_
  repeat (first | refine WC.seq ?_ | refine WC.reg ?_ | refine WL.pure rfl rfl rfl ?_ | refine WL.nil ?_ | refine WC.skip ?_ | refine WC.block ?_ | refine WC.condT rfl ?_ | refine WC.condF rfl ?_ | refine WL.off rfl rfl rfl ?_ | refine WL.off0 rfl rfl ?_ | refine WC.exit ?_ | refine blk_hit ?_ | refine blk_miss rfl ?_ | refine WC.ret ?_)
  refine WL.call rfl rfl rfl rfl rfl ent33 (isSystem_any a cap l hm w hs) ?_
  rintro _ w1 ⟨rfl, hp1⟩
  repeat (first | refine WC.seq ?_ | refine WC.reg ?_ | refine WL.pure rfl rfl rfl ?_ | refine WL.nil ?_ | refine WC.skip ?_ | refine WC.block ?_ | refine WC.condT rfl ?_ | refine WC.condF rfl ?_ | refine WL.off rfl rfl rfl ?_ | refine WL.off0 rfl rfl ?_ | refine WC.exit ?_ | refine blk_hit ?_ | refine blk_miss rfl ?_ | refine WC.ret ?_)
  refine WC.cond rfl (fun h1 => ?_) (fun h1 => ?_)
  · have h1 : sysB l = false := by simpa using h1
    repeat (first | refine WC.seq ?_ | refine WC.reg ?_ | refine WL.pure rfl rfl rfl ?_ | refine WL.nil ?_ | refine WC.skip ?_ | refine WC.block ?_ | refine WC.condT rfl ?_ | refine WC.condF rfl ?_ | refine WL.off rfl rfl rfl ?_ | refine WL.off0 rfl rfl ?_ | refine WC.exit ?_ | refine blk_hit ?_ | refine blk_miss rfl ?_ | refine WC.ret ?_)
    exact Res.two rfl rfl rfl rfl ⟨by unfold ClashV; rw [h1]; rfl, hp1⟩
  · have h1 : sysB l = true := by simpa using h1
    have hln : l.length ≤ 64 := of_decide_eq_true (Bool.and_eq_true_iff.1 h1).1
    have hm2 : Sm 1000 l := fun r hr => ⟨by have := (sys_side h1 r hr).1; omega, by have := (sys_side h1 r hr).2; omega⟩
    repeat (first | refine WC.seq ?_ | refine WC.reg ?_ | refine WL.pure rfl rfl rfl ?_ | refine WL.nil ?_ | refine WC.skip ?_ | refine WC.block ?_ | refine WC.condT rfl ?_ | refine WC.condF rfl ?_ | refine WL.off rfl rfl rfl ?_ | refine WL.off0 rfl rfl ?_ | refine WC.exit ?_ | refine blk_hit ?_ | refine blk_miss rfl ?_ | refine WC.ret ?_)
    refine WL.call rfl rfl rfl rfl rfl ent45 (clash_any a cap l (by omega) hm2 (sys_dn h1) w1 (hs.hp hp1)) ?_
    rintro _ w2 ⟨rfl, hp2⟩
    cases hn : clashM l with
    | none =>
      repeat (first | refine WC.seq ?_ | refine WC.reg ?_ | refine WL.pure rfl rfl rfl ?_ | refine WL.nil ?_ | refine WC.skip ?_ | refine WC.block ?_ | refine WC.condT rfl ?_ | refine WC.condF rfl ?_ | refine WL.off rfl rfl rfl ?_ | refine WL.off0 rfl rfl ?_ | refine WC.exit ?_ | refine blk_hit ?_ | refine blk_miss rfl ?_ | refine WC.ret ?_)
      exact Res.two rfl rfl rfl rfl ⟨by unfold ClashV; rw [h1, hn]; rfl, hp1.over hp2⟩
    | some n =>
      repeat (first | refine WC.seq ?_ | refine WC.reg ?_ | refine WL.pure rfl rfl rfl ?_ | refine WL.nil ?_ | refine WC.skip ?_ | refine WC.block ?_ | refine WC.condT rfl ?_ | refine WC.condF rfl ?_ | refine WL.off rfl rfl rfl ?_ | refine WL.off0 rfl rfl ?_ | refine WC.exit ?_ | refine blk_hit ?_ | refine blk_miss rfl ?_ | refine WC.ret ?_)
      exact Res.two rfl rfl rfl rfl ⟨by unfold ClashV; rw [h1, hn]; rfl, hp1.over hp2⟩

theorem directed_any (x y : Str) (w : World) : Ret Tryz.prog 68 [st x, st y] w fun u w' => u = .agg #[st (dirM x y).1, st (dirM x y).2] ∧ Hp w w' [] := by
  refine enter Tryz.func68 rfl rfl ⟨rfl, rfl⟩ rfl ?_
  repeat (first | refine WC.seq ?_ | refine WC.reg ?_ | refine WL.pure rfl rfl rfl ?_ | refine WL.nil ?_ | refine WC.skip ?_ | refine WC.block ?_ | refine WC.condT rfl ?_ | refine WC.condF rfl ?_ | refine WL.off rfl rfl rfl ?_ | refine WL.off0 rfl rfl ?_ | refine WC.exit ?_ | refine blk_hit ?_ | refine blk_miss rfl ?_ | refine WC.ret ?_)
  refine WL.alloc rfl rfl rfl ?_
  intro b1 w1 hb1
  have hp1 := (Hp.start w).new hb1
  repeat (first | refine WC.seq ?_ | refine WC.reg ?_ | refine WL.pure rfl rfl rfl ?_ | refine WL.nil ?_ | refine WC.skip ?_ | refine WC.block ?_ | refine WC.condT rfl ?_ | refine WC.condF rfl ?_ | refine WL.off rfl rfl rfl ?_ | refine WL.off0 rfl rfl ?_ | refine WC.exit ?_ | refine blk_hit ?_ | refine blk_miss rfl ?_ | refine WC.ret ?_)
  refine WL.call rfl rfl rfl rfl rfl ent62 (order_any x y w1) ?_
  rintro _ w2 ⟨rfl, hp2⟩
  have hp2 := hp1.comb hp2
  repeat (first | refine WC.seq ?_ | refine WC.reg ?_ | refine WL.pure rfl rfl rfl ?_ | refine WL.nil ?_ | refine WC.skip ?_ | refine WC.block ?_ | refine WC.condT rfl ?_ | refine WC.condF rfl ?_ | refine WL.off rfl rfl rfl ?_ | refine WL.off0 rfl rfl ?_ | refine WC.exit ?_ | refine blk_hit ?_ | refine blk_miss rfl ?_ | refine WC.ret ?_)
  refine WC.cond rfl (fun h1 => ?_) (fun h1 => ?_)
  · have h1 : ordS x y < 0 := of_decide_eq_true h1
    have hd : dirM x y = (y, x) := by unfold dirM; rw [if_pos h1]
    repeat (first | refine WC.seq ?_ | refine WC.reg ?_ | refine WL.pure rfl rfl rfl ?_ | refine WL.nil ?_ | refine WC.skip ?_ | refine WC.block ?_ | refine WC.condT rfl ?_ | refine WC.condF rfl ?_ | refine WL.off rfl rfl rfl ?_ | refine WL.off0 rfl rfl ?_ | refine WC.exit ?_ | refine blk_hit ?_ | refine blk_miss rfl ?_ | refine WC.ret ?_)
    refine WL.buildT rfl rfl rfl rfl rfl rfl ?_
    repeat (first | refine WC.seq ?_ | refine WC.reg ?_ | refine WL.pure rfl rfl rfl ?_ | refine WL.nil ?_ | refine WC.skip ?_ | refine WC.block ?_ | refine WC.condT rfl ?_ | refine WC.condF rfl ?_ | refine WL.off rfl rfl rfl ?_ | refine WL.off0 rfl rfl ?_ | refine WC.exit ?_ | refine blk_hit ?_ | refine blk_miss rfl ?_ | refine WC.ret ?_)
    refine WL.storeN (vs := #[st y, st x]) (arr2 := #[st y, st x]) rfl rfl rfl rfl rfl (fun v hv => by
      simp only [List.mem_cons, List.not_mem_nil, or_false] at hv
      rcases hv with rfl | rfl <;> rfl) (hp2.obj 0 rfl) (Nat.le_refl 2) rfl (fun w3 hw3 => ?_)
    have hp3 := hp2.set 0 rfl rfl hw3
    repeat (first | refine WC.seq ?_ | refine WC.reg ?_ | refine WL.pure rfl rfl rfl ?_ | refine WL.nil ?_ | refine WC.skip ?_ | refine WC.block ?_ | refine WC.condT rfl ?_ | refine WC.condF rfl ?_ | refine WL.off rfl rfl rfl ?_ | refine WL.off0 rfl rfl ?_ | refine WC.exit ?_ | refine blk_hit ?_ | refine blk_miss rfl ?_ | refine WC.ret ?_)
    exact Res.cell rfl rfl rfl rfl rfl rfl (hp3.obj 0 rfl) ⟨by rw [hd], hp3.nil'⟩
  · have h1 : ¬ ordS x y < 0 := of_decide_eq_false h1
    have hd : dirM x y = (x, y) := by unfold dirM; rw [if_neg h1]
    repeat (first | refine WC.seq ?_ | refine WC.reg ?_ | refine WL.pure rfl rfl rfl ?_ | refine WL.nil ?_ | refine WC.skip ?_ | refine WC.block ?_ | refine WC.condT rfl ?_ | refine WC.condF rfl ?_ | refine WL.off rfl rfl rfl ?_ | refine WL.off0 rfl rfl ?_ | refine WC.exit ?_ | refine blk_hit ?_ | refine blk_miss rfl ?_ | refine WC.ret ?_)
    refine WL.buildT rfl rfl rfl rfl rfl rfl ?_
    repeat (first | refine WC.seq ?_ | refine WC.reg ?_ | refine WL.pure rfl rfl rfl ?_ | refine WL.nil ?_ | refine WC.skip ?_ | refine WC.block ?_ | refine WC.condT rfl ?_ | refine WC.condF rfl ?_ | refine WL.off rfl rfl rfl ?_ | refine WL.off0 rfl rfl ?_ | refine WC.exit ?_ | refine blk_hit ?_ | refine blk_miss rfl ?_ | refine WC.ret ?_)
    refine WL.storeN (vs := #[st x, st y]) (arr2 := #[st x, st y]) rfl rfl rfl rfl rfl (fun v hv => by
      simp only [List.mem_cons, List.not_mem_nil, or_false] at hv
      rcases hv with rfl | rfl <;> rfl) (hp2.obj 0 rfl) (Nat.le_refl 2) rfl (fun w3 hw3 => ?_)
    have hp3 := hp2.set 0 rfl rfl hw3
    repeat (first | refine WC.seq ?_ | refine WC.reg ?_ | refine WL.pure rfl rfl rfl ?_ | refine WL.nil ?_ | refine WC.skip ?_ | refine WC.block ?_ | refine WC.condT rfl ?_ | refine WC.condF rfl ?_ | refine WL.off rfl rfl rfl ?_ | refine WL.off0 rfl rfl ?_ | refine WC.exit ?_ | refine blk_hit ?_ | refine blk_miss rfl ?_ | refine WC.ret ?_)
    exact Res.cell rfl rfl rfl rfl rfl rfl (hp3.obj 0 rfl) ⟨by rw [hd], hp3.nil'⟩
theorem byLeft_any (x y : Rl) (w : World) : Ret Tryz.prog 74 [.agg #[st x.1, st x.2], .agg #[st y.1, st y.2]] w fun u w' => u = .int .i64 (ordR x y) ∧ Hp w w' [] := by
  refine enter Tryz.func74 rfl rfl ⟨rfl, rfl⟩ rfl ?_
  repeat (first | refine WC.seq ?_ | refine WC.reg ?_ | refine WL.pure rfl rfl rfl ?_ | refine WL.nil ?_ | refine WC.skip ?_ | refine WC.block ?_ | refine WC.condT rfl ?_ | refine WC.condF rfl ?_ | refine WL.off rfl rfl rfl ?_ | refine WL.off0 rfl rfl ?_ | refine WC.exit ?_ | refine blk_hit ?_ | refine blk_miss rfl ?_ | refine WC.ret ?_)
  refine WL.box rfl rfl rfl ?_
  intro b1 w1 hb1
  have hp1 := (Hp.start w).new hb1
  refine WL.box rfl rfl rfl ?_
  intro b2 w2 hb2
  have hp2 : Hp w w2 [Bx b2 y, Bx b1 x] := hp1.new hb2
  repeat (first | refine WC.seq ?_ | refine WC.reg ?_ | refine WL.pure rfl rfl rfl ?_ | refine WL.nil ?_ | refine WC.skip ?_ | refine WC.block ?_ | refine WC.condT rfl ?_ | refine WC.condF rfl ?_ | refine WL.off rfl rfl rfl ?_ | refine WL.off0 rfl rfl ?_ | refine WC.exit ?_ | refine blk_hit ?_ | refine blk_miss rfl ?_ | refine WC.ret ?_)
  refine WC.regH (fun w' => Hp w w' [Bx b2 y, Bx b1 x]) mixed (by kernel_rfl) (fun w3 hw3 hh3 => ?_)
  have hp3 := hp2.keep hw3
  refine WH.pure 0 (by kernel_rfl) rfl (by kernel_rfl) rfl rfl rfl (hp3) ?_
  refine WH.load 1 (by kernel_rfl) rfl (by kernel_rfl) rfl rfl rfl rfl rfl (fun w' h => cell_of_obj (j := 0) (h.obj 1 rfl) rfl) hp3 ?_
  refine WH.pure 2 (by kernel_rfl) rfl (by kernel_rfl) rfl rfl rfl (hp3) ?_
  refine WH.load 3 (by kernel_rfl) rfl (by kernel_rfl) rfl rfl rfl rfl rfl (fun w' h => cell_of_obj (j := 0) (h.obj 0 rfl) rfl) hp3 ?_
  refine WH.pure 5 (by kernel_rfl) rfl (by kernel_rfl) rfl rfl rfl (hp3) ?_
  refine WH.load 6 (by kernel_rfl) rfl (by kernel_rfl) rfl rfl rfl rfl rfl (fun w' h => cell_of_obj (j := 1) (h.obj 1 rfl) rfl) hp3 ?_
  refine WH.pure 7 (by kernel_rfl) rfl (by kernel_rfl) rfl rfl rfl (hp3) ?_
  refine WH.load 8 (by kernel_rfl) rfl (by kernel_rfl) rfl rfl rfl rfl rfl (fun w' h => cell_of_obj (j := 1) (h.obj 0 rfl) rfl) hp3 ?_
  refine WH.one 4 rfl (by kernel_rfl) ?_
  refine WL.call rfl rfl rfl rfl rfl ent62 (order_any x.1 y.1 w3) ?_
  rintro _ w4 ⟨rfl, hp4⟩
  have hp4 := hp3.comb hp4
  refine WL.nil ⟨hp4, ?_⟩
  refine WH.one 9 rfl (by kernel_rfl) ?_
  refine WL.call rfl rfl rfl rfl rfl ent62 (order_any x.2 y.2 w4) ?_
  rintro _ w5 ⟨rfl, hp5⟩
  have hp5 := hp4.comb hp5
  refine WL.nil ⟨hp5, ?_⟩
  refine WH.one 10 rfl (by kernel_rfl) ?_
  refine WL.buildS (cs := [.int .i64 (ordS x.1 y.1), .int .i64 (ordS x.2 y.2)]) rfl rfl rfl rfl rfl rfl rfl rfl rfl ?_
  intro b6 w6 hb6
  have hp6 := hp5.new hb6
  refine WL.nil ⟨hp6.tail, ?_⟩
  refine WH.one 11 rfl (by kernel_rfl) ?_
  refine WL.callP rfl rfl rfl rfl rfl ent86 (Or_any _ 2 _ _ w6 (Sl.of_obj (hp6.obj 0 rfl) (fun q u hq => by simpa using hq))) ?_
  refine WL.nil ⟨hp6.tail, ?_⟩
  refine WH.pure 12 (by kernel_rfl) rfl (by kernel_rfl) rfl rfl rfl hp6.tail ?_
  refine WH.done (by kernel_rfl) ?_
  repeat (first | refine WC.seq ?_ | refine WC.reg ?_ | refine WL.pure rfl rfl rfl ?_ | refine WL.nil ?_ | refine WC.skip ?_ | refine WC.block ?_ | refine WC.condT rfl ?_ | refine WC.condF rfl ?_ | refine WL.off rfl rfl rfl ?_ | refine WL.off0 rfl rfl ?_ | refine WC.exit ?_ | refine blk_hit ?_ | refine blk_miss rfl ?_ | refine WC.ret ?_)
  exact Res.one rfl rfl rfl ⟨rfl, hp6.nil'⟩
end Go.Proofs.YtoghnhbjdnjghaaGreat
