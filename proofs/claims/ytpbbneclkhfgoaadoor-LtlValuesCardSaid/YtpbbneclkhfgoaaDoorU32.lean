/- ltl, thirty-second: the reference's Tokens. -/
import Derived.Test.YtpbbneclkhfgoaaDoorU2
namespace Go.Proofs.YtpbbneclkhfgoaaDoor
open Go.W Go.Ltl Go.RowKit
set_option maxRecDepth 100000
attribute [local irreducible] WC WL WQ WS WH

theorem Rs_snoc (a : Option Addr) (c : Nat) (l : List Str) (x : Str) : Rs (.slice a (l ++ [x]).length c) (l ++ [x]) = .row 9 1 (.slice a (l.length + 1) c) (l.length + 1) (l.map st ++ [st x]) := by
  unfold Rs; rw [List.length_append, List.map_append]; rfl
theorem u8_ne {c : UInt8} {n : Nat} (hn : n < 256) (h : c ≠ UInt8.ofNat n) : (((c.toNat : Nat) : Int) != ((n : Nat) : Int)) = true := by
  rw [bne_iff_ne]; exact fun e => h ((u8_iff c n hn).1 e)
theorem u8_eq {c : UInt8} {n : Nat} (hn : n < 256) (h : (((c.toNat : Nat) : Int) != ((n : Nat) : Int)) = false) : c = UInt8.ofNat n := by
  have : ¬ (((c.toNat : Nat) : Int) ≠ ((n : Nat) : Int)) := fun e => by rw [← bne_iff_ne] at e; rw [h] at e; cases e
  exact (u8_iff c n hn).1 (Classical.not_not.1 this)
def sepU (u : UInt8) : Prop := u = 40 ∨ u = 41 ∨ u = 32 ∨ u = 10
theorem Tokens_any (s : Str) (hs : s.length ≤ 1000) (w : World) :
    Ret Tryd.prog 50 [st s] w fun v w' => ∃ a c, v = .slice a (tokM s).length c ∧ Hp w w' [Rs (.slice a (tokM s).length c) (tokM s)] := by
  refine enter Tryd.func50 rfl rfl ⟨rfl, rfl⟩ rfl ?_
  repeat (first | refine WC.seq ?_ | refine WC.reg ?_ | refine WL.pure rfl rfl rfl ?_ | refine WL.nil ?_ | refine WC.skip ?_ | refine WC.block ?_ | refine WC.condT rfl ?_ | refine WC.condF rfl ?_ | refine WL.off rfl rfl rfl ?_ | refine WL.off0 rfl rfl ?_ | refine WC.exit ?_ | refine blk_hit ?_ | refine blk_miss rfl ?_ | refine WC.ret ?_)
  refine WC.loop (Nat × Nat × Option Addr × Nat × List Str) (fun (i, q, a, c, l) => [(0, st s), (3, .slice a l.length c), (4, .int .i64 (q : Nat)), (5, .int .i64 (i : Nat))])
    (fun (i, q, a, c, l) w' => ((i ≤ s.length ∧ q ≤ i ∧ tokM s = l ++ tokN (s.drop i) ((s.drop q).take (i - q))) ∨ (i = s.length + 1 ∧ tokM s = l)) ∧ l.length ≤ 2 * i ∧ Hp w w' [Rs (.slice a l.length c) l]) (fun (i, _) => s.length + 1 - i) (0, 0, none, 0, []) ⟨rfl, rfl, rfl, rfl, rfl⟩
    ⟨.inl ⟨Nat.zero_le _, Nat.le_refl _, rfl⟩, Nat.le_refl _, (Hp.start w).nilrow _ _⟩ ?_
  rintro ⟨i, q, a, c, l⟩ w1 ⟨hinv, hll, hp⟩
  replace hinv : (i ≤ s.length ∧ q ≤ i ∧ tokM s = l ++ tokN (s.drop i) ((s.drop q).take (i - q))) ∨ (i = s.length + 1 ∧ tokM s = l) := hinv
  replace hll : l.length ≤ 2 * i := hll
  replace hp : Hp w w1 [Rs (.slice a l.length c) l] := hp
  repeat (first | refine WC.seq ?_ | refine WC.reg ?_ | refine WL.pure rfl rfl rfl ?_ | refine WL.nil ?_ | refine WC.skip ?_ | refine WC.block ?_ | refine WC.condT rfl ?_ | refine WC.condF rfl ?_ | refine WL.off rfl rfl rfl ?_ | refine WL.off0 rfl rfl ?_ | refine WC.exit ?_ | refine blk_hit ?_ | refine blk_miss rfl ?_ | refine WC.ret ?_)
  repeat (first | refine WC.seq ?_ | refine WC.reg ?_ | refine WL.pure rfl rfl rfl ?_ | refine WL.nil ?_ | refine WC.skip ?_ | refine WC.block ?_ | refine WC.condT rfl ?_ | refine WC.condF rfl ?_ | refine WL.off rfl rfl rfl ?_ | refine WL.off0 rfl rfl ?_ | refine WC.exit ?_ | refine blk_hit ?_ | refine blk_miss rfl ?_ | refine WC.ret ?_)
  refine WC.cond rfl (fun hc => ?_) (fun hc => ?_)
  · have hi : i ≤ s.length := by have h : ((i : Nat) : Int) ≤ ((s.length : Nat) : Int) := of_decide_eq_true hc; omega
    obtain ⟨_, hq, hinv⟩ := hinv.resolve_right (fun h => by omega)
    have step := wrap_succ (i := i) (n := i + 1) (by omega) (by omega)
    refine WC.skip ?_
    refine WC.seq ?_
    refine WC.mid (Nat × Option Addr × Nat × List Str) (fun (q, a, c, l) => [(0, st s), (3, .slice a l.length c), (4, .int .i64 (q : Nat)), (5, .int .i64 (i : Nat))])
      (fun (q, a, c, l) w' => ((i + 1 ≤ s.length ∧ q ≤ i + 1 ∧ tokM s = l ++ tokN (s.drop (i + 1)) ((s.drop q).take (i + 1 - q))) ∨ (i + 1 = s.length + 1 ∧ tokM s = l)) ∧ l.length ≤ 2 * (i + 1) ∧ Hp w w' [Rs (.slice a l.length c) l]) ?_ ?_
    · refine WC.block ?_
      refine WC.seq ?_
      refine WC.mid Unit (fun _ => [(0, st s), (3, .slice a l.length c), (4, .int .i64 (q : Nat)), (5, .int .i64 (i : Nat))]) (fun _ w' => (∀ h : i < s.length, sepU s[i]) ∧ w' = w1) ?_ ?_
      · repeat (first | refine WC.seq ?_ | refine WC.reg ?_ | refine WL.pure rfl rfl rfl ?_ | refine WL.nil ?_ | refine WC.skip ?_ | refine WC.block ?_ | refine WC.condT rfl ?_ | refine WC.condF rfl ?_ | refine WL.off rfl rfl rfl ?_ | refine WL.off0 rfl rfl ?_ | refine WC.exit ?_ | refine blk_hit ?_ | refine blk_miss rfl ?_ | refine WC.ret ?_)
        repeat (first | refine WC.seq ?_ | refine WC.reg ?_ | refine WL.pure rfl rfl rfl ?_ | refine WL.nil ?_ | refine WC.skip ?_ | refine WC.block ?_ | refine WC.condT rfl ?_ | refine WC.condF rfl ?_ | refine WL.off rfl rfl rfl ?_ | refine WL.off0 rfl rfl ?_ | refine WC.exit ?_ | refine blk_hit ?_ | refine blk_miss rfl ?_ | refine WC.ret ?_)
        refine WL.split 16 rfl (fun c1 => ?_) (fun c1 => ?_)
        · have hi : i < s.length := by have h : ((i : Nat) : Int) < ((s.length : Nat) : Int) := of_decide_eq_true c1; omega
          have hd : s.drop i = s[i] :: s.drop (i + 1) := List.drop_eq_getElem_cons hi
          have hgo : ¬ sepU s[i] → tokM s = l ++ tokN (s.drop (i + 1)) ((s.drop q).take (i + 1 - q)) := by
            intro hn
            rw [hinv, hd, tokN_go _ _ (fun h => hn (by exact h.elim (fun h => .inr (.inr (.inl h))) (fun h => .inr (.inr (.inr h))))) (fun h => hn (by exact h.elim (fun h => .inl h) (fun h => .inr (.inl h))))]
            congr 2
            rw [show i + 1 - q = (i - q) + 1 from by omega, List.take_succ_eq_append_getElem (by rw [List.length_drop]; omega), List.getElem_drop]
            congr 3
            omega
          repeat (first | refine WC.seq ?_ | refine WC.reg ?_ | refine WL.pure rfl rfl rfl ?_ | refine WL.nil ?_ | refine WC.skip ?_ | refine WC.block ?_ | refine WC.condT rfl ?_ | refine WC.condF rfl ?_ | refine WL.off rfl rfl rfl ?_ | refine WL.off0 rfl rfl ?_ | refine WC.exit ?_ | refine blk_hit ?_ | refine blk_miss rfl ?_ | refine WC.ret ?_)
          refine WL.sAt rfl rfl rfl rfl rfl hi ?_
          repeat (first | refine WC.seq ?_ | refine WC.reg ?_ | refine WL.pure rfl rfl rfl ?_ | refine WL.nil ?_ | refine WC.skip ?_ | refine WC.block ?_ | refine WC.condT rfl ?_ | refine WC.condF rfl ?_ | refine WL.off rfl rfl rfl ?_ | refine WL.off0 rfl rfl ?_ | refine WC.exit ?_ | refine blk_hit ?_ | refine blk_miss rfl ?_ | refine WC.ret ?_)
          refine WL.split 22 rfl (fun c2 => ?_) (fun c2 => ?_)
          rotate_left
          · have h2 : s[i] = 40 := u8_eq (n := 40) (by decide) c2
            repeat (first | refine WC.seq ?_ | refine WC.reg ?_ | refine WL.pure rfl rfl rfl ?_ | refine WL.nil ?_ | refine WC.skip ?_ | refine WC.block ?_ | refine WC.condT rfl ?_ | refine WC.condF rfl ?_ | refine WL.off rfl rfl rfl ?_ | refine WL.off0 rfl rfl ?_ | refine WC.exit ?_ | refine blk_hit ?_ | refine blk_miss rfl ?_ | refine WC.ret ?_)
            exact ⟨(), ⟨rfl, rfl, rfl, rfl, rfl⟩, fun _ => .inl h2, rfl⟩
          repeat (first | refine WC.seq ?_ | refine WC.reg ?_ | refine WL.pure rfl rfl rfl ?_ | refine WL.nil ?_ | refine WC.skip ?_ | refine WC.block ?_ | refine WC.condT rfl ?_ | refine WC.condF rfl ?_ | refine WL.off rfl rfl rfl ?_ | refine WL.off0 rfl rfl ?_ | refine WC.exit ?_ | refine blk_hit ?_ | refine blk_miss rfl ?_ | refine WC.ret ?_)
          refine WL.sAt rfl rfl rfl rfl rfl hi ?_
          repeat (first | refine WC.seq ?_ | refine WC.reg ?_ | refine WL.pure rfl rfl rfl ?_ | refine WL.nil ?_ | refine WC.skip ?_ | refine WC.block ?_ | refine WC.condT rfl ?_ | refine WC.condF rfl ?_ | refine WL.off rfl rfl rfl ?_ | refine WL.off0 rfl rfl ?_ | refine WC.exit ?_ | refine blk_hit ?_ | refine blk_miss rfl ?_ | refine WC.ret ?_)
          refine WL.split 28 rfl (fun c3 => ?_) (fun c3 => ?_)
          rotate_left
          · have h2 : s[i] = 41 := u8_eq (n := 41) (by decide) c3
            repeat (first | refine WC.seq ?_ | refine WC.reg ?_ | refine WL.pure rfl rfl rfl ?_ | refine WL.nil ?_ | refine WC.skip ?_ | refine WC.block ?_ | refine WC.condT rfl ?_ | refine WC.condF rfl ?_ | refine WL.off rfl rfl rfl ?_ | refine WL.off0 rfl rfl ?_ | refine WC.exit ?_ | refine blk_hit ?_ | refine blk_miss rfl ?_ | refine WC.ret ?_)
            exact ⟨(), ⟨rfl, rfl, rfl, rfl, rfl⟩, fun _ => .inr (.inl h2), rfl⟩
          repeat (first | refine WC.seq ?_ | refine WC.reg ?_ | refine WL.pure rfl rfl rfl ?_ | refine WL.nil ?_ | refine WC.skip ?_ | refine WC.block ?_ | refine WC.condT rfl ?_ | refine WC.condF rfl ?_ | refine WL.off rfl rfl rfl ?_ | refine WL.off0 rfl rfl ?_ | refine WC.exit ?_ | refine blk_hit ?_ | refine blk_miss rfl ?_ | refine WC.ret ?_)
          refine WL.sAt rfl rfl rfl rfl rfl hi ?_
          repeat (first | refine WC.seq ?_ | refine WC.reg ?_ | refine WL.pure rfl rfl rfl ?_ | refine WL.nil ?_ | refine WC.skip ?_ | refine WC.block ?_ | refine WC.condT rfl ?_ | refine WC.condF rfl ?_ | refine WL.off rfl rfl rfl ?_ | refine WL.off0 rfl rfl ?_ | refine WC.exit ?_ | refine blk_hit ?_ | refine blk_miss rfl ?_ | refine WC.ret ?_)
          refine WL.split 34 rfl (fun c4 => ?_) (fun c4 => ?_)
          rotate_left
          · have h2 : s[i] = 32 := u8_eq (n := 32) (by decide) c4
            repeat (first | refine WC.seq ?_ | refine WC.reg ?_ | refine WL.pure rfl rfl rfl ?_ | refine WL.nil ?_ | refine WC.skip ?_ | refine WC.block ?_ | refine WC.condT rfl ?_ | refine WC.condF rfl ?_ | refine WL.off rfl rfl rfl ?_ | refine WL.off0 rfl rfl ?_ | refine WC.exit ?_ | refine blk_hit ?_ | refine blk_miss rfl ?_ | refine WC.ret ?_)
            exact ⟨(), ⟨rfl, rfl, rfl, rfl, rfl⟩, fun _ => .inr (.inr (.inl h2)), rfl⟩
          repeat (first | refine WC.seq ?_ | refine WC.reg ?_ | refine WL.pure rfl rfl rfl ?_ | refine WL.nil ?_ | refine WC.skip ?_ | refine WC.block ?_ | refine WC.condT rfl ?_ | refine WC.condF rfl ?_ | refine WL.off rfl rfl rfl ?_ | refine WL.off0 rfl rfl ?_ | refine WC.exit ?_ | refine blk_hit ?_ | refine blk_miss rfl ?_ | refine WC.ret ?_)
          refine WL.sAt rfl rfl rfl rfl rfl hi ?_
          repeat (first | refine WC.seq ?_ | refine WC.reg ?_ | refine WL.pure rfl rfl rfl ?_ | refine WL.nil ?_ | refine WC.skip ?_ | refine WC.block ?_ | refine WC.condT rfl ?_ | refine WC.condF rfl ?_ | refine WL.off rfl rfl rfl ?_ | refine WL.off0 rfl rfl ?_ | refine WC.exit ?_ | refine blk_hit ?_ | refine blk_miss rfl ?_ | refine WC.ret ?_)
          refine WC.cond rfl (fun c5 => ?_) (fun c5 => ?_)
          · have hn : ¬ sepU s[i] := by
              rintro (h | h | h | h)
              · rw [h] at c2; exact absurd c2 (by decide)
              · rw [h] at c3; exact absurd c3 (by decide)
              · rw [h] at c4; exact absurd c4 (by decide)
              · rw [h] at c5; exact absurd c5 (by decide)
            repeat (first | refine WC.seq ?_ | refine WC.reg ?_ | refine WL.pure rfl rfl rfl ?_ | refine WL.nil ?_ | refine WC.skip ?_ | refine WC.block ?_ | refine WC.condT rfl ?_ | refine WC.condF rfl ?_ | refine WL.off rfl rfl rfl ?_ | refine WL.off0 rfl rfl ?_ | refine WC.exit ?_ | refine blk_hit ?_ | refine blk_miss rfl ?_ | refine WC.ret ?_)
            exact ⟨(q, a, c, l), ⟨rfl, rfl, rfl, rfl, rfl⟩, .inl ⟨hi, by omega, hgo hn⟩, by omega, hp⟩
          · have h2 : s[i] = 10 := u8_eq (n := 10) (by decide) c5
            repeat (first | refine WC.seq ?_ | refine WC.reg ?_ | refine WL.pure rfl rfl rfl ?_ | refine WL.nil ?_ | refine WC.skip ?_ | refine WC.block ?_ | refine WC.condT rfl ?_ | refine WC.condF rfl ?_ | refine WL.off rfl rfl rfl ?_ | refine WL.off0 rfl rfl ?_ | refine WC.exit ?_ | refine blk_hit ?_ | refine blk_miss rfl ?_ | refine WC.ret ?_)
            exact ⟨(), ⟨rfl, rfl, rfl, rfl, rfl⟩, fun _ => .inr (.inr (.inr h2)), rfl⟩
        · have hi : ¬ i < s.length := by have h : ¬ ((i : Nat) : Int) < ((s.length : Nat) : Int) := of_decide_eq_false c1; omega
          repeat (first | refine WC.seq ?_ | refine WC.reg ?_ | refine WL.pure rfl rfl rfl ?_ | refine WL.nil ?_ | refine WC.skip ?_ | refine WC.block ?_ | refine WC.condT rfl ?_ | refine WC.condF rfl ?_ | refine WL.off rfl rfl rfl ?_ | refine WL.off0 rfl rfl ?_ | refine WC.exit ?_ | refine blk_hit ?_ | refine blk_miss rfl ?_ | refine WC.ret ?_)
          exact ⟨(), ⟨rfl, rfl, rfl, rfl, rfl⟩, fun h => absurd h hi, rfl⟩
      rintro ⟨⟩ e2 w2 hsub ⟨hsep, rfl⟩
      refine WC.sub hsub ?_
      clear hsub e2
      refine WC.seq ?_
      refine WC.mid (Option Addr × Nat × List Str) (fun (a, c, l) => [(0, st s), (3, .slice a l.length c), (5, .int .i64 (i : Nat))])
        (fun (a, c, l1) w' => l1 = l ++ flush ((s.drop q).take (i - q)) ∧ Hp w w' [Rs (.slice a l1.length c) l1]) ?_ ?_
      · repeat (first | refine WC.seq ?_ | refine WC.reg ?_ | refine WL.pure rfl rfl rfl ?_ | refine WL.nil ?_ | refine WC.skip ?_ | refine WC.block ?_ | refine WC.condT rfl ?_ | refine WC.condF rfl ?_ | refine WL.off rfl rfl rfl ?_ | refine WL.off0 rfl rfl ?_ | refine WC.exit ?_ | refine blk_hit ?_ | refine blk_miss rfl ?_ | refine WC.ret ?_)
        refine WC.cond rfl (fun c1 => ?_) (fun c1 => ?_)
        · have hqi : q < i := by have h : ((q : Nat) : Int) < ((i : Nat) : Int) := of_decide_eq_true c1; omega
          have hne : (s.drop q).take (i - q) ≠ [] := by
            intro h
            have := congrArg List.length h
            rw [List.length_take, List.length_drop] at this
            simp only [List.length_nil] at this
            omega
          have hfl : flush ((s.drop q).take (i - q)) = [(s.drop q).take (i - q)] := by unfold flush; rw [if_neg hne]
          repeat (first | refine WC.seq ?_ | refine WC.reg ?_ | refine WL.pure rfl rfl rfl ?_ | refine WL.nil ?_ | refine WC.skip ?_ | refine WC.block ?_ | refine WC.condT rfl ?_ | refine WC.condF rfl ?_ | refine WL.off rfl rfl rfl ?_ | refine WL.off0 rfl rfl ?_ | refine WC.exit ?_ | refine blk_hit ?_ | refine blk_miss rfl ?_ | refine WC.ret ?_)
          refine WL.sSl (a := q) (b := i) rfl rfl rfl rfl rfl rfl hq hi ?_
          rw [hfl]
          generalize (s.drop q).take (i - q) = x
          refine WL.buildS (cs := [st x]) rfl rfl rfl rfl rfl rfl rfl rfl rfl (fun b3 w3 h3 => ?_)
          have hp3 := hp.new h3
          refine WL.append 1 hp3 rfl rfl rfl rfl rfl (by decide) rfl rfl rfl (news := [st x]) (Sl.of_obj (hp3.obj 0 rfl) (fun q u hq => by simpa using hq)) rfl (st_cells [x]) (by unfold maxLen; omega) (by show (l.length + 1) * 16 ≤ _; omega) ?_
          intro a2 c2 w4 hp4 _
          repeat (first | refine WC.seq ?_ | refine WC.reg ?_ | refine WL.pure rfl rfl rfl ?_ | refine WL.nil ?_ | refine WC.skip ?_ | refine WC.block ?_ | refine WC.condT rfl ?_ | refine WC.condF rfl ?_ | refine WL.off rfl rfl rfl ?_ | refine WL.off0 rfl rfl ?_ | refine WC.exit ?_ | refine blk_hit ?_ | refine blk_miss rfl ?_ | refine WC.ret ?_)
          refine ⟨(a2, c2, l ++ [x]), ⟨rfl, by rw [List.length_append]; rfl, rfl, rfl⟩, rfl, ?_⟩
          show Hp w w4 [Rs (.slice a2 (l ++ [x]).length c2) (l ++ [x])]
          rw [Rs_snoc]
          exact hp4.tail
        · have hqi : q = i := by have h : ¬ ((q : Nat) : Int) < ((i : Nat) : Int) := of_decide_eq_false c1; omega
          repeat (first | refine WC.seq ?_ | refine WC.reg ?_ | refine WL.pure rfl rfl rfl ?_ | refine WL.nil ?_ | refine WC.skip ?_ | refine WC.block ?_ | refine WC.condT rfl ?_ | refine WC.condF rfl ?_ | refine WL.off rfl rfl rfl ?_ | refine WL.off0 rfl rfl ?_ | refine WC.exit ?_ | refine blk_hit ?_ | refine blk_miss rfl ?_ | refine WC.ret ?_)
          exact ⟨(a, c, l), ⟨rfl, rfl, rfl, rfl⟩, by rw [hqi, Nat.sub_self, List.take_zero]; exact (List.append_nil l).symm, hp⟩
      rintro ⟨a, c, l1⟩ e3 w3 hsub ⟨hl1, hp3⟩
      refine WC.sub hsub ?_
      clear hsub e3 hp
      replace hl1 : l1 = l ++ flush ((s.drop q).take (i - q)) := hl1
      replace hp3 : Hp w w3 [Rs (.slice a l1.length c) l1] := hp3
      have hl1l : l1.length ≤ 2 * i + 1 := by
        rw [hl1, List.length_append]
        have := flush_le ((s.drop q).take (i - q))
        omega
      refine WC.seq ?_
      refine WC.mid (Option Addr × Nat × List Str) (fun (a, c, l) => [(0, st s), (3, .slice a l.length c), (5, .int .i64 (i : Nat))])
        (fun (a, c, l2) w' => ((i < s.length ∧ tokM s = l2 ++ tokN (s.drop (i + 1)) []) ∨ (i = s.length ∧ tokM s = l2)) ∧ l2.length ≤ 2 * i + 2 ∧ Hp w w' [Rs (.slice a l2.length c) l2]) ?_ ?_
      · repeat (first | refine WC.seq ?_ | refine WC.reg ?_ | refine WL.pure rfl rfl rfl ?_ | refine WL.nil ?_ | refine WC.skip ?_ | refine WC.block ?_ | refine WC.condT rfl ?_ | refine WC.condF rfl ?_ | refine WL.off rfl rfl rfl ?_ | refine WL.off0 rfl rfl ?_ | refine WC.exit ?_ | refine blk_hit ?_ | refine blk_miss rfl ?_ | refine WC.ret ?_)
        repeat (first | refine WC.seq ?_ | refine WC.reg ?_ | refine WL.pure rfl rfl rfl ?_ | refine WL.nil ?_ | refine WC.skip ?_ | refine WC.block ?_ | refine WC.condT rfl ?_ | refine WC.condF rfl ?_ | refine WL.off rfl rfl rfl ?_ | refine WL.off0 rfl rfl ?_ | refine WC.exit ?_ | refine blk_hit ?_ | refine blk_miss rfl ?_ | refine WC.ret ?_)
        refine WL.split 54 rfl (fun c1 => ?_) (fun c1 => ?_)
        · have hi : i < s.length := by have h : ((i : Nat) : Int) < ((s.length : Nat) : Int) := of_decide_eq_true c1; omega
          have hd : s.drop i = s[i] :: s.drop (i + 1) := List.drop_eq_getElem_cons hi
          have hsp := hsep hi
          have e3 : (s.drop i).take (i + 1 - i) = [s[i]] := by rw [hd, Nat.add_sub_cancel_left]; rfl
          have hpar : (s[i] = 40 ∨ s[i] = 41) → tokM s = (l1 ++ [[s[i]]]) ++ tokN (s.drop (i + 1)) [] := by
            intro h
            rw [hinv, hd, tokN_pa _ _ (by rcases h with h | h <;> rw [h] <;> decide) h, hl1, List.append_assoc, List.append_assoc]; rfl
          have hspc : (s[i] = 32 ∨ s[i] = 10) → tokM s = l1 ++ tokN (s.drop (i + 1)) [] := by
            intro h
            rw [hinv, hd, tokN_sp _ _ h, hl1, List.append_assoc]
          obtain ⟨u, hu⟩ : ∃ u, s[i] = u := ⟨_, rfl⟩
          rw [hu] at hd hsp e3 hpar hspc
          rcases hsp with rfl | rfl | rfl | rfl
          · repeat (first | refine WC.seq ?_ | refine WC.reg ?_ | refine WL.pure rfl rfl rfl ?_ | refine WL.nil ?_ | refine WC.skip ?_ | refine WC.block ?_ | refine WC.condT rfl ?_ | refine WC.condF rfl ?_ | refine WL.off rfl rfl rfl ?_ | refine WL.off0 rfl rfl ?_ | refine WC.exit ?_ | refine blk_hit ?_ | refine blk_miss rfl ?_ | refine WC.ret ?_)
            refine WL.sAt rfl rfl rfl rfl rfl hi ?_
            rw [hu]
            repeat (first | refine WC.seq ?_ | refine WC.reg ?_ | refine WL.pure rfl rfl rfl ?_ | refine WL.nil ?_ | refine WC.skip ?_ | refine WC.block ?_ | refine WC.condT rfl ?_ | refine WC.condF rfl ?_ | refine WL.off rfl rfl rfl ?_ | refine WL.off0 rfl rfl ?_ | refine WC.exit ?_ | refine blk_hit ?_ | refine blk_miss rfl ?_ | refine WC.ret ?_)
            refine WL.known (d := 70) (congrArg (fun z => some (Value.int .i64 z)) step) ?_
            refine WL.sSl (a := i) (b := i + 1) rfl rfl rfl rfl rfl rfl (by omega) (by omega) ?_
            rw [e3]
            refine WL.buildS (cs := [st [40]]) rfl rfl rfl rfl rfl rfl rfl rfl rfl (fun b5 w5 h5 => ?_)
            have hp5 := hp3.new h5
            refine WL.append 1 hp5 rfl rfl rfl rfl rfl (by decide) rfl rfl rfl (news := [st [40]]) (Sl.of_obj (hp5.obj 0 rfl) (fun q u hq => by simpa using hq)) rfl (st_cells [[40]]) (by unfold maxLen; omega) (by show (l1.length + 1) * 16 ≤ _; omega) ?_
            intro a2 c2 w6 hp6 _
            repeat (first | refine WC.seq ?_ | refine WC.reg ?_ | refine WL.pure rfl rfl rfl ?_ | refine WL.nil ?_ | refine WC.skip ?_ | refine WC.block ?_ | refine WC.condT rfl ?_ | refine WC.condF rfl ?_ | refine WL.off rfl rfl rfl ?_ | refine WL.off0 rfl rfl ?_ | refine WC.exit ?_ | refine blk_hit ?_ | refine blk_miss rfl ?_ | refine WC.ret ?_)
            refine ⟨(a2, c2, l1 ++ [[40]]), ⟨rfl, by rw [List.length_append]; rfl, rfl, rfl⟩, .inl ⟨hi, hpar (.inl rfl)⟩, by show (l1 ++ [[40]]).length ≤ _; rw [List.length_append]; show l1.length + 1 ≤ _; omega, ?_⟩
            show Hp w w6 [Rs (.slice a2 (l1 ++ [[40]]).length c2) (l1 ++ [[40]])]
            rw [Rs_snoc]
            exact hp6.tail
          · repeat (first | refine WC.seq ?_ | refine WC.reg ?_ | refine WL.pure rfl rfl rfl ?_ | refine WL.nil ?_ | refine WC.skip ?_ | refine WC.block ?_ | refine WC.condT rfl ?_ | refine WC.condF rfl ?_ | refine WL.off rfl rfl rfl ?_ | refine WL.off0 rfl rfl ?_ | refine WC.exit ?_ | refine blk_hit ?_ | refine blk_miss rfl ?_ | refine WC.ret ?_)
            refine WL.sAt rfl rfl rfl rfl rfl hi ?_
            rw [hu]
            repeat (first | refine WC.seq ?_ | refine WC.reg ?_ | refine WL.pure rfl rfl rfl ?_ | refine WL.nil ?_ | refine WC.skip ?_ | refine WC.block ?_ | refine WC.condT rfl ?_ | refine WC.condF rfl ?_ | refine WL.off rfl rfl rfl ?_ | refine WL.off0 rfl rfl ?_ | refine WC.exit ?_ | refine blk_hit ?_ | refine blk_miss rfl ?_ | refine WC.ret ?_)
            refine WL.sAt rfl rfl rfl rfl rfl hi ?_
            rw [hu]
            repeat (first | refine WC.seq ?_ | refine WC.reg ?_ | refine WL.pure rfl rfl rfl ?_ | refine WL.nil ?_ | refine WC.skip ?_ | refine WC.block ?_ | refine WC.condT rfl ?_ | refine WC.condF rfl ?_ | refine WL.off rfl rfl rfl ?_ | refine WL.off0 rfl rfl ?_ | refine WC.exit ?_ | refine blk_hit ?_ | refine blk_miss rfl ?_ | refine WC.ret ?_)
            refine WL.known (d := 70) (congrArg (fun z => some (Value.int .i64 z)) step) ?_
            refine WL.sSl (a := i) (b := i + 1) rfl rfl rfl rfl rfl rfl (by omega) (by omega) ?_
            rw [e3]
            refine WL.buildS (cs := [st [41]]) rfl rfl rfl rfl rfl rfl rfl rfl rfl (fun b5 w5 h5 => ?_)
            have hp5 := hp3.new h5
            refine WL.append 1 hp5 rfl rfl rfl rfl rfl (by decide) rfl rfl rfl (news := [st [41]]) (Sl.of_obj (hp5.obj 0 rfl) (fun q u hq => by simpa using hq)) rfl (st_cells [[41]]) (by unfold maxLen; omega) (by show (l1.length + 1) * 16 ≤ _; omega) ?_
            intro a2 c2 w6 hp6 _
            repeat (first | refine WC.seq ?_ | refine WC.reg ?_ | refine WL.pure rfl rfl rfl ?_ | refine WL.nil ?_ | refine WC.skip ?_ | refine WC.block ?_ | refine WC.condT rfl ?_ | refine WC.condF rfl ?_ | refine WL.off rfl rfl rfl ?_ | refine WL.off0 rfl rfl ?_ | refine WC.exit ?_ | refine blk_hit ?_ | refine blk_miss rfl ?_ | refine WC.ret ?_)
            refine ⟨(a2, c2, l1 ++ [[41]]), ⟨rfl, by rw [List.length_append]; rfl, rfl, rfl⟩, .inl ⟨hi, hpar (.inr rfl)⟩, by show (l1 ++ [[41]]).length ≤ _; rw [List.length_append]; show l1.length + 1 ≤ _; omega, ?_⟩
            show Hp w w6 [Rs (.slice a2 (l1 ++ [[41]]).length c2) (l1 ++ [[41]])]
            rw [Rs_snoc]
            exact hp6.tail
          · repeat (first | refine WC.seq ?_ | refine WC.reg ?_ | refine WL.pure rfl rfl rfl ?_ | refine WL.nil ?_ | refine WC.skip ?_ | refine WC.block ?_ | refine WC.condT rfl ?_ | refine WC.condF rfl ?_ | refine WL.off rfl rfl rfl ?_ | refine WL.off0 rfl rfl ?_ | refine WC.exit ?_ | refine blk_hit ?_ | refine blk_miss rfl ?_ | refine WC.ret ?_)
            refine WL.sAt rfl rfl rfl rfl rfl hi ?_
            rw [hu]
            repeat (first | refine WC.seq ?_ | refine WC.reg ?_ | refine WL.pure rfl rfl rfl ?_ | refine WL.nil ?_ | refine WC.skip ?_ | refine WC.block ?_ | refine WC.condT rfl ?_ | refine WC.condF rfl ?_ | refine WL.off rfl rfl rfl ?_ | refine WL.off0 rfl rfl ?_ | refine WC.exit ?_ | refine blk_hit ?_ | refine blk_miss rfl ?_ | refine WC.ret ?_)
            refine WL.sAt rfl rfl rfl rfl rfl hi ?_
            rw [hu]
            repeat (first | refine WC.seq ?_ | refine WC.reg ?_ | refine WL.pure rfl rfl rfl ?_ | refine WL.nil ?_ | refine WC.skip ?_ | refine WC.block ?_ | refine WC.condT rfl ?_ | refine WC.condF rfl ?_ | refine WL.off rfl rfl rfl ?_ | refine WL.off0 rfl rfl ?_ | refine WC.exit ?_ | refine blk_hit ?_ | refine blk_miss rfl ?_ | refine WC.ret ?_)
            exact ⟨(a, c, l1), ⟨rfl, rfl, rfl, rfl⟩, .inl ⟨hi, hspc (.inl rfl)⟩, by show l1.length ≤ _; omega, hp3⟩
          · repeat (first | refine WC.seq ?_ | refine WC.reg ?_ | refine WL.pure rfl rfl rfl ?_ | refine WL.nil ?_ | refine WC.skip ?_ | refine WC.block ?_ | refine WC.condT rfl ?_ | refine WC.condF rfl ?_ | refine WL.off rfl rfl rfl ?_ | refine WL.off0 rfl rfl ?_ | refine WC.exit ?_ | refine blk_hit ?_ | refine blk_miss rfl ?_ | refine WC.ret ?_)
            refine WL.sAt rfl rfl rfl rfl rfl hi ?_
            rw [hu]
            repeat (first | refine WC.seq ?_ | refine WC.reg ?_ | refine WL.pure rfl rfl rfl ?_ | refine WL.nil ?_ | refine WC.skip ?_ | refine WC.block ?_ | refine WC.condT rfl ?_ | refine WC.condF rfl ?_ | refine WL.off rfl rfl rfl ?_ | refine WL.off0 rfl rfl ?_ | refine WC.exit ?_ | refine blk_hit ?_ | refine blk_miss rfl ?_ | refine WC.ret ?_)
            refine WL.sAt rfl rfl rfl rfl rfl hi ?_
            rw [hu]
            repeat (first | refine WC.seq ?_ | refine WC.reg ?_ | refine WL.pure rfl rfl rfl ?_ | refine WL.nil ?_ | refine WC.skip ?_ | refine WC.block ?_ | refine WC.condT rfl ?_ | refine WC.condF rfl ?_ | refine WL.off rfl rfl rfl ?_ | refine WL.off0 rfl rfl ?_ | refine WC.exit ?_ | refine blk_hit ?_ | refine blk_miss rfl ?_ | refine WC.ret ?_)
            exact ⟨(a, c, l1), ⟨rfl, rfl, rfl, rfl⟩, .inl ⟨hi, hspc (.inr rfl)⟩, by show l1.length ≤ _; omega, hp3⟩
        · have hi : i = s.length := by have h : ¬ ((i : Nat) : Int) < ((s.length : Nat) : Int) := of_decide_eq_false c1; omega
          repeat (first | refine WC.seq ?_ | refine WC.reg ?_ | refine WL.pure rfl rfl rfl ?_ | refine WL.nil ?_ | refine WC.skip ?_ | refine WC.block ?_ | refine WC.condT rfl ?_ | refine WC.condF rfl ?_ | refine WL.off rfl rfl rfl ?_ | refine WL.off0 rfl rfl ?_ | refine WC.exit ?_ | refine blk_hit ?_ | refine blk_miss rfl ?_ | refine WC.ret ?_)
          refine ⟨(a, c, l1), ⟨rfl, rfl, rfl, rfl⟩, .inr ⟨hi, ?_⟩, by show l1.length ≤ _; omega, hp3⟩
          rw [hinv, hl1, hi, List.drop_of_length_le (Nat.le_refl _)]
          rfl
      rintro ⟨a, c, l2⟩ e4 w4 hsub ⟨hinv2, hl2, hp4⟩
      refine WC.sub hsub ?_
      clear hsub e4
      repeat (first | refine WC.seq ?_ | refine WC.reg ?_ | refine WL.pure rfl rfl rfl ?_ | refine WL.nil ?_ | refine WC.skip ?_ | refine WC.block ?_ | refine WC.condT rfl ?_ | refine WC.condF rfl ?_ | refine WL.off rfl rfl rfl ?_ | refine WL.off0 rfl rfl ?_ | refine WC.exit ?_ | refine blk_hit ?_ | refine blk_miss rfl ?_ | refine WC.ret ?_)
      refine ⟨(i + 1, a, c, l2), ⟨rfl, rfl, congrArg (fun z => some (Value.int .i64 z)) step, rfl, rfl⟩, ?_, by show l2.length ≤ _; omega, hp4⟩
      rcases hinv2 with ⟨h1, h2⟩ | ⟨h1, h2⟩
      · exact .inl ⟨h1, Nat.le_refl _, by rw [h2, Nat.sub_self, List.take_zero]⟩
      · exact .inr ⟨by omega, h2⟩
    · rintro ⟨q', a', c', l'⟩ e6 w6 hsub ⟨h1, h3, h4⟩
      refine WC.sub hsub ?_
      clear hsub e6
      repeat (first | refine WC.seq ?_ | refine WC.reg ?_ | refine WL.pure rfl rfl rfl ?_ | refine WL.nil ?_ | refine WC.skip ?_ | refine WC.block ?_ | refine WC.condT rfl ?_ | refine WC.condF rfl ?_ | refine WL.off rfl rfl rfl ?_ | refine WL.off0 rfl rfl ?_ | refine WC.exit ?_ | refine blk_hit ?_ | refine blk_miss rfl ?_ | refine WC.ret ?_)
      exact ⟨(i + 1, q', a', c', l'), (by show s.length + 1 - (i + 1) < s.length + 1 - i; omega), ⟨rfl, rfl, rfl, congrArg (fun z => some (Value.int .i64 z)) step, rfl⟩, h1, h3, h4⟩
  · have hi : ¬ i ≤ s.length := by have h : ¬ ((i : Nat) : Int) ≤ ((s.length : Nat) : Int) := of_decide_eq_false hc; omega
    have hinv := (hinv.resolve_left (fun h => hi h.1)).2
    subst hinv
    repeat (first | refine WC.seq ?_ | refine WC.reg ?_ | refine WL.pure rfl rfl rfl ?_ | refine WL.nil ?_ | refine WC.skip ?_ | refine WC.block ?_ | refine WC.condT rfl ?_ | refine WC.condF rfl ?_ | refine WL.off rfl rfl rfl ?_ | refine WL.off0 rfl rfl ?_ | refine WC.exit ?_ | refine blk_hit ?_ | refine blk_miss rfl ?_ | refine WC.ret ?_)
    exact Res.one rfl rfl rfl ⟨a, c, rfl, hp⟩
end Go.Proofs.YtpbbneclkhfgoaaDoor
