/- The walk of the placement of a rule. -/
import Derived.Test.YtoghnhbjdnjghaaGreatVM
namespace Go.W
theorem WH.sub {P : Program} {n : Nat} {l0 : List Oper} {S : World → Prop} {N : Nor} {Z : Pan} {e e' : Env} {w : World} {fuel : Nat} {listed : Array Bool} (hs : Sub e' e) (h : WH P n l0 S N Z fuel listed e' w) : WH P n l0 S N Z fuel listed e w :=
  fun a ha => h a (ha.sub hs)
theorem Sl.cons0 {w w' : World} {a : Option Addr} {cs : List Value} {L : List Ent} (h : Sl w a cs) (hp : Hp w w' L) : Sl w' a cs := h.hp hp
end Go.W
namespace Go.Proofs.YtoghnhbjdnjghaaGreat
open Go.W Go.Words Go.RowKit
set_option maxRecDepth 100000
attribute [local irreducible] WC WL WQ WS WH

theorem ordR_self (a : Rl) : ordR a a = 0 := by unfold ordR; rw [ordS_self, if_pos rfl, ordS_self]
theorem ordR_zero {a b : Rl} (h : ordR a b = 0) : a = b := by
  unfold ordR at h
  by_cases h1 : ordS a.1 b.1 = 0
  · rw [if_pos h1] at h
    exact Prod.ext (ordS_zero h1) (ordS_zero h)
  · rw [if_neg h1] at h
    exact absurd h h1
/-- The place of a rule in a list, and the list with it. -/
def posK (l : List Rl) (r : Rl) : Nat := (l.takeWhile fun x => decide (ordR x r < 0)).length
def putM (l : List Rl) (r : Rl) : List Rl := if l[posK l r]? = some r then l else insL l (posK l r) r
theorem posK_le (l : List Rl) (r : Rl) : posK l r ≤ l.length := (List.takeWhile_sublist _).length_le
theorem posK_eq : ∀ (l : List Rl) (r : Rl) (k : Nat), k ≤ l.length → (∀ (q : Nat) (h : q < l.length), q < k → ordR l[q] r < 0) → (∀ (h : k < l.length), ¬ ordR l[k] r < 0) → posK l r = k := by
  intro l r
  induction l with
  | nil => intro k hk _ _; have : k = 0 := by simpa using hk
           subst this; rfl
  | cons x l ih =>
    intro k hk h1 h2
    cases k with
    | zero =>
      have := h2 (by simp)
      unfold posK
      rw [List.takeWhile_cons, if_neg (by simpa using this)]
      rfl
    | succ k =>
      have h0 := h1 0 (by simp) (by omega)
      have := ih k (by simpa using hk) (fun q hq hqk => h1 (q + 1) (by simpa using hq) (by omega)) (fun h => h2 (by simpa using h))
      unfold posK at this ⊢
      rw [List.takeWhile_cons, if_pos (by simpa using h0), List.length_cons, this]
/-- Sorted well enough for the search. -/
def Mo (l : List Rl) (r : Rl) : Prop := ∀ (p q : Nat) (hq : q < l.length) (hp : p < l.length), p ≤ q → ordR l[q] r < 0 → ordR l[p] r < 0
theorem Search_det (a : Option Addr) (cap : Nat) (l : List Rl) (r : Rl) (hl : l.length ≤ 1000000) (hm : Mo l r) (w : World) (hs : Sl w a (rcs l)) :
    Ret Tryz.prog 95 [.slice a l.length cap, .agg #[st r.1, st r.2], .func (.func 74) #[] #[]] w
      fun u w' => u = .tuple #[.int .i64 (posK l r : Nat), .bool (decide (l[posK l r]? = some r))] ∧ Hp w w' [] := by
  refine (Search_any a cap l r hl hm w hs).mono ?_
  rintro _ w' ⟨k, b, hk, rfl, h1, h2, hb, hp⟩
  have e1 : posK l r = k := posK_eq l r k hk h1 (fun h => h2 k h (Nat.le_refl _))
  refine ⟨?_, hp⟩
  have e2 : b = decide (l[k]? = some r) := by
    rw [Bool.eq_iff_iff, hb, decide_eq_true_iff]
    constructor
    · rintro ⟨h, h0⟩
      rw [List.getElem?_eq_getElem h, ordR_zero h0]
    · intro h
      obtain ⟨h3, h4⟩ := List.getElem?_eq_some_iff.1 h
      exact ⟨h3, by rw [h4, ordR_self]⟩
  rw [e1, e2]
abbrev Mp (mb : Nat) (es : Array MapEntry) (c : Nat) : Ent := .blk mb (.map es c)
/-- What remains of the known ones when r comes in. -/
def Kp (r : Rl) (x : Rl) : Prop := Lib.contains x.1 r.1 = false ∧ Lib.contains x.2 r.1 = false
theorem put_any (tb mb : Nat) (v : Value) (l : List Rl) (r : Rl) (es : Array MapEntry) (c : Nat) (Q : Rl → Prop) (hl : l.length ≤ 1000000) (hm : Mo l r) (hQ : ∀ x, Q x → x.1.length ≤ 1000000000 ∧ x.2.length ≤ 1000000000) (hK : KM Q es c) (w0 w : World) (hmx : Mx w0)
    (hp : Hp w0 w [Td tb v (.map (some mb)), Rt v l, Mp mb es c]) :
    Ret Tryz.prog 78 [.pointer (some ⟨tb, 0, none⟩), .agg #[st r.1, st r.2]] w fun _ w' => ∃ v' es', Hp w0 w' [Td tb v' (.map (some mb)), Rt v' (putM l r), Mp mb es' c] ∧ KM (fun x => Q x ∧ (r ∈ l ∨ Kp r x)) es' c := by
  obtain ⟨pa, pc, rfl⟩ := owns_shape (hp.at 1 rfl)
  refine enter Tryz.func78 rfl rfl ⟨rfl, rfl⟩ rfl ?_
  repeat (first | refine WC.seq ?_ | refine WC.reg ?_ | refine WL.pure rfl rfl rfl ?_ | refine WL.nil ?_ | refine WC.skip ?_ | refine WC.block ?_ | refine WC.condT rfl ?_ | refine WC.condF rfl ?_ | refine WL.off rfl rfl rfl ?_ | refine WL.off0 rfl rfl ?_ | refine WC.exit ?_ | refine blk_hit ?_ | refine blk_miss rfl ?_ | refine WC.ret ?_)
  refine WL.box rfl rfl rfl ?_
  intro b3 w1 hb3
  have hp1 : Hp w0 w1 [Bx b3 r, Td tb (.slice pa l.length pc) (.map (some mb)), Rt (.slice pa l.length pc) l, Mp mb es c] := hp.new hb3
  repeat (first | refine WC.seq ?_ | refine WC.reg ?_ | refine WL.pure rfl rfl rfl ?_ | refine WL.nil ?_ | refine WC.skip ?_ | refine WC.block ?_ | refine WC.condT rfl ?_ | refine WC.condF rfl ?_ | refine WL.off rfl rfl rfl ?_ | refine WL.off0 rfl rfl ?_ | refine WC.exit ?_ | refine blk_hit ?_ | refine blk_miss rfl ?_ | refine WC.ret ?_)
  have hsl : ∀ w', Hp w0 w' [Bx b3 r, Td tb (.slice pa l.length pc) (.map (some mb)), Rt (.slice pa l.length pc) l, Mp mb es c] → Sl w' pa (rcs l) := fun w' hw' => Sl.of_row (hw'.at 2 rfl)
  refine WC.mid Unit (fun _ => [(0, .pointer (some ⟨tb, 0, none⟩)), (3, .pointer (some ⟨b3, 0, none⟩)), (4, .int .i64 (posK l r : Nat)), (5, .bool (decide (l[posK l r]? = some r)))])
    (fun _ w' => Hp w0 w' [Bx b3 r, Td tb (.slice pa l.length pc) (.map (some mb)), Rt (.slice pa l.length pc) l, Mp mb es c]) ?_ ?_
  · refine WC.regQ (fun w' => Hp w0 w' [Bx b3 r, Td tb (.slice pa l.length pc) (.map (some mb)), Rt (.slice pa l.length pc) l, Mp mb es c]) mixed (by kernel_rfl) (fun w' hw' => hp1.keep hw') ?_
    repeat (first | refine WQ.pure rfl rfl rfl ?_ | refine WQ.off rfl rfl rfl ?_ | refine WQ.nil ?_)
    refine WQ.nilC rfl rfl rfl ?_
    repeat (first | refine WQ.pure rfl rfl rfl ?_ | refine WQ.off rfl rfl rfl ?_ | refine WQ.nil ?_)
    refine WQ.load rfl rfl rfl rfl rfl (fun w' hw' => cell_of_obj (j := 0) (hw'.obj 1 rfl) rfl) ?_
    refine WQ.loadN (cs := rc r) rfl rfl rfl rfl rfl rfl (fun _ hw => box_cell hw) ?_
    refine WQ.call rfl rfl rfl rfl rfl ent95 (fun w' hw' => (Search_det pa pc l r hl hm w' (hsl w' hw')).mono fun u w'' ⟨h1, h2⟩ => ⟨h1, by have := hw'.comb h2; rwa [List.nil_append] at this⟩) ?_
    repeat (first | refine WQ.pure rfl rfl rfl ?_ | refine WQ.off rfl rfl rfl ?_ | refine WQ.nil ?_)
    intro w' hp'
    exact ⟨(), ⟨rfl, rfl, rfl, rfl, rfl⟩, hp'⟩
  · rintro _ e2 w2 hsub hp2
    refine WC.sub hsub ?_
    clear hp1
    repeat (first | refine WC.seq ?_ | refine WC.reg ?_ | refine WL.pure rfl rfl rfl ?_ | refine WL.nil ?_ | refine WC.skip ?_ | refine WC.block ?_ | refine WC.condT rfl ?_ | refine WC.condF rfl ?_ | refine WL.off rfl rfl rfl ?_ | refine WL.off0 rfl rfl ?_ | refine WC.exit ?_ | refine blk_hit ?_ | refine blk_miss rfl ?_ | refine WC.ret ?_)
    refine WC.cond rfl (fun hc => ?_) (fun hc => ?_)
    · have hf : l[posK l r]? = some r := of_decide_eq_true hc
      have hmem : r ∈ l := List.mem_of_getElem? hf
      repeat (first | refine WC.seq ?_ | refine WC.reg ?_ | refine WL.pure rfl rfl rfl ?_ | refine WL.nil ?_ | refine WC.skip ?_ | refine WC.block ?_ | refine WC.condT rfl ?_ | refine WC.condF rfl ?_ | refine WL.off rfl rfl rfl ?_ | refine WL.off0 rfl rfl ?_ | refine WC.exit ?_ | refine blk_hit ?_ | refine blk_miss rfl ?_ | refine WC.ret ?_)
      refine Res.zero rfl rfl ⟨.slice pa l.length pc, es, ?_, hK.mono (fun e he x hx hq => ⟨hq, .inl hmem⟩)⟩
      unfold putM
      rw [if_pos hf]
      exact hp2.tail
    · have hf : ¬ l[posK l r]? = some r := of_decide_eq_false hc
      repeat (first | refine WC.seq ?_ | refine WC.reg ?_ | refine WL.pure rfl rfl rfl ?_ | refine WL.nil ?_ | refine WC.skip ?_ | refine WC.block ?_ | refine WC.condT rfl ?_ | refine WC.condF rfl ?_ | refine WL.off rfl rfl rfl ?_ | refine WL.off0 rfl rfl ?_ | refine WC.exit ?_ | refine blk_hit ?_ | refine blk_miss rfl ?_ | refine WC.ret ?_)
      have hpm : putM l r = insL l (posK l r) r := by unfold putM; rw [if_neg hf]
      refine WC.mid Unit (fun _ => [(0, .pointer (some ⟨tb, 0, none⟩)), (3, .pointer (some ⟨b3, 0, none⟩))])
        (fun _ w' => ∃ v', Hp w0 w' [Bx b3 r, Td tb v' (.map (some mb)), Rt v' (putM l r), Mp mb es c]) ?_ ?_
      · refine WC.regH (fun _ => True) mixed (by kernel_rfl) (fun w3 hw3 hh3 => ?_)
        have hp3 := hp2.keep hw3
        refine WH.pure 0 (by kernel_rfl) rfl (by kernel_rfl) rfl rfl rfl (trivial) ?_
        refine WH.pure 1 (by kernel_rfl) rfl (by kernel_rfl) rfl rfl rfl (trivial) ?_
        refine WH.nilC 2 (by kernel_rfl) rfl (by kernel_rfl) rfl rfl rfl trivial ?_
        refine WH.pure 3 (by kernel_rfl) rfl (by kernel_rfl) rfl rfl rfl (trivial) ?_
        refine WH.pure 5 (by kernel_rfl) rfl (by kernel_rfl) rfl rfl rfl (trivial) ?_
        refine WH.two 4 6 rfl rfl (by kernel_rfl) ?_ ?_
        · refine WL.loadB rfl rfl rfl rfl rfl (hp3.obj 1 rfl) (j := 0) rfl (WL.nil ⟨trivial, ?_⟩)
          refine WH.one 6 rfl (by kernel_rfl) ?_
          refine WL.loadN (cs := rc r) rfl rfl rfl rfl rfl rfl (box_cell hp3) (WL.nil ⟨trivial, ?_⟩)
          refine WH.one 7 rfl (by kernel_rfl) ?_
          refine WL.buildS (cs := rc r) rfl rfl rfl rfl rfl rfl rfl rfl rfl ?_
          intro vb w4 hb4
          have hp4 : Hp w0 w4 [Bx vb r, Bx b3 r, Td tb (.slice pa l.length pc) (.map (some mb)), Rt (.slice pa l.length pc) l, Mp mb es c] := hp3.new hb4
          refine WL.nil ⟨trivial, ?_⟩
          have hp5 : Hp w0 w4 [Rt (.slice pa l.length pc) l, Bx vb r, Bx b3 r, Td tb (.slice pa l.length pc) (.map (some mb)), Mp mb es c] := hp4.bring 3 rfl
          refine WH.one 8 rfl (by kernel_rfl) ?_
          refine WL.call rfl rfl rfl rfl rfl ent96 (Insert_any l hl _ (posK l r) (posK_le l r) r vb w0 _ w4 hp5) ?_
          rintro _ w6 ⟨ra, rc1, rfl, hp6⟩
          refine WL.nil ⟨trivial, ?_⟩
          refine WH.nilC 9 (by kernel_rfl) rfl (by kernel_rfl) rfl rfl rfl trivial ?_
          refine WH.pure 10 (by kernel_rfl) rfl (by kernel_rfl) rfl rfl rfl (trivial) ?_
          refine WH.one 11 rfl (by kernel_rfl) ?_
          refine WL.store rfl rfl rfl rfl rfl rfl (hp6.obj 3 rfl) (by show 0 < 2; omega) (fun w7 hw7 => ?_)
          have hp7 := hp6.set 3 rfl rfl hw7
          refine WL.nil ⟨trivial, ?_⟩
          refine WH.done (by kernel_rfl) ?_
          refine ⟨(), ⟨rfl, rfl, rfl⟩, .slice ra (insL l (posK l r) r).length rc1, ?_⟩
          rw [hpm]
          have hp8 := hp7.pick [2, 3, 0, 4] (by decide)
          exact hp8
        · refine WL.loadN (cs := rc r) rfl rfl rfl rfl rfl rfl (box_cell hp3) (WL.nil ⟨trivial, ?_⟩)
          refine WH.two 4 7 rfl rfl (by kernel_rfl) ?_ ?_
          · refine WL.loadB rfl rfl rfl rfl rfl (hp3.obj 1 rfl) (j := 0) rfl (WL.nil ⟨trivial, ?_⟩)
            refine WH.one 7 rfl (by kernel_rfl) ?_
            refine WL.buildS (cs := rc r) rfl rfl rfl rfl rfl rfl rfl rfl rfl ?_
            intro vb w4 hb4
            have hp4 : Hp w0 w4 [Bx vb r, Bx b3 r, Td tb (.slice pa l.length pc) (.map (some mb)), Rt (.slice pa l.length pc) l, Mp mb es c] := hp3.new hb4
            refine WL.nil ⟨trivial, ?_⟩
            have hp5 : Hp w0 w4 [Rt (.slice pa l.length pc) l, Bx vb r, Bx b3 r, Td tb (.slice pa l.length pc) (.map (some mb)), Mp mb es c] := hp4.bring 3 rfl
            refine WH.one 8 rfl (by kernel_rfl) ?_
            refine WL.call rfl rfl rfl rfl rfl ent96 (Insert_any l hl _ (posK l r) (posK_le l r) r vb w0 _ w4 hp5) ?_
            rintro _ w6 ⟨ra, rc1, rfl, hp6⟩
            refine WL.nil ⟨trivial, ?_⟩
            refine WH.nilC 9 (by kernel_rfl) rfl (by kernel_rfl) rfl rfl rfl trivial ?_
            refine WH.pure 10 (by kernel_rfl) rfl (by kernel_rfl) rfl rfl rfl (trivial) ?_
            refine WH.one 11 rfl (by kernel_rfl) ?_
            refine WL.store rfl rfl rfl rfl rfl rfl (hp6.obj 3 rfl) (by show 0 < 2; omega) (fun w7 hw7 => ?_)
            have hp7 := hp6.set 3 rfl rfl hw7
            refine WL.nil ⟨trivial, ?_⟩
            refine WH.done (by kernel_rfl) ?_
            refine ⟨(), ⟨rfl, rfl, rfl⟩, .slice ra (insL l (posK l r) r).length rc1, ?_⟩
            rw [hpm]
            have hp8 := hp7.pick [2, 3, 0, 4] (by decide)
            exact hp8
          · refine WL.buildS (cs := rc r) rfl rfl rfl rfl rfl rfl rfl rfl rfl ?_
            intro vb w4 hb4
            have hp4 : Hp w0 w4 [Bx vb r, Bx b3 r, Td tb (.slice pa l.length pc) (.map (some mb)), Rt (.slice pa l.length pc) l, Mp mb es c] := hp3.new hb4
            refine WL.nil ⟨trivial, ?_⟩
            refine WH.one 4 rfl (by kernel_rfl) ?_
            refine WL.loadB rfl rfl rfl rfl rfl (hp4.obj 2 rfl) (j := 0) rfl (WL.nil ⟨trivial, ?_⟩)
            have hp5 : Hp w0 w4 [Rt (.slice pa l.length pc) l, Bx vb r, Bx b3 r, Td tb (.slice pa l.length pc) (.map (some mb)), Mp mb es c] := hp4.bring 3 rfl
            refine WH.one 8 rfl (by kernel_rfl) ?_
            refine WL.call rfl rfl rfl rfl rfl ent96 (Insert_any l hl _ (posK l r) (posK_le l r) r vb w0 _ w4 hp5) ?_
            rintro _ w6 ⟨ra, rc1, rfl, hp6⟩
            refine WL.nil ⟨trivial, ?_⟩
            refine WH.nilC 9 (by kernel_rfl) rfl (by kernel_rfl) rfl rfl rfl trivial ?_
            refine WH.pure 10 (by kernel_rfl) rfl (by kernel_rfl) rfl rfl rfl (trivial) ?_
            refine WH.one 11 rfl (by kernel_rfl) ?_
            refine WL.store rfl rfl rfl rfl rfl rfl (hp6.obj 3 rfl) (by show 0 < 2; omega) (fun w7 hw7 => ?_)
            have hp7 := hp6.set 3 rfl rfl hw7
            refine WL.nil ⟨trivial, ?_⟩
            refine WH.done (by kernel_rfl) ?_
            refine ⟨(), ⟨rfl, rfl, rfl⟩, .slice ra (insL l (posK l r) r).length rc1, ?_⟩
            rw [hpm]
            have hp8 := hp7.pick [2, 3, 0, 4] (by decide)
            exact hp8
      · rintro _ e3 w3 hsub3 ⟨v', hp3⟩
        refine WC.sub hsub3 ?_
        clear hp2 hc
        repeat (first | refine WC.seq ?_ | refine WC.reg ?_ | refine WL.pure rfl rfl rfl ?_ | refine WL.nil ?_ | refine WC.skip ?_ | refine WC.block ?_ | refine WC.condT rfl ?_ | refine WC.condF rfl ?_ | refine WL.off rfl rfl rfl ?_ | refine WL.off0 rfl rfl ?_ | refine WC.exit ?_ | refine blk_hit ?_ | refine blk_miss rfl ?_ | refine WC.ret ?_)
        refine WL.nilC rfl rfl rfl ?_
        repeat (first | refine WC.seq ?_ | refine WC.reg ?_ | refine WL.pure rfl rfl rfl ?_ | refine WL.nil ?_ | refine WC.skip ?_ | refine WC.block ?_ | refine WC.condT rfl ?_ | refine WC.condF rfl ?_ | refine WL.off rfl rfl rfl ?_ | refine WL.off0 rfl rfl ?_ | refine WC.exit ?_ | refine blk_hit ?_ | refine blk_miss rfl ?_ | refine WC.ret ?_)
        refine WL.loadB rfl rfl rfl rfl rfl (hp3.obj 1 rfl) (j := 1) rfl ?_
        refine WL.rangeM rfl rfl rfl rfl (hp3.obj 3 rfl) ?_
        intro ib w4 hb4
        have hp4 := hp3.new hb4
        repeat (first | refine WC.seq ?_ | refine WC.reg ?_ | refine WL.pure rfl rfl rfl ?_ | refine WL.nil ?_ | refine WC.skip ?_ | refine WC.block ?_ | refine WC.condT rfl ?_ | refine WC.condF rfl ?_ | refine WL.off rfl rfl rfl ?_ | refine WL.off0 rfl rfl ?_ | refine WC.exit ?_ | refine blk_hit ?_ | refine blk_miss rfl ?_ | refine WC.ret ?_)
        refine WC.loop (Array MapEntry × Array Nat) (fun _ => [(0, .pointer (some ⟨tb, 0, none⟩)), (3, .pointer (some ⟨b3, 0, none⟩)), (32, .pointer (some ⟨ib, 0, none⟩))])
          (fun (es', seen) w' => KM Q es' c ∧ (∀ a ∈ es'.toList, ∀ x, a.key = rv x → seen.contains a.born = true → Kp r x) ∧ Hp w0 w' [.blk ib (.mapIter (some mb) c seen c), Bx b3 r, Td tb v' (.map (some mb)), Rt v' (putM l r), Mp mb es' c])
          (fun (es', seen) => (leftOf es' seen).size) (es, #[]) ⟨rfl, rfl, rfl, rfl⟩ ⟨hK, fun a _ x _ h => (by simp at h), hp4⟩ ?_
        clear hp4 hp3 hb4 w4 w3
        rintro ⟨es', seen⟩ w3 ⟨hK', hS, hp3⟩
        repeat (first | refine WC.seq ?_ | refine WC.reg ?_ | refine WL.pure rfl rfl rfl ?_ | refine WL.nil ?_ | refine WC.skip ?_ | refine WC.block ?_ | refine WC.condT rfl ?_ | refine WC.condF rfl ?_ | refine WL.off rfl rfl rfl ?_ | refine WL.off0 rfl rfl ?_ | refine WC.exit ?_ | refine blk_hit ?_ | refine blk_miss rfl ?_ | refine WC.ret ?_)
        refine WL.nextM rfl rfl rfl (hp3.obj 0 rfl) (hp3.obj 4 rfl) (fun x hx => (hK'.all x hx).1) (fun h0 => ?_) (fun a ha w4 hw4 => ?_)
        · repeat (first | refine WC.seq ?_ | refine WC.reg ?_ | refine WL.pure rfl rfl rfl ?_ | refine WL.nil ?_ | refine WC.skip ?_ | refine WC.block ?_ | refine WC.condT rfl ?_ | refine WC.condF rfl ?_ | refine WL.off rfl rfl rfl ?_ | refine WL.off0 rfl rfl ?_ | refine WC.exit ?_ | refine blk_hit ?_ | refine blk_miss rfl ?_ | refine WC.ret ?_)
          refine Res.zero rfl rfl ⟨v', es', hp3.pick [2, 3, 4] (by decide), hK'.mono (fun a ha x hx hq => ⟨hq, .inr (hS a ha x hx (all_seen es' seen h0 a ha))⟩)⟩
        · have hp4 := hp3.set 0 rfl rfl hw4
          have hmea := left_shrinks es' seen a ha
          obtain ⟨ham, hns⟩ := mem_left ha
          obtain ⟨hab, x, hak, hav, hqx⟩ := hK'.all a ham
          have hxl := hQ x hqx
          repeat (first | refine WC.seq ?_ | refine WC.reg ?_ | refine WL.pure rfl rfl rfl ?_ | refine WL.nil ?_ | refine WC.skip ?_ | refine WC.block ?_ | refine WC.condT rfl ?_ | refine WC.condF rfl ?_ | refine WL.off rfl rfl rfl ?_ | refine WL.off0 rfl rfl ?_ | refine WC.exit ?_ | refine blk_hit ?_ | refine blk_miss rfl ?_ | refine WC.ret ?_)
          refine WL.entryM rfl rfl rfl (hp4.obj 0 rfl) (hp4.obj 4 rfl) ham hK'.borns ?_
          rw [hak, hav]
          repeat (first | refine WC.seq ?_ | refine WC.reg ?_ | refine WL.pure rfl rfl rfl ?_ | refine WL.nil ?_ | refine WC.skip ?_ | refine WC.block ?_ | refine WC.condT rfl ?_ | refine WC.condF rfl ?_ | refine WL.off rfl rfl rfl ?_ | refine WL.off0 rfl rfl ?_ | refine WC.exit ?_ | refine blk_hit ?_ | refine blk_miss rfl ?_ | refine WC.ret ?_)
          refine WL.alloc rfl rfl rfl ?_
          intro b6 w5 hb5
          have hp5 := hp4.new hb5
          repeat (first | refine WC.seq ?_ | refine WC.reg ?_ | refine WL.pure rfl rfl rfl ?_ | refine WL.nil ?_ | refine WC.skip ?_ | refine WC.block ?_ | refine WC.condT rfl ?_ | refine WC.condF rfl ?_ | refine WL.off rfl rfl rfl ?_ | refine WL.off0 rfl rfl ?_ | refine WC.exit ?_ | refine blk_hit ?_ | refine blk_miss rfl ?_ | refine WC.ret ?_)
          refine WL.storeN (vs := (rc x).toArray) (arr2 := (rc x).toArray) rfl rfl rfl rfl rfl (rc_one x) (hp5.obj 0 rfl) (Nat.le_refl 2) rfl (fun w6 hw6 => ?_)
          have hp6 : Hp w0 w6 [Bx b6 x, .blk ib (.mapIter (some mb) c (seen.push a.born) c), Bx b3 r, Td tb v' (.map (some mb)), Rt v' (putM l r), Mp mb es' c] := hp5.set 0 rfl rfl hw6
          clear hp5 hp4 hp3 hw6 hb5 hw4 w5 w4 w3
          obtain ⟨mm, hmm⟩ := hmx.hp hp6
          repeat (first | refine WC.seq ?_ | refine WC.reg ?_ | refine WL.pure rfl rfl rfl ?_ | refine WL.nil ?_ | refine WC.skip ?_ | refine WC.block ?_ | refine WC.condT rfl ?_ | refine WC.condF rfl ?_ | refine WL.off rfl rfl rfl ?_ | refine WL.off0 rfl rfl ?_ | refine WC.exit ?_ | refine blk_hit ?_ | refine blk_miss rfl ?_ | refine WC.ret ?_)
          refine WL.loadB rfl rfl rfl rfl rfl (hp6.obj 0 rfl) (j := 0) rfl ?_
          repeat (first | refine WC.seq ?_ | refine WC.reg ?_ | refine WL.pure rfl rfl rfl ?_ | refine WL.nil ?_ | refine WC.skip ?_ | refine WC.block ?_ | refine WC.condT rfl ?_ | refine WC.condF rfl ?_ | refine WL.off rfl rfl rfl ?_ | refine WL.off0 rfl rfl ?_ | refine WC.exit ?_ | refine blk_hit ?_ | refine blk_miss rfl ?_ | refine WC.ret ?_)
          refine WL.loadB rfl rfl rfl rfl rfl (hp6.obj 2 rfl) (j := 0) rfl ?_
          refine WL.callP rfl rfl rfl rfl rfl ent97 (Contains_any x.1 r.1 mm w6 (by omega) hmm) ?_
          have hK2 := fun (b2 : MapEntry) (h2 : b2 ∈ es'.toList) (y : Rl) (hy : b2.key = rv y) (hc2 : (seen.push a.born).contains b2.born = true) => show (b2 = a ∧ y = x) ∨ Kp r y by
            rw [contains_push, Bool.or_eq_true] at hc2
            rcases hc2 with hc2 | hc2
            · exact .inr (hS b2 h2 y hy hc2)
            · have e1 := born_inj hK'.borns h2 ham (by simpa using hc2)
              rw [e1, hak] at hy
              exact .inl ⟨e1, (rv_inj hy).symm⟩
          have keepR : Kp r x → ∀ w', Hp w0 w' [Bx b6 x, .blk ib (.mapIter (some mb) c (seen.push a.born) c), Bx b3 r, Td tb v' (.map (some mb)), Rt v' (putM l r), Mp mb es' c] →
              (leftOf es' (seen.push a.born)).size < (leftOf es' seen).size ∧ KM Q es' c ∧ (∀ a2 ∈ es'.toList, ∀ y, a2.key = rv y → (seen.push a.born).contains a2.born = true → Kp r y) ∧ Hp w0 w' [.blk ib (.mapIter (some mb) c (seen.push a.born) c), Bx b3 r, Td tb v' (.map (some mb)), Rt v' (putM l r), Mp mb es' c] := by
            intro hk w' hw'
            refine ⟨hmea, hK', fun a2 h2 y hy hc2 => ?_, hw'.tail⟩
            rcases hK2 a2 h2 y hy hc2 with ⟨_, rfl⟩ | h
            · exact hk
            · exact h
          have dropR : ∀ (w' w'' : World) (es2 : Array MapEntry), Hp w0 w' [Bx b6 x, .blk ib (.mapIter (some mb) c (seen.push a.born) c), Bx b3 r, Td tb v' (.map (some mb)), Rt v' (putM l r), Mp mb es' c] → KM Q es2 c → (∀ a2 ∈ es2.toList, a2 ∈ es'.toList ∧ a2.key ≠ rv x) → (∀ p : MapEntry → Bool, (es2.filter p).size ≤ (es'.filter p).size) → SetB w' mb (.map es2 c) w'' →
              (leftOf es2 (seen.push a.born)).size < (leftOf es' seen).size ∧ KM Q es2 c ∧ (∀ a2 ∈ es2.toList, ∀ y, a2.key = rv y → (seen.push a.born).contains a2.born = true → Kp r y) ∧ Hp w0 w'' [.blk ib (.mapIter (some mb) c (seen.push a.born) c), Bx b3 r, Td tb v' (.map (some mb)), Rt v' (putM l r), Mp mb es2 c] := by
            intro w' w'' es2 hw' k1 k2 k3 hs
            refine ⟨Nat.lt_of_le_of_lt (k3 _) hmea, k1, fun a2 h2 y hy hc2 => ?_, (hw'.set 5 rfl rfl hs).tail⟩
            rcases hK2 a2 (k2 a2 h2).1 y hy hc2 with ⟨h, _⟩ | h
            · rw [h] at h2
              exact absurd hak (k2 a h2).2
            · exact h
          repeat (first | refine WC.seq ?_ | refine WC.reg ?_ | refine WL.pure rfl rfl rfl ?_ | refine WL.nil ?_ | refine WC.skip ?_ | refine WC.block ?_ | refine WC.condT rfl ?_ | refine WC.condF rfl ?_ | refine WL.off rfl rfl rfl ?_ | refine WL.off0 rfl rfl ?_ | refine WC.exit ?_ | refine blk_hit ?_ | refine blk_miss rfl ?_ | refine WC.ret ?_)
          refine WL.split 42 rfl (fun h1 => ?_) (fun h1 => ?_)
          · repeat (first | refine WC.seq ?_ | refine WC.reg ?_ | refine WL.pure rfl rfl rfl ?_ | refine WL.nil ?_ | refine WC.skip ?_ | refine WC.block ?_ | refine WC.condT rfl ?_ | refine WC.condF rfl ?_ | refine WL.off rfl rfl rfl ?_ | refine WL.off0 rfl rfl ?_ | refine WC.exit ?_ | refine blk_hit ?_ | refine blk_miss rfl ?_ | refine WC.ret ?_)
            refine WC.regS 5 mixed (by kernel_rfl) rfl rfl (fun w7 hw7 hh7 => ?_)
            have hp7 := hp6.keep hw7
            repeat (first | refine WS.pure rfl rfl rfl ?_ | refine WS.off rfl rfl rfl ?_ | refine WS.nil ?_)
            refine WS.val rfl rfl (yNil rfl) ?_
            repeat (first | refine WS.pure rfl rfl rfl ?_ | refine WS.off rfl rfl rfl ?_ | refine WS.nil ?_)
            refine WS.loadB rfl rfl rfl rfl rfl (hp7.obj 3 rfl) (j := 1) rfl ?_
            refine WS.val rfl rfl (run_loadN (cs := rc x) rfl rfl rfl rfl (fun j v hj => by rw [Addr.add_lit]; exact box_cell hp7 j v hj)) ?_
            repeat (first | refine WS.pure rfl rfl rfl ?_ | refine WS.off rfl rfl rfl ?_ | refine WS.nil ?_)
            refine WL.delM x rfl rty rfl rfl rfl (hp7.obj 5 rfl) hK' (fun es2 w8 k1 k2 k3 hw8 => ?_)
            obtain ⟨q1, q2, q3, q4⟩ := dropR w7 w8 es2 hp7 k1 k2 k3 hw8
            repeat (first | refine WC.seq ?_ | refine WC.reg ?_ | refine WL.pure rfl rfl rfl ?_ | refine WL.nil ?_ | refine WC.skip ?_ | refine WC.block ?_ | refine WC.condT rfl ?_ | refine WC.condF rfl ?_ | refine WL.off rfl rfl rfl ?_ | refine WL.off0 rfl rfl ?_ | refine WC.exit ?_ | refine blk_hit ?_ | refine blk_miss rfl ?_ | refine WC.ret ?_)
            exact ⟨(es2, seen.push a.born), q1, ⟨rfl, rfl, rfl, rfl⟩, q2, q3, q4⟩
          · repeat (first | refine WC.seq ?_ | refine WC.reg ?_ | refine WL.pure rfl rfl rfl ?_ | refine WL.nil ?_ | refine WC.skip ?_ | refine WC.block ?_ | refine WC.condT rfl ?_ | refine WC.condF rfl ?_ | refine WL.off rfl rfl rfl ?_ | refine WL.off0 rfl rfl ?_ | refine WC.exit ?_ | refine blk_hit ?_ | refine blk_miss rfl ?_ | refine WC.ret ?_)
            refine WL.loadB rfl rfl rfl rfl rfl (hp6.obj 0 rfl) (j := 1) rfl ?_
            repeat (first | refine WC.seq ?_ | refine WC.reg ?_ | refine WL.pure rfl rfl rfl ?_ | refine WL.nil ?_ | refine WC.skip ?_ | refine WC.block ?_ | refine WC.condT rfl ?_ | refine WC.condF rfl ?_ | refine WL.off rfl rfl rfl ?_ | refine WL.off0 rfl rfl ?_ | refine WC.exit ?_ | refine blk_hit ?_ | refine blk_miss rfl ?_ | refine WC.ret ?_)
            refine WL.loadB rfl rfl rfl rfl rfl (hp6.obj 2 rfl) (j := 0) rfl ?_
            refine WL.callP rfl rfl rfl rfl rfl ent97 (Contains_any x.2 r.1 mm w6 (by omega) hmm) ?_
            repeat (first | refine WC.seq ?_ | refine WC.reg ?_ | refine WL.pure rfl rfl rfl ?_ | refine WL.nil ?_ | refine WC.skip ?_ | refine WC.block ?_ | refine WC.condT rfl ?_ | refine WC.condF rfl ?_ | refine WL.off rfl rfl rfl ?_ | refine WL.off0 rfl rfl ?_ | refine WC.exit ?_ | refine blk_hit ?_ | refine blk_miss rfl ?_ | refine WC.ret ?_)
            refine WC.cond rfl (fun h2 => ?_) (fun h2 => ?_)
            · repeat (first | refine WC.seq ?_ | refine WC.reg ?_ | refine WL.pure rfl rfl rfl ?_ | refine WL.nil ?_ | refine WC.skip ?_ | refine WC.block ?_ | refine WC.condT rfl ?_ | refine WC.condF rfl ?_ | refine WL.off rfl rfl rfl ?_ | refine WL.off0 rfl rfl ?_ | refine WC.exit ?_ | refine blk_hit ?_ | refine blk_miss rfl ?_ | refine WC.ret ?_)
              refine WC.regS 5 mixed (by kernel_rfl) rfl rfl (fun w7 hw7 hh7 => ?_)
              have hp7 := hp6.keep hw7
              repeat (first | refine WS.pure rfl rfl rfl ?_ | refine WS.off rfl rfl rfl ?_ | refine WS.nil ?_)
              refine WS.val rfl rfl (yNil rfl) ?_
              repeat (first | refine WS.pure rfl rfl rfl ?_ | refine WS.off rfl rfl rfl ?_ | refine WS.nil ?_)
              refine WS.loadB rfl rfl rfl rfl rfl (hp7.obj 3 rfl) (j := 1) rfl ?_
              refine WS.val rfl rfl (run_loadN (cs := rc x) rfl rfl rfl rfl (fun j v hj => by rw [Addr.add_lit]; exact box_cell hp7 j v hj)) ?_
              repeat (first | refine WS.pure rfl rfl rfl ?_ | refine WS.off rfl rfl rfl ?_ | refine WS.nil ?_)
              refine WL.delM x rfl rty rfl rfl rfl (hp7.obj 5 rfl) hK' (fun es2 w8 k1 k2 k3 hw8 => ?_)
              obtain ⟨q1, q2, q3, q4⟩ := dropR w7 w8 es2 hp7 k1 k2 k3 hw8
              repeat (first | refine WC.seq ?_ | refine WC.reg ?_ | refine WL.pure rfl rfl rfl ?_ | refine WL.nil ?_ | refine WC.skip ?_ | refine WC.block ?_ | refine WC.condT rfl ?_ | refine WC.condF rfl ?_ | refine WL.off rfl rfl rfl ?_ | refine WL.off0 rfl rfl ?_ | refine WC.exit ?_ | refine blk_hit ?_ | refine blk_miss rfl ?_ | refine WC.ret ?_)
              exact ⟨(es2, seen.push a.born), q1, ⟨rfl, rfl, rfl, rfl⟩, q2, q3, q4⟩
            · repeat (first | refine WC.seq ?_ | refine WC.reg ?_ | refine WL.pure rfl rfl rfl ?_ | refine WL.nil ?_ | refine WC.skip ?_ | refine WC.block ?_ | refine WC.condT rfl ?_ | refine WC.condF rfl ?_ | refine WL.off rfl rfl rfl ?_ | refine WL.off0 rfl rfl ?_ | refine WC.exit ?_ | refine blk_hit ?_ | refine blk_miss rfl ?_ | refine WC.ret ?_)
              obtain ⟨q1, q2, q3, q4⟩ := keepR ⟨h1, h2⟩ w6 hp6
              exact ⟨(es', seen.push a.born), q1, ⟨rfl, rfl, rfl, rfl⟩, q2, q3, q4⟩
end Go.Proofs.YtoghnhbjdnjghaaGreat
