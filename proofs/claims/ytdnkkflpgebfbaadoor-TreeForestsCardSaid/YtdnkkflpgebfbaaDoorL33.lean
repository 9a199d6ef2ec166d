/- The walk of 'isTree'. -/
import Derived.Test.YtdnkkflpgebfbaaDoorL32
import Derived.Test.YtdnkkflpgebfbaaDoorPt
namespace Go.Proofs.YtdnkkflpgebfbaaDoor
open Go.W Go.Tree
set_option maxRecDepth 100000
attribute [local irreducible] WC WL WQ WS WH

/-- A list with a number for each place. -/
def fl (N : Nat) (f : Nat → Nat) : List Nat := (List.range N).map f
theorem fl_len (N : Nat) (f : Nat → Nat) : (fl N f).length = N := by simp [fl]
theorem fl_at {N i : Nat} (f : Nat → Nat) (h : i < N) : (ints (fl N f))[i]? = some (.int .i64 (f i : Nat)) := by
  simp [ints, fl, h]
theorem fl_congr {N : Nat} {f f' : Nat → Nat} (h : ∀ j, j < N → f j = f' j) : fl N f = fl N f' := by
  unfold fl
  exact List.map_congr_left fun j hj => h j (by simpa using hj)
theorem fl_set (N i x : Nat) (f : Nat → Nat) : (fl N f).set i x = fl N fun j => if j = i then x else f j := by
  apply List.ext_getElem?
  intro j
  by_cases h : j < N
  · by_cases h1 : j = i
    · subst h1
      rw [List.getElem?_set_self (by rw [fl_len]; exact h)]
      simp [fl, h]
    · rw [List.getElem?_set_ne (Ne.symm h1)]
      simp [fl, h, h1]
  · rw [List.getElem?_eq_none (by simp [fl_len]; omega), List.getElem?_eq_none (by simp [fl_len]; omega)]
theorem fl_zero (N : Nat) : List.replicate N 0 = fl N fun _ => 0 := by
  apply List.ext_getElem?
  intro i
  by_cases h : i < N
  · simp [fl, h]
  · rw [List.getElem?_eq_none (by simp; omega), List.getElem?_eq_none (by simp [fl]; omega)]

def badL (N : Nat) (f : Nat → Nat) (l : Ed) : Bool := decide (l.1 < 0) || (decide ((N : Int) ≤ l.1) || (decide (l.2 < 0) || (decide ((N : Int) ≤ l.2) || f l.1.toNat == f l.2.toNat)))
def ufB (N : Nat) : (Nat → Nat) → List Ed → Bool
  | _, [] => true
  | f, l :: L => !badL N f l && ufB N (mrg f l.1.toNat l.2.toNat) L
def isTreeB (N : Nat) (es : List Ed) : Bool := es.length + 1 == N && ufB N id es

theorem isTree_any (ea : Option Addr) (cap : Nat) (N : Nat) (es : List Ed) (hN0 : 0 < N) (hN : N ≤ 1000) (w : World) (hs : Sl w ea (prs es)) :
    Ret Tryd.prog 60 [.int .i64 N, .slice ea es.length cap] w fun v w' => Hp w w' [] ∧ v = .bool (isTreeB N es) := by
  have en : IntKind.i64.wrap ((N : Int) - 1) = ((N - 1 : Nat) : Int) := by rw [wrap_i64_in (by omega) (by omega)]; omega
  refine enter Tryd.func60 rfl rfl ⟨rfl, rfl⟩ rfl ?_
  repeat (first | refine WC.seq ?_ | refine WC.reg ?_ | refine WL.pure rfl rfl rfl ?_ | refine WL.nil ?_ | refine WC.skip ?_ | refine WC.block ?_ | refine WC.condT rfl ?_ | refine WC.condF rfl ?_ | refine WL.off rfl rfl rfl ?_ | refine WL.off0 rfl rfl ?_ | refine WC.exit ?_ | refine blk_hit ?_ | refine blk_miss rfl ?_ | refine WC.ret ?_)
  refine WC.cond rfl (fun hc => ?_) (fun hc => ?_)
  · have hc : es.length + 1 ≠ N := by rw [en] at hc; simp at hc; omega
    repeat (first | refine WC.seq ?_ | refine WC.reg ?_ | refine WL.pure rfl rfl rfl ?_ | refine WL.nil ?_ | refine WC.skip ?_ | refine WC.block ?_ | refine WC.condT rfl ?_ | refine WC.condF rfl ?_ | refine WL.off rfl rfl rfl ?_ | refine WL.off0 rfl rfl ?_ | refine WC.exit ?_ | refine blk_hit ?_ | refine blk_miss rfl ?_ | refine WC.ret ?_)
    exact Res.one rfl rfl rfl ⟨Hp.start w, by rw [isTreeB, beq_eq_false_iff_ne.2 hc]; rfl⟩
  have hc : es.length + 1 = N := by rw [en] at hc; simp at hc; omega
  repeat (first | refine WC.seq ?_ | refine WC.reg ?_ | refine WL.pure rfl rfl rfl ?_ | refine WL.nil ?_ | refine WC.skip ?_ | refine WC.block ?_ | refine WC.condT rfl ?_ | refine WC.condF rfl ?_ | refine WL.off rfl rfl rfl ?_ | refine WL.off0 rfl rfl ?_ | refine WC.exit ?_ | refine blk_hit ?_ | refine blk_miss rfl ?_ | refine WC.ret ?_)
  refine WL.make (m := N) rfl rfl rfl rfl rfl rfl rfl rfl ?_ ?_ ?_
  · show 8 * N ≤ _; omega
  · unfold maxLen; omega
  intro b w1 hb
  have hz : (List.replicate N ti3.zero) = ints (fl N fun _ => 0) := by rw [← fl_zero]; simp only [ints, List.map_replicate]; rfl
  rw [hz] at hb
  have hp1 := (Hp.start w).new hb
  have hz2 : (fl N fun _ => 0) = fl N fun j => if j < 0 then j else 0 := fl_congr fun j _ => by rw [if_neg (by omega)]
  rw [hz2] at hp1
  repeat (first | refine WC.seq ?_ | refine WC.reg ?_ | refine WL.pure rfl rfl rfl ?_ | refine WL.nil ?_ | refine WC.skip ?_ | refine WC.block ?_ | refine WC.condT rfl ?_ | refine WC.condF rfl ?_ | refine WL.off rfl rfl rfl ?_ | refine WL.off0 rfl rfl ?_ | refine WC.exit ?_ | refine blk_hit ?_ | refine blk_miss rfl ?_ | refine WC.ret ?_)
  refine WC.loop Nat (fun i => [(0, .int .i64 (N : Nat)), (1, .slice ea es.length cap), (5, .slice (some ⟨b, 0, none⟩) N N), (20, .int .i64 (N : Nat)), (21, .int .i64 (i : Nat))])
    (fun i w' => i ≤ N ∧ Hp w w' [.blk b (.cells (ints (fl N fun j => if j < i then j else 0)).toArray 3 (0, 0))]) (fun i => N - i) 0 ⟨rfl, rfl, rfl, rfl, rfl, rfl⟩ ⟨Nat.zero_le _, hp1⟩ ?_
  rintro i w2 ⟨hi, hp2⟩
  repeat (first | refine WC.seq ?_ | refine WC.reg ?_ | refine WL.pure rfl rfl rfl ?_ | refine WL.nil ?_ | refine WC.skip ?_ | refine WC.block ?_ | refine WC.condT rfl ?_ | refine WC.condF rfl ?_ | refine WL.off rfl rfl rfl ?_ | refine WL.off0 rfl rfl ?_ | refine WC.exit ?_ | refine blk_hit ?_ | refine blk_miss rfl ?_ | refine WC.ret ?_)
  refine WC.cond rfl (fun hq => ?_) (fun hq => ?_)
  · have hi : i < N := by have := of_decide_eq_true hq; omega
    have step : IntKind.i64.wrap ((i : Int) + 1) = ((i + 1 : Nat) : Int) := by rw [wrap_i64_in (by omega) (by omega)]; omega
    repeat (first | refine WC.seq ?_ | refine WC.reg ?_ | refine WL.pure rfl rfl rfl ?_ | refine WL.nil ?_ | refine WC.skip ?_ | refine WC.block ?_ | refine WC.condT rfl ?_ | refine WC.condF rfl ?_ | refine WL.off rfl rfl rfl ?_ | refine WL.off0 rfl rfl ?_ | refine WC.exit ?_ | refine blk_hit ?_ | refine blk_miss rfl ?_ | refine WC.ret ?_)
    refine WL.ix1 rfl rfl rfl rfl rfl rfl rfl (j := i) hi ?_
    refine WL.store rfl rfl rfl rfl rfl rfl (hp2.obj 0 rfl) (by simp [ints, fl]; omega) (fun w3 hw3 => ?_)
    have e1 : (fl N fun j => if j < i then j else 0).set i i = fl N fun j => if j < i + 1 then j else 0 := by
      rw [fl_set]
      refine fl_congr fun j _ => ?_
      by_cases h : j = i
      · subst h; simp
      · rw [if_neg h]
        by_cases h1 : j < i
        · rw [if_pos h1, if_pos (by omega)]
        · rw [if_neg h1, if_neg (by omega)]
    rw [Nat.zero_add, ints_set, e1] at hw3
    have hp3 := hp2.set 0 rfl rfl hw3
    repeat (first | refine WC.seq ?_ | refine WC.reg ?_ | refine WL.pure rfl rfl rfl ?_ | refine WL.nil ?_ | refine WC.skip ?_ | refine WC.block ?_ | refine WC.condT rfl ?_ | refine WC.condF rfl ?_ | refine WL.off rfl rfl rfl ?_ | refine WL.off0 rfl rfl ?_ | refine WC.exit ?_ | refine blk_hit ?_ | refine blk_miss rfl ?_ | refine WC.ret ?_)
    exact ⟨i + 1, by show N - (i + 1) < N - i; omega, ⟨rfl, rfl, rfl, rfl, congrArg (fun z => some (Value.int .i64 z)) step, rfl⟩, hi, hp3⟩
  have hi : i = N := by have := of_decide_eq_false hq; omega
  subst hi
  have hid : (fl i fun j => if j < i then j else 0) = fl i id := fl_congr fun j hj => by rw [if_pos hj]; rfl
  rw [hid] at hp2
  repeat (first | refine WC.seq ?_ | refine WC.reg ?_ | refine WL.pure rfl rfl rfl ?_ | refine WL.nil ?_ | refine WC.skip ?_ | refine WC.block ?_ | refine WC.condT rfl ?_ | refine WC.condF rfl ?_ | refine WL.off rfl rfl rfl ?_ | refine WL.off0 rfl rfl ?_ | refine WC.exit ?_ | refine blk_hit ?_ | refine blk_miss rfl ?_ | refine WC.ret ?_)
  refine WC.loop (Nat × (Nat → Nat)) (fun (k, f) => [(0, .int .i64 (i : Nat)), (5, .slice (some ⟨b, 0, none⟩) i i), (29, .slice ea es.length cap), (30, .int .i64 (es.length : Nat)), (31, .int .i64 (k : Nat))])
    (fun (k, f) w' => k ≤ es.length ∧ isTreeB i es = ufB i f (es.drop k) ∧ Hp w w' [.blk b (.cells (ints (fl i f)).toArray 3 (0, 0))]) (fun (k, f) => es.length - k) (0, id)
    ⟨rfl, rfl, rfl, rfl, rfl, rfl⟩ ⟨Nat.zero_le _, by rw [isTreeB, hc]; simp, hp2⟩ ?_
  rintro ⟨k, f⟩ w4 ⟨hk, hB, hp4⟩
  repeat (first | refine WC.seq ?_ | refine WC.reg ?_ | refine WL.pure rfl rfl rfl ?_ | refine WL.nil ?_ | refine WC.skip ?_ | refine WC.block ?_ | refine WC.condT rfl ?_ | refine WC.condF rfl ?_ | refine WL.off rfl rfl rfl ?_ | refine WL.off0 rfl rfl ?_ | refine WC.exit ?_ | refine blk_hit ?_ | refine blk_miss rfl ?_ | refine WC.ret ?_)
  refine WC.cond rfl (fun hq => ?_) (fun hq => ?_)
  · have hk : k < es.length := by have := of_decide_eq_true hq; omega
    have step : IntKind.i64.wrap ((k : Int) + 1) = ((k + 1 : Nat) : Int) := by rw [wrap_i64_in (by omega) (by omega)]; omega
    have hdr : es.drop k = es[k] :: es.drop (k + 1) := List.drop_eq_getElem_cons hk
    rw [hdr, ufB] at hB
    repeat (first | refine WC.seq ?_ | refine WC.reg ?_ | refine WL.pure rfl rfl rfl ?_ | refine WL.nil ?_ | refine WC.skip ?_ | refine WC.block ?_ | refine WC.condT rfl ?_ | refine WC.condF rfl ?_ | refine WL.off rfl rfl rfl ?_ | refine WL.off0 rfl rfl ?_ | refine WC.exit ?_ | refine blk_hit ?_ | refine blk_miss rfl ?_ | refine WC.ret ?_)
    refine WL.ixloadN (cs' := pr es[k]) rfl (fun _ => rfl) rfl rfl rfl rfl rfl rfl rfl rfl hk rfl rfl (hs.hp hp4) rfl (prs_at es k hk) ?_
    intro p
    generalize hek : es[k] = l at *
    obtain ⟨x, y⟩ := l
    refine WL.var rfl rfl rfl (fun _ => rfl) rfl rfl (show ∀ u ∈ pr (x, y), u.oneCell' = true from Cells.cons rfl (Cells.cons rfl Cells.nil)) ?_
    intro b8 w5 hb8
    have hp5 := hp4.new hb8
    have cE : ∀ w', Hp w w' [.blk b8 (.cells (Value.agg (pr (x, y)).toArray).cells 50 (0, 0)), .blk b (.cells (ints (fl i f)).toArray 3 (0, 0))] →
        w'.cell? ⟨b8, 0 + 0 * 1, none⟩ = some (.int .i64 x) ∧ w'.cell? ⟨b8, 0 + 1 * 1, none⟩ = some (.int .i64 y) ∧ ∀ j, j < i → w'.cell? ⟨b, 0 + j, none⟩ = some (.int .i64 (f j : Nat)) := fun w' h =>
      ⟨cell_of_obj (h.obj 0 rfl) rfl, cell_of_obj (h.obj 0 rfl) rfl, fun j hj => cell_of_obj (h.obj 1 rfl) (by rw [Nat.zero_add]; simpa using fl_at f hj)⟩
    repeat (first | refine WC.seq ?_ | refine WC.reg ?_ | refine WL.pure rfl rfl rfl ?_ | refine WL.nil ?_ | refine WC.skip ?_ | refine WC.block ?_ | refine WC.condT rfl ?_ | refine WC.condF rfl ?_ | refine WL.off rfl rfl rfl ?_ | refine WL.off0 rfl rfl ?_ | refine WC.exit ?_ | refine blk_hit ?_ | refine blk_miss rfl ?_ | refine WC.ret ?_)
    refine WC.mid Bool (fun r => [(0, .int .i64 (i : Nat)), (5, .slice (some ⟨b, 0, none⟩) i i), (8, .pointer (some ⟨b8, 0, none⟩)), (29, .slice ea es.length cap), (30, .int .i64 (es.length : Nat)), (31, .int .i64 (k : Nat)), (67, .bool r)])
      (fun r w' => r = badL i f (x, y) ∧ Hp w w' [.blk b8 (.cells (Value.agg (pr (x, y)).toArray).cells 50 (0, 0)), .blk b (.cells (ints (fl i f)).toArray 3 (0, 0))]) ?_ ?_
    · refine WC.regQ (fun w' => Hp w w' _) mixed (by kernel_rfl) (fun w' hw' => hp5.keep hw') ?_
      repeat (first | refine WQ.pure rfl rfl rfl ?_ | refine WQ.off rfl rfl rfl ?_ | refine WQ.nil ?_)
      refine WQ.load rfl rfl rfl rfl rfl (fun w' h => (cE w' h).1) ?_
      repeat (first | refine WQ.pure rfl rfl rfl ?_ | refine WQ.off rfl rfl rfl ?_ | refine WQ.nil ?_)
      refine WQ.split 38 rfl (fun h1 => ?_) (fun h1 => ?_)
      · repeat (first | refine WQ.pure rfl rfl rfl ?_ | refine WQ.off rfl rfl rfl ?_ | refine WQ.nil ?_)
        intro w' h
        exact ⟨_, ⟨rfl, rfl, rfl, rfl, rfl, rfl, rfl, rfl⟩, by simp [badL, of_decide_eq_true h1], h⟩
      have g1 : ¬ x < 0 := of_decide_eq_false h1
      repeat (first | refine WQ.pure rfl rfl rfl ?_ | refine WQ.off rfl rfl rfl ?_ | refine WQ.nil ?_)
      refine WQ.load rfl rfl rfl rfl rfl (fun w' h => (cE w' h).1) ?_
      repeat (first | refine WQ.pure rfl rfl rfl ?_ | refine WQ.off rfl rfl rfl ?_ | refine WQ.nil ?_)
      refine WQ.split 44 rfl (fun h2 => ?_) (fun h2 => ?_)
      · repeat (first | refine WQ.pure rfl rfl rfl ?_ | refine WQ.off rfl rfl rfl ?_ | refine WQ.nil ?_)
        intro w' h
        exact ⟨_, ⟨rfl, rfl, rfl, rfl, rfl, rfl, rfl, rfl⟩, by simp [badL, of_decide_eq_true h2], h⟩
      have g2 : ¬ (i : Int) ≤ x := of_decide_eq_false h2
      repeat (first | refine WQ.pure rfl rfl rfl ?_ | refine WQ.off rfl rfl rfl ?_ | refine WQ.nil ?_)
      refine WQ.load rfl rfl rfl rfl rfl (fun w' h => (cE w' h).2.1) ?_
      repeat (first | refine WQ.pure rfl rfl rfl ?_ | refine WQ.off rfl rfl rfl ?_ | refine WQ.nil ?_)
      refine WQ.split 49 rfl (fun h3 => ?_) (fun h3 => ?_)
      · repeat (first | refine WQ.pure rfl rfl rfl ?_ | refine WQ.off rfl rfl rfl ?_ | refine WQ.nil ?_)
        intro w' h
        exact ⟨_, ⟨rfl, rfl, rfl, rfl, rfl, rfl, rfl, rfl⟩, by simp [badL, of_decide_eq_true h3], h⟩
      have g3 : ¬ y < 0 := of_decide_eq_false h3
      repeat (first | refine WQ.pure rfl rfl rfl ?_ | refine WQ.off rfl rfl rfl ?_ | refine WQ.nil ?_)
      refine WQ.load rfl rfl rfl rfl rfl (fun w' h => (cE w' h).2.1) ?_
      repeat (first | refine WQ.pure rfl rfl rfl ?_ | refine WQ.off rfl rfl rfl ?_ | refine WQ.nil ?_)
      refine WQ.split 55 rfl (fun h4 => ?_) (fun h4 => ?_)
      · repeat (first | refine WQ.pure rfl rfl rfl ?_ | refine WQ.off rfl rfl rfl ?_ | refine WQ.nil ?_)
        intro w' h
        exact ⟨_, ⟨rfl, rfl, rfl, rfl, rfl, rfl, rfl, rfl⟩, by simp [badL, of_decide_eq_true h4], h⟩
      have g4 : ¬ (i : Int) ≤ y := of_decide_eq_false h4
      obtain ⟨u, rfl⟩ := Int.eq_ofNat_of_zero_le (show 0 ≤ x by omega)
      obtain ⟨v, rfl⟩ := Int.eq_ofNat_of_zero_le (show 0 ≤ y by omega)
      repeat (first | refine WQ.pure rfl rfl rfl ?_ | refine WQ.off rfl rfl rfl ?_ | refine WQ.nil ?_)
      refine WQ.load rfl rfl rfl rfl rfl (fun w' h => (cE w' h).1) ?_
      repeat (first | refine WQ.pure rfl rfl rfl ?_ | refine WQ.off rfl rfl rfl ?_ | refine WQ.nil ?_)
      refine WQ.ixload rfl (fun _ => rfl) rfl rfl rfl rfl rfl rfl rfl (j := u) (by omega) rfl rfl (fun w' h => (cE w' h).2.2 u (by omega)) ?_
      repeat (first | refine WQ.pure rfl rfl rfl ?_ | refine WQ.off rfl rfl rfl ?_ | refine WQ.nil ?_)
      refine WQ.load rfl rfl rfl rfl rfl (fun w' h => (cE w' h).2.1) ?_
      repeat (first | refine WQ.pure rfl rfl rfl ?_ | refine WQ.off rfl rfl rfl ?_ | refine WQ.nil ?_)
      refine WQ.ixload rfl (fun _ => rfl) rfl rfl rfl rfl rfl rfl rfl (j := v) (by omega) rfl rfl (fun w' h => (cE w' h).2.2 v (by omega)) ?_
      repeat (first | refine WQ.pure rfl rfl rfl ?_ | refine WQ.off rfl rfl rfl ?_ | refine WQ.nil ?_)
      intro w' h
      refine ⟨_, ⟨rfl, rfl, rfl, rfl, rfl, rfl, rfl, rfl⟩, ?_, h⟩
      rw [Bool.eq_iff_iff]
      simp [badL]
      omega
    · rintro r e6 w6 hsub ⟨hr, hp6⟩
      refine WC.sub hsub ?_
      refine WC.cond rfl (fun hq => ?_) (fun hq => ?_)
      · repeat (first | refine WC.seq ?_ | refine WC.reg ?_ | refine WL.pure rfl rfl rfl ?_ | refine WL.nil ?_ | refine WC.skip ?_ | refine WC.block ?_ | refine WC.condT rfl ?_ | refine WC.condF rfl ?_ | refine WL.off rfl rfl rfl ?_ | refine WL.off0 rfl rfl ?_ | refine WC.exit ?_ | refine blk_hit ?_ | refine blk_miss rfl ?_ | refine WC.ret ?_)
        exact Res.one rfl rfl rfl ⟨hp6.nil', by rw [hB, ← hr, hq]; rfl⟩
      · rw [hr] at hq
        rw [hq] at hB
        simp [badL] at hq
        obtain ⟨u, rfl⟩ := Int.eq_ofNat_of_zero_le (show 0 ≤ x by omega)
        obtain ⟨v, rfl⟩ := Int.eq_ofNat_of_zero_le (show 0 ≤ y by omega)
        have hu : u < i := by omega
        have hv : v < i := by omega
        have hne : f u ≠ f v := by simpa using hq.2.2.2.2
        have hB : isTreeB i es = ufB i (mrg f u v) (es.drop (k + 1)) := by rw [hB]; simp
        obtain ⟨c1, c2, c3⟩ := cE w6 hp6
        repeat (first | refine WC.seq ?_ | refine WC.reg ?_ | refine WL.pure rfl rfl rfl ?_ | refine WL.nil ?_ | refine WC.skip ?_ | refine WC.block ?_ | refine WC.condT rfl ?_ | refine WC.condF rfl ?_ | refine WL.off rfl rfl rfl ?_ | refine WL.off0 rfl rfl ?_ | refine WC.exit ?_ | refine blk_hit ?_ | refine blk_miss rfl ?_ | refine WC.ret ?_)
        refine WL.load rfl rfl rfl rfl rfl c1 ?_
        refine WL.ixload rfl (fun _ => rfl) rfl rfl rfl rfl rfl rfl rfl hu rfl rfl (Sl.of_obj (hp6.obj 1 rfl) (fun i u h => by simpa using h)) (fl_at f hu) ?_
        intro p2
        have hst : fl i f = fl i fun j => if j < 0 then mrg f u v j else f j := fl_congr fun j _ => by rw [if_neg (by omega)]
        rw [hst] at hp6
        repeat (first | refine WC.seq ?_ | refine WC.reg ?_ | refine WL.pure rfl rfl rfl ?_ | refine WL.nil ?_ | refine WC.skip ?_ | refine WC.block ?_ | refine WC.condT rfl ?_ | refine WC.condF rfl ?_ | refine WL.off rfl rfl rfl ?_ | refine WL.off0 rfl rfl ?_ | refine WC.exit ?_ | refine blk_hit ?_ | refine blk_miss rfl ?_ | refine WC.ret ?_)
        refine WC.loop Nat (fun j => [(0, .int .i64 (i : Nat)), (5, .slice (some ⟨b, 0, none⟩) i i), (8, .pointer (some ⟨b8, 0, none⟩)), (9, .int .i64 (f u : Nat)), (29, .slice ea es.length cap), (30, .int .i64 (es.length : Nat)), (31, .int .i64 (k : Nat)), (73, .slice (some ⟨b, 0, none⟩) i i), (74, .int .i64 (i : Nat)), (75, .int .i64 (j : Nat))])
          (fun j w' => j ≤ i ∧ Hp w w' [.blk b8 (.cells (Value.agg (pr ((u : Int), (v : Int))).toArray).cells 50 (0, 0)), .blk b (.cells (ints (fl i fun q => if q < j then mrg f u v q else f q)).toArray 3 (0, 0))]) (fun j => i - j) 0
          ⟨rfl, rfl, rfl, rfl, rfl, rfl, rfl, rfl, rfl, rfl, rfl⟩ ⟨Nat.zero_le _, hp6⟩ ?_
        rintro j w7 ⟨hj, hp7⟩
        repeat (first | refine WC.seq ?_ | refine WC.reg ?_ | refine WL.pure rfl rfl rfl ?_ | refine WL.nil ?_ | refine WC.skip ?_ | refine WC.block ?_ | refine WC.condT rfl ?_ | refine WC.condF rfl ?_ | refine WL.off rfl rfl rfl ?_ | refine WL.off0 rfl rfl ?_ | refine WC.exit ?_ | refine blk_hit ?_ | refine blk_miss rfl ?_ | refine WC.ret ?_)
        refine WC.cond rfl (fun hc2 => ?_) (fun hc2 => ?_)
        · have hj : j < i := by have := of_decide_eq_true hc2; omega
          have step2 : IntKind.i64.wrap ((j : Int) + 1) = ((j + 1 : Nat) : Int) := by rw [wrap_i64_in (by omega) (by omega)]; omega
          have hfj := fl_at (fun q => if q < j then mrg f u v q else f q) hj
          have hfv := fl_at (fun q => if q < j then mrg f u v q else f q) hv
          simp only [Nat.lt_irrefl, if_false] at hfj
          have hmv : mrg f u v v = f v := by unfold mrg; rw [if_neg (fun h => hne h.symm)]
          have hfv2 : (if v < j then mrg f u v v else f v) = f v := by rw [hmv]; split <;> rfl
          simp only [hfv2] at hfv
          repeat (first | refine WC.seq ?_ | refine WC.reg ?_ | refine WL.pure rfl rfl rfl ?_ | refine WL.nil ?_ | refine WC.skip ?_ | refine WC.block ?_ | refine WC.condT rfl ?_ | refine WC.condF rfl ?_ | refine WL.off rfl rfl rfl ?_ | refine WL.off0 rfl rfl ?_ | refine WC.exit ?_ | refine blk_hit ?_ | refine blk_miss rfl ?_ | refine WC.ret ?_)
          refine WL.ixload rfl (fun _ => rfl) rfl rfl rfl rfl rfl rfl rfl hj rfl rfl (Sl.of_obj (hp7.obj 1 rfl) (fun i u h => by simpa using h)) hfj ?_
          intro p3
          repeat (first | refine WC.seq ?_ | refine WC.reg ?_ | refine WL.pure rfl rfl rfl ?_ | refine WL.nil ?_ | refine WC.skip ?_ | refine WC.block ?_ | refine WC.condT rfl ?_ | refine WC.condF rfl ?_ | refine WL.off rfl rfl rfl ?_ | refine WL.off0 rfl rfl ?_ | refine WC.exit ?_ | refine blk_hit ?_ | refine blk_miss rfl ?_ | refine WC.ret ?_)
          refine WC.cond rfl (fun hc3 => ?_) (fun hc3 => ?_)
          · have hc3 : f j = f u := by simp at hc3; omega
            repeat (first | refine WC.seq ?_ | refine WC.reg ?_ | refine WL.pure rfl rfl rfl ?_ | refine WL.nil ?_ | refine WC.skip ?_ | refine WC.block ?_ | refine WC.condT rfl ?_ | refine WC.condF rfl ?_ | refine WL.off rfl rfl rfl ?_ | refine WL.off0 rfl rfl ?_ | refine WC.exit ?_ | refine blk_hit ?_ | refine blk_miss rfl ?_ | refine WC.ret ?_)
            refine WL.load rfl rfl rfl rfl rfl (show w7.cell? ⟨b8, 0 + 1 * 1, none⟩ = _ from cell_of_obj (hp7.obj 0 rfl) rfl) ?_
            refine WL.ixload rfl (fun _ => rfl) rfl rfl rfl rfl rfl rfl rfl hv rfl rfl (Sl.of_obj (hp7.obj 1 rfl) (fun i u h => by simpa using h)) hfv ?_
            intro p4
            refine WL.ix1 rfl rfl rfl rfl rfl rfl rfl (j := j) hj ?_
            refine WL.store rfl rfl rfl rfl rfl rfl (hp7.obj 1 rfl) (by simp [ints, fl]; omega) (fun w8 hw8 => ?_)
            have e1 : (fl i fun q => if q < j then mrg f u v q else f q).set j (f v) = fl i fun q => if q < j + 1 then mrg f u v q else f q := by
              rw [fl_set]
              refine fl_congr fun q _ => ?_
              by_cases h : q = j
              · subst h
                rw [if_pos rfl, if_pos (by omega)]
                unfold mrg
                rw [if_pos hc3]
              · rw [if_neg h]
                by_cases h1 : q < j
                · rw [if_pos h1, if_pos (by omega)]
                · rw [if_neg h1, if_neg (by omega)]
            rw [Nat.zero_add, ints_set, e1] at hw8
            have hp8 := hp7.set 1 rfl rfl hw8
            repeat (first | refine WC.seq ?_ | refine WC.reg ?_ | refine WL.pure rfl rfl rfl ?_ | refine WL.nil ?_ | refine WC.skip ?_ | refine WC.block ?_ | refine WC.condT rfl ?_ | refine WC.condF rfl ?_ | refine WL.off rfl rfl rfl ?_ | refine WL.off0 rfl rfl ?_ | refine WC.exit ?_ | refine blk_hit ?_ | refine blk_miss rfl ?_ | refine WC.ret ?_)
            exact ⟨j + 1, by show i - (j + 1) < i - j; omega, ⟨rfl, rfl, rfl, rfl, rfl, rfl, rfl, rfl, rfl, congrArg (fun z => some (Value.int .i64 z)) step2, rfl⟩, hj, hp8⟩
          · have hc3 : f j ≠ f u := by simp at hc3; omega
            have e1 : (fl i fun q => if q < j then mrg f u v q else f q) = fl i fun q => if q < j + 1 then mrg f u v q else f q := by
              refine fl_congr fun q _ => ?_
              by_cases h : q = j
              · subst h
                rw [if_neg (by omega), if_pos (by omega)]
                unfold mrg
                rw [if_neg hc3]
              · by_cases h1 : q < j
                · rw [if_pos h1, if_pos (by omega)]
                · rw [if_neg h1, if_neg (by omega)]
            rw [e1] at hp7
            repeat (first | refine WC.seq ?_ | refine WC.reg ?_ | refine WL.pure rfl rfl rfl ?_ | refine WL.nil ?_ | refine WC.skip ?_ | refine WC.block ?_ | refine WC.condT rfl ?_ | refine WC.condF rfl ?_ | refine WL.off rfl rfl rfl ?_ | refine WL.off0 rfl rfl ?_ | refine WC.exit ?_ | refine blk_hit ?_ | refine blk_miss rfl ?_ | refine WC.ret ?_)
            exact ⟨j + 1, by show i - (j + 1) < i - j; omega, ⟨rfl, rfl, rfl, rfl, rfl, rfl, rfl, rfl, rfl, congrArg (fun z => some (Value.int .i64 z)) step2, rfl⟩, hj, hp7⟩
        · have hj : j = i := by have := of_decide_eq_false hc2; omega
          subst hj
          have e1 : (fl j fun q => if q < j then mrg f u v q else f q) = fl j (mrg f u v) := fl_congr fun q hq => by rw [if_pos hq]
          rw [e1] at hp7
          repeat (first | refine WC.seq ?_ | refine WC.reg ?_ | refine WL.pure rfl rfl rfl ?_ | refine WL.nil ?_ | refine WC.skip ?_ | refine WC.block ?_ | refine WC.condT rfl ?_ | refine WC.condF rfl ?_ | refine WL.off rfl rfl rfl ?_ | refine WL.off0 rfl rfl ?_ | refine WC.exit ?_ | refine blk_hit ?_ | refine blk_miss rfl ?_ | refine WC.ret ?_)
          exact ⟨(k + 1, mrg f u v), by show es.length - (k + 1) < es.length - k; omega, ⟨rfl, rfl, rfl, rfl, congrArg (fun z => some (Value.int .i64 z)) step, rfl⟩, hk, hB, hp7.tail⟩
  · have hk : k = es.length := by have := of_decide_eq_false hq; omega
    subst hk
    rw [List.drop_length, ufB] at hB
    repeat (first | refine WC.seq ?_ | refine WC.reg ?_ | refine WL.pure rfl rfl rfl ?_ | refine WL.nil ?_ | refine WC.skip ?_ | refine WC.block ?_ | refine WC.condT rfl ?_ | refine WC.condF rfl ?_ | refine WL.off rfl rfl rfl ?_ | refine WL.off0 rfl rfl ?_ | refine WC.exit ?_ | refine blk_hit ?_ | refine blk_miss rfl ?_ | refine WC.ret ?_)
    exact Res.one rfl rfl rfl ⟨hp4.nil', by rw [hB]⟩
end Go.Proofs.YtdnkkflpgebfbaaDoor
