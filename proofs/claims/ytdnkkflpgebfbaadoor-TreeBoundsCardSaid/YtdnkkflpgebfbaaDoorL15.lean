/- The walks of the law's helpers and of the reference's first functions. -/
import Derived.Test.YtdnkkflpgebfbaaDoorL9
import Derived.Test.YtdnkkflpgebfbaaDoorGp
import Derived.Test.YtdnkkflpgebfbaaDoorW9
namespace Go.Proofs.YtdnkkflpgebfbaaDoor
open Go.W Go.Tree
set_option maxRecDepth 100000
attribute [local irreducible] WC WL WQ WS WH

theorem Sl.cell {w : World} {b o i : Nat} {cs : List Value} {u : Value} (h : Sl w (some ⟨b, o, none⟩) cs) (hi : cs[i]? = some u) : w.cell? ⟨b, o + i, none⟩ = some u := by
  obtain ⟨b', o', ha, hc⟩ := h i u hi
  simp only [Option.some.injEq, Addr.mk.injEq] at ha
  rw [ha.1, ha.2.1]; exact hc
theorem Sl.some {w : World} {a : Option Addr} {cs : List Value} {i : Nat} {u : Value} (h : Sl w a cs) (hi : cs[i]? = some u) : ∃ b o, a = some ⟨b, o, none⟩ := by
  obtain ⟨b, o, ha, _⟩ := h i u hi; exact ⟨b, o, ha⟩
theorem prs_get {es : List Ed} {i : Nat} (h : i < es.length) : (prs es)[i * 2 + 0]? = some (.int .i64 (es[i]).1) ∧ (prs es)[i * 2 + 1]? = some (.int .i64 (es[i]).2) :=
  ⟨prs_at es i h 0 _ rfl, prs_at es i h 1 _ rfl⟩
theorem prs_cells (es : List Ed) : Cells (prs es) := by
  intro u hu
  simp only [prs, List.mem_flatMap, pr, List.mem_cons, List.not_mem_nil, or_false] at hu
  obtain ⟨e, _, rfl | rfl⟩ := hu <;> rfl
theorem prs_take : ∀ (es : List Ed) (m : Nat), (prs es).take (m * 2) = prs (es.take m) := by
  intro es
  induction es with
  | nil => intro m; simp [prs]
  | cons e es ih =>
    intro m
    cases m with
    | zero => simp [prs]
    | succ m =>
      have := ih m
      simp only [prs, List.flatMap_cons, List.take_succ_cons] at this ⊢
      rw [show (m + 1) * 2 = m * 2 + 2 by omega, pr, List.cons_append, List.take_succ_cons, List.cons_append, List.take_succ_cons, List.nil_append, this]
      rfl

theorem lines_any (ea : Option Addr) (cap : Nat) (es : List Ed) (w : World) (hs : Sl w ea (prs es)) (hcap : es.length ≤ cap) :
    Ret Tryd.prog 13 [.slice ea es.length cap] w fun v w' => ∃ a c, Hp w w' [.row 50 2 (.slice a (es.take 101).length c) (es.take 101).length (prs (es.take 101))] ∧ v = .slice a (es.take 101).length c := by
  refine enter Tryd.func13 rfl rfl ⟨rfl, rfl⟩ rfl ?_
  have hl : (es.take 101).length = min es.length 101 := by rw [List.length_take]; omega
  have hm : min ((es.length : Nat) : Int) 101 = ((min es.length 101 : Nat) : Int) := by omega
  repeat (first | refine WC.seq ?_ | refine WC.reg ?_ | refine WL.pure rfl rfl rfl ?_ | refine WL.nil ?_ | refine WC.skip ?_ | refine WC.block ?_ | refine WC.condT rfl ?_ | refine WC.condF rfl ?_ | refine WL.off rfl rfl rfl ?_ | refine WL.off0 rfl rfl ?_ | refine WC.exit ?_ | refine blk_hit ?_ | refine blk_miss rfl ?_ | refine WC.ret ?_)
  refine WL.known (d := 8) (congrArg (fun z => some (Value.int .i64 z)) hm) ?_
  refine WL.sliceHi rfl rfl rfl rfl rfl rfl (by omega) ?_
  refine WL.append 0 ((Hp.start w).nilrow 50 2) rfl rfl rfl rfl rfl (by decide) rfl rfl rfl (news := prs (es.take 101)) ?_ (by rw [prs_len, hl]; rfl) (prs_cells _) (by unfold maxLen; omega) ?_ ?_
  · rw [← prs_take]; exact hs.take _
  · show (0 + min es.length 101) * 16 ≤ _; omega
  intro a' c' w' hp' hg'
  repeat (first | refine WC.seq ?_ | refine WC.reg ?_ | refine WL.pure rfl rfl rfl ?_ | refine WL.nil ?_ | refine WC.skip ?_ | refine WC.block ?_ | refine WC.condT rfl ?_ | refine WC.condF rfl ?_ | refine WL.off rfl rfl rfl ?_ | refine WL.off0 rfl rfl ?_ | refine WC.exit ?_ | refine blk_hit ?_ | refine blk_miss rfl ?_ | refine WC.ret ?_)
  refine Res.one rfl rfl rfl ?_
  rw [hl]
  refine ⟨a', c', ?_, ?_⟩
  · have := hp'
    rw [Nat.zero_add, List.nil_append] at this
    exact this
  · rw [Nat.zero_add]

theorem edges_any (ea fa : Option Addr) (ce cf : Nat) (es fs : List Ed) (w : World) (he : Sl w ea (prs es)) (hf : Sl w fa (prs fs)) (hlen : es.length ≤ 4611686018427387904) :
    Ret Tryd.prog 15 [.slice ea es.length ce, .slice fa fs.length cf] w fun v w' => Hp w w' [] ∧ v = .bool (decide (es = fs)) := by
  refine enter Tryd.func15 rfl rfl ⟨rfl, rfl⟩ rfl ?_
  repeat (first | refine WC.seq ?_ | refine WC.reg ?_ | refine WL.pure rfl rfl rfl ?_ | refine WL.nil ?_ | refine WC.skip ?_ | refine WC.block ?_ | refine WC.condT rfl ?_ | refine WC.condF rfl ?_ | refine WL.off rfl rfl rfl ?_ | refine WL.off0 rfl rfl ?_ | refine WC.exit ?_ | refine blk_hit ?_ | refine blk_miss rfl ?_ | refine WC.ret ?_)
  refine WC.cond rfl (fun h0 => ?_) (fun h0 => ?_)
  · have h0 : es.length ≠ fs.length := by intro h; rw [h] at h0; simp at h0
    repeat (first | refine WC.seq ?_ | refine WC.reg ?_ | refine WL.pure rfl rfl rfl ?_ | refine WL.nil ?_ | refine WC.skip ?_ | refine WC.block ?_ | refine WC.condT rfl ?_ | refine WC.condF rfl ?_ | refine WL.off rfl rfl rfl ?_ | refine WL.off0 rfl rfl ?_ | refine WC.exit ?_ | refine blk_hit ?_ | refine blk_miss rfl ?_ | refine WC.ret ?_)
    exact Res.one rfl rfl rfl ⟨Hp.start w, by rw [decide_eq_false (fun h => h0 (by rw [h]))]⟩
  have h0 : es.length = fs.length := by simp at h0; omega
  repeat (first | refine WC.seq ?_ | refine WC.reg ?_ | refine WL.pure rfl rfl rfl ?_ | refine WL.nil ?_ | refine WC.skip ?_ | refine WC.block ?_ | refine WC.condT rfl ?_ | refine WC.condF rfl ?_ | refine WL.off rfl rfl rfl ?_ | refine WL.off0 rfl rfl ?_ | refine WC.exit ?_ | refine blk_hit ?_ | refine blk_miss rfl ?_ | refine WC.ret ?_)
  refine WC.loop Nat (fun i => [(0, .slice ea es.length ce), (1, .slice fa fs.length cf), (5, .int .i64 (i : Nat))]) (fun i w' => i ≤ es.length ∧ es.take i = fs.take i ∧ Hp w w' []) (fun i => es.length - i) 0 ⟨rfl, rfl, rfl, rfl⟩ ⟨Nat.zero_le _, rfl, Hp.start w⟩ ?_
  rintro i w1 ⟨hi, ht, hp1⟩
  repeat (first | refine WC.seq ?_ | refine WC.reg ?_ | refine WL.pure rfl rfl rfl ?_ | refine WL.nil ?_ | refine WC.skip ?_ | refine WC.block ?_ | refine WC.condT rfl ?_ | refine WC.condF rfl ?_ | refine WL.off rfl rfl rfl ?_ | refine WL.off0 rfl rfl ?_ | refine WC.exit ?_ | refine blk_hit ?_ | refine blk_miss rfl ?_ | refine WC.ret ?_)
  refine WC.cond rfl (fun hc => ?_) (fun hc => ?_)
  · have hi : i < es.length := by have := of_decide_eq_true hc; omega
    have hi2 : i < fs.length := by omega
    have step : IntKind.i64.wrap ((i : Int) + 1) = ((i + 1 : Nat) : Int) := by rw [wrap_i64_in (by omega) (by omega)]; omega
    obtain ⟨be, oe, rfl⟩ := Sl.some he (prs_get hi).1
    obtain ⟨bf, of', rfl⟩ := Sl.some hf (prs_get hi2).1
    have lod : ∀ {b o : Nat} {xs : List Ed} (hx : Sl w (some ⟨b, o, none⟩) (prs xs)) (hi : i < xs.length) (w2 : World), Hp w w2 [] → ∀ j v, (pr xs[i])[j]? = some v → w2.cell? ⟨b, o + i * 2 + j, none⟩ = some v := by
      intro b o xs hx hi w2 h2 j v hj
      rw [Nat.add_assoc]
      exact Sl.cell (hx.hp h2) (prs_at xs i hi j v hj)
    repeat (first | refine WC.seq ?_ | refine WC.reg ?_ | refine WL.pure rfl rfl rfl ?_ | refine WL.nil ?_ | refine WC.skip ?_ | refine WC.block ?_ | refine WC.condT rfl ?_ | refine WC.condF rfl ?_ | refine WL.off rfl rfl rfl ?_ | refine WL.off0 rfl rfl ?_ | refine WC.exit ?_ | refine blk_hit ?_ | refine blk_miss rfl ?_ | refine WC.ret ?_)
    refine WC.regQ (fun w2 => Hp w w2 []) mixed (by kernel_rfl) (fun w2 hw2 => hp1.keep hw2) ?_
    repeat (first | refine WQ.pure rfl rfl rfl ?_ | refine WQ.off rfl rfl rfl ?_ | refine WQ.nil ?_)
    refine WQ.ix rfl rfl rfl rfl rfl rfl hi ?_
    refine WQ.loadN (cs := pr es[i]) rfl rfl rfl rfl rfl rfl (fun w2 h2 => lod he hi w2 h2) ?_
    repeat (first | refine WQ.pure rfl rfl rfl ?_ | refine WQ.off rfl rfl rfl ?_ | refine WQ.nil ?_)
    refine WQ.ix rfl rfl rfl rfl rfl rfl hi2 ?_
    refine WQ.loadN (cs := pr fs[i]) rfl rfl rfl rfl rfl rfl (fun w2 h2 => lod hf hi2 w2 h2) ?_
    refine WQ.cmp2 rfl rfl rfl rfl (by kernel_rfl) rfl rfl (.inr ⟨rfl, rfl⟩) ?_
    repeat (first | refine WQ.pure rfl rfl rfl ?_ | refine WQ.off rfl rfl rfl ?_ | refine WQ.nil ?_)
    intro w2 hp2
    repeat (first | refine WC.seq ?_ | refine WC.reg ?_ | refine WL.pure rfl rfl rfl ?_ | refine WL.nil ?_ | refine WC.skip ?_ | refine WC.block ?_ | refine WC.condT rfl ?_ | refine WC.condF rfl ?_ | refine WL.off rfl rfl rfl ?_ | refine WL.off0 rfl rfl ?_ | refine WC.exit ?_ | refine blk_hit ?_ | refine blk_miss rfl ?_ | refine WC.ret ?_)
    refine WC.cond rfl (fun hq => ?_) (fun hq => ?_)
    · repeat (first | refine WC.seq ?_ | refine WC.reg ?_ | refine WL.pure rfl rfl rfl ?_ | refine WL.nil ?_ | refine WC.skip ?_ | refine WC.block ?_ | refine WC.condT rfl ?_ | refine WC.condF rfl ?_ | refine WL.off rfl rfl rfl ?_ | refine WL.off0 rfl rfl ?_ | refine WC.exit ?_ | refine blk_hit ?_ | refine blk_miss rfl ?_ | refine WC.ret ?_)
      refine Res.one rfl rfl rfl ⟨hp2, ?_⟩
      rw [decide_eq_false]
      rintro rfl
      simp at hq
    · have hq : es[i] = fs[i] := by
        simp at hq
        exact Prod.ext hq.1 hq.2
      repeat (first | refine WC.seq ?_ | refine WC.reg ?_ | refine WL.pure rfl rfl rfl ?_ | refine WL.nil ?_ | refine WC.skip ?_ | refine WC.block ?_ | refine WC.condT rfl ?_ | refine WC.condF rfl ?_ | refine WL.off rfl rfl rfl ?_ | refine WL.off0 rfl rfl ?_ | refine WC.exit ?_ | refine blk_hit ?_ | refine blk_miss rfl ?_ | refine WC.ret ?_)
      refine ⟨i + 1, by show es.length - (i + 1) < es.length - i; omega, ⟨rfl, rfl, congrArg (fun z => some (Value.int .i64 z)) step, rfl⟩, hi, ?_, hp2⟩
      rw [List.take_succ_eq_append_getElem hi, List.take_succ_eq_append_getElem hi2, ht, hq]
  · have hi : es.length ≤ i := by have := of_decide_eq_false hc; omega
    rw [List.take_of_length_le hi, List.take_of_length_le (by omega)] at ht
    repeat (first | refine WC.seq ?_ | refine WC.reg ?_ | refine WL.pure rfl rfl rfl ?_ | refine WL.nil ?_ | refine WC.skip ?_ | refine WC.block ?_ | refine WC.condT rfl ?_ | refine WC.condF rfl ?_ | refine WL.off rfl rfl rfl ?_ | refine WL.off0 rfl rfl ?_ | refine WC.exit ?_ | refine blk_hit ?_ | refine blk_miss rfl ?_ | refine WC.ret ?_)
    exact Res.one rfl rfl rfl ⟨hp1, by rw [decide_eq_true ht]⟩

theorem ints_any (ea fa : Option Addr) (ce cf : Nat) (es fs : List Int) (w : World) (he : Sl w ea (zs es)) (hf : Sl w fa (zs fs)) (hlen : es.length ≤ 4611686018427387904) :
    Ret Tryd.prog 21 [.slice ea es.length ce, .slice fa fs.length cf] w fun v w' => Hp w w' [] ∧ v = .bool (decide (es = fs)) := by
  have zget : ∀ {xs : List Int} {i : Nat} (h : i < xs.length), (zs xs)[i]? = some (.int .i64 xs[i]) := by intro xs i h; simp [zs, h]
  refine enter Tryd.func21 rfl rfl ⟨rfl, rfl⟩ rfl ?_
  repeat (first | refine WC.seq ?_ | refine WC.reg ?_ | refine WL.pure rfl rfl rfl ?_ | refine WL.nil ?_ | refine WC.skip ?_ | refine WC.block ?_ | refine WC.condT rfl ?_ | refine WC.condF rfl ?_ | refine WL.off rfl rfl rfl ?_ | refine WL.off0 rfl rfl ?_ | refine WC.exit ?_ | refine blk_hit ?_ | refine blk_miss rfl ?_ | refine WC.ret ?_)
  refine WC.cond rfl (fun h0 => ?_) (fun h0 => ?_)
  · have h0 : es.length ≠ fs.length := by intro h; rw [h] at h0; simp at h0
    repeat (first | refine WC.seq ?_ | refine WC.reg ?_ | refine WL.pure rfl rfl rfl ?_ | refine WL.nil ?_ | refine WC.skip ?_ | refine WC.block ?_ | refine WC.condT rfl ?_ | refine WC.condF rfl ?_ | refine WL.off rfl rfl rfl ?_ | refine WL.off0 rfl rfl ?_ | refine WC.exit ?_ | refine blk_hit ?_ | refine blk_miss rfl ?_ | refine WC.ret ?_)
    exact Res.one rfl rfl rfl ⟨Hp.start w, by rw [decide_eq_false (fun h => h0 (by rw [h]))]⟩
  have h0 : es.length = fs.length := by simp at h0; omega
  repeat (first | refine WC.seq ?_ | refine WC.reg ?_ | refine WL.pure rfl rfl rfl ?_ | refine WL.nil ?_ | refine WC.skip ?_ | refine WC.block ?_ | refine WC.condT rfl ?_ | refine WC.condF rfl ?_ | refine WL.off rfl rfl rfl ?_ | refine WL.off0 rfl rfl ?_ | refine WC.exit ?_ | refine blk_hit ?_ | refine blk_miss rfl ?_ | refine WC.ret ?_)
  refine WC.loop Nat (fun i => [(0, .slice ea es.length ce), (1, .slice fa fs.length cf), (5, .int .i64 (i : Nat))]) (fun i w' => i ≤ es.length ∧ es.take i = fs.take i ∧ Hp w w' []) (fun i => es.length - i) 0 ⟨rfl, rfl, rfl, rfl⟩ ⟨Nat.zero_le _, rfl, Hp.start w⟩ ?_
  rintro i w1 ⟨hi, ht, hp1⟩
  repeat (first | refine WC.seq ?_ | refine WC.reg ?_ | refine WL.pure rfl rfl rfl ?_ | refine WL.nil ?_ | refine WC.skip ?_ | refine WC.block ?_ | refine WC.condT rfl ?_ | refine WC.condF rfl ?_ | refine WL.off rfl rfl rfl ?_ | refine WL.off0 rfl rfl ?_ | refine WC.exit ?_ | refine blk_hit ?_ | refine blk_miss rfl ?_ | refine WC.ret ?_)
  refine WC.cond rfl (fun hc => ?_) (fun hc => ?_)
  · have hi : i < es.length := by have := of_decide_eq_true hc; omega
    have hi2 : i < fs.length := by omega
    have step : IntKind.i64.wrap ((i : Int) + 1) = ((i + 1 : Nat) : Int) := by rw [wrap_i64_in (by omega) (by omega)]; omega
    obtain ⟨be, oe, rfl⟩ := Sl.some he (zget hi)
    obtain ⟨bf, of', rfl⟩ := Sl.some hf (zget hi2)
    repeat (first | refine WC.seq ?_ | refine WC.reg ?_ | refine WL.pure rfl rfl rfl ?_ | refine WL.nil ?_ | refine WC.skip ?_ | refine WC.block ?_ | refine WC.condT rfl ?_ | refine WC.condF rfl ?_ | refine WL.off rfl rfl rfl ?_ | refine WL.off0 rfl rfl ?_ | refine WC.exit ?_ | refine blk_hit ?_ | refine blk_miss rfl ?_ | refine WC.ret ?_)
    refine WC.regQ (fun w2 => Hp w w2 []) mixed (by kernel_rfl) (fun w2 hw2 => hp1.keep hw2) ?_
    repeat (first | refine WQ.pure rfl rfl rfl ?_ | refine WQ.off rfl rfl rfl ?_ | refine WQ.nil ?_)
    refine WQ.ixload rfl (fun _ => rfl) rfl rfl rfl rfl rfl rfl rfl hi rfl rfl (fun w2 h2 => Sl.cell (he.hp h2) (zget hi)) ?_
    repeat (first | refine WQ.pure rfl rfl rfl ?_ | refine WQ.off rfl rfl rfl ?_ | refine WQ.nil ?_)
    refine WQ.ixload rfl (fun _ => rfl) rfl rfl rfl rfl rfl rfl rfl hi2 rfl rfl (fun w2 h2 => Sl.cell (hf.hp h2) (zget hi2)) ?_
    repeat (first | refine WQ.pure rfl rfl rfl ?_ | refine WQ.off rfl rfl rfl ?_ | refine WQ.nil ?_)
    intro w2 hp2
    repeat (first | refine WC.seq ?_ | refine WC.reg ?_ | refine WL.pure rfl rfl rfl ?_ | refine WL.nil ?_ | refine WC.skip ?_ | refine WC.block ?_ | refine WC.condT rfl ?_ | refine WC.condF rfl ?_ | refine WL.off rfl rfl rfl ?_ | refine WL.off0 rfl rfl ?_ | refine WC.exit ?_ | refine blk_hit ?_ | refine blk_miss rfl ?_ | refine WC.ret ?_)
    refine WC.cond rfl (fun hq => ?_) (fun hq => ?_)
    · repeat (first | refine WC.seq ?_ | refine WC.reg ?_ | refine WL.pure rfl rfl rfl ?_ | refine WL.nil ?_ | refine WC.skip ?_ | refine WC.block ?_ | refine WC.condT rfl ?_ | refine WC.condF rfl ?_ | refine WL.off rfl rfl rfl ?_ | refine WL.off0 rfl rfl ?_ | refine WC.exit ?_ | refine blk_hit ?_ | refine blk_miss rfl ?_ | refine WC.ret ?_)
      refine Res.one rfl rfl rfl ⟨hp2, ?_⟩
      rw [decide_eq_false]
      rintro rfl
      simp at hq
    · have hq : es[i] = fs[i] := by simpa using hq
      repeat (first | refine WC.seq ?_ | refine WC.reg ?_ | refine WL.pure rfl rfl rfl ?_ | refine WL.nil ?_ | refine WC.skip ?_ | refine WC.block ?_ | refine WC.condT rfl ?_ | refine WC.condF rfl ?_ | refine WL.off rfl rfl rfl ?_ | refine WL.off0 rfl rfl ?_ | refine WC.exit ?_ | refine blk_hit ?_ | refine blk_miss rfl ?_ | refine WC.ret ?_)
      refine ⟨i + 1, by show es.length - (i + 1) < es.length - i; omega, ⟨rfl, rfl, congrArg (fun z => some (Value.int .i64 z)) step, rfl⟩, hi, ?_, hp2⟩
      rw [List.take_succ_eq_append_getElem hi, List.take_succ_eq_append_getElem hi2, ht, hq]
  · have hi : es.length ≤ i := by have := of_decide_eq_false hc; omega
    rw [List.take_of_length_le hi, List.take_of_length_le (by omega)] at ht
    repeat (first | refine WC.seq ?_ | refine WC.reg ?_ | refine WL.pure rfl rfl rfl ?_ | refine WL.nil ?_ | refine WC.skip ?_ | refine WC.block ?_ | refine WC.condT rfl ?_ | refine WC.condF rfl ?_ | refine WL.off rfl rfl rfl ?_ | refine WL.off0 rfl rfl ?_ | refine WC.exit ?_ | refine blk_hit ?_ | refine blk_miss rfl ?_ | refine WC.ret ?_)
    exact Res.one rfl rfl rfl ⟨hp1, by rw [decide_eq_true ht]⟩

theorem bit_any (v : Nat) (hv : v < 63) : Pur Tryd.prog 52 [.int .i64 v] (.int .i64 (2 ^ v : Nat)) := by
  intro w
  refine enter Tryd.func52 rfl rfl ⟨rfl, rfl⟩ rfl ?_
  repeat (first | refine WC.seq ?_ | refine WC.reg ?_ | refine WL.pure rfl rfl rfl ?_ | refine WL.nil ?_ | refine WC.skip ?_ | refine WC.block ?_ | refine WC.condT rfl ?_ | refine WC.condF rfl ?_ | refine WL.off rfl rfl rfl ?_ | refine WL.off0 rfl rfl ?_ | refine WC.exit ?_ | refine blk_hit ?_ | refine blk_miss rfl ?_ | refine WC.ret ?_)
  exact Res.one rfl rfl rfl ⟨by rw [shl_one hv], rfl⟩
theorem Has_any (s v : Nat) (hs : s < 9223372036854775808) : Pur Tryd.prog 51 [.int .i64 s, .int .i64 v] (.bool (Nat.testBit s v)) := by
  intro w
  refine enter Tryd.func51 rfl rfl ⟨rfl, rfl⟩ rfl ?_
  repeat (first | refine WC.seq ?_ | refine WC.reg ?_ | refine WL.pure rfl rfl rfl ?_ | refine WL.nil ?_ | refine WC.skip ?_ | refine WC.block ?_ | refine WC.condT rfl ?_ | refine WC.condF rfl ?_ | refine WL.off rfl rfl rfl ?_ | refine WL.off0 rfl rfl ?_ | refine WC.exit ?_ | refine blk_hit ?_ | refine blk_miss rfl ?_ | refine WC.ret ?_)
  refine Res.one rfl rfl rfl ⟨?_, rfl⟩
  rw [shr_i64 hs, testBit_div]
  congr 1
  have h2 : ((s / 2 ^ v : Nat) : Int).tmod 2 = ((s / 2 ^ v % 2 : Nat) : Int) := (Int.ofNat_tmod (s / 2 ^ v) 2).symm
  show (((s / 2 ^ v : Nat) : Int).tmod 2 == 1) = _
  rw [h2]
  generalize s / 2 ^ v % 2 = k
  by_cases h : k = 1
  · simp [h]
  · have h3 : ((k : Int) == 1) = false := by simp; omega
    rw [h3, decide_eq_false h]
end Go.Proofs.YtdnkkflpgebfbaaDoor
