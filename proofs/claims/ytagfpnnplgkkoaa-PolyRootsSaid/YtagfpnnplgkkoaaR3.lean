/- The walks of trimmed lists, copies and comparisons. -/
import Derived.Test.YtagfpnnplgkkoaaR2
namespace Go.Poly
open Go.W Go.Tree
def ints (xs : List Nat) : List Value := xs.map fun (x : Nat) => Value.int .i64 x
def up (xs : List Nat) : List Int := xs.map fun (x : Nat) => (x : Int)
theorem zs_up (xs : List Nat) : zs (up xs) = ints xs := by simp [zs, up, ints]
theorem up_len (xs : List Nat) : (up xs).length = xs.length := by simp [up]
theorem up_inj {xs ys : List Nat} (h : up xs = up ys) : xs = ys := by
  apply List.ext_getElem?
  intro i
  have := congrArg (fun l => l[i]?) h
  simp only [up, List.getElem?_map] at this
  cases h1 : xs[i]? <;> cases h2 : ys[i]? <;> rw [h1, h2] at this <;> simp at this ⊢
  omega
theorem ints_len (xs : List Nat) : (ints xs).length = xs.length := by simp [ints]
theorem ints_at {xs : List Nat} {i : Nat} (h : i < xs.length) : (ints xs)[i]? = some (.int .i64 (co xs i : Nat)) := by
  rw [co_get h]; simp [ints, h]
theorem ints_cells (xs : List Nat) : Cells (ints xs) := by
  intro v hv
  obtain ⟨x, _, rfl⟩ := List.mem_map.1 hv
  rfl
theorem zs_cells (xs : List Int) : Cells (zs xs) := by
  intro v hv
  obtain ⟨x, _, rfl⟩ := List.mem_map.1 hv
  rfl
theorem ints_take (xs : List Nat) (m : Nat) : (ints xs).take m = ints (xs.take m) := by simp [ints, List.map_take]
theorem zs_take (xs : List Int) (m : Nat) : (zs xs).take m = zs (xs.take m) := by simp [zs, List.map_take]
theorem zget {xs : List Int} {i : Nat} (h : i < xs.length) : (zs xs)[i]? = some (.int .i64 xs[i]) := by simp [zs, h]
end Go.Poly
namespace Go.W
open Go.RowKit
theorem Sl.cell {w : World} {b o i : Nat} {cs : List Value} {u : Value} (h : Sl w (some ⟨b, o, none⟩) cs) (hi : cs[i]? = some u) : w.cell? ⟨b, o + i, none⟩ = some u := by
  obtain ⟨b', o', ha, hc⟩ := h i u hi
  simp only [Option.some.injEq, Addr.mk.injEq] at ha
  rw [ha.1, ha.2.1]; exact hc
theorem Sl.some {w : World} {a : Option Addr} {cs : List Value} {i : Nat} {u : Value} (h : Sl w a cs) (hi : cs[i]? = some u) : ∃ b o, a = some ⟨b, o, none⟩ := by
  obtain ⟨b, o, ha, _⟩ := h i u hi; exact ⟨b, o, ha⟩
theorem row_cap {w : World} {B E s n c : Nat} {a : Option Addr} {xs : List Value} (h : w.ownsRow B E s (.slice a n c) n xs) : n ≤ c := by
  obtain ⟨_, ⟨hv, hn⟩ | ⟨_, _, _, hv, _, _, hnc, _⟩⟩ := h
  · rw [hn]; exact Nat.zero_le _
  · simp only [Value.slice.injEq] at hv; rw [hv.2.2]; exact hnc
end Go.W
namespace Go.Proofs.Ytagfpnnplgkkoaa
open Go.W Go.Poly Go.Tree
set_option maxRecDepth 100000
attribute [local irreducible] WC WL WQ WS WH

theorem trim_any (a : Option Addr) (cap : Nat) (f : List Nat) (hcap : f.length ≤ cap) (hlen : f.length ≤ 4611686018427387904) (w : World) (hs : Sl w a (ints f)) :
    Ret Try.prog 70 [.slice a f.length cap] w fun u w' => u = .slice a (trimL f).length cap ∧ w' = w := by
  refine enter Try.func70 rfl rfl ⟨rfl, rfl⟩ rfl ?_
  repeat (first | refine WC.seq ?_ | refine WC.reg ?_ | refine WL.pure rfl rfl rfl ?_ | refine WL.nil ?_ | refine WC.skip ?_ | refine WC.block ?_ | refine WC.condT rfl ?_ | refine WC.condF rfl ?_ | refine WL.off rfl rfl rfl ?_ | refine WL.off0 rfl rfl ?_ | refine WC.exit ?_ | refine blk_hit ?_ | refine blk_miss rfl ?_ | refine WC.ret ?_)
  refine WC.loop Nat (fun n => [(0, .slice a n cap)]) (fun n w' => w' = w ∧ n ≤ f.length ∧ tn f n = tn f f.length) (fun n => n) f.length ⟨rfl, rfl⟩ ⟨rfl, Nat.le_refl _, rfl⟩ ?_
  rintro n w1 ⟨rfl, hn, ht⟩
  have fin : tn f n = n → (trimL f).length = n := fun h => by rw [trim_len, ← ht, h]
  repeat (first | refine WC.seq ?_ | refine WC.reg ?_ | refine WL.pure rfl rfl rfl ?_ | refine WL.nil ?_ | refine WC.skip ?_ | refine WC.block ?_ | refine WC.condT rfl ?_ | refine WC.condF rfl ?_ | refine WL.off rfl rfl rfl ?_ | refine WL.off0 rfl rfl ?_ | refine WC.exit ?_ | refine blk_hit ?_ | refine blk_miss rfl ?_ | refine WC.ret ?_)
  refine WL.split 6 rfl (fun h1 => ?_) (fun h1 => ?_)
  · have h1 : 0 < n := by have := of_decide_eq_true h1; omega
    obtain ⟨m, rfl⟩ : ∃ m, n = m + 1 := ⟨n - 1, by omega⟩
    have e1 : IntKind.i64.wrap (((m + 1 : Nat) : Int) - 1) = ((m : Nat) : Int) := by rw [wrap_i64_in (by omega) (by omega)]; omega
    repeat (first | refine WC.seq ?_ | refine WC.reg ?_ | refine WL.pure rfl rfl rfl ?_ | refine WL.nil ?_ | refine WC.skip ?_ | refine WC.block ?_ | refine WC.condT rfl ?_ | refine WC.condF rfl ?_ | refine WL.off rfl rfl rfl ?_ | refine WL.off0 rfl rfl ?_ | refine WC.exit ?_ | refine blk_hit ?_ | refine blk_miss rfl ?_ | refine WC.ret ?_)
    refine WL.known (d := 10) (congrArg (fun z => some (Value.int .i64 z)) e1) ?_
    refine WL.ixload rfl (fun _ => rfl) rfl rfl rfl rfl rfl rfl rfl (show m < m + 1 by omega) rfl rfl hs (ints_at (show m < f.length by omega)) ?_
    intro p
    repeat (first | refine WC.seq ?_ | refine WC.reg ?_ | refine WL.pure rfl rfl rfl ?_ | refine WL.nil ?_ | refine WC.skip ?_ | refine WC.block ?_ | refine WC.condT rfl ?_ | refine WC.condF rfl ?_ | refine WL.off rfl rfl rfl ?_ | refine WL.off0 rfl rfl ?_ | refine WC.exit ?_ | refine blk_hit ?_ | refine blk_miss rfl ?_ | refine WC.ret ?_)
    refine WC.cond rfl (fun hq => ?_) (fun hq => ?_)
    · have hq : co f m = 0 := by
        have : ((co f m : Nat) : Int) = 0 := by simpa using hq
        omega
      repeat (first | refine WC.seq ?_ | refine WC.reg ?_ | refine WL.pure rfl rfl rfl ?_ | refine WL.nil ?_ | refine WC.skip ?_ | refine WC.block ?_ | refine WC.condT rfl ?_ | refine WC.condF rfl ?_ | refine WL.off rfl rfl rfl ?_ | refine WL.off0 rfl rfl ?_ | refine WC.exit ?_ | refine blk_hit ?_ | refine blk_miss rfl ?_ | refine WC.ret ?_)
      refine WL.known (d := 18) (congrArg (fun z => some (Value.int .i64 z)) e1) ?_
      refine WL.sliceHi rfl rfl rfl rfl rfl rfl (show m ≤ cap by omega) ?_
      repeat (first | refine WC.seq ?_ | refine WC.reg ?_ | refine WL.pure rfl rfl rfl ?_ | refine WL.nil ?_ | refine WC.skip ?_ | refine WC.block ?_ | refine WC.condT rfl ?_ | refine WC.condF rfl ?_ | refine WL.off rfl rfl rfl ?_ | refine WL.off0 rfl rfl ?_ | refine WC.exit ?_ | refine blk_hit ?_ | refine blk_miss rfl ?_ | refine WC.ret ?_)
      exact ⟨m, by show m < m + 1; omega, ⟨rfl, rfl⟩, rfl, by omega, by rw [← ht, tn, if_pos hq]⟩
    · have hq : co f m ≠ 0 := by
        have : ((co f m : Nat) : Int) ≠ 0 := by simpa using hq
        omega
      have := fin (by rw [tn, if_neg hq])
      repeat (first | refine WC.seq ?_ | refine WC.reg ?_ | refine WL.pure rfl rfl rfl ?_ | refine WL.nil ?_ | refine WC.skip ?_ | refine WC.block ?_ | refine WC.condT rfl ?_ | refine WC.condF rfl ?_ | refine WL.off rfl rfl rfl ?_ | refine WL.off0 rfl rfl ?_ | refine WC.exit ?_ | refine blk_hit ?_ | refine blk_miss rfl ?_ | refine WC.ret ?_)
      exact Res.one rfl rfl rfl ⟨by rw [this], rfl⟩
  · have h1 : n = 0 := by have := of_decide_eq_false h1; omega
    subst h1
    have := fin rfl
    repeat (first | refine WC.seq ?_ | refine WC.reg ?_ | refine WL.pure rfl rfl rfl ?_ | refine WL.nil ?_ | refine WC.skip ?_ | refine WC.block ?_ | refine WC.condT rfl ?_ | refine WC.condF rfl ?_ | refine WL.off rfl rfl rfl ?_ | refine WL.off0 rfl rfl ?_ | refine WC.exit ?_ | refine blk_hit ?_ | refine blk_miss rfl ?_ | refine WC.ret ?_)
    exact Res.one rfl rfl rfl ⟨by rw [this], rfl⟩

theorem Rtrim_any (a : Option Addr) (cap : Nat) (f : List Nat) (hcap : f.length ≤ cap) (hlen : f.length ≤ 1000000) (w : World) (hs : Sl w a (ints f)) :
    Ret Try.prog 47 [.slice a f.length cap] w fun u w' => ∃ b c, u = .slice b (trimL f).length c ∧ Hp w w' [.row 3 1 (.slice b (trimL f).length c) (trimL f).length (ints (trimL f))] := by
  refine enter Try.func47 rfl rfl ⟨rfl, rfl⟩ rfl ?_
  repeat (first | refine WC.seq ?_ | refine WC.reg ?_ | refine WL.pure rfl rfl rfl ?_ | refine WL.nil ?_ | refine WC.skip ?_ | refine WC.block ?_ | refine WC.condT rfl ?_ | refine WC.condF rfl ?_ | refine WL.off rfl rfl rfl ?_ | refine WL.off0 rfl rfl ?_ | refine WC.exit ?_ | refine blk_hit ?_ | refine blk_miss rfl ?_ | refine WC.ret ?_)
  refine WC.loop Nat (fun n => [(0, .slice a f.length cap), (3, .int .i64 (n : Nat))]) (fun n w' => w' = w ∧ n ≤ f.length ∧ tn f n = tn f f.length) (fun n => n) f.length ⟨rfl, rfl, rfl⟩ ⟨rfl, Nat.le_refl _, rfl⟩ ?_
  rintro n w1 ⟨rfl, hn, ht⟩
  have fin : tn f n = n → (trimL f).length = n ∧ trimL f = f.take n := fun h => ⟨by rw [trim_len, ← ht, h], by rw [trimL, ← ht, h]⟩
  repeat (first | refine WC.seq ?_ | refine WC.reg ?_ | refine WL.pure rfl rfl rfl ?_ | refine WL.nil ?_ | refine WC.skip ?_ | refine WC.block ?_ | refine WC.condT rfl ?_ | refine WC.condF rfl ?_ | refine WL.off rfl rfl rfl ?_ | refine WL.off0 rfl rfl ?_ | refine WC.exit ?_ | refine blk_hit ?_ | refine blk_miss rfl ?_ | refine WC.ret ?_)
  refine WL.split 9 rfl (fun h1 => ?_) (fun h1 => ?_)
  · have h1 : 0 < n := by have := of_decide_eq_true h1; omega
    obtain ⟨m, rfl⟩ : ∃ m, n = m + 1 := ⟨n - 1, by omega⟩
    have e1 : IntKind.i64.wrap (((m + 1 : Nat) : Int) - 1) = ((m : Nat) : Int) := by rw [wrap_i64_in (by omega) (by omega)]; omega
    repeat (first | refine WC.seq ?_ | refine WC.reg ?_ | refine WL.pure rfl rfl rfl ?_ | refine WL.nil ?_ | refine WC.skip ?_ | refine WC.block ?_ | refine WC.condT rfl ?_ | refine WC.condF rfl ?_ | refine WL.off rfl rfl rfl ?_ | refine WL.off0 rfl rfl ?_ | refine WC.exit ?_ | refine blk_hit ?_ | refine blk_miss rfl ?_ | refine WC.ret ?_)
    refine WL.known (d := 12) (congrArg (fun z => some (Value.int .i64 z)) e1) ?_
    refine WL.ixload rfl (fun _ => rfl) rfl rfl rfl rfl rfl rfl rfl (show m < f.length by omega) rfl rfl hs (ints_at (show m < f.length by omega)) ?_
    intro p
    repeat (first | refine WC.seq ?_ | refine WC.reg ?_ | refine WL.pure rfl rfl rfl ?_ | refine WL.nil ?_ | refine WC.skip ?_ | refine WC.block ?_ | refine WC.condT rfl ?_ | refine WC.condF rfl ?_ | refine WL.off rfl rfl rfl ?_ | refine WL.off0 rfl rfl ?_ | refine WC.exit ?_ | refine blk_hit ?_ | refine blk_miss rfl ?_ | refine WC.ret ?_)
    refine WC.cond rfl (fun hq => ?_) (fun hq => ?_)
    · have hq : co f m = 0 := by
        have : ((co f m : Nat) : Int) = 0 := by simpa using hq
        omega
      repeat (first | refine WC.seq ?_ | refine WC.reg ?_ | refine WL.pure rfl rfl rfl ?_ | refine WL.nil ?_ | refine WC.skip ?_ | refine WC.block ?_ | refine WC.condT rfl ?_ | refine WC.condF rfl ?_ | refine WL.off rfl rfl rfl ?_ | refine WL.off0 rfl rfl ?_ | refine WC.exit ?_ | refine blk_hit ?_ | refine blk_miss rfl ?_ | refine WC.ret ?_)
      exact ⟨m, by show m < m + 1; omega, ⟨rfl, congrArg (fun z => some (Value.int .i64 z)) e1, rfl⟩, rfl, by omega, by rw [← ht, tn, if_pos hq]⟩
    · have hq : co f m ≠ 0 := by
        have : ((co f m : Nat) : Int) ≠ 0 := by simpa using hq
        omega
      obtain ⟨hl, htl⟩ := fin (by rw [tn, if_neg hq])
      repeat (first | refine WC.seq ?_ | refine WC.reg ?_ | refine WL.pure rfl rfl rfl ?_ | refine WL.nil ?_ | refine WC.skip ?_ | refine WC.block ?_ | refine WC.condT rfl ?_ | refine WC.condF rfl ?_ | refine WL.off rfl rfl rfl ?_ | refine WL.off0 rfl rfl ?_ | refine WC.exit ?_ | refine blk_hit ?_ | refine blk_miss rfl ?_ | refine WC.ret ?_)
      refine WL.sliceHi rfl rfl rfl rfl rfl rfl (show m + 1 ≤ cap by omega) ?_
      refine WL.append 0 ((Hp.start w1).nilrow 3 1) rfl rfl rfl rfl rfl Nat.zero_lt_one rfl rfl rfl (news := ints (f.take (m + 1))) (by rw [← ints_take]; exact hs.take _) (by rw [ints_len, List.length_take, Nat.min_eq_left (by omega)]; exact (Nat.mul_one _).symm) (ints_cells _) (by unfold maxLen; omega) (by show (0 + (m + 1)) * 8 ≤ _; omega) ?_
      intro b c w2 hp2 hg2
      rw [Nat.zero_add] at hp2 ⊢
      rw [List.nil_append, ← htl, ← hl] at hp2
      rw [← hl]
      repeat (first | refine WC.seq ?_ | refine WC.reg ?_ | refine WL.pure rfl rfl rfl ?_ | refine WL.nil ?_ | refine WC.skip ?_ | refine WC.block ?_ | refine WC.condT rfl ?_ | refine WC.condF rfl ?_ | refine WL.off rfl rfl rfl ?_ | refine WL.off0 rfl rfl ?_ | refine WC.exit ?_ | refine blk_hit ?_ | refine blk_miss rfl ?_ | refine WC.ret ?_)
      exact Res.one rfl rfl rfl ⟨b, c, rfl, hp2⟩
  · have h1 : n = 0 := by have := of_decide_eq_false h1; omega
    subst h1
    obtain ⟨hl, htl⟩ := fin rfl
    repeat (first | refine WC.seq ?_ | refine WC.reg ?_ | refine WL.pure rfl rfl rfl ?_ | refine WL.nil ?_ | refine WC.skip ?_ | refine WC.block ?_ | refine WC.condT rfl ?_ | refine WC.condF rfl ?_ | refine WL.off rfl rfl rfl ?_ | refine WL.off0 rfl rfl ?_ | refine WC.exit ?_ | refine blk_hit ?_ | refine blk_miss rfl ?_ | refine WC.ret ?_)
    refine WL.sliceHi rfl rfl rfl rfl rfl rfl (show 0 ≤ cap by omega) ?_
    refine WL.append 0 ((Hp.start w1).nilrow 3 1) rfl rfl rfl rfl rfl Nat.zero_lt_one rfl rfl rfl (news := ints (f.take 0)) (by rw [← ints_take]; exact hs.take _) (by rw [ints_len, List.length_take]; omega) (ints_cells _) (by unfold maxLen; omega) (by show (0 + 0) * 8 ≤ _; omega) ?_
    intro b c w2 hp2 hg2
    rw [List.nil_append, ← htl] at hp2
    have hp2 : Hp w1 w2 [.row 3 1 (.slice b 0 c) 0 (ints (trimL f))] := hp2
    rw [← hl] at hp2
    repeat (first | refine WC.seq ?_ | refine WC.reg ?_ | refine WL.pure rfl rfl rfl ?_ | refine WL.nil ?_ | refine WC.skip ?_ | refine WC.block ?_ | refine WC.condT rfl ?_ | refine WC.condF rfl ?_ | refine WL.off rfl rfl rfl ?_ | refine WL.off0 rfl rfl ?_ | refine WC.exit ?_ | refine blk_hit ?_ | refine blk_miss rfl ?_ | refine WC.ret ?_)
    exact Res.one rfl rfl rfl ⟨b, c, by rw [hl], hp2⟩

theorem Same_any (ea fa : Option Addr) (ce cf : Nat) (es fs : List Int) (w : World) (he : Sl w ea (zs es)) (hf : Sl w fa (zs fs)) (hlen : es.length ≤ 4611686018427387904) :
    Ret Try.prog 18 [.slice ea es.length ce, .slice fa fs.length cf] w fun v w' => Hp w w' [] ∧ v = .bool (decide (es = fs)) := by
  refine enter Try.func18 rfl rfl ⟨rfl, rfl⟩ rfl ?_
  repeat (first | refine WC.seq ?_ | refine WC.reg ?_ | refine WL.pure rfl rfl rfl ?_ | refine WL.nil ?_ | refine WC.skip ?_ | refine WC.block ?_ | refine WC.condT rfl ?_ | refine WC.condF rfl ?_ | refine WL.off rfl rfl rfl ?_ | refine WL.off0 rfl rfl ?_ | refine WC.exit ?_ | refine blk_hit ?_ | refine blk_miss rfl ?_ | refine WC.ret ?_)
  refine WC.cond rfl (fun h0 => ?_) (fun h0 => ?_)
  · have h0 : es.length ≠ fs.length := by intro h; rw [h] at h0; simp at h0
    repeat (first | refine WC.seq ?_ | refine WC.reg ?_ | refine WL.pure rfl rfl rfl ?_ | refine WL.nil ?_ | refine WC.skip ?_ | refine WC.block ?_ | refine WC.condT rfl ?_ | refine WC.condF rfl ?_ | refine WL.off rfl rfl rfl ?_ | refine WL.off0 rfl rfl ?_ | refine WC.exit ?_ | refine blk_hit ?_ | refine blk_miss rfl ?_ | refine WC.ret ?_)
    exact Res.one rfl rfl rfl ⟨Hp.start w, by rw [decide_eq_false (fun h => h0 (by rw [h]))]⟩
  have h0 : es.length = fs.length := by simp at h0; omega
  repeat (first | refine WC.seq ?_ | refine WC.reg ?_ | refine WL.pure rfl rfl rfl ?_ | refine WL.nil ?_ | refine WC.skip ?_ | refine WC.block ?_ | refine WC.condT rfl ?_ | refine WC.condF rfl ?_ | refine WL.off rfl rfl rfl ?_ | refine WL.off0 rfl rfl ?_ | refine WC.exit ?_ | refine blk_hit ?_ | refine blk_miss rfl ?_ | refine WC.ret ?_)
  refine WC.loop Nat (fun i => [(0, .slice ea es.length ce), (1, .slice fa fs.length cf), (5, .int .i64 (i : Nat))]) (fun i w' => i ≤ es.length ∧ es.take i = fs.take i ∧ Hp w w' []) (fun i => es.length - i) 0 ⟨rfl, rfl, rfl, rfl⟩ ⟨Nat.zero_le _, rfl, Hp.start w⟩ ?_
  rintro i w1 ⟨hi, ht, hp1⟩
  repeat (first | refine WC.seq ?_ | refine WC.reg ?_ | refine WL.pure rfl rfl rfl ?_ | refine WL.nil ?_ | refine WC.skip ?_ | refine WC.block ?_ | refine WC.condT rfl ?_ | refine WC.condF rfl ?_ | refine WL.off rfl rfl rfl ?_ | refine WL.off0 rfl rfl ?_ | refine WC.exit ?_ | refine blk_hit ?_ | refine blk_miss rfl ?_ | refine WC.ret ?_)
  refine WC.cond rfl (fun hc => ?_) (fun hc => ?_)
  · have hi : i < es.length := by have := of_decide_eq_true hc; omega
    have hi2 : i < fs.length := by omega
    have step : IntKind.i64.wrap ((i : Int) + 1) = ((i + 1 : Nat) : Int) := by rw [wrap_i64_in (by omega) (by omega)]; omega
    obtain ⟨be, oe, rfl⟩ := Sl.some he (zget hi)
    obtain ⟨bf, of', rfl⟩ := Sl.some hf (zget hi2)
    repeat (first | refine WC.seq ?_ | refine WC.reg ?_ | refine WL.pure rfl rfl rfl ?_ | refine WL.nil ?_ | refine WC.skip ?_ | refine WC.block ?_ | refine WC.condT rfl ?_ | refine WC.condF rfl ?_ | refine WL.off rfl rfl rfl ?_ | refine WL.off0 rfl rfl ?_ | refine WC.exit ?_ | refine blk_hit ?_ | refine blk_miss rfl ?_ | refine WC.ret ?_)
    refine WC.regQ (fun w2 => Hp w w2 []) mixed (by kernel_rfl) (fun w2 hw2 => hp1.keep hw2) ?_
    repeat (first | refine WQ.pure rfl rfl rfl ?_ | refine WQ.off rfl rfl rfl ?_ | refine WQ.nil ?_)
    refine WQ.ixload rfl (fun _ => rfl) rfl rfl rfl rfl rfl rfl rfl hi rfl rfl (fun w2 h2 => Sl.cell (he.hp h2) (zget hi)) ?_
    repeat (first | refine WQ.pure rfl rfl rfl ?_ | refine WQ.off rfl rfl rfl ?_ | refine WQ.nil ?_)
    refine WQ.ixload rfl (fun _ => rfl) rfl rfl rfl rfl rfl rfl rfl hi2 rfl rfl (fun w2 h2 => Sl.cell (hf.hp h2) (zget hi2)) ?_
    repeat (first | refine WQ.pure rfl rfl rfl ?_ | refine WQ.off rfl rfl rfl ?_ | refine WQ.nil ?_)
    intro w2 hp2
    repeat (first | refine WC.seq ?_ | refine WC.reg ?_ | refine WL.pure rfl rfl rfl ?_ | refine WL.nil ?_ | refine WC.skip ?_ | refine WC.block ?_ | refine WC.condT rfl ?_ | refine WC.condF rfl ?_ | refine WL.off rfl rfl rfl ?_ | refine WL.off0 rfl rfl ?_ | refine WC.exit ?_ | refine blk_hit ?_ | refine blk_miss rfl ?_ | refine WC.ret ?_)
    refine WC.cond rfl (fun hq => ?_) (fun hq => ?_)
    · repeat (first | refine WC.seq ?_ | refine WC.reg ?_ | refine WL.pure rfl rfl rfl ?_ | refine WL.nil ?_ | refine WC.skip ?_ | refine WC.block ?_ | refine WC.condT rfl ?_ | refine WC.condF rfl ?_ | refine WL.off rfl rfl rfl ?_ | refine WL.off0 rfl rfl ?_ | refine WC.exit ?_ | refine blk_hit ?_ | refine blk_miss rfl ?_ | refine WC.ret ?_)
      refine Res.one rfl rfl rfl ⟨hp2, ?_⟩
      rw [decide_eq_false]
      rintro rfl
      simp at hq
    · have hq : es[i] = fs[i] := by simpa using hq
      repeat (first | refine WC.seq ?_ | refine WC.reg ?_ | refine WL.pure rfl rfl rfl ?_ | refine WL.nil ?_ | refine WC.skip ?_ | refine WC.block ?_ | refine WC.condT rfl ?_ | refine WC.condF rfl ?_ | refine WL.off rfl rfl rfl ?_ | refine WL.off0 rfl rfl ?_ | refine WC.exit ?_ | refine blk_hit ?_ | refine blk_miss rfl ?_ | refine WC.ret ?_)
      refine ⟨i + 1, by show es.length - (i + 1) < es.length - i; omega, ⟨rfl, rfl, congrArg (fun z => some (Value.int .i64 z)) step, rfl⟩, hi, ?_, hp2⟩
      rw [List.take_succ_eq_append_getElem hi, List.take_succ_eq_append_getElem hi2, ht, hq]
  · have hi : es.length ≤ i := by have := of_decide_eq_false hc; omega
    rw [List.take_of_length_le hi, List.take_of_length_le (by omega)] at ht
    repeat (first | refine WC.seq ?_ | refine WC.reg ?_ | refine WL.pure rfl rfl rfl ?_ | refine WL.nil ?_ | refine WC.skip ?_ | refine WC.block ?_ | refine WC.condT rfl ?_ | refine WC.condF rfl ?_ | refine WL.off rfl rfl rfl ?_ | refine WL.off0 rfl rfl ?_ | refine WC.exit ?_ | refine blk_hit ?_ | refine blk_miss rfl ?_ | refine WC.ret ?_)
    exact Res.one rfl rfl rfl ⟨hp1, by rw [decide_eq_true ht]⟩

theorem own_any (ea : Option Addr) (cap : Nat) (es : List Int) (w : World) (hs : Sl w ea (zs es)) (hcap : es.length ≤ cap) :
    Ret Try.prog 15 [.slice ea es.length cap] w fun v w' => ∃ a c, Hp w w' [.row 3 1 (.slice a (es.take 34).length c) (es.take 34).length (zs (es.take 34))] ∧ v = .slice a (es.take 34).length c := by
  refine enter Try.func15 rfl rfl ⟨rfl, rfl⟩ rfl ?_
  have hm : min ((es.length : Nat) : Int) 34 = (((es.take 34).length : Nat) : Int) := by rw [List.length_take]; omega
  have hl := List.length_take (i := 34) (l := es)
  repeat (first | refine WC.seq ?_ | refine WC.reg ?_ | refine WL.pure rfl rfl rfl ?_ | refine WL.nil ?_ | refine WC.skip ?_ | refine WC.block ?_ | refine WC.condT rfl ?_ | refine WC.condF rfl ?_ | refine WL.off rfl rfl rfl ?_ | refine WL.off0 rfl rfl ?_ | refine WC.exit ?_ | refine blk_hit ?_ | refine blk_miss rfl ?_ | refine WC.ret ?_)
  refine WL.known (d := 8) (congrArg (fun z => some (Value.int .i64 z)) hm) ?_
  refine WL.sliceHi rfl rfl rfl rfl rfl rfl (by omega) ?_
  refine WL.append 0 ((Hp.start w).nilrow 3 1) rfl rfl rfl rfl rfl Nat.zero_lt_one rfl rfl rfl (news := zs (es.take 34)) (by rw [← zs_take]; exact hs.take _) (by rw [zs_len]; exact (Nat.mul_one _).symm) (zs_cells _) (by unfold maxLen; omega) (by show (0 + (es.take 34).length) * 8 ≤ _; omega) ?_
  intro a c w2 hp2 hg2
  rw [Nat.zero_add] at hp2 ⊢
  rw [List.nil_append] at hp2
  repeat (first | refine WC.seq ?_ | refine WC.reg ?_ | refine WL.pure rfl rfl rfl ?_ | refine WL.nil ?_ | refine WC.skip ?_ | refine WC.block ?_ | refine WC.condT rfl ?_ | refine WC.condF rfl ?_ | refine WL.off rfl rfl rfl ?_ | refine WL.off0 rfl rfl ?_ | refine WC.exit ?_ | refine blk_hit ?_ | refine blk_miss rfl ?_ | refine WC.ret ?_)
  exact Res.one rfl rfl rfl ⟨a, c, hp2, rfl⟩
end Go.Proofs.Ytagfpnnplgkkoaa
