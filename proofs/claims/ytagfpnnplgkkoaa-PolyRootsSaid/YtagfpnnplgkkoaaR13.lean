/- The walk of the reference's product. -/
import Derived.Test.YtagfpnnplgkkoaaR12
namespace Go.W
open Go.RowKit
section
variable {P : Program} [T : TT P] {n : Nat} {l0 rest : List Oper} {M : Env → Prop} {e : Env} {w : World} {ty : TypeId} {pos : String} {aft : Array Edge} {g : Option (Nat × Bool)}
theorem WS.rem {d : Nat} {t t2 : TypeId} {x y : Operand} {k : IntKind} {a b : Int} (hg : grd l0 e g = some true) (hd : Nat.blt d n = true) (hx : opv e x = some (.int k a)) (hy : opv e y = some (.int k b)) (hb : b ≠ 0)
    (h : WS P n l0 w M rest ((d, .int k (a.tmod b)) :: e)) : WS P n l0 w M (⟨some d, .binOp .rem t x y t2, ty, pos, aft, g⟩ :: rest) e := by
  refine WS.val hg hd ?_ h
  intro ρ hρ d' pos' aft' g'
  simp [execOp, hρ _ _ hx, hρ _ _ hy, eqGuard_at_int, binOp_rem, Op.intDiv, hb]
end
end Go.W
namespace Go.Proofs.Ytagfpnnplgkkoaa
open Go.W Go.Poly Go.Tree
set_option maxRecDepth 100000
attribute [local irreducible] WC WL WQ WS WH

theorem RMul_any (fa ga : Option Addr) (fc gc p : Nat) (f g : List Nat) (hp0 : 0 < p) (hp : p ≤ 1021) (hf : ∀ i, co f i < p) (hg : ∀ i, co g i < p) (hlf : f.length ≤ 1000) (hlg : g.length ≤ 1000) (w : World) (sf : Sl w fa (ints f)) (sg_ : Sl w ga (ints g)) :
    Ret Try.prog 23 [.int .i64 (p : Nat), .slice fa f.length fc, .slice ga g.length gc] w fun u w' => ∃ a c, u = .slice a (trimL (mulL p f g)).length c ∧ Hp w w' [.row 3 1 (.slice a (trimL (mulL p f g)).length c) (trimL (mulL p f g)).length (ints (trimL (mulL p f g)))] := by
  refine enter Try.func23 rfl rfl ⟨rfl, rfl⟩ rfl ?_
  have nilcase : (f = [] ∨ g = []) → Hp w w [.row 3 1 (.slice none (trimL (mulL p f g)).length 0) (trimL (mulL p f g)).length (ints (trimL (mulL p f g)))] ∧ (trimL (mulL p f g)).length = 0 := by
    intro h
    rw [mulL, if_pos h]
    exact ⟨(Hp.start w).nilrow 3 1, rfl⟩
  have main : 0 < f.length → 0 < g.length → mulL p f g = fl (f.length + g.length - 1) fun m => cv f g m % p := by
    intro h1 h2
    rw [mulL, if_neg]
    rintro (h | h)
    · rw [h] at h1; cases h1
    · rw [h] at h2; cases h2
  repeat (first | refine WC.seq ?_ | refine WC.reg ?_ | refine WL.pure rfl rfl rfl ?_ | refine WL.nil ?_ | refine WC.skip ?_ | refine WC.block ?_ | refine WC.condT rfl ?_ | refine WC.condF rfl ?_ | refine WL.off rfl rfl rfl ?_ | refine WL.off0 rfl rfl ?_ | refine WC.exit ?_ | refine blk_hit ?_ | refine blk_miss rfl ?_ | refine WC.ret ?_)
  refine WL.split 13 rfl (fun h1 => ?_) (fun h1 => ?_)
  · have h1 : f.length = 0 := by
      have : (f.length : Int) = 0 := by simpa using h1
      omega
    obtain ⟨hp1, hl⟩ := nilcase (.inl (List.length_eq_zero_iff.1 h1))
    repeat (first | refine WC.seq ?_ | refine WC.reg ?_ | refine WL.pure rfl rfl rfl ?_ | refine WL.nil ?_ | refine WC.skip ?_ | refine WC.block ?_ | refine WC.condT rfl ?_ | refine WC.condF rfl ?_ | refine WL.off rfl rfl rfl ?_ | refine WL.off0 rfl rfl ?_ | refine WC.exit ?_ | refine blk_hit ?_ | refine blk_miss rfl ?_ | refine WC.ret ?_)
    exact Res.one rfl rfl rfl ⟨none, 0, by rw [hl], hp1⟩
  have hf0 : 0 < f.length := by
    have : (f.length : Int) ≠ 0 := by simpa using h1
    omega
  repeat (first | refine WC.seq ?_ | refine WC.reg ?_ | refine WL.pure rfl rfl rfl ?_ | refine WL.nil ?_ | refine WC.skip ?_ | refine WC.block ?_ | refine WC.condT rfl ?_ | refine WC.condF rfl ?_ | refine WL.off rfl rfl rfl ?_ | refine WL.off0 rfl rfl ?_ | refine WC.exit ?_ | refine blk_hit ?_ | refine blk_miss rfl ?_ | refine WC.ret ?_)
  refine WC.cond rfl (fun h2 => ?_) (fun h2 => ?_)
  · have h2 : g.length = 0 := by
      have : (g.length : Int) = 0 := by simpa using h2
      omega
    obtain ⟨hp1, hl⟩ := nilcase (.inr (List.length_eq_zero_iff.1 h2))
    repeat (first | refine WC.seq ?_ | refine WC.reg ?_ | refine WL.pure rfl rfl rfl ?_ | refine WL.nil ?_ | refine WC.skip ?_ | refine WC.block ?_ | refine WC.condT rfl ?_ | refine WC.condF rfl ?_ | refine WL.off rfl rfl rfl ?_ | refine WL.off0 rfl rfl ?_ | refine WC.exit ?_ | refine blk_hit ?_ | refine blk_miss rfl ?_ | refine WC.ret ?_)
    exact Res.one rfl rfl rfl ⟨none, 0, by rw [hl], hp1⟩
  have hg0 : 0 < g.length := by
    have : (g.length : Int) ≠ 0 := by simpa using h2
    omega
  have hm := main hf0 hg0
  have en : IntKind.i64.wrap (IntKind.i64.wrap ((f.length : Int) + (g.length : Int)) - 1) = ((f.length + g.length - 1 : Nat) : Int) := by
    rw [wrap_mid (z := (f.length : Int) + (g.length : Int)) (by omega) (by omega), wrap_mid (by omega) (by omega)]; omega
  generalize hnn : f.length + g.length - 1 = n at *
  have hn2 : n < f.length + g.length := by omega
  repeat (first | refine WC.seq ?_ | refine WC.reg ?_ | refine WL.pure rfl rfl rfl ?_ | refine WL.nil ?_ | refine WC.skip ?_ | refine WC.block ?_ | refine WC.condT rfl ?_ | refine WC.condF rfl ?_ | refine WL.off rfl rfl rfl ?_ | refine WL.off0 rfl rfl ?_ | refine WC.exit ?_ | refine blk_hit ?_ | refine blk_miss rfl ?_ | refine WC.ret ?_)
  refine WL.known (d := 23) (congrArg (fun z => some (Value.int .i64 z)) en) ?_
  refine WL.make (m := n) rfl rfl rfl rfl rfl rfl rfl rfl ?_ ?_ ?_
  · show 8 * n ≤ _; omega
  · unfold maxLen; omega
  intro b w1 hb
  have hz : (List.replicate n ti3.zero) = ints (fl n fun m => mulP f g 0 0 m % p) := by
    rw [show ti3.zero = Value.int .i64 0 from rfl, ints_zero]
    exact congrArg ints (fl_congr fun m _ => by rw [mulP_zero, Nat.zero_mod])
  rw [hz] at hb
  have hp1 := (Hp.start w).new hb
  obtain ⟨bf, of', rfl⟩ := Sl.some sf (ints_at hf0)
  obtain ⟨bg, og, rfl⟩ := Sl.some sg_ (ints_at hg0)
  repeat (first | refine WC.seq ?_ | refine WC.reg ?_ | refine WL.pure rfl rfl rfl ?_ | refine WL.nil ?_ | refine WC.skip ?_ | refine WC.block ?_ | refine WC.condT rfl ?_ | refine WC.condF rfl ?_ | refine WL.off rfl rfl rfl ?_ | refine WL.off0 rfl rfl ?_ | refine WC.exit ?_ | refine blk_hit ?_ | refine blk_miss rfl ?_ | refine WC.ret ?_)
  refine WC.loop Nat (fun i => [(0, .int .i64 (p : Nat)), (1, .slice (some ⟨bf, of', none⟩) f.length fc), (2, .slice (some ⟨bg, og, none⟩) g.length gc), (7, .slice (some ⟨b, 0, none⟩) n n), (8, .int .i64 (i : Nat))])
    (fun i w' => i ≤ f.length ∧ Hp w w' [.blk b (.cells (ints (fl n fun m => mulP f g i 0 m % p)).toArray 3 (0, 0))]) (fun i => f.length - i) 0 ⟨rfl, rfl, rfl, rfl, rfl, rfl⟩ ⟨Nat.zero_le _, hp1⟩ ?_
  rintro i w2 ⟨hi, hp2⟩
  repeat (first | refine WC.seq ?_ | refine WC.reg ?_ | refine WL.pure rfl rfl rfl ?_ | refine WL.nil ?_ | refine WC.skip ?_ | refine WC.block ?_ | refine WC.condT rfl ?_ | refine WC.condF rfl ?_ | refine WL.off rfl rfl rfl ?_ | refine WL.off0 rfl rfl ?_ | refine WC.exit ?_ | refine blk_hit ?_ | refine blk_miss rfl ?_ | refine WC.ret ?_)
  refine WC.cond rfl (fun hc => ?_) (fun hc => ?_)
  · have hi : i < f.length := by have := of_decide_eq_true hc; omega
    have step : IntKind.i64.wrap ((i : Int) + 1) = ((i + 1 : Nat) : Int) := by rw [wrap_i64_in (by omega) (by omega)]; omega
    repeat (first | refine WC.seq ?_ | refine WC.reg ?_ | refine WL.pure rfl rfl rfl ?_ | refine WL.nil ?_ | refine WC.skip ?_ | refine WC.block ?_ | refine WC.condT rfl ?_ | refine WC.condF rfl ?_ | refine WL.off rfl rfl rfl ?_ | refine WL.off0 rfl rfl ?_ | refine WC.exit ?_ | refine blk_hit ?_ | refine blk_miss rfl ?_ | refine WC.ret ?_)
    refine WC.loop Nat (fun k => [(0, .int .i64 (p : Nat)), (1, .slice (some ⟨bf, of', none⟩) f.length fc), (2, .slice (some ⟨bg, og, none⟩) g.length gc), (7, .slice (some ⟨b, 0, none⟩) n n), (8, .int .i64 (i : Nat)), (9, .int .i64 (k : Nat))])
      (fun k w' => k ≤ g.length ∧ Hp w w' [.blk b (.cells (ints (fl n fun m => mulP f g i k m % p)).toArray 3 (0, 0))]) (fun k => g.length - k) 0 ⟨rfl, rfl, rfl, rfl, rfl, rfl, rfl⟩ ⟨Nat.zero_le _, hp2⟩ ?_
    rintro k w3 ⟨hk, hp3⟩
    repeat (first | refine WC.seq ?_ | refine WC.reg ?_ | refine WL.pure rfl rfl rfl ?_ | refine WL.nil ?_ | refine WC.skip ?_ | refine WC.block ?_ | refine WC.condT rfl ?_ | refine WC.condF rfl ?_ | refine WL.off rfl rfl rfl ?_ | refine WL.off0 rfl rfl ?_ | refine WC.exit ?_ | refine blk_hit ?_ | refine blk_miss rfl ?_ | refine WC.ret ?_)
    refine WC.cond rfl (fun hc2 => ?_) (fun hc2 => ?_)
    · have hk : k < g.length := by have := of_decide_eq_true hc2; omega
      have step2 : IntKind.i64.wrap ((k : Int) + 1) = ((k + 1 : Nat) : Int) := by rw [wrap_i64_in (by omega) (by omega)]; omega
      have eik : IntKind.i64.wrap ((i : Int) + (k : Int)) = ((i + k : Nat) : Int) := by rw [wrap_i64_in (by omega) (by omega)]; omega
      have hik : i + k < n := by omega
      have hv : (ints (fl n fun m => mulP f g i k m % p))[i + k]? = some (.int .i64 (mulP f g i k (i + k) % p : Nat)) := by simp [ints, fl, hik]
      have e56 := step_val hp0 hp (Nat.mod_lt (mulP f g i k (i + k)) hp0) (hf i) (hg k)
      rw [Nat.mod_add_mod] at e56
      repeat (first | refine WC.seq ?_ | refine WC.reg ?_ | refine WL.pure rfl rfl rfl ?_ | refine WL.nil ?_ | refine WC.skip ?_ | refine WC.block ?_ | refine WC.condT rfl ?_ | refine WC.condF rfl ?_ | refine WL.off rfl rfl rfl ?_ | refine WL.off0 rfl rfl ?_ | refine WC.exit ?_ | refine blk_hit ?_ | refine blk_miss rfl ?_ | refine WC.ret ?_)
      refine WC.regS 23 mixed (by kernel_rfl) rfl rfl (fun w4 hw4 hh4 => ?_)
      have hp4 := hp3.keep hw4
      repeat (first | refine WS.pure rfl rfl rfl ?_ | refine WS.off rfl rfl rfl ?_ | refine WS.nil ?_)
      refine WS.known (d := 44) (congrArg (fun z => some (Value.int .i64 z)) eik) ?_
      refine WS.known (d := 40) (congrArg (fun z => some (Value.int .i64 z)) eik) ?_
      refine WS.ix1 rfl rfl rfl rfl rfl rfl rfl (j := i + k) hik ?_
      repeat (first | refine WS.pure rfl rfl rfl ?_ | refine WS.off rfl rfl rfl ?_ | refine WS.nil ?_)
      refine WS.loadB rfl rfl rfl rfl rfl (hp4.obj 0 rfl) (j := 0 + (i + k)) (by rw [nth_eq, Nat.zero_add]; exact hv) ?_
      repeat (first | refine WS.pure rfl rfl rfl ?_ | refine WS.off rfl rfl rfl ?_ | refine WS.nil ?_)
      refine WS.ix1 rfl rfl rfl rfl rfl rfl rfl hi ?_
      repeat (first | refine WS.pure rfl rfl rfl ?_ | refine WS.off rfl rfl rfl ?_ | refine WS.nil ?_)
      refine WS.load rfl rfl rfl rfl rfl (Sl.cell (sf.hp hp4) (ints_at hi)) ?_
      repeat (first | refine WS.pure rfl rfl rfl ?_ | refine WS.off rfl rfl rfl ?_ | refine WS.nil ?_)
      refine WS.ix1 rfl rfl rfl rfl rfl rfl rfl hk ?_
      repeat (first | refine WS.pure rfl rfl rfl ?_ | refine WS.off rfl rfl rfl ?_ | refine WS.nil ?_)
      refine WS.load rfl rfl rfl rfl rfl (Sl.cell (sg_.hp hp4) (ints_at hk)) ?_
      repeat (first | refine WS.pure rfl rfl rfl ?_ | refine WS.off rfl rfl rfl ?_ | refine WS.nil ?_)
      refine WS.rem rfl rfl rfl rfl (by omega) ?_
      refine WS.known (d := 58) (congrArg (fun z => some (Value.int .i64 z)) e56) ?_
      refine WS.ix1 rfl rfl rfl rfl rfl rfl rfl (j := i + k) hik ?_
      repeat (first | refine WS.pure rfl rfl rfl ?_ | refine WS.off rfl rfl rfl ?_ | refine WS.nil ?_)
      refine WL.store rfl rfl rfl rfl rfl rfl (hp4.obj 0 rfl) (by simp [ints, fl]; omega) (fun w5 hw5 => ?_)
      have e1 : (fl n fun m => mulP f g i k m % p).set (i + k) ((mulP f g i k (i + k) + co f i * co g k) % p) = fl n fun m => mulP f g i (k + 1) m % p := by
        rw [fl_set]
        refine fl_congr fun m _ => ?_
        rw [mulP_step]
        by_cases h : m = i + k
        · rw [if_pos h, if_pos h, h]
        · rw [if_neg h, if_neg h]
      rw [Nat.zero_add, ints_set, e1] at hw5
      have hp5 := hp4.set 0 rfl rfl hw5
      repeat (first | refine WC.seq ?_ | refine WC.reg ?_ | refine WL.pure rfl rfl rfl ?_ | refine WL.nil ?_ | refine WC.skip ?_ | refine WC.block ?_ | refine WC.condT rfl ?_ | refine WC.condF rfl ?_ | refine WL.off rfl rfl rfl ?_ | refine WL.off0 rfl rfl ?_ | refine WC.exit ?_ | refine blk_hit ?_ | refine blk_miss rfl ?_ | refine WC.ret ?_)
      exact ⟨k + 1, by show g.length - (k + 1) < g.length - k; omega, ⟨rfl, rfl, rfl, rfl, rfl, congrArg (fun z => some (Value.int .i64 z)) step2, rfl⟩, hk, hp5⟩
    · have hk : k = g.length := by have := of_decide_eq_false hc2; omega
      have e1 : (fl n fun m => mulP f g i k m % p) = fl n fun m => mulP f g (i + 1) 0 m % p := fl_congr fun m _ => by rw [hk, mulP_next]
      rw [e1] at hp3
      repeat (first | refine WC.seq ?_ | refine WC.reg ?_ | refine WL.pure rfl rfl rfl ?_ | refine WL.nil ?_ | refine WC.skip ?_ | refine WC.block ?_ | refine WC.condT rfl ?_ | refine WC.condF rfl ?_ | refine WL.off rfl rfl rfl ?_ | refine WL.off0 rfl rfl ?_ | refine WC.exit ?_ | refine blk_hit ?_ | refine blk_miss rfl ?_ | refine WC.ret ?_)
      exact ⟨i + 1, by show f.length - (i + 1) < f.length - i; omega, ⟨rfl, rfl, rfl, rfl, congrArg (fun z => some (Value.int .i64 z)) step, rfl⟩, hi, hp3⟩
  · have hi : i = f.length := by have := of_decide_eq_false hc; omega
    have e1 : (fl n fun m => mulP f g i 0 m % p) = mulL p f g := by rw [hm]; exact fl_congr fun m _ => by rw [hi, mulP_all]
    rw [e1] at hp2
    have hl : (mulL p f g).length = n := by rw [hm, fl_len]
    have htr := Rtrim_any (some ⟨b, 0, none⟩) n (mulL p f g) (by omega) (by omega) w2 (Sl.of_obj (hp2.obj 0 rfl) (fun q u hq => by simpa using hq))
    rw [hl] at htr
    repeat (first | refine WC.seq ?_ | refine WC.reg ?_ | refine WL.pure rfl rfl rfl ?_ | refine WL.nil ?_ | refine WC.skip ?_ | refine WC.block ?_ | refine WC.condT rfl ?_ | refine WC.condF rfl ?_ | refine WL.off rfl rfl rfl ?_ | refine WL.off0 rfl rfl ?_ | refine WC.exit ?_ | refine blk_hit ?_ | refine blk_miss rfl ?_ | refine WC.ret ?_)
    refine WL.call rfl rfl rfl rfl rfl ent47 htr ?_
    rintro _ w3 ⟨b2, c2, rfl, hp3⟩
    have hp3 := (hp2.comb hp3).drop1
    repeat (first | refine WC.seq ?_ | refine WC.reg ?_ | refine WL.pure rfl rfl rfl ?_ | refine WL.nil ?_ | refine WC.skip ?_ | refine WC.block ?_ | refine WC.condT rfl ?_ | refine WC.condF rfl ?_ | refine WL.off rfl rfl rfl ?_ | refine WL.off0 rfl rfl ?_ | refine WC.exit ?_ | refine blk_hit ?_ | refine blk_miss rfl ?_ | refine WC.ret ?_)
    exact Res.one rfl rfl rfl ⟨b2, c2, rfl, hp3⟩
end Go.Proofs.Ytagfpnnplgkkoaa
