/- The walks of systems and steps. -/
import Derived.Test.YtoghnhbjdnjghaaGreatV1
namespace Go.W
open Go.RowKit
section
variable {P : Program} [T : TT P] {n : Nat} {l0 rest : List Oper} {C : World → Prop} {M : Env → Prop} {e : Env} {ty : TypeId} {pos : String} {aft : Array Edge} {g : Option (Nat × Bool)}
/-- A pair of strings read out of a row, in every world of the class. -/
theorem WQ.ixload2 {d1 d2 : Nat} {t t2 E : TypeId} {i : TI} {x ix : Operand} {b o len cap j : Nat} {k : IntKind} {l : List Rp} {z : Value} {s b2 : Nat} {ty2 : TypeId} {pos2 : String} {aft2 : Array Edge} {g2 : Option (Nat × Bool)}
    (hg : grd l0 e g = some true) (hg2 : ∀ p, grd l0 ((d1, p) :: e) g2 = some true)
    (ht : T.ti t = some ⟨.slice E, z, s, b2⟩) (hi : T.ti E = some i) (htwo : i.size = 2) (ht2 : T.ti t2 = some i) (h1 : isOne i.k = false)
    (hx : opv e x = some (.slice (some ⟨b, o, none⟩) len cap)) (hix : opv e ix = some (.int k (j : Nat))) (hj : j < len) (hd1 : Nat.blt d1 n = true) (hd2 : Nat.blt d2 n = true)
    (hs : ∀ w, C w → Sl w (some ⟨b, o, none⟩) (rcs l)) (hjl : j < l.length)
    (h : ∀ p, WQ P n l0 C M rest ((d2, .agg #[st l[j].1, st l[j].2]) :: (d1, p) :: e)) :
    WQ P n l0 C M (⟨some d1, .indexAddr t x ix, ty, pos, aft, g⟩ :: ⟨some d2, .load t2 (.tmp d1), ty2, pos2, aft2, g2⟩ :: rest) e := by
  refine WQ.le fun hle => WQ.ix hg hd1 ht hi hx hix hj ?_
  refine WQ.loadN (cs := [st l[j].1, st l[j].2]) (hg2 _) ht2 h1 (opv_head hd1 hle) hd2 (by rw [htwo]; rfl) ?_ (h _)
  intro w hw q v hq
  obtain ⟨b', o', e', hc⟩ := hs w hw _ _ (rcs_at l j hjl q v hq)
  simp only [Option.some.injEq, Addr.mk.injEq] at e'
  obtain ⟨rfl, rfl, -⟩ := e'
  rw [htwo, Nat.add_assoc]
  exact hc
end
theorem Hp.over {w0 w1 w2 : World} {L : List Ent} (h : Hp w0 w1 []) (k : Hp w1 w2 L) : Hp w0 w2 L := by
  have := h.comb k
  rwa [List.append_nil] at this

theorem rcs_some {w : World} {a : Option Addr} {l : List Rp} (h : Sl w a (rcs l)) (h0 : 0 < l.length) : ∃ b o, a = some ⟨b, o, none⟩ := by
  obtain ⟨b, o, e, -⟩ := h _ _ (rcs_at l 0 h0 0 (st l[0].1) rfl)
  exact ⟨b, o, e⟩
theorem rcs_cell {w : World} {b o : Nat} {l : List Rp} (h : Sl w (some ⟨b, o, none⟩) (rcs l)) {j : Nat} (hj : j < l.length) {q : Nat} {u : Value} (hq : (rc l[j])[q]? = some u) : w.cell? ⟨b, o + j * 2 + q, none⟩ = some u := by
  obtain ⟨b', o', e', hc⟩ := h _ _ (rcs_at l j hj q u hq)
  simp only [Option.some.injEq, Addr.mk.injEq] at e'
  obtain ⟨rfl, rfl, -⟩ := e'
  rw [Nat.add_assoc]
  exact hc
end Go.W
namespace Go.Words
/-- Strings and numbers of a size that any machine holds. -/
def Sm (n : Nat) (l : List Rl) : Prop := ∀ r ∈ l, r.1.length ≤ n ∧ r.2.length ≤ n
theorem Sm.mono {n m : Nat} {l : List Rl} (h : Sm n l) (hm : n ≤ m) : Sm m l := fun r hr => ⟨Nat.le_trans (h r hr).1 hm, Nat.le_trans (h r hr).2 hm⟩
theorem Sm.at_ {n : Nat} {l : List Rl} (h : Sm n l) {i : Nat} (hi : i < l.length) : l[i].1.length ≤ n ∧ l[i].2.length ≤ n := h _ (List.getElem_mem hi)
end Go.Words
namespace Go.Proofs.YtoghnhbjdnjghaaGreat
open Go.W Go.Words
set_option maxRecDepth 100000
attribute [local irreducible] WC WL WQ WS WH

theorem lHasPrefix_any (s p : Str) (hs : s.length ≤ 9223372036854775807) : Pur Tryz.prog 101 [st s, st p] (.bool (p.isPrefixOf s)) := by
  intro w
  have key := Lib.hasPrefix_of_take s p
  refine enter Tryz.func101 rfl rfl ⟨rfl, rfl⟩ rfl ?_
  repeat (first | refine WC.seq ?_ | refine WC.reg ?_ | refine WL.pure rfl rfl rfl ?_ | refine WL.nil ?_ | refine WC.skip ?_ | refine WC.block ?_ | refine WC.condT rfl ?_ | refine WC.condF rfl ?_ | refine WL.off rfl rfl rfl ?_ | refine WL.off0 rfl rfl ?_ | refine WC.exit ?_ | refine blk_hit ?_ | refine blk_miss rfl ?_ | refine WC.ret ?_)
  refine WL.split 10 rfl (fun h1 => ?_) (fun h1 => ?_)
  · have h1 : p.length ≤ s.length := by
      have : ((p.length : Nat) : Int) ≤ ((s.length : Nat) : Int) := of_decide_eq_true h1
      omega
    repeat (first | refine WC.seq ?_ | refine WC.reg ?_ | refine WL.pure rfl rfl rfl ?_ | refine WL.nil ?_ | refine WC.skip ?_ | refine WC.block ?_ | refine WC.condT rfl ?_ | refine WC.condF rfl ?_ | refine WL.off rfl rfl rfl ?_ | refine WL.off0 rfl rfl ?_ | refine WC.exit ?_ | refine blk_hit ?_ | refine blk_miss rfl ?_ | refine WC.ret ?_)
    refine WL.sSl (a := 0) (b := p.length) rfl rfl rfl rfl rfl rfl (by omega) h1 ?_
    repeat (first | refine WC.seq ?_ | refine WC.reg ?_ | refine WL.pure rfl rfl rfl ?_ | refine WL.nil ?_ | refine WC.skip ?_ | refine WC.block ?_ | refine WC.condT rfl ?_ | refine WC.condF rfl ?_ | refine WL.off rfl rfl rfl ?_ | refine WL.off0 rfl rfl ?_ | refine WC.exit ?_ | refine blk_hit ?_ | refine blk_miss rfl ?_ | refine WC.ret ?_)
    refine WL.sCmp rfl rfl rfl rfl rfl ?_
    repeat (first | refine WC.seq ?_ | refine WC.reg ?_ | refine WL.pure rfl rfl rfl ?_ | refine WL.nil ?_ | refine WC.skip ?_ | refine WC.block ?_ | refine WC.condT rfl ?_ | refine WC.condF rfl ?_ | refine WL.off rfl rfl rfl ?_ | refine WL.off0 rfl rfl ?_ | refine WC.exit ?_ | refine blk_hit ?_ | refine blk_miss rfl ?_ | refine WC.ret ?_)
    refine Res.one rfl rfl rfl ⟨?_, rfl⟩
    rw [decide_eq_true h1, Bool.true_and] at key
    show _ = Value.bool (Lib.hasPrefix s p)
    rw [← key, List.drop_zero, Nat.sub_zero]
    congr 1
    rw [Bool.eq_iff_iff, beq_iff_eq, decide_eq_true_eq]
  · have h1 : ¬ p.length ≤ s.length := by
      have : ¬ ((p.length : Nat) : Int) ≤ ((s.length : Nat) : Int) := of_decide_eq_false h1
      omega
    repeat (first | refine WC.seq ?_ | refine WC.reg ?_ | refine WL.pure rfl rfl rfl ?_ | refine WL.nil ?_ | refine WC.skip ?_ | refine WC.block ?_ | refine WC.condT rfl ?_ | refine WC.condF rfl ?_ | refine WL.off rfl rfl rfl ?_ | refine WL.off0 rfl rfl ?_ | refine WC.exit ?_ | refine blk_hit ?_ | refine blk_miss rfl ?_ | refine WC.ret ?_)
    refine Res.one rfl rfl rfl ⟨?_, rfl⟩
    rw [decide_eq_false h1] at key
    show _ = Value.bool (Lib.hasPrefix s p)
    rw [← key]; rfl
theorem HasPrefix_any (s p : Str) (hs : s.length ≤ 9223372036854775807) : Pur Tryz.prog 89 [st s, st p] (.bool (p.isPrefixOf s)) := by
  intro w
  refine enter Tryz.func89 rfl rfl ⟨rfl, rfl⟩ rfl ?_
  repeat (first | refine WC.seq ?_ | refine WC.reg ?_ | refine WL.pure rfl rfl rfl ?_ | refine WL.nil ?_ | refine WC.skip ?_ | refine WC.block ?_ | refine WC.condT rfl ?_ | refine WC.condF rfl ?_ | refine WL.off rfl rfl rfl ?_ | refine WL.off0 rfl rfl ?_ | refine WC.exit ?_ | refine blk_hit ?_ | refine blk_miss rfl ?_ | refine WC.ret ?_)
  refine WL.callP rfl rfl rfl rfl rfl ent101 (lHasPrefix_any s p hs w) ?_
  repeat (first | refine WC.seq ?_ | refine WC.reg ?_ | refine WL.pure rfl rfl rfl ?_ | refine WL.nil ?_ | refine WC.skip ?_ | refine WC.block ?_ | refine WC.condT rfl ?_ | refine WC.condF rfl ?_ | refine WL.off rfl rfl rfl ?_ | refine WL.off0 rfl rfl ?_ | refine WC.exit ?_ | refine blk_hit ?_ | refine blk_miss rfl ?_ | refine WC.ret ?_)
  exact Res.one rfl rfl rfl ⟨rfl, rfl⟩
theorem lHasSuffix_any (s p : Str) (hs : s.length ≤ 9223372036854775807) : Pur Tryz.prog 103 [st s, st p] (.bool (p.isSuffixOf s)) := by
  intro w
  have key := Lib.hasSuffix_of_drop s p
  refine enter Tryz.func103 rfl rfl ⟨rfl, rfl⟩ rfl ?_
  repeat (first | refine WC.seq ?_ | refine WC.reg ?_ | refine WL.pure rfl rfl rfl ?_ | refine WL.nil ?_ | refine WC.skip ?_ | refine WC.block ?_ | refine WC.condT rfl ?_ | refine WC.condF rfl ?_ | refine WL.off rfl rfl rfl ?_ | refine WL.off0 rfl rfl ?_ | refine WC.exit ?_ | refine blk_hit ?_ | refine blk_miss rfl ?_ | refine WC.ret ?_)
  refine WL.split 10 rfl (fun h1 => ?_) (fun h1 => ?_)
  · have h1 : p.length ≤ s.length := by
      have : ((p.length : Nat) : Int) ≤ ((s.length : Nat) : Int) := of_decide_eq_true h1
      omega
    have e1 : IntKind.i64.wrap (((s.length : Nat) : Int) - ((p.length : Nat) : Int)) = ((s.length - p.length : Nat) : Int) := by rw [wrap_mid (by omega) (by omega)]; omega
    repeat (first | refine WC.seq ?_ | refine WC.reg ?_ | refine WL.pure rfl rfl rfl ?_ | refine WL.nil ?_ | refine WC.skip ?_ | refine WC.block ?_ | refine WC.condT rfl ?_ | refine WC.condF rfl ?_ | refine WL.off rfl rfl rfl ?_ | refine WL.off0 rfl rfl ?_ | refine WC.exit ?_ | refine blk_hit ?_ | refine blk_miss rfl ?_ | refine WC.ret ?_)
    refine WL.known (d := 16) (congrArg (fun z => some (Value.int .i64 z)) e1) ?_
    refine WL.sSl (a := s.length - p.length) (b := s.length) rfl rfl rfl rfl rfl rfl (by omega) (Nat.le_refl _) ?_
    repeat (first | refine WC.seq ?_ | refine WC.reg ?_ | refine WL.pure rfl rfl rfl ?_ | refine WL.nil ?_ | refine WC.skip ?_ | refine WC.block ?_ | refine WC.condT rfl ?_ | refine WC.condF rfl ?_ | refine WL.off rfl rfl rfl ?_ | refine WL.off0 rfl rfl ?_ | refine WC.exit ?_ | refine blk_hit ?_ | refine blk_miss rfl ?_ | refine WC.ret ?_)
    refine WL.sCmp rfl rfl rfl rfl rfl ?_
    repeat (first | refine WC.seq ?_ | refine WC.reg ?_ | refine WL.pure rfl rfl rfl ?_ | refine WL.nil ?_ | refine WC.skip ?_ | refine WC.block ?_ | refine WC.condT rfl ?_ | refine WC.condF rfl ?_ | refine WL.off rfl rfl rfl ?_ | refine WL.off0 rfl rfl ?_ | refine WC.exit ?_ | refine blk_hit ?_ | refine blk_miss rfl ?_ | refine WC.ret ?_)
    refine Res.one rfl rfl rfl ⟨?_, rfl⟩
    rw [decide_eq_true h1, Bool.true_and] at key
    show _ = Value.bool (Lib.hasSuffix s p)
    rw [← key, List.take_of_length_le (by rw [List.length_drop]; omega)]
    congr 1
    rw [Bool.eq_iff_iff, beq_iff_eq, decide_eq_true_eq]
  · have h1 : ¬ p.length ≤ s.length := by
      have : ¬ ((p.length : Nat) : Int) ≤ ((s.length : Nat) : Int) := of_decide_eq_false h1
      omega
    repeat (first | refine WC.seq ?_ | refine WC.reg ?_ | refine WL.pure rfl rfl rfl ?_ | refine WL.nil ?_ | refine WC.skip ?_ | refine WC.block ?_ | refine WC.condT rfl ?_ | refine WC.condF rfl ?_ | refine WL.off rfl rfl rfl ?_ | refine WL.off0 rfl rfl ?_ | refine WC.exit ?_ | refine blk_hit ?_ | refine blk_miss rfl ?_ | refine WC.ret ?_)
    refine Res.one rfl rfl rfl ⟨?_, rfl⟩
    rw [decide_eq_false h1] at key
    show _ = Value.bool (Lib.hasSuffix s p)
    rw [← key]; rfl
theorem HasSuffix_any (s p : Str) (hs : s.length ≤ 9223372036854775807) : Pur Tryz.prog 91 [st s, st p] (.bool (p.isSuffixOf s)) := by
  intro w
  refine enter Tryz.func91 rfl rfl ⟨rfl, rfl⟩ rfl ?_
  repeat (first | refine WC.seq ?_ | refine WC.reg ?_ | refine WL.pure rfl rfl rfl ?_ | refine WL.nil ?_ | refine WC.skip ?_ | refine WC.block ?_ | refine WC.condT rfl ?_ | refine WC.condF rfl ?_ | refine WL.off rfl rfl rfl ?_ | refine WL.off0 rfl rfl ?_ | refine WC.exit ?_ | refine blk_hit ?_ | refine blk_miss rfl ?_ | refine WC.ret ?_)
  refine WL.callP rfl rfl rfl rfl rfl ent103 (lHasSuffix_any s p hs w) ?_
  repeat (first | refine WC.seq ?_ | refine WC.reg ?_ | refine WL.pure rfl rfl rfl ?_ | refine WL.nil ?_ | refine WC.skip ?_ | refine WC.block ?_ | refine WC.condT rfl ?_ | refine WC.condF rfl ?_ | refine WL.off rfl rfl rfl ?_ | refine WL.off0 rfl rfl ?_ | refine WC.exit ?_ | refine blk_hit ?_ | refine blk_miss rfl ?_ | refine WC.ret ?_)
  exact Res.one rfl rfl rfl ⟨rfl, rfl⟩

theorem IndexRules_any (a : Option Addr) (cap : Nat) (l : List Rl) (F : FuncId) (ca : Array Value) (Q : Rl → Bool) (hE : Ents Tryz.prog F) (hlen : l.length ≤ 1000000) (w : World) (hs : Sl w a (rcs l))
    (hF : ∀ r ∈ l, ∀ w', Hp w w' [] → Ret Tryz.prog F ([.agg #[st r.1, st r.2]] ++ ca.toList) w' fun u w'' => u = .bool (Q r) ∧ Hp w' w'' []) :
    Ret Tryz.prog 84 [.slice a l.length cap, .func (.func F) #[] ca] w fun u w' => ∃ r : Int, u = .int .i64 r ∧ decide (0 ≤ r) = l.any Q ∧ Hp w w' [] := by
  refine enter Tryz.func84 rfl rfl ⟨rfl, rfl⟩ rfl ?_
  repeat (first | refine WC.seq ?_ | refine WC.reg ?_ | refine WL.pure rfl rfl rfl ?_ | refine WL.nil ?_ | refine WC.skip ?_ | refine WC.block ?_ | refine WC.condT rfl ?_ | refine WC.condF rfl ?_ | refine WL.off rfl rfl rfl ?_ | refine WL.off0 rfl rfl ?_ | refine WC.exit ?_ | refine blk_hit ?_ | refine blk_miss rfl ?_ | refine WC.ret ?_)
  refine WC.loop Nat (fun i => [(0, .slice a l.length cap), (1, .func (.func F) #[] ca), (7, .int .i64 (l.length : Nat)), (8, .int .i64 (i : Nat))])
    (fun i w' => Hp w w' [] ∧ i ≤ l.length ∧ (l.take i).any Q = false) (fun i => l.length - i) 0 ⟨rfl, rfl, rfl, rfl, rfl⟩ ⟨Hp.start w, Nat.zero_le _, rfl⟩ ?_
  rintro i w1 ⟨hp1, hi, hno⟩
  repeat (first | refine WC.seq ?_ | refine WC.reg ?_ | refine WL.pure rfl rfl rfl ?_ | refine WL.nil ?_ | refine WC.skip ?_ | refine WC.block ?_ | refine WC.condT rfl ?_ | refine WC.condF rfl ?_ | refine WL.off rfl rfl rfl ?_ | refine WL.off0 rfl rfl ?_ | refine WC.exit ?_ | refine blk_hit ?_ | refine blk_miss rfl ?_ | refine WC.ret ?_)
  refine WC.cond rfl (fun hc => ?_) (fun hc => ?_)
  · have hi : i < l.length := by have := of_decide_eq_true hc; omega
    have step := wrap_succ hi (by omega)
    repeat (first | refine WC.seq ?_ | refine WC.reg ?_ | refine WL.pure rfl rfl rfl ?_ | refine WL.nil ?_ | refine WC.skip ?_ | refine WC.block ?_ | refine WC.condT rfl ?_ | refine WC.condF rfl ?_ | refine WL.off rfl rfl rfl ?_ | refine WL.off0 rfl rfl ?_ | refine WC.exit ?_ | refine blk_hit ?_ | refine blk_miss rfl ?_ | refine WC.ret ?_)
    refine WL.ixload2 rfl (fun _ => rfl) rfl rfl rfl rfl rfl rfl rfl hi rfl rfl (hs.hp hp1) hi ?_
    intro pa
    refine WL.call rfl rfl rfl rfl rfl hE (hF l[i] (List.getElem_mem hi) w1 hp1) ?_
    rintro _ w2 ⟨rfl, hp2⟩
    have hp2 := hp1.over hp2
    refine WL.nil ?_
    refine WC.cond rfl (fun hq => ?_) (fun hq => ?_)
    · repeat (first | refine WC.seq ?_ | refine WC.reg ?_ | refine WL.pure rfl rfl rfl ?_ | refine WL.nil ?_ | refine WC.skip ?_ | refine WC.block ?_ | refine WC.condT rfl ?_ | refine WC.condF rfl ?_ | refine WL.off rfl rfl rfl ?_ | refine WL.off0 rfl rfl ?_ | refine WC.exit ?_ | refine blk_hit ?_ | refine blk_miss rfl ?_ | refine WC.ret ?_)
      refine Res.one rfl rfl rfl ⟨_, rfl, ?_, hp2⟩
      rw [decide_eq_true (by omega)]
      exact (List.any_eq_true.2 ⟨l[i], List.getElem_mem hi, hq⟩).symm
    · repeat (first | refine WC.seq ?_ | refine WC.reg ?_ | refine WL.pure rfl rfl rfl ?_ | refine WL.nil ?_ | refine WC.skip ?_ | refine WC.block ?_ | refine WC.condT rfl ?_ | refine WC.condF rfl ?_ | refine WL.off rfl rfl rfl ?_ | refine WL.off0 rfl rfl ?_ | refine WC.exit ?_ | refine blk_hit ?_ | refine blk_miss rfl ?_ | refine WC.ret ?_)
      refine ⟨i + 1, by show l.length - (i + 1) < l.length - i; omega, ⟨rfl, rfl, rfl, congrArg (fun z => some (Value.int .i64 z)) step, rfl⟩, hp2, hi, ?_⟩
      rw [List.take_succ_eq_append_getElem hi, List.any_append, hno]
      simp [hq]
  · have hi : l.length ≤ i := by have := of_decide_eq_false hc; omega
    rw [List.take_of_length_le hi] at hno
    repeat (first | refine WC.seq ?_ | refine WC.reg ?_ | refine WL.pure rfl rfl rfl ?_ | refine WL.nil ?_ | refine WC.skip ?_ | refine WC.block ?_ | refine WC.condT rfl ?_ | refine WC.condF rfl ?_ | refine WL.off rfl rfl rfl ?_ | refine WL.off0 rfl rfl ?_ | refine WC.exit ?_ | refine blk_hit ?_ | refine blk_miss rfl ?_ | refine WC.ret ?_)
    exact Res.one rfl rfl rfl ⟨-1, rfl, by rw [hno]; rfl, hp1⟩
theorem ContainsRules_any (a : Option Addr) (cap : Nat) (l : List Rl) (F : FuncId) (ca : Array Value) (Q : Rl → Bool) (hE : Ents Tryz.prog F) (hlen : l.length ≤ 1000000) (w : World) (hs : Sl w a (rcs l))
    (hF : ∀ r ∈ l, ∀ w', Hp w w' [] → Ret Tryz.prog F ([.agg #[st r.1, st r.2]] ++ ca.toList) w' fun u w'' => u = .bool (Q r) ∧ Hp w' w'' []) :
    Ret Tryz.prog 59 [.slice a l.length cap, .func (.func F) #[] ca] w fun u w' => u = .bool (l.any Q) ∧ Hp w w' [] := by
  refine enter Tryz.func59 rfl rfl ⟨rfl, rfl⟩ rfl ?_
  repeat (first | refine WC.seq ?_ | refine WC.reg ?_ | refine WL.pure rfl rfl rfl ?_ | refine WL.nil ?_ | refine WC.skip ?_ | refine WC.block ?_ | refine WC.condT rfl ?_ | refine WC.condF rfl ?_ | refine WL.off rfl rfl rfl ?_ | refine WL.off0 rfl rfl ?_ | refine WC.exit ?_ | refine blk_hit ?_ | refine blk_miss rfl ?_ | refine WC.ret ?_)
  refine WL.call rfl rfl rfl rfl rfl ent84 (IndexRules_any a cap l F ca Q hE hlen w hs hF) ?_
  rintro _ w1 ⟨r, rfl, hr, hp⟩
  repeat (first | refine WC.seq ?_ | refine WC.reg ?_ | refine WL.pure rfl rfl rfl ?_ | refine WL.nil ?_ | refine WC.skip ?_ | refine WC.block ?_ | refine WC.condT rfl ?_ | refine WC.condF rfl ?_ | refine WL.off rfl rfl rfl ?_ | refine WL.off0 rfl rfl ?_ | refine WC.exit ?_ | refine blk_hit ?_ | refine blk_miss rfl ?_ | refine WC.ret ?_)
  exact Res.one rfl rfl rfl ⟨by rw [← hr], hp⟩
theorem sysC_any (r : Rl) (hl : r.1.length ≤ 9223372036854775807) (hr : r.2.length ≤ 9223372036854775807) (w : World) : Ret Tryz.prog 60 [.agg #[st r.1, st r.2]] w fun u w' => u = .bool (!(eqnB r && decide (0 < ordS r.1 r.2))) ∧ Hp w w' [] := by
  refine enter Tryz.func60 rfl rfl ⟨rfl, rfl⟩ rfl ?_
  repeat (first | refine WC.seq ?_ | refine WC.reg ?_ | refine WL.pure rfl rfl rfl ?_ | refine WL.nil ?_ | refine WC.skip ?_ | refine WC.block ?_ | refine WC.condT rfl ?_ | refine WC.condF rfl ?_ | refine WL.off rfl rfl rfl ?_ | refine WL.off0 rfl rfl ?_ | refine WC.exit ?_ | refine blk_hit ?_ | refine blk_miss rfl ?_ | refine WC.ret ?_)
  refine WL.box rfl rfl rfl ?_
  intro b1 w1 hb1
  have hp1 := (Hp.start w).new hb1
  repeat (first | refine WC.seq ?_ | refine WC.reg ?_ | refine WL.pure rfl rfl rfl ?_ | refine WL.nil ?_ | refine WC.skip ?_ | refine WC.block ?_ | refine WC.condT rfl ?_ | refine WC.condF rfl ?_ | refine WL.off rfl rfl rfl ?_ | refine WL.off0 rfl rfl ?_ | refine WC.exit ?_ | refine blk_hit ?_ | refine blk_miss rfl ?_ | refine WC.ret ?_)
  refine WL.loadN (cs := [st r.1, st r.2]) rfl rfl rfl rfl rfl rfl (fun j v hj => by rw [Nat.zero_add]; exact cell_of_obj (hp1.obj 0 rfl) (by simpa [Value.cells] using hj)) ?_
  refine WL.call rfl rfl rfl rfl rfl ent61 (isEquation_any r hl hr w1) ?_
  rintro _ w2 ⟨rfl, hp2⟩
  have hp2 := hp1.comb hp2
  repeat (first | refine WC.seq ?_ | refine WC.reg ?_ | refine WL.pure rfl rfl rfl ?_ | refine WL.nil ?_ | refine WC.skip ?_ | refine WC.block ?_ | refine WC.condT rfl ?_ | refine WC.condF rfl ?_ | refine WL.off rfl rfl rfl ?_ | refine WL.off0 rfl rfl ?_ | refine WC.exit ?_ | refine blk_hit ?_ | refine blk_miss rfl ?_ | refine WC.ret ?_)
  refine WL.split 6 rfl (fun h1 => ?_) (fun h1 => ?_)
  · have h1 : eqnB r = false := by simpa using h1
    repeat (first | refine WC.seq ?_ | refine WC.reg ?_ | refine WL.pure rfl rfl rfl ?_ | refine WL.nil ?_ | refine WC.skip ?_ | refine WC.block ?_ | refine WC.condT rfl ?_ | refine WC.condF rfl ?_ | refine WL.off rfl rfl rfl ?_ | refine WL.off0 rfl rfl ?_ | refine WC.exit ?_ | refine blk_hit ?_ | refine blk_miss rfl ?_ | refine WC.ret ?_)
    exact Res.one rfl rfl rfl ⟨by rw [h1]; rfl, hp2.nil'⟩
  · have h1 : eqnB r = true := by simpa using h1
    repeat (first | refine WC.seq ?_ | refine WC.reg ?_ | refine WL.pure rfl rfl rfl ?_ | refine WL.nil ?_ | refine WC.skip ?_ | refine WC.block ?_ | refine WC.condT rfl ?_ | refine WC.condF rfl ?_ | refine WL.off rfl rfl rfl ?_ | refine WL.off0 rfl rfl ?_ | refine WC.exit ?_ | refine blk_hit ?_ | refine blk_miss rfl ?_ | refine WC.ret ?_)
    refine WL.loadB rfl rfl rfl rfl rfl (hp2.obj 0 rfl) rfl ?_
    repeat (first | refine WC.seq ?_ | refine WC.reg ?_ | refine WL.pure rfl rfl rfl ?_ | refine WL.nil ?_ | refine WC.skip ?_ | refine WC.block ?_ | refine WC.condT rfl ?_ | refine WC.condF rfl ?_ | refine WL.off rfl rfl rfl ?_ | refine WL.off0 rfl rfl ?_ | refine WC.exit ?_ | refine blk_hit ?_ | refine blk_miss rfl ?_ | refine WC.ret ?_)
    refine WL.loadB rfl rfl rfl rfl rfl (hp2.obj 0 rfl) rfl ?_
    refine WL.call rfl rfl rfl rfl rfl ent62 (order_any r.1 r.2 w2) ?_
    rintro _ w3 ⟨rfl, hp3⟩
    repeat (first | refine WC.seq ?_ | refine WC.reg ?_ | refine WL.pure rfl rfl rfl ?_ | refine WL.nil ?_ | refine WC.skip ?_ | refine WC.block ?_ | refine WC.condT rfl ?_ | refine WC.condF rfl ?_ | refine WL.off rfl rfl rfl ?_ | refine WL.off0 rfl rfl ?_ | refine WC.exit ?_ | refine blk_hit ?_ | refine blk_miss rfl ?_ | refine WC.ret ?_)
    refine Res.one rfl rfl rfl ⟨?_, hp2.nil'.over hp3⟩
    rw [h1, Bool.true_and]
    congr 1
    rcases Int.lt_or_le 0 (ordS r.1 r.2) with h | h
    · rw [decide_eq_true h, decide_eq_false (show ¬ ordS r.1 r.2 ≤ 0 by omega)]; rfl
    · rw [decide_eq_false (show ¬ 0 < ordS r.1 r.2 by omega), decide_eq_true h]; rfl
theorem isSystem_any (a : Option Addr) (cap : Nat) (l : List Rl) (hl : Sm 9223372036854775807 l) (w : World) (hs : Sl w a (rcs l)) :
    Ret Tryz.prog 33 [.slice a l.length cap] w fun u w' => u = .bool (sysB l) ∧ Hp w w' [] := by
  refine enter Tryz.func33 rfl rfl ⟨rfl, rfl⟩ rfl ?_
  repeat (first | refine WC.seq ?_ | refine WC.reg ?_ | refine WL.pure rfl rfl rfl ?_ | refine WL.nil ?_ | refine WC.skip ?_ | refine WC.block ?_ | refine WC.condT rfl ?_ | refine WC.condF rfl ?_ | refine WL.off rfl rfl rfl ?_ | refine WL.off0 rfl rfl ?_ | refine WC.exit ?_ | refine blk_hit ?_ | refine blk_miss rfl ?_ | refine WC.ret ?_)
  refine WL.split 6 rfl (fun h1 => ?_) (fun h1 => ?_)
  · have h1 : l.length ≤ 64 := by have := of_decide_eq_true h1; omega
    repeat (first | refine WC.seq ?_ | refine WC.reg ?_ | refine WL.pure rfl rfl rfl ?_ | refine WL.nil ?_ | refine WC.skip ?_ | refine WC.block ?_ | refine WC.condT rfl ?_ | refine WC.condF rfl ?_ | refine WL.off rfl rfl rfl ?_ | refine WL.off0 rfl rfl ?_ | refine WC.exit ?_ | refine blk_hit ?_ | refine blk_miss rfl ?_ | refine WC.ret ?_)
    refine WL.call rfl rfl rfl rfl rfl ent59 (ContainsRules_any a cap l 60 #[] (fun r => !(eqnB r && decide (0 < ordS r.1 r.2))) ent60 (by omega) w hs (fun r hr w' _ => sysC_any r (hl r hr).1 (hl r hr).2 w')) ?_
    rintro _ w1 ⟨rfl, hp1⟩
    repeat (first | refine WC.seq ?_ | refine WC.reg ?_ | refine WL.pure rfl rfl rfl ?_ | refine WL.nil ?_ | refine WC.skip ?_ | refine WC.block ?_ | refine WC.condT rfl ?_ | refine WC.condF rfl ?_ | refine WL.off rfl rfl rfl ?_ | refine WL.off0 rfl rfl ?_ | refine WC.exit ?_ | refine blk_hit ?_ | refine blk_miss rfl ?_ | refine WC.ret ?_)
    refine Res.one rfl rfl rfl ⟨?_, hp1⟩
    unfold sysB
    rw [decide_eq_true h1, Bool.true_and]
    congr 1
    rw [Bool.eq_iff_iff]
    simp
  · have h1 : ¬ l.length ≤ 64 := by have := of_decide_eq_false h1; omega
    repeat (first | refine WC.seq ?_ | refine WC.reg ?_ | refine WL.pure rfl rfl rfl ?_ | refine WL.nil ?_ | refine WC.skip ?_ | refine WC.block ?_ | refine WC.condT rfl ?_ | refine WC.condF rfl ?_ | refine WL.off rfl rfl rfl ?_ | refine WL.off0 rfl rfl ?_ | refine WC.exit ?_ | refine blk_hit ?_ | refine blk_miss rfl ?_ | refine WC.ret ?_)
    exact Res.one rfl rfl rfl ⟨by unfold sysB; rw [decide_eq_false h1]; rfl, Hp.start w⟩

/-- What 'first' hands back. -/
def fstV : Option (Nat × Rl) → Value
  | some (i, r) => .tuple #[.int .i64 (i : Nat), .agg #[st r.1, st r.2], .bool true]
  | none => .tuple #[.int .i64 (0 : Nat), .agg #[st [], st []], .bool false]
theorem first_any (a : Option Addr) (cap : Nat) (l : List Rl) (s : Str) (hlen : l.length ≤ 1000000) (hl : s.length ≤ 9223372036854775807) (w : World) (hs : Sl w a (rcs l)) :
    Ret Tryz.prog 64 [.slice a l.length cap, st s] w fun u w' => u = fstV (firstM l s) ∧ Hp w w' [] := by
  refine enter Tryz.func64 rfl rfl ⟨rfl, rfl⟩ rfl ?_
  repeat (first | refine WC.seq ?_ | refine WC.reg ?_ | refine WL.pure rfl rfl rfl ?_ | refine WL.nil ?_ | refine WC.skip ?_ | refine WC.block ?_ | refine WC.condT rfl ?_ | refine WC.condF rfl ?_ | refine WL.off rfl rfl rfl ?_ | refine WL.off0 rfl rfl ?_ | refine WC.exit ?_ | refine blk_hit ?_ | refine blk_miss rfl ?_ | refine WC.ret ?_)
  refine WL.alloc rfl rfl rfl ?_
  intro b5 w1 hb5
  have hp1 := (Hp.start w).new hb5
  repeat (first | refine WC.seq ?_ | refine WC.reg ?_ | refine WL.pure rfl rfl rfl ?_ | refine WL.nil ?_ | refine WC.skip ?_ | refine WC.block ?_ | refine WC.condT rfl ?_ | refine WC.condF rfl ?_ | refine WL.off rfl rfl rfl ?_ | refine WL.off0 rfl rfl ?_ | refine WC.exit ?_ | refine blk_hit ?_ | refine blk_miss rfl ?_ | refine WC.ret ?_)
  refine WC.loop Nat (fun i => [(0, .slice a l.length cap), (1, st s), (5, .pointer (some ⟨b5, 0, none⟩)), (11, .int .i64 (s.length : Nat)), (12, .int .i64 (i : Nat))])
    (fun i w' => Hp w w' [.blk b5 (.cells #[st [], st []] 56 (0, 0))] ∧ i ≤ s.length ∧ firstM l s = (firstM l (s.drop i)).map fun p => (p.1 + i, p.2)) (fun i => s.length - i) 0 ⟨rfl, rfl, rfl, rfl, rfl, rfl⟩ ⟨hp1, Nat.zero_le _, by simp⟩ ?_
  clear hp1 hb5 w1
  rintro i w1 ⟨hp1, hi, hf⟩
  repeat (first | refine WC.seq ?_ | refine WC.reg ?_ | refine WL.pure rfl rfl rfl ?_ | refine WL.nil ?_ | refine WC.skip ?_ | refine WC.block ?_ | refine WC.condT rfl ?_ | refine WC.condF rfl ?_ | refine WL.off rfl rfl rfl ?_ | refine WL.off0 rfl rfl ?_ | refine WC.exit ?_ | refine blk_hit ?_ | refine blk_miss rfl ?_ | refine WC.ret ?_)
  refine WC.cond rfl (fun hc => ?_) (fun hc => ?_)
  · have hi : i < s.length := by have := of_decide_eq_true hc; omega
    have step := wrap_succ hi hl
    repeat (first | refine WC.seq ?_ | refine WC.reg ?_ | refine WL.pure rfl rfl rfl ?_ | refine WL.nil ?_ | refine WC.skip ?_ | refine WC.block ?_ | refine WC.condT rfl ?_ | refine WC.condF rfl ?_ | refine WL.off rfl rfl rfl ?_ | refine WL.off0 rfl rfl ?_ | refine WC.exit ?_ | refine blk_hit ?_ | refine blk_miss rfl ?_ | refine WC.ret ?_)
    refine WC.loop Nat (fun j => [(0, .slice a l.length cap), (1, st s), (5, .pointer (some ⟨b5, 0, none⟩)), (7, .int .i64 (i : Nat)), (11, .int .i64 (s.length : Nat)), (12, .int .i64 (i : Nat)), (15, .slice a l.length cap), (16, .int .i64 (l.length : Nat)), (17, .int .i64 (j : Nat))])
      (fun j w' => Hp w w' [.blk b5 (.cells #[st [], st []] 56 (0, 0))] ∧ j ≤ l.length ∧ hit (l.take j) (s.drop i) = none) (fun j => l.length - j) 0 ⟨rfl, rfl, rfl, rfl, rfl, rfl, rfl, rfl, rfl, rfl⟩ ⟨hp1, Nat.zero_le _, rfl⟩ ?_
    clear hp1 w1
    rintro j w1 ⟨hp1, hj, hn⟩
    repeat (first | refine WC.seq ?_ | refine WC.reg ?_ | refine WL.pure rfl rfl rfl ?_ | refine WL.nil ?_ | refine WC.skip ?_ | refine WC.block ?_ | refine WC.condT rfl ?_ | refine WC.condF rfl ?_ | refine WL.off rfl rfl rfl ?_ | refine WL.off0 rfl rfl ?_ | refine WC.exit ?_ | refine blk_hit ?_ | refine blk_miss rfl ?_ | refine WC.ret ?_)
    refine WC.cond rfl (fun hc => ?_) (fun hc => ?_)
    · have hj : j < l.length := by have := of_decide_eq_true hc; omega
      have stepj := wrap_succ hj (by omega)
      repeat (first | refine WC.seq ?_ | refine WC.reg ?_ | refine WL.pure rfl rfl rfl ?_ | refine WL.nil ?_ | refine WC.skip ?_ | refine WC.block ?_ | refine WC.condT rfl ?_ | refine WC.condF rfl ?_ | refine WL.off rfl rfl rfl ?_ | refine WL.off0 rfl rfl ?_ | refine WC.exit ?_ | refine blk_hit ?_ | refine blk_miss rfl ?_ | refine WC.ret ?_)
      refine WL.ixload2 rfl (fun _ => rfl) rfl rfl rfl rfl rfl rfl rfl hj rfl rfl (hs.hp hp1) hj ?_
      intro pa
      refine WL.alloc rfl rfl rfl ?_
      intro b9 w2 hb9
      have hp2 := hp1.new hb9
      refine WL.storeN (vs := #[st l[j].1, st l[j].2]) (arr2 := #[st l[j].1, st l[j].2]) rfl rfl rfl rfl rfl (fun v hv => by
        simp only [List.mem_cons, List.not_mem_nil, or_false] at hv
        rcases hv with rfl | rfl <;> rfl) (hp2.obj 0 rfl) (Nat.le_refl 2) rfl (fun w3 hw3 => ?_)
      have hp3 := hp2.set 0 rfl rfl hw3
      have hcut : (((s.drop i).take (s.length - i)) : Str) = s.drop i := List.take_of_length_le (by rw [List.length_drop]; omega)
      repeat (first | refine WC.seq ?_ | refine WC.reg ?_ | refine WL.pure rfl rfl rfl ?_ | refine WL.nil ?_ | refine WC.skip ?_ | refine WC.block ?_ | refine WC.condT rfl ?_ | refine WC.condF rfl ?_ | refine WL.off rfl rfl rfl ?_ | refine WL.off0 rfl rfl ?_ | refine WC.exit ?_ | refine blk_hit ?_ | refine blk_miss rfl ?_ | refine WC.ret ?_)
      refine WC.regQ (fun w' => Hp w w' [.blk b9 (.cells #[st l[j].1, st l[j].2] 56 (0, 0)), .blk b5 (.cells #[st [], st []] 56 (0, 0))]) mixed (by kernel_rfl) (fun w' hw' => hp3.keep hw') ?_
      repeat (first | refine WQ.pure rfl rfl rfl ?_ | refine WQ.off rfl rfl rfl ?_ | refine WQ.nil ?_)
      refine WQ.sSl (a := i) (b := s.length) rfl rfl rfl rfl rfl rfl (by omega) (Nat.le_refl _) ?_
      rw [hcut]
      repeat (first | refine WQ.pure rfl rfl rfl ?_ | refine WQ.off rfl rfl rfl ?_ | refine WQ.nil ?_)
      refine WQ.load rfl rfl rfl rfl rfl (fun w' h => cell_of_obj (j := 0) (h.obj 0 rfl) rfl) ?_
      refine WQ.call rfl rfl rfl rfl rfl ent89 (fun w' h => (HasPrefix_any (s.drop i) l[j].1 (by rw [List.length_drop]; omega) w').mono fun u w'' ⟨h1, h2⟩ => ⟨h1, by rw [h2]; exact h⟩) ?_
      repeat (first | refine WQ.pure rfl rfl rfl ?_ | refine WQ.off rfl rfl rfl ?_ | refine WQ.nil ?_)
      clear hp3 hp2 hp1 hw3 hb9 w1 w2 w3
      intro w3 hp3
      have hfind : hit (l.take (j + 1)) (s.drop i) = if l[j].1.isPrefixOf (s.drop i) then some l[j] else none := by
        unfold hit at *
        rw [List.take_succ_eq_append_getElem hj, List.find?_append, hn]
        simp only [List.find?_cons, List.find?_nil, Option.none_or]
        split <;> simp_all
      refine WC.cond rfl (fun hq => ?_) (fun hq => ?_)
      · rw [if_pos hq] at hfind
        have hh : hit l (s.drop i) = some l[j] := by
          have e1 : l = l.take (j + 1) ++ l.drop (j + 1) := (List.take_append_drop _ _).symm
          unfold hit at *
          conv => lhs; rw [e1]
          rw [List.find?_append, hfind]; rfl
        rw [firstM_hit hi hh] at hf
        repeat (first | refine WC.seq ?_ | refine WC.reg ?_ | refine WL.pure rfl rfl rfl ?_ | refine WL.nil ?_ | refine WC.skip ?_ | refine WC.block ?_ | refine WC.condT rfl ?_ | refine WC.condF rfl ?_ | refine WL.off rfl rfl rfl ?_ | refine WL.off0 rfl rfl ?_ | refine WC.exit ?_ | refine blk_hit ?_ | refine blk_miss rfl ?_ | refine WC.ret ?_)
        refine WC.regH (fun w' => Hp w w' [.blk b9 (.cells #[st l[j].1, st l[j].2] 56 (0, 0)), .blk b5 (.cells #[st [], st []] 56 (0, 0))] ∨ Hp w w' [.blk b9 (.cells #[st l[j].1, st l[j].2] 56 (0, 0)), .blk b5 (.cells #[st l[j].1, st l[j].2] 56 (0, 0))]) mixed (by kernel_rfl) (fun w4 hw4 hh4 => ?_)
        have hp4 := hp3.keep hw4
        refine WH.pure 0 (by kernel_rfl) rfl (by kernel_rfl) rfl rfl rfl (.inl hp4) ?_
        refine WH.take 1 (by kernel_rfl) rfl (by kernel_rfl) rfl rfl (fun w' h => run_loadN (cs := [st l[j].1, st l[j].2]) rfl rfl rfl rfl (fun q v hq => by
          rw [Addr.add_lit, Nat.zero_add]
          rcases h with h | h <;> exact cell_of_obj (h.obj 0 rfl) (by simpa using hq))) (.inl hp4) ?_
        refine WH.pure 2 (by kernel_rfl) rfl (by kernel_rfl) rfl rfl rfl (.inl hp4) ?_
        refine WH.one 3 rfl (by kernel_rfl) ?_
        refine WL.storeN (vs := #[st l[j].1, st l[j].2]) (arr2 := #[st l[j].1, st l[j].2]) rfl rfl rfl rfl rfl (fun v hv => by
          simp only [List.mem_cons, List.not_mem_nil, or_false] at hv
          rcases hv with rfl | rfl <;> rfl) (hp4.obj 1 rfl) (Nat.le_refl 2) rfl (fun w5 hw5 => ?_)
        have hp5 := hp4.set 1 rfl rfl hw5
        refine WL.nil ⟨.inr hp5, ?_⟩
        refine WH.pure 4 (by kernel_rfl) rfl (by kernel_rfl) rfl rfl rfl (.inr hp5) ?_
        refine WH.done (by kernel_rfl) ?_
        repeat (first | refine WC.seq ?_ | refine WC.reg ?_ | refine WL.pure rfl rfl rfl ?_ | refine WL.nil ?_ | refine WC.skip ?_ | refine WC.block ?_ | refine WC.condT rfl ?_ | refine WC.condF rfl ?_ | refine WL.off rfl rfl rfl ?_ | refine WL.off0 rfl rfl ?_ | refine WC.exit ?_ | refine blk_hit ?_ | refine blk_miss rfl ?_ | refine WC.ret ?_)
        refine Res.tct rfl rfl rfl rfl rfl rfl rfl rfl (hp5.obj 1 rfl) ⟨?_, hp5.nil'⟩
        rw [hf]
        simp [fstV]
      · rw [if_neg (by rw [hq]; decide)] at hfind
        repeat (first | refine WC.seq ?_ | refine WC.reg ?_ | refine WL.pure rfl rfl rfl ?_ | refine WL.nil ?_ | refine WC.skip ?_ | refine WC.block ?_ | refine WC.condT rfl ?_ | refine WC.condF rfl ?_ | refine WL.off rfl rfl rfl ?_ | refine WL.off0 rfl rfl ?_ | refine WC.exit ?_ | refine blk_hit ?_ | refine blk_miss rfl ?_ | refine WC.ret ?_)
        exact ⟨j + 1, by show l.length - (j + 1) < l.length - j; omega, ⟨rfl, rfl, rfl, rfl, rfl, rfl, rfl, rfl, congrArg (fun z => some (Value.int .i64 z)) stepj, rfl⟩, hp3.tail, hj, hfind⟩
    · have hj : l.length ≤ j := by have := of_decide_eq_false hc; omega
      rw [List.take_of_length_le hj] at hn
      repeat (first | refine WC.seq ?_ | refine WC.reg ?_ | refine WL.pure rfl rfl rfl ?_ | refine WL.nil ?_ | refine WC.skip ?_ | refine WC.block ?_ | refine WC.condT rfl ?_ | refine WC.condF rfl ?_ | refine WL.off rfl rfl rfl ?_ | refine WL.off0 rfl rfl ?_ | refine WC.exit ?_ | refine blk_hit ?_ | refine blk_miss rfl ?_ | refine WC.ret ?_)
      refine ⟨i + 1, by show s.length - (i + 1) < s.length - i; omega, ⟨rfl, rfl, rfl, rfl, congrArg (fun z => some (Value.int .i64 z)) step, rfl⟩, hp1, hi, ?_⟩
      rw [hf, firstM_miss hi hn, Option.map_map]
      congr 1
      funext p
      simp only [Function.comp]
      congr 1
      omega
  · have hi : s.length ≤ i := by have := of_decide_eq_false hc; omega
    rw [List.drop_of_length_le hi] at hf
    repeat (first | refine WC.seq ?_ | refine WC.reg ?_ | refine WL.pure rfl rfl rfl ?_ | refine WL.nil ?_ | refine WC.skip ?_ | refine WC.block ?_ | refine WC.condT rfl ?_ | refine WC.condF rfl ?_ | refine WL.off rfl rfl rfl ?_ | refine WL.off0 rfl rfl ?_ | refine WC.exit ?_ | refine blk_hit ?_ | refine blk_miss rfl ?_ | refine WC.ret ?_)
    refine WL.buildT rfl rfl rfl rfl rfl rfl ?_
    repeat (first | refine WC.seq ?_ | refine WC.reg ?_ | refine WL.pure rfl rfl rfl ?_ | refine WL.nil ?_ | refine WC.skip ?_ | refine WC.block ?_ | refine WC.condT rfl ?_ | refine WC.condF rfl ?_ | refine WL.off rfl rfl rfl ?_ | refine WL.off0 rfl rfl ?_ | refine WC.exit ?_ | refine blk_hit ?_ | refine blk_miss rfl ?_ | refine WC.ret ?_)
    refine WL.storeN (vs := #[st [], st []]) (arr2 := #[st [], st []]) rfl rfl rfl rfl rfl (fun v hv => by
      simp only [List.mem_cons, List.not_mem_nil, or_false] at hv
      rcases hv with rfl | rfl <;> rfl) (hp1.obj 0 rfl) (Nat.le_refl 2) rfl (fun w5 hw5 => ?_)
    have hp5 := hp1.set 0 rfl rfl hw5
    repeat (first | refine WC.seq ?_ | refine WC.reg ?_ | refine WL.pure rfl rfl rfl ?_ | refine WL.nil ?_ | refine WC.skip ?_ | refine WC.block ?_ | refine WC.condT rfl ?_ | refine WC.condF rfl ?_ | refine WL.off rfl rfl rfl ?_ | refine WL.off0 rfl rfl ?_ | refine WC.exit ?_ | refine blk_hit ?_ | refine blk_miss rfl ?_ | refine WC.ret ?_)
    refine Res.tct rfl rfl rfl rfl rfl rfl rfl rfl (hp5.obj 0 rfl) ⟨?_, hp5.nil'⟩
    rw [hf]
    rfl
end Go.Proofs.YtoghnhbjdnjghaaGreat
