/- ltl, second: the words of a string. -/
import Derived.Test.YtpbbneclkhfgoaaDoorU1
namespace Go.Proofs.YtpbbneclkhfgoaaDoor
open Go.W Go.Ltl Go.RowKit
set_option maxRecDepth 100000
attribute [local irreducible] WC WL WQ WS WH

/-- A row of strings. -/
abbrev Rs (v : Value) (P : List Str) : Ent := .row 9 1 v P.length (P.map st)
theorem st_cells (P : List Str) : Cells (P.map st) := by
  intro v hv
  obtain ⟨x, _, rfl⟩ := List.mem_map.1 hv
  rfl
abbrev Iv (b : Nat) (z : Int) : Ent := .blk b (.cells #[.int .i64 z] 3 (0, 0))
abbrev Sv (b : Nat) (v : Value) : Ent := .blk b (.cells #[v] 92 (0, 0))
abbrev Bs (b : Nat) (s : Str) : Ent := .blk b (.cells #[st s] 9 (0, 0))
abbrev ptr (b : Nat) : Value := .pointer (some ⟨b, 0, none⟩)
/-- What the cutter keeps. -/
abbrev Ct (bf bo bs : Nat) (q : Nat) (v : Value) (l : List Str) (s : Str) (L : List Ent) : List Ent := Iv bf (q : Nat) :: Sv bo v :: Rs v l :: Bs bs s :: L
theorem cut_any {w0 w : World} {L : List Ent} {bf bo bs q at_ c : Nat} {a : Option Addr} {l : List Str} {s : Str} (hp : Hp w0 w (Ct bf bo bs q (.slice a l.length c) l s L)) (h1 : q ≤ at_) (h2 : at_ ≤ s.length) (h3 : s.length ≤ 1000) (h4 : l.length ≤ 5000) :
    Ret Tryd.prog 97 [.int .i64 (at_ : Nat), ptr bf, ptr bo, ptr bs] w fun _ w' => ∃ a' c', Hp w0 w' (Ct bf bo bs (at_ + 1) (.slice a' (l ++ flush ((s.drop q).take (at_ - q))).length c') (l ++ flush ((s.drop q).take (at_ - q))) s L) := by
  have step : IntKind.i64.wrap (((at_ : Nat) : Int) + 1) = ((at_ + 1 : Nat) : Int) := wrap_succ (n := at_ + 1) (by omega) (by omega)
  refine enter Tryd.func97 rfl rfl ⟨rfl, rfl⟩ rfl ?_
  refine WC.seq ?_
  refine WC.mid (Option Addr × Nat) (fun _ => [(0, .int .i64 (at_ : Nat)), (1, ptr bf), (2, ptr bo), (3, ptr bs)]) (fun (a', c') w' => Hp w0 w' (Ct bf bo bs q (.slice a' (l ++ flush ((s.drop q).take (at_ - q))).length c') (l ++ flush ((s.drop q).take (at_ - q))) s L)) ?_ ?_
  · refine WC.seq (WC.reg ?_)
    refine WL.loadB rfl rfl rfl rfl rfl (hp.obj 0 rfl) rfl ?_
    repeat (first | refine WC.seq ?_ | refine WC.reg ?_ | refine WL.pure rfl rfl rfl ?_ | refine WL.nil ?_ | refine WC.skip ?_ | refine WC.block ?_ | refine WC.condT rfl ?_ | refine WC.condF rfl ?_ | refine WL.off rfl rfl rfl ?_ | refine WL.off0 rfl rfl ?_ | refine WC.exit ?_ | refine blk_hit ?_ | refine blk_miss rfl ?_ | refine WC.ret ?_)
    refine WC.cond rfl (fun hc => ?_) (fun hc => ?_)
    · have hq : q < at_ := by have := of_decide_eq_true hc; omega
      have hne : (s.drop q).take (at_ - q) ≠ [] := by
        intro h
        have := congrArg List.length h
        rw [List.length_take, List.length_drop] at this
        simp only [List.length_nil] at this
        omega
      have hfl : flush ((s.drop q).take (at_ - q)) = [(s.drop q).take (at_ - q)] := by unfold flush; rw [if_neg hne]
      rw [hfl]
      refine WC.regH (fun w' => Hp w0 w' [Iv bf q, Bs bs s]) mixed (by kernel_rfl) (fun w1 hw1 hh1 => ?_)
      have hp1 := hp.keep hw1
      have hS1 : Hp w0 w1 [Iv bf q, Bs bs s] := hp1.pick [0, 3] (by decide)
      refine WH.load 1 (by kernel_rfl) rfl (by kernel_rfl) rfl rfl rfl rfl rfl (fun w' h => cell_of_obj (h.obj 1 rfl) rfl) hS1 ?_
      refine WH.load 2 (by kernel_rfl) rfl (by kernel_rfl) rfl rfl rfl rfl rfl (fun w' h => cell_of_obj (h.obj 0 rfl) rfl) hS1 ?_
      refine WH.pure 3 (by kernel_rfl) rfl (by kernel_rfl) rfl rfl rfl (hS1) ?_
      refine WH.sSl (a := q) (b := at_) 4 (by kernel_rfl) rfl (by kernel_rfl) rfl rfl rfl rfl rfl rfl h1 h2 hS1 ?_
      generalize (s.drop q).take (at_ - q) = p at *
      have e2 : (l ++ [p]).length = l.length + 1 := by rw [List.length_append]; rfl
      refine WH.two 0 5 rfl rfl (by kernel_rfl) ?_ ?_
      · refine WL.loadB rfl rfl rfl rfl rfl (hp1.obj 1 rfl) (j := 0) rfl (WL.nil ⟨hS1, ?_⟩)
        refine WH.one 5 rfl (by kernel_rfl) ?_
        refine WL.buildS (cs := [st p]) rfl rfl rfl rfl rfl rfl rfl rfl rfl (fun b6 w4 hb4 => ?_)
        have hp4 := hp1.new hb4
        refine WL.nil ⟨hp4.pick [1, 4] (by decide), ?_⟩
        refine WH.one 6 rfl (by kernel_rfl) ?_
        refine WL.append 3 hp4 rfl rfl rfl rfl rfl (by decide) rfl rfl rfl (news := [st p]) (Sl.of_obj (hp4.obj 0 rfl) (fun q u hq => by simpa using hq)) rfl (st_cells [p]) (by unfold maxLen; omega) (by show (l.length + 1) * 16 ≤ _; omega) ?_
        intro ra rc1 w5 hp5 hg5
        refine WL.nil ⟨hp5.pick [1, 4] (by decide), ?_⟩
        refine WH.one 7 rfl (by kernel_rfl) ?_
        refine WL.store rfl rfl rfl rfl rfl rfl (hp5.obj 2 rfl) (Nat.lt_succ_self 0) (fun w6 h6 => ?_)
        have hp6 := hp5.set 2 rfl rfl h6
        refine WL.nil ⟨hp6.pick [1, 4] (by decide), ?_⟩
        refine WH.done (by kernel_rfl) ?_
        refine ⟨(ra, rc1), ⟨rfl, rfl, rfl, rfl, rfl⟩, ?_⟩
        show Hp w0 w6 (Iv bf q :: Sv bo (.slice ra (l ++ [p]).length rc1) :: Rs (.slice ra (l ++ [p]).length rc1) (l ++ [p]) :: Bs bs s :: L)
        unfold Rs
        rw [e2, List.map_append]
        exact hp6.tail
      · refine WL.buildS (cs := [st p]) rfl rfl rfl rfl rfl rfl rfl rfl rfl (fun b6 w4 hb4 => ?_)
        have hp4 := hp1.new hb4
        refine WL.nil ⟨hp4.pick [1, 4] (by decide), ?_⟩
        refine WH.one 0 rfl (by kernel_rfl) ?_
        refine WL.loadB rfl rfl rfl rfl rfl (hp4.obj 2 rfl) (j := 0) rfl (WL.nil ⟨hp4.pick [1, 4] (by decide), ?_⟩)
        refine WH.one 6 rfl (by kernel_rfl) ?_
        refine WL.append 3 hp4 rfl rfl rfl rfl rfl (by decide) rfl rfl rfl (news := [st p]) (Sl.of_obj (hp4.obj 0 rfl) (fun q u hq => by simpa using hq)) rfl (st_cells [p]) (by unfold maxLen; omega) (by show (l.length + 1) * 16 ≤ _; omega) ?_
        intro ra rc1 w5 hp5 hg5
        refine WL.nil ⟨hp5.pick [1, 4] (by decide), ?_⟩
        refine WH.one 7 rfl (by kernel_rfl) ?_
        refine WL.store rfl rfl rfl rfl rfl rfl (hp5.obj 2 rfl) (Nat.lt_succ_self 0) (fun w6 h6 => ?_)
        have hp6 := hp5.set 2 rfl rfl h6
        refine WL.nil ⟨hp6.pick [1, 4] (by decide), ?_⟩
        refine WH.done (by kernel_rfl) ?_
        refine ⟨(ra, rc1), ⟨rfl, rfl, rfl, rfl, rfl⟩, ?_⟩
        show Hp w0 w6 (Iv bf q :: Sv bo (.slice ra (l ++ [p]).length rc1) :: Rs (.slice ra (l ++ [p]).length rc1) (l ++ [p]) :: Bs bs s :: L)
        unfold Rs
        rw [e2, List.map_append]
        exact hp6.tail
    · have hq : q = at_ := by have := of_decide_eq_false hc; omega
      repeat (first | refine WC.seq ?_ | refine WC.reg ?_ | refine WL.pure rfl rfl rfl ?_ | refine WL.nil ?_ | refine WC.skip ?_ | refine WC.block ?_ | refine WC.condT rfl ?_ | refine WC.condF rfl ?_ | refine WL.off rfl rfl rfl ?_ | refine WL.off0 rfl rfl ?_ | refine WC.exit ?_ | refine blk_hit ?_ | refine blk_miss rfl ?_ | refine WC.ret ?_)
      refine ⟨(a, c), ⟨rfl, rfl, rfl, rfl, rfl⟩, ?_⟩
      subst hq
      rw [Nat.sub_self, List.take_zero]
      show Hp w0 w (Ct bf bo bs q (.slice a (l ++ []).length c) (l ++ []) s L)
      rw [List.append_nil]
      exact hp
  · rintro ⟨a', c'⟩ e2 w2 hsub hp2
    refine WC.sub hsub ?_
    clear hsub e2
    repeat (first | refine WC.seq ?_ | refine WC.reg ?_ | refine WL.pure rfl rfl rfl ?_ | refine WL.nil ?_ | refine WC.skip ?_ | refine WC.block ?_ | refine WC.condT rfl ?_ | refine WC.condF rfl ?_ | refine WL.off rfl rfl rfl ?_ | refine WL.off0 rfl rfl ?_ | refine WC.exit ?_ | refine blk_hit ?_ | refine blk_miss rfl ?_ | refine WC.ret ?_)
    refine WL.known (d := 16) (congrArg (fun z => some (Value.int .i64 z)) step) ?_
    refine WL.store rfl rfl rfl rfl rfl rfl (hp2.obj 0 rfl) (Nat.lt_succ_self 0) (fun w3 h3 => ?_)
    have hp3 := hp2.set 0 rfl rfl h3
    repeat (first | refine WC.seq ?_ | refine WC.reg ?_ | refine WL.pure rfl rfl rfl ?_ | refine WL.nil ?_ | refine WC.skip ?_ | refine WC.block ?_ | refine WC.condT rfl ?_ | refine WC.condF rfl ?_ | refine WL.off rfl rfl rfl ?_ | refine WL.off0 rfl rfl ?_ | refine WC.exit ?_ | refine blk_hit ?_ | refine blk_miss rfl ?_ | refine WC.ret ?_)
    exact Res.zero rfl rfl ⟨a', c', hp3⟩
theorem u8_iff (c : UInt8) (n : Nat) (hn : n < 256) : ((c.toNat : Nat) : Int) = (n : Nat) ↔ c = UInt8.ofNat n := by
  constructor
  · intro h
    have h2 : c.toNat = n := by omega
    rw [← h2, UInt8.ofNat_toNat]
  · intro h
    rw [h, UInt8.toNat_ofNat_of_lt' (by simpa using hn)]
theorem flush_le (x : Str) : (flush x).length ≤ 1 := by unfold flush; split <;> simp
theorem tokN_sp {c : UInt8} (s cur : Str) (h : c = 32 ∨ c = 10) : tokN (c :: s) cur = flush cur ++ tokN s [] := by rw [tokN, if_pos h]
theorem tokN_pa {c : UInt8} (s cur : Str) (h : ¬ (c = 32 ∨ c = 10)) (h2 : c = 40 ∨ c = 41) : tokN (c :: s) cur = flush cur ++ ([c] :: tokN s []) := by rw [tokN, if_neg h, if_pos h2]
theorem tokN_go {c : UInt8} (s cur : Str) (h : ¬ (c = 32 ∨ c = 10)) (h2 : ¬ (c = 40 ∨ c = 41)) : tokN (c :: s) cur = tokN s (cur ++ [c]) := by rw [tokN, if_neg h, if_neg h2]
theorem tokens_any (s : Str) (hs : s.length ≤ 1000) (w : World) :
    Ret Tryd.prog 73 [st s] w fun v w' => ∃ a c, v = .slice a (tokM s).length c ∧ Hp w w' [Rs (.slice a (tokM s).length c) (tokM s)] := by
  refine enter Tryd.func73 rfl rfl ⟨rfl, rfl⟩ rfl ?_
  repeat (first | refine WC.seq ?_ | refine WC.reg ?_ | refine WL.pure rfl rfl rfl ?_ | refine WL.nil ?_ | refine WC.skip ?_ | refine WC.block ?_ | refine WC.condT rfl ?_ | refine WC.condF rfl ?_ | refine WL.off rfl rfl rfl ?_ | refine WL.off0 rfl rfl ?_ | refine WC.exit ?_ | refine blk_hit ?_ | refine blk_miss rfl ?_ | refine WC.ret ?_)
  refine WL.box rfl rfl rfl (fun bs w1 h1 => ?_)
  have hp1 := (Hp.start w).new h1
  repeat (first | refine WC.seq ?_ | refine WC.reg ?_ | refine WL.pure rfl rfl rfl ?_ | refine WL.nil ?_ | refine WC.skip ?_ | refine WC.block ?_ | refine WC.condT rfl ?_ | refine WC.condF rfl ?_ | refine WL.off rfl rfl rfl ?_ | refine WL.off0 rfl rfl ?_ | refine WC.exit ?_ | refine blk_hit ?_ | refine blk_miss rfl ?_ | refine WC.ret ?_)
  refine WL.alloc rfl rfl rfl (fun bo w2 h2 => ?_)
  have hp2 := hp1.new h2
  repeat (first | refine WC.seq ?_ | refine WC.reg ?_ | refine WL.pure rfl rfl rfl ?_ | refine WL.nil ?_ | refine WC.skip ?_ | refine WC.block ?_ | refine WC.condT rfl ?_ | refine WC.condF rfl ?_ | refine WL.off rfl rfl rfl ?_ | refine WL.off0 rfl rfl ?_ | refine WC.exit ?_ | refine blk_hit ?_ | refine blk_miss rfl ?_ | refine WC.ret ?_)
  refine WL.alloc rfl rfl rfl (fun bf w3 h3 => ?_)
  have hp3 := hp2.new h3
  refine WL.store rfl rfl rfl rfl rfl rfl (hp3.obj 0 rfl) (Nat.lt_succ_self 0) (fun w4 h4 => ?_)
  have hp4 := ((hp3.set 0 rfl rfl h4).nilrow 9 1).pick [1, 2, 0, 3] (by decide)
  repeat (first | refine WC.seq ?_ | refine WC.reg ?_ | refine WL.pure rfl rfl rfl ?_ | refine WL.nil ?_ | refine WC.skip ?_ | refine WC.block ?_ | refine WC.condT rfl ?_ | refine WC.condF rfl ?_ | refine WL.off rfl rfl rfl ?_ | refine WL.off0 rfl rfl ?_ | refine WC.exit ?_ | refine blk_hit ?_ | refine blk_miss rfl ?_ | refine WC.ret ?_)
  refine WL.loadB rfl rfl rfl rfl rfl (hp4.obj 3 rfl) (j := 0) rfl ?_
  refine WL.sLen rfl rfl rfl rfl ?_
  repeat (first | refine WC.seq ?_ | refine WC.reg ?_ | refine WL.pure rfl rfl rfl ?_ | refine WL.nil ?_ | refine WC.skip ?_ | refine WC.block ?_ | refine WC.condT rfl ?_ | refine WC.condF rfl ?_ | refine WL.off rfl rfl rfl ?_ | refine WL.off0 rfl rfl ?_ | refine WC.exit ?_ | refine blk_hit ?_ | refine blk_miss rfl ?_ | refine WC.ret ?_)
  refine WC.loop (Nat × Nat × Option Addr × Nat × List Str) (fun (i, q, a, c, l) => [(1, ptr bs), (3, ptr bo), (5, .func (.func 97) #[] #[ptr bf, ptr bo, ptr bs]), (9, .int .i64 (s.length : Nat)), (10, .int .i64 (i : Nat))])
    (fun (i, q, a, c, l) w' => i ≤ s.length ∧ q ≤ i ∧ tokM s = l ++ tokN (s.drop i) ((s.drop q).take (i - q)) ∧ l.length ≤ 2 * i ∧ Hp w w' (Ct bf bo bs q (.slice a l.length c) l s [])) (fun (i, _) => s.length - i) (0, 0, none, 0, []) ⟨rfl, rfl, rfl, rfl, rfl, rfl⟩
    ⟨Nat.zero_le _, Nat.le_refl _, rfl, Nat.le_refl _, hp4⟩ ?_
  clear hp4
  rintro ⟨i, q, a, c, l⟩ w5 ⟨hi, hq, hinv, hll, hp⟩
  replace hi : i ≤ s.length := hi
  replace hq : q ≤ i := hq
  replace hll : l.length ≤ 2 * i := hll
  replace hinv : tokM s = l ++ tokN (s.drop i) ((s.drop q).take (i - q)) := hinv
  replace hp : Hp w w5 (Ct bf bo bs q (.slice a l.length c) l s []) := hp
  repeat (first | refine WC.seq ?_ | refine WC.reg ?_ | refine WL.pure rfl rfl rfl ?_ | refine WL.nil ?_ | refine WC.skip ?_ | refine WC.block ?_ | refine WC.condT rfl ?_ | refine WC.condF rfl ?_ | refine WL.off rfl rfl rfl ?_ | refine WL.off0 rfl rfl ?_ | refine WC.exit ?_ | refine blk_hit ?_ | refine blk_miss rfl ?_ | refine WC.ret ?_)
  refine WC.cond rfl (fun hc => ?_) (fun hc => ?_)
  · replace hi : i < s.length := by have := of_decide_eq_true hc; omega
    have step := wrap_succ (i := i) (n := i + 1) (by omega) (by omega)
    have hd : s.drop i = s[i] :: s.drop (i + 1) := List.drop_eq_getElem_cons hi
    repeat (first | refine WC.seq ?_ | refine WC.reg ?_ | refine WL.pure rfl rfl rfl ?_ | refine WL.nil ?_ | refine WC.skip ?_ | refine WC.block ?_ | refine WC.condT rfl ?_ | refine WC.condF rfl ?_ | refine WL.off rfl rfl rfl ?_ | refine WL.off0 rfl rfl ?_ | refine WC.exit ?_ | refine blk_hit ?_ | refine blk_miss rfl ?_ | refine WC.ret ?_)
    refine WL.loadB rfl rfl rfl rfl rfl (hp.obj 3 rfl) (j := 0) rfl ?_
    repeat (first | refine WC.seq ?_ | refine WC.reg ?_ | refine WL.pure rfl rfl rfl ?_ | refine WL.nil ?_ | refine WC.skip ?_ | refine WC.block ?_ | refine WC.condT rfl ?_ | refine WC.condF rfl ?_ | refine WL.off rfl rfl rfl ?_ | refine WL.off0 rfl rfl ?_ | refine WC.exit ?_ | refine blk_hit ?_ | refine blk_miss rfl ?_ | refine WC.ret ?_)
    refine WL.sAt rfl rfl rfl rfl rfl hi ?_
    have hcut : s[i] = s[i] := rfl
    obtain ⟨u, hu⟩ : ∃ u, u = s[i] := ⟨_, rfl⟩
    rw [← hu] at hd ⊢
    refine WL.nil ?_
    refine WC.mid (Nat × Option Addr × Nat × List Str) (fun _ => [(1, ptr bs), (3, ptr bo), (5, .func (.func 97) #[] #[ptr bf, ptr bo, ptr bs]), (9, .int .i64 (s.length : Nat)), (10, .int .i64 (i : Nat))])
      (fun (q, a, c, l) w' => q ≤ i + 1 ∧ tokM s = l ++ tokN (s.drop (i + 1)) ((s.drop q).take (i + 1 - q)) ∧ l.length ≤ 2 * (i + 1) ∧ Hp w w' (Ct bf bo bs q (.slice a l.length c) l s [])) ?_ ?_
    · refine WC.block ?_
      refine WC.seq ?_
      refine WC.mid Bool (fun b => [(1, ptr bs), (3, ptr bo), (5, .func (.func 97) #[] #[ptr bf, ptr bo, ptr bs]), (6, .int .i64 (i : Nat)), (9, .int .i64 (s.length : Nat)), (10, .int .i64 (i : Nat)), (15, .int .u8 (u.toNat : Nat)), (16, .bool b)]) (fun b w' => b = decide (u = 32 ∨ u = 10) ∧ Hp w w' (Ct bf bo bs q (.slice a l.length c) l s [])) ?_ ?_
      · repeat (first | refine WC.seq ?_ | refine WC.reg ?_ | refine WL.pure rfl rfl rfl ?_ | refine WL.nil ?_ | refine WC.skip ?_ | refine WC.block ?_ | refine WC.condT rfl ?_ | refine WC.condF rfl ?_ | refine WL.off rfl rfl rfl ?_ | refine WL.off0 rfl rfl ?_ | refine WC.exit ?_ | refine blk_hit ?_ | refine blk_miss rfl ?_ | refine WC.ret ?_)
        refine WC.cond rfl (fun h1 => ?_) (fun h1 => ?_)
        · have h2 : u = 32 := (u8_iff u 32 (by decide)).1 (beq_iff_eq.1 h1)
          repeat (first | refine WC.seq ?_ | refine WC.reg ?_ | refine WL.pure rfl rfl rfl ?_ | refine WL.nil ?_ | refine WC.skip ?_ | refine WC.block ?_ | refine WC.condT rfl ?_ | refine WC.condF rfl ?_ | refine WL.off rfl rfl rfl ?_ | refine WL.off0 rfl rfl ?_ | refine WC.exit ?_ | refine blk_hit ?_ | refine blk_miss rfl ?_ | refine WC.ret ?_)
          exact ⟨_, ⟨rfl, rfl, rfl, rfl, rfl, rfl, rfl, rfl, rfl⟩, by rw [h1]; exact (decide_eq_true (.inl h2)).symm, hp⟩
        · have h1 : ¬ u = 32 := fun h => Bool.noConfusion (h1.symm.trans (beq_iff_eq.2 ((u8_iff u 32 (by decide)).2 h)))
          repeat (first | refine WC.seq ?_ | refine WC.reg ?_ | refine WL.pure rfl rfl rfl ?_ | refine WL.nil ?_ | refine WC.skip ?_ | refine WC.block ?_ | refine WC.condT rfl ?_ | refine WC.condF rfl ?_ | refine WL.off rfl rfl rfl ?_ | refine WL.off0 rfl rfl ?_ | refine WC.exit ?_ | refine blk_hit ?_ | refine blk_miss rfl ?_ | refine WC.ret ?_)
          refine ⟨_, ⟨rfl, rfl, rfl, rfl, rfl, rfl, rfl, rfl, rfl⟩, ?_, hp⟩
          rw [Bool.eq_iff_iff, beq_iff_eq, decide_eq_true_iff]
          exact ⟨fun h => .inr ((u8_iff u 10 (by decide)).1 h), fun h => (u8_iff u 10 (by decide)).2 (h.resolve_left h1)⟩
      rintro b e6 w6 hsub ⟨hb, hp⟩
      refine WC.sub hsub ?_
      clear hsub e6
      refine WC.cond rfl (fun h1 => ?_) (fun h1 => ?_)
      · have hsp : u = 32 ∨ u = 10 := by rw [h1] at hb; exact of_decide_eq_true hb.symm
        repeat (first | refine WC.seq ?_ | refine WC.reg ?_ | refine WL.pure rfl rfl rfl ?_ | refine WL.nil ?_ | refine WC.skip ?_ | refine WC.block ?_ | refine WC.condT rfl ?_ | refine WC.condF rfl ?_ | refine WL.off rfl rfl rfl ?_ | refine WL.off0 rfl rfl ?_ | refine WC.exit ?_ | refine blk_hit ?_ | refine blk_miss rfl ?_ | refine WC.ret ?_)
        refine WL.call rfl rfl rfl rfl rfl ent97 (cut_any hp hq (by omega) hs (by omega)) ?_
        rintro v w7 ⟨a', c', hp7⟩
        have hf := flush_le ((s.drop q).take (i - q))
        repeat (first | refine WC.seq ?_ | refine WC.reg ?_ | refine WL.pure rfl rfl rfl ?_ | refine WL.nil ?_ | refine WC.skip ?_ | refine WC.block ?_ | refine WC.condT rfl ?_ | refine WC.condF rfl ?_ | refine WL.off rfl rfl rfl ?_ | refine WL.off0 rfl rfl ?_ | refine WC.exit ?_ | refine blk_hit ?_ | refine blk_miss rfl ?_ | refine WC.ret ?_)
        refine ⟨(i + 1, a', c', l ++ flush ((s.drop q).take (i - q))), ⟨rfl, rfl, rfl, rfl, rfl, rfl⟩, Nat.le_refl _, ?_, ?_, hp7⟩
        · rw [hinv, hd, tokN_sp _ _ hsp, Nat.sub_self, List.take_zero, List.append_assoc]
        · rw [List.length_append]; omega
      · have hsp : ¬ (u = 32 ∨ u = 10) := by rw [h1] at hb; exact of_decide_eq_false hb.symm
        clear hb h1
        refine WC.seq ?_
        refine WC.mid Bool (fun b => [(1, ptr bs), (3, ptr bo), (5, .func (.func 97) #[] #[ptr bf, ptr bo, ptr bs]), (6, .int .i64 (i : Nat)), (9, .int .i64 (s.length : Nat)), (10, .int .i64 (i : Nat)), (15, .int .u8 (u.toNat : Nat)), (22, .bool b)]) (fun b w' => b = decide (u = 40 ∨ u = 41) ∧ Hp w w' (Ct bf bo bs q (.slice a l.length c) l s [])) ?_ ?_
        · repeat (first | refine WC.seq ?_ | refine WC.reg ?_ | refine WL.pure rfl rfl rfl ?_ | refine WL.nil ?_ | refine WC.skip ?_ | refine WC.block ?_ | refine WC.condT rfl ?_ | refine WC.condF rfl ?_ | refine WL.off rfl rfl rfl ?_ | refine WL.off0 rfl rfl ?_ | refine WC.exit ?_ | refine blk_hit ?_ | refine blk_miss rfl ?_ | refine WC.ret ?_)
          refine WC.cond rfl (fun h1 => ?_) (fun h1 => ?_)
          · have h2 : u = 40 := (u8_iff u 40 (by decide)).1 (beq_iff_eq.1 h1)
            repeat (first | refine WC.seq ?_ | refine WC.reg ?_ | refine WL.pure rfl rfl rfl ?_ | refine WL.nil ?_ | refine WC.skip ?_ | refine WC.block ?_ | refine WC.condT rfl ?_ | refine WC.condF rfl ?_ | refine WL.off rfl rfl rfl ?_ | refine WL.off0 rfl rfl ?_ | refine WC.exit ?_ | refine blk_hit ?_ | refine blk_miss rfl ?_ | refine WC.ret ?_)
            exact ⟨_, ⟨rfl, rfl, rfl, rfl, rfl, rfl, rfl, rfl, rfl⟩, by rw [h1]; exact (decide_eq_true (.inl h2)).symm, hp⟩
          · have h1 : ¬ u = 40 := fun h => Bool.noConfusion (h1.symm.trans (beq_iff_eq.2 ((u8_iff u 40 (by decide)).2 h)))
            repeat (first | refine WC.seq ?_ | refine WC.reg ?_ | refine WL.pure rfl rfl rfl ?_ | refine WL.nil ?_ | refine WC.skip ?_ | refine WC.block ?_ | refine WC.condT rfl ?_ | refine WC.condF rfl ?_ | refine WL.off rfl rfl rfl ?_ | refine WL.off0 rfl rfl ?_ | refine WC.exit ?_ | refine blk_hit ?_ | refine blk_miss rfl ?_ | refine WC.ret ?_)
            refine ⟨_, ⟨rfl, rfl, rfl, rfl, rfl, rfl, rfl, rfl, rfl⟩, ?_, hp⟩
            rw [Bool.eq_iff_iff, beq_iff_eq, decide_eq_true_iff]
            exact ⟨fun h => .inr ((u8_iff u 41 (by decide)).1 h), fun h => (u8_iff u 41 (by decide)).2 (h.resolve_left h1)⟩
        rintro b e6 w6 hsub ⟨hb, hp⟩
        refine WC.sub hsub ?_
        clear hsub e6
        refine WC.cond rfl (fun h1 => ?_) (fun h1 => ?_)
        · have hpa : u = 40 ∨ u = 41 := by rw [h1] at hb; exact of_decide_eq_true hb.symm
          repeat (first | refine WC.seq ?_ | refine WC.reg ?_ | refine WL.pure rfl rfl rfl ?_ | refine WL.nil ?_ | refine WC.skip ?_ | refine WC.block ?_ | refine WC.condT rfl ?_ | refine WC.condF rfl ?_ | refine WL.off rfl rfl rfl ?_ | refine WL.off0 rfl rfl ?_ | refine WC.exit ?_ | refine blk_hit ?_ | refine blk_miss rfl ?_ | refine WC.ret ?_)
          refine WL.call rfl rfl rfl rfl rfl ent97 (cut_any hp hq (by omega) hs (by omega)) ?_
          rintro v w7 ⟨a', c', hp7⟩
          have hf := flush_le ((s.drop q).take (i - q))
          repeat (first | refine WC.seq ?_ | refine WC.reg ?_ | refine WL.pure rfl rfl rfl ?_ | refine WL.nil ?_ | refine WC.skip ?_ | refine WC.block ?_ | refine WC.condT rfl ?_ | refine WC.condF rfl ?_ | refine WL.off rfl rfl rfl ?_ | refine WL.off0 rfl rfl ?_ | refine WC.exit ?_ | refine blk_hit ?_ | refine blk_miss rfl ?_ | refine WC.ret ?_)
          obtain ⟨l2, hl2⟩ : ∃ l2, l2 = l ++ flush ((s.drop q).take (i - q)) := ⟨_, rfl⟩
          rw [← hl2] at hp7
          have hl2l : l2.length ≤ 2 * i + 1 := by rw [hl2, List.length_append]; omega
          have e2 : (l2 ++ [[u]]).length = l2.length + 1 := by rw [List.length_append]; rfl
          have e3 : (s.drop i).take (i + 1 - i) = [u] := by rw [hd, Nat.add_sub_cancel_left]; rfl
          refine WC.regH (fun w' => Hp w w' [Bs bs s]) mixed (by kernel_rfl) (fun w8 hw8 hh8 => ?_)
          have hp8 := hp7.keep hw8
          have hS : Hp w w8 [Bs bs s] := hp8.pick [3] (by decide)
          refine WH.load 1 (by kernel_rfl) rfl (by kernel_rfl) rfl rfl rfl rfl rfl (fun w' h => cell_of_obj (h.obj 0 rfl) rfl) hS ?_
          refine WH.pure 2 (by kernel_rfl) rfl (by kernel_rfl) rfl rfl rfl (hS) ?_
          refine WH.pure 3 (by kernel_rfl) rfl (by kernel_rfl) rfl rfl rfl (hS) ?_
          refine WH.pure 4 (by kernel_rfl) rfl (by kernel_rfl) rfl rfl rfl (hS) ?_
          refine WH.known (d := 32) (congrArg (fun z => some (Value.int .i64 z)) step) ?_
          refine WH.sSl (a := i) (b := i + 1) 5 (by kernel_rfl) rfl (by kernel_rfl) rfl rfl rfl rfl rfl rfl (by omega) (by omega) hS ?_
          rw [e3]
          refine WH.two 0 6 rfl rfl (by kernel_rfl) ?_ ?_
          · refine WL.loadB rfl rfl rfl rfl rfl (hp8.obj 1 rfl) (j := 0) rfl (WL.nil ⟨hS, ?_⟩)
            refine WH.one 6 rfl (by kernel_rfl) ?_
            refine WL.buildS (cs := [st [u]]) rfl rfl rfl rfl rfl rfl rfl rfl rfl (fun b6 w9 hb9 => ?_)
            have hp9 := hp8.new hb9
            refine WL.nil ⟨hp9.pick [4] (by decide), ?_⟩
            refine WH.one 7 rfl (by kernel_rfl) ?_
            refine WL.append 3 hp9 rfl rfl rfl rfl rfl (by decide) rfl rfl rfl (news := [st [u]]) (Sl.of_obj (hp9.obj 0 rfl) (fun q u hq => by simpa using hq)) rfl (st_cells [[u]]) (by unfold maxLen; omega) (by show (l2.length + 1) * 16 ≤ _; omega) ?_
            intro ra rc1 w10 hp10 hg10
            refine WL.nil ⟨hp10.pick [4] (by decide), ?_⟩
            refine WH.one 8 rfl (by kernel_rfl) ?_
            refine WL.store rfl rfl rfl rfl rfl rfl (hp10.obj 2 rfl) (Nat.lt_succ_self 0) (fun w11 h11 => ?_)
            have hp11 := hp10.set 2 rfl rfl h11
            refine WL.nil ⟨hp11.pick [4] (by decide), ?_⟩
            refine WH.done (by kernel_rfl) ?_
            refine ⟨(i + 1, ra, rc1, l2 ++ [[u]]), ⟨rfl, rfl, rfl, rfl, rfl, rfl⟩, Nat.le_refl _, ?_, ?_, ?_⟩
            · rw [hinv, hd, tokN_pa _ _ hsp hpa, Nat.sub_self, List.take_zero, hl2, List.append_assoc, List.append_assoc]; rfl
            · show (l2 ++ [[u]]).length ≤ 2 * (i + 1); rw [e2]; omega
            show Hp w w11 (Ct bf bo bs (i + 1) (.slice ra (l2 ++ [[u]]).length rc1) (l2 ++ [[u]]) s [])
            unfold Ct Rs
            rw [e2, List.map_append]
            exact hp11.tail
          · refine WL.buildS (cs := [st [u]]) rfl rfl rfl rfl rfl rfl rfl rfl rfl (fun b6 w9 hb9 => ?_)
            have hp9 := hp8.new hb9
            refine WL.nil ⟨hp9.pick [4] (by decide), ?_⟩
            refine WH.one 0 rfl (by kernel_rfl) ?_
            refine WL.loadB rfl rfl rfl rfl rfl (hp9.obj 2 rfl) (j := 0) rfl (WL.nil ⟨hp9.pick [4] (by decide), ?_⟩)
            refine WH.one 7 rfl (by kernel_rfl) ?_
            refine WL.append 3 hp9 rfl rfl rfl rfl rfl (by decide) rfl rfl rfl (news := [st [u]]) (Sl.of_obj (hp9.obj 0 rfl) (fun q u hq => by simpa using hq)) rfl (st_cells [[u]]) (by unfold maxLen; omega) (by show (l2.length + 1) * 16 ≤ _; omega) ?_
            intro ra rc1 w10 hp10 hg10
            refine WL.nil ⟨hp10.pick [4] (by decide), ?_⟩
            refine WH.one 8 rfl (by kernel_rfl) ?_
            refine WL.store rfl rfl rfl rfl rfl rfl (hp10.obj 2 rfl) (Nat.lt_succ_self 0) (fun w11 h11 => ?_)
            have hp11 := hp10.set 2 rfl rfl h11
            refine WL.nil ⟨hp11.pick [4] (by decide), ?_⟩
            refine WH.done (by kernel_rfl) ?_
            refine ⟨(i + 1, ra, rc1, l2 ++ [[u]]), ⟨rfl, rfl, rfl, rfl, rfl, rfl⟩, Nat.le_refl _, ?_, ?_, ?_⟩
            · rw [hinv, hd, tokN_pa _ _ hsp hpa, Nat.sub_self, List.take_zero, hl2, List.append_assoc, List.append_assoc]; rfl
            · show (l2 ++ [[u]]).length ≤ 2 * (i + 1); rw [e2]; omega
            show Hp w w11 (Ct bf bo bs (i + 1) (.slice ra (l2 ++ [[u]]).length rc1) (l2 ++ [[u]]) s [])
            unfold Ct Rs
            rw [e2, List.map_append]
            exact hp11.tail
        · have hpa : ¬ (u = 40 ∨ u = 41) := by rw [h1] at hb; exact of_decide_eq_false hb.symm
          repeat (first | refine WC.seq ?_ | refine WC.reg ?_ | refine WL.pure rfl rfl rfl ?_ | refine WL.nil ?_ | refine WC.skip ?_ | refine WC.block ?_ | refine WC.condT rfl ?_ | refine WC.condF rfl ?_ | refine WL.off rfl rfl rfl ?_ | refine WL.off0 rfl rfl ?_ | refine WC.exit ?_ | refine blk_hit ?_ | refine blk_miss rfl ?_ | refine WC.ret ?_)
          refine ⟨(q, a, c, l), ⟨rfl, rfl, rfl, rfl, rfl, rfl⟩, by omega, ?_, by omega, hp⟩
          rw [hinv, hd, tokN_go _ _ hsp hpa]
          congr 2
          rw [show i + 1 - q = (i - q) + 1 from by omega, List.take_succ_eq_append_getElem (by rw [List.length_drop]; omega), List.getElem_drop]
          congr 2
          rw [hu]
          congr 1
          omega
    · rintro ⟨q', a', c', l'⟩ e6 w6 hsub ⟨h1, h2, h3, h4⟩
      refine WC.sub hsub ?_
      clear hsub e6
      repeat (first | refine WC.seq ?_ | refine WC.reg ?_ | refine WL.pure rfl rfl rfl ?_ | refine WL.nil ?_ | refine WC.skip ?_ | refine WC.block ?_ | refine WC.condT rfl ?_ | refine WC.condF rfl ?_ | refine WL.off rfl rfl rfl ?_ | refine WL.off0 rfl rfl ?_ | refine WC.exit ?_ | refine blk_hit ?_ | refine blk_miss rfl ?_ | refine WC.ret ?_)
      exact ⟨(i + 1, q', a', c', l'), (by show s.length - (i + 1) < s.length - i; omega), ⟨rfl, rfl, rfl, rfl, congrArg (fun z => some (Value.int .i64 z)) step, rfl⟩, hi, h1, h2, h3, h4⟩
  · have hie : i = s.length := by have := of_decide_eq_false hc; omega
    repeat (first | refine WC.seq ?_ | refine WC.reg ?_ | refine WL.pure rfl rfl rfl ?_ | refine WL.nil ?_ | refine WC.skip ?_ | refine WC.block ?_ | refine WC.condT rfl ?_ | refine WC.condF rfl ?_ | refine WL.off rfl rfl rfl ?_ | refine WL.off0 rfl rfl ?_ | refine WC.exit ?_ | refine blk_hit ?_ | refine blk_miss rfl ?_ | refine WC.ret ?_)
    refine WL.loadB rfl rfl rfl rfl rfl (hp.obj 3 rfl) (j := 0) rfl ?_
    refine WL.sLen rfl rfl rfl rfl ?_
    refine WL.call rfl rfl rfl rfl rfl ent97 (cut_any hp (by omega) (Nat.le_refl _) hs (by omega)) ?_
    rintro v w7 ⟨a', c', hp7⟩
    have e4 : l ++ flush ((s.drop q).take (s.length - q)) = tokM s := by
      rw [hinv, hie, List.drop_of_length_le (Nat.le_refl _)]
      rfl
    rw [e4] at hp7
    repeat (first | refine WC.seq ?_ | refine WC.reg ?_ | refine WL.pure rfl rfl rfl ?_ | refine WL.nil ?_ | refine WC.skip ?_ | refine WC.block ?_ | refine WC.condT rfl ?_ | refine WC.condF rfl ?_ | refine WL.off rfl rfl rfl ?_ | refine WL.off0 rfl rfl ?_ | refine WC.exit ?_ | refine blk_hit ?_ | refine blk_miss rfl ?_ | refine WC.ret ?_)
    refine WL.loadB rfl rfl rfl rfl rfl (hp7.obj 1 rfl) (j := 0) rfl ?_
    repeat (first | refine WC.seq ?_ | refine WC.reg ?_ | refine WL.pure rfl rfl rfl ?_ | refine WL.nil ?_ | refine WC.skip ?_ | refine WC.block ?_ | refine WC.condT rfl ?_ | refine WC.condF rfl ?_ | refine WL.off rfl rfl rfl ?_ | refine WL.off0 rfl rfl ?_ | refine WC.exit ?_ | refine blk_hit ?_ | refine blk_miss rfl ?_ | refine WC.ret ?_)
    exact Res.one rfl rfl rfl ⟨a', c', rfl, hp7.pick [2] (by decide)⟩
end Go.Proofs.YtpbbneclkhfgoaaDoor
