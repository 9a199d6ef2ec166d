/- The walk of 'free'. -/
import Derived.Test.YtdnkkflpgebfbaaDoorL5
import Derived.Test.YtdnkkflpgebfbaaDoorFr
namespace Go.Proofs.YtdnkkflpgebfbaaDoor
open Go.W Go.Tree
set_option maxRecDepth 100000
attribute [local irreducible] WC WL WQ WS

theorem free_any (ga : Option Addr) (cap n : Nat) (fv : Nat) (ca : Value) (p : Nat → Nat → Bool) (w : World) (hT : Tb w) (hn : n ≤ 14) (hE : Ents Tryd.prog fv)
    (hfine : ∀ w', RowKit.Below w.heap.size w w' → ∀ u v, u < n → v < n → Ret Tryd.prog fv [.int .i64 (u : Nat), .int .i64 (v : Nat), ca] w' fun r w'' => r = .bool (p u v) ∧ w'' = w') :
    Ret Tryd.prog 42 [.slice ga n cap, .func (.func fv) #[] #[ca]] w fun v w' =>
      ∃ b, Hp w w' [.blk b (.cells (bls (frRow p n (2 ^ n))).toArray 4 (0, 0))] ∧ v = .slice (some ⟨b, 0, none⟩) (2 ^ n) (2 ^ n) := by
  have hp14 : 2 ^ n ≤ 2 ^ 14 := Nat.pow_le_pow_right (by decide) hn
  have hpos := Nat.two_pow_pos n
  refine enterM Tryd.func42 rfl rfl ⟨rfl, rfl⟩ rfl ?_
  repeat (first | refine WC.seq ?_ | refine WC.reg ?_ | refine WL.pure rfl rfl rfl ?_ | refine WL.nil ?_ | refine WC.skip ?_ | refine WC.block ?_ | refine WC.condT rfl ?_ | refine WC.condF rfl ?_ | refine WL.off rfl rfl rfl ?_ | refine WL.off0 rfl rfl ?_ | refine WC.exit ?_ | refine blk_hit ?_ | refine blk_miss rfl ?_ | refine WC.ret ?_)
  refine WL.box rfl rfl rfl ?_
  intro b3 w1 hb3
  have hp1 := (Hp.start w).new hb3
  repeat (first | refine WC.seq ?_ | refine WC.reg ?_ | refine WL.pure rfl rfl rfl ?_ | refine WL.nil ?_ | refine WC.skip ?_ | refine WC.block ?_ | refine WC.condT rfl ?_ | refine WC.condF rfl ?_ | refine WL.off rfl rfl rfl ?_ | refine WL.off0 rfl rfl ?_ | refine WC.exit ?_ | refine blk_hit ?_ | refine blk_miss rfl ?_ | refine WC.ret ?_)
  have e0 : shl .i64 1 n = ((2 ^ n : Nat) : Int) := shl_one (by omega)
  refine WL.known (d := 12) (congrArg (fun z => some (Value.int .i64 z)) e0) ?_
  refine WL.make (m := 2 ^ n) rfl rfl rfl rfl rfl rfl rfl rfl ?_ ?_ ?_
  · show 1 * 2 ^ n ≤ _; omega
  · unfold maxLen; omega
  intro b w2 hb
  have hz : (List.replicate (2 ^ n) ti4.zero) = bls (List.replicate (2 ^ n) false) := by simp only [bls, List.map_replicate]; rfl
  rw [hz, frRow_zero p] at hb
  have hp2 := hp1.new hb
  refine WL.var rfl rfl rfl (fun _ => rfl) rfl rfl (by intro y hy; simp [Value.cells] at hy; subst hy; rfl) ?_
  intro b5 w3 hb5
  have hp3 := (hp2.new hb5).none'
  repeat (first | refine WC.seq ?_ | refine WC.reg ?_ | refine WL.pure rfl rfl rfl ?_ | refine WL.nil ?_ | refine WC.skip ?_ | refine WC.block ?_ | refine WC.condT rfl ?_ | refine WC.condF rfl ?_ | refine WL.off rfl rfl rfl ?_ | refine WL.off0 rfl rfl ?_ | refine WC.exit ?_ | refine blk_hit ?_ | refine blk_miss rfl ?_ | refine WC.ret ?_)
  refine WL.loadB rfl rfl rfl rfl rfl (hp3.obj 1 rfl) rfl ?_
  repeat (first | refine WC.seq ?_ | refine WC.reg ?_ | refine WL.pure rfl rfl rfl ?_ | refine WL.nil ?_ | refine WC.skip ?_ | refine WC.block ?_ | refine WC.condT rfl ?_ | refine WC.condF rfl ?_ | refine WL.off rfl rfl rfl ?_ | refine WL.off0 rfl rfl ?_ | refine WC.exit ?_ | refine blk_hit ?_ | refine blk_miss rfl ?_ | refine WC.ret ?_)
  refine WC.loop (Nat × List Nat) (fun (i, ds) => [(1000000000, enc ds), (3, .pointer (some ⟨b3, 0, none⟩)), (5, .pointer (some ⟨b5, 0, none⟩)), (15, .int .i64 (2 ^ n : Nat)), (16, .int .i64 (i : Nat))])
    (fun (i, ds) w' => i ≤ 2 ^ n ∧ Hp w w' [.many (dfrs ds), .blk b5 (.cells #[.slice (some ⟨b, 0, none⟩) (2 ^ n) (2 ^ n)] 74 (0, 0)), .blk b (.cells (bls (frRow p n i)).toArray 4 (0, 0)), .blk b3 (.cells #[.func (.func fv) #[] #[ca]] 80 (0, 0))])
    (fun (i, ds) => 2 ^ n - i) (0, []) ⟨rfl, rfl, rfl, rfl, rfl⟩ ⟨Nat.zero_le _, hp3⟩ ?_
  rintro ⟨i, ds⟩ w' ⟨hi, hp⟩
  repeat (first | refine WC.seq ?_ | refine WC.reg ?_ | refine WL.pure rfl rfl rfl ?_ | refine WL.nil ?_ | refine WC.skip ?_ | refine WC.block ?_ | refine WC.condT rfl ?_ | refine WC.condF rfl ?_ | refine WL.off rfl rfl rfl ?_ | refine WL.off0 rfl rfl ?_ | refine WC.exit ?_ | refine blk_hit ?_ | refine blk_miss rfl ?_ | refine WC.ret ?_)
  refine WC.cond rfl (fun hc => ?_) (fun hc => ?_)
  · have hi : i < 2 ^ n := by have := of_decide_eq_true hc; omega
    have step : IntKind.i64.wrap ((i : Int) + 1) = ((i + 1 : Nat) : Int) := by rw [wrap_i64_in (by omega) (by omega)]; omega
    repeat (first | refine WC.seq ?_ | refine WC.reg ?_ | refine WL.pure rfl rfl rfl ?_ | refine WL.nil ?_ | refine WC.skip ?_ | refine WC.block ?_ | refine WC.condT rfl ?_ | refine WC.condF rfl ?_ | refine WL.off rfl rfl rfl ?_ | refine WL.off0 rfl rfl ?_ | refine WC.exit ?_ | refine blk_hit ?_ | refine blk_miss rfl ?_ | refine WC.ret ?_)
    refine WL.var rfl rfl rfl (fun _ => rfl) rfl rfl (by intro y hy; simp [Value.cells] at hy; subst hy; rfl) ?_
    intro b6 w4 hb6
    have hp4 := hp.new hb6
    repeat (first | refine WC.seq ?_ | refine WC.reg ?_ | refine WL.pure rfl rfl rfl ?_ | refine WL.nil ?_ | refine WC.skip ?_ | refine WC.block ?_ | refine WC.condT rfl ?_ | refine WC.condF rfl ?_ | refine WL.off rfl rfl rfl ?_ | refine WL.off0 rfl rfl ?_ | refine WC.exit ?_ | refine blk_hit ?_ | refine blk_miss rfl ?_ | refine WC.ret ?_)
    refine WL.loadB rfl rfl rfl rfl rfl (hp4.obj 0 rfl) rfl ?_
    repeat (first | refine WC.seq ?_ | refine WC.reg ?_ | refine WL.pure rfl rfl rfl ?_ | refine WL.nil ?_ | refine WC.skip ?_ | refine WC.block ?_ | refine WC.condT rfl ?_ | refine WC.condF rfl ?_ | refine WL.off rfl rfl rfl ?_ | refine WL.off0 rfl rfl ?_ | refine WC.exit ?_ | refine blk_hit ?_ | refine blk_miss rfl ?_ | refine WC.ret ?_)
    refine WC.cond rfl (fun h0 => ?_) (fun h0 => ?_)
    · have h0 : i = 0 := by simpa using h0
      subst h0
      repeat (first | refine WC.seq ?_ | refine WC.reg ?_ | refine WL.pure rfl rfl rfl ?_ | refine WL.nil ?_ | refine WC.skip ?_ | refine WC.block ?_ | refine WC.condT rfl ?_ | refine WC.condF rfl ?_ | refine WL.off rfl rfl rfl ?_ | refine WL.off0 rfl rfl ?_ | refine WC.exit ?_ | refine blk_hit ?_ | refine blk_miss rfl ?_ | refine WC.ret ?_)
      refine WL.loadB rfl rfl rfl rfl rfl (hp4.obj 2 rfl) rfl ?_
      refine WL.loadB rfl rfl rfl rfl rfl (hp4.obj 0 rfl) rfl ?_
      refine WL.ix1 (j := 0) rfl rfl rfl rfl rfl rfl rfl hpos ?_
      refine WL.store rfl rfl rfl rfl rfl rfl (hp4.obj 3 rfl) (by simp [bls, frRow]; omega) (fun w5 hw5 => ?_)
      rw [Nat.zero_add, bls_set, show true = fr p 0 from (fr_zero p).symm, frRow_next hpos] at hw5
      have hp5 := (hp4.set 3 rfl rfl hw5).tail
      repeat (first | refine WC.seq ?_ | refine WC.reg ?_ | refine WL.pure rfl rfl rfl ?_ | refine WL.nil ?_ | refine WC.skip ?_ | refine WC.block ?_ | refine WC.condT rfl ?_ | refine WC.condF rfl ?_ | refine WL.off rfl rfl rfl ?_ | refine WL.off0 rfl rfl ?_ | refine WC.exit ?_ | refine blk_hit ?_ | refine blk_miss rfl ?_ | refine WC.ret ?_)
      exact ⟨(1, ds), by show 2 ^ n - 1 < 2 ^ n - 0; omega, ⟨rfl, rfl, rfl, rfl, rfl⟩, hpos, hp5⟩
    · have h0 : i ≠ 0 := by simpa using h0
      have hi16 : i < 65536 := by omega
      obtain ⟨htz, _, _⟩ := tz_spec h0 (by omega)
      have htzn : tz i < n := lt_of_testBit hi htz
      have hS' : i &&& (i - 1) < i := and_pred_lt' h0
      generalize hc' : i &&& (i - 1) = c at hS'
      have e1 : bits .and .i64 (i : Int) (IntKind.i64.wrap ((i : Int) - 1)) = ((c : Nat) : Int) := by
        rw [wrap_i64_in (by omega) (by omega), show (i : Int) - 1 = ((i - 1 : Nat) : Int) by omega, and_i64 (by omega) (by omega), hc']
      repeat (first | refine WC.seq ?_ | refine WC.reg ?_ | refine WL.pure rfl rfl rfl ?_ | refine WL.nil ?_ | refine WC.skip ?_ | refine WC.block ?_ | refine WC.condT rfl ?_ | refine WC.condF rfl ?_ | refine WL.off rfl rfl rfl ?_ | refine WL.off0 rfl rfl ?_ | refine WC.exit ?_ | refine blk_hit ?_ | refine blk_miss rfl ?_ | refine WC.ret ?_)
      refine WL.call rfl rfl rfl rfl rfl ent45 (listed_any i hi16 w4 (hT.below hp4.below)) ?_
      rintro _ w5 ⟨a8, c8, rfl, hm8⟩
      have hp5 := (hp4.comb hm8)
      have hels : (ints (els i)).length ≠ 0 := by rw [els_step h0 hi16]; simp [ints]
      refine WL.ixload (j := 0) rfl (fun _ => rfl) rfl rfl rfl rfl rfl rfl rfl (by omega) rfl rfl (Sl.of_row (hp5.at 0 rfl)) (v := .int .i64 (tz i : Nat)) (by rw [els_step h0 hi16]; rfl) ?_
      intro p8
      refine WL.var rfl rfl rfl (fun _ => rfl) rfl rfl (by intro y hy; simp [Value.cells] at hy; subst hy; rfl) ?_
      intro b8 w6 hb8
      have hp6 := hp5.tail.new hb8
      repeat (first | refine WC.seq ?_ | refine WC.reg ?_ | refine WL.pure rfl rfl rfl ?_ | refine WL.nil ?_ | refine WC.skip ?_ | refine WC.block ?_ | refine WC.condT rfl ?_ | refine WC.condF rfl ?_ | refine WL.off rfl rfl rfl ?_ | refine WL.off0 rfl rfl ?_ | refine WC.exit ?_ | refine blk_hit ?_ | refine blk_miss rfl ?_ | refine WC.ret ?_)
      refine WC.regS 10 mixed (by kernel_rfl) rfl rfl (fun wa hwa hha => ?_)
      have hpa := hp6.keep hwa
      refine WS.loadB rfl rfl rfl rfl rfl (hpa.obj 3 rfl) rfl ?_
      refine WS.loadB rfl rfl rfl rfl rfl (hpa.obj 1 rfl) rfl ?_
      refine WS.loadB rfl rfl rfl rfl rfl (hpa.obj 3 rfl) rfl ?_
      repeat (first | refine WS.pure rfl rfl rfl ?_ | refine WS.off rfl rfl rfl ?_ | refine WS.nil ?_)
      refine WS.known (d := 35) (congrArg (fun z => some (Value.int .i64 z)) e1) ?_
      refine WS.ix1 rfl rfl rfl rfl rfl rfl rfl (j := c) (by omega) ?_
      refine WS.loadB rfl rfl rfl rfl rfl (hpa.obj 4 rfl) (v := .bool (fr p c)) (by rw [nth_eq, Nat.zero_add]; exact frRow_at (by omega) hS') ?_
      refine WS.ix1 rfl rfl rfl rfl rfl rfl rfl (j := i) hi ?_
      repeat (first | refine WS.pure rfl rfl rfl ?_ | refine WS.off rfl rfl rfl ?_ | refine WS.nil ?_)
      refine WL.store rfl rfl rfl rfl rfl rfl (hpa.obj 4 rfl) (by simp [bls, frRow]; omega) (fun wb hwb => ?_)
      rw [Nat.zero_add, bls_set] at hwb
      have hpb := hpa.set 4 rfl rfl hwb
      repeat (first | refine WC.seq ?_ | refine WC.reg ?_ | refine WL.pure rfl rfl rfl ?_ | refine WL.nil ?_ | refine WC.skip ?_ | refine WC.block ?_ | refine WC.condT rfl ?_ | refine WC.condF rfl ?_ | refine WL.off rfl rfl rfl ?_ | refine WL.off0 rfl rfl ?_ | refine WC.exit ?_ | refine blk_hit ?_ | refine blk_miss rfl ?_ | refine WC.ret ?_)
      have e1' := e1
      refine WL.known (d := 42) (congrArg (fun z => some (Value.int .i64 z)) e1) ?_
      refine WL.call rfl rfl rfl rfl rfl ent56 (all_any _ _) ?_
      rintro _ w7 ⟨b7, hb7, rfl⟩
      have hp7 := hpb.new hb7
      repeat (first | refine WC.seq ?_ | refine WC.reg ?_ | refine WL.pure rfl rfl rfl ?_ | refine WL.nil ?_ | refine WC.skip ?_ | refine WC.block ?_ | refine WC.condT rfl ?_ | refine WC.condF rfl ?_ | refine WL.off rfl rfl rfl ?_ | refine WL.off0 rfl rfl ?_ | refine WC.exit ?_ | refine blk_hit ?_ | refine blk_miss rfl ?_ | refine WC.ret ?_)
      refine WC.rangeF (ints (els c)) Bool (fun q => [.blk b7 (.cells #[.int .i64 c] 76 (0, 0)), .blk b8 (.cells #[.int .i64 (tz i : Nat)] 3 (0, 0)), .blk b6 (.cells #[.int .i64 (i : Nat)] 3 (0, 0)), .many (dfrs ds),
        .blk b5 (.cells #[.slice (some ⟨b, 0, none⟩) (2 ^ n) (2 ^ n)] 74 (0, 0)), .blk b (.cells (bls ((frRow p n i).set i q)).toArray 4 (0, 0)), .blk b3 (.cells #[.func (.func fv) #[] #[ca]] 80 (0, 0))])
        (fun k q => q = (fr p c && ((els c).take k).all (p (tz i)))) (fr p c)
        [(3, .pointer (some ⟨b3, 0, none⟩)), (5, .pointer (some ⟨b5, 0, none⟩)), (6, .pointer (some ⟨b6, 0, none⟩)), (8, .pointer (some ⟨b8, 0, none⟩))]
        rfl ent70 rfl ⟨rfl, rfl, rfl, rfl, trivial⟩ hp7 (by simp) ?_ ?_ ?_
      · intro w8 hp8
        exact all1_iter _ c (by omega) w w8 hT (cell_of_obj (hp8.obj 0 rfl) rfl)
      · rintro k x q l D o w8 hx hq hp8
        obtain ⟨v, hv, rfl⟩ : ∃ v : Nat, (els c)[k]? = some v ∧ x = .int .i64 v := by
          simp only [ints, List.getElem?_map, Option.map_eq_some_iff] at hx
          obtain ⟨y, h1, rfl⟩ := hx
          exact ⟨y, h1, rfl⟩
        have hvn : v < n := lt_of_testBit (n := n) (s := c) (by omega) (mem_els.1 (List.mem_of_getElem? hv)).2
        have hlen : i < ((frRow p n i).set i q).length := by simp [frRow]; omega
        repeat (first | refine WC.seq ?_ | refine WC.reg ?_ | refine WL.pure rfl rfl rfl ?_ | refine WL.nil ?_ | refine WC.skip ?_ | refine WC.block ?_ | refine WC.condT rfl ?_ | refine WC.condF rfl ?_ | refine WL.off rfl rfl rfl ?_ | refine WL.off0 rfl rfl ?_ | refine WC.exit ?_ | refine blk_hit ?_ | refine blk_miss rfl ?_ | refine WC.ret ?_)
        refine ⟨_, hp8, fun o' w9 hp9 => ?_⟩
        repeat (first | refine WC.seq ?_ | refine WC.reg ?_ | refine WL.pure rfl rfl rfl ?_ | refine WL.nil ?_ | refine WC.skip ?_ | refine WC.block ?_ | refine WC.condT rfl ?_ | refine WC.condF rfl ?_ | refine WL.off rfl rfl rfl ?_ | refine WL.off0 rfl rfl ?_ | refine WC.exit ?_ | refine blk_hit ?_ | refine blk_miss rfl ?_ | refine WC.ret ?_)
        refine WC.regS 13 mixed (by kernel_rfl) rfl rfl (fun wc hwc hhc => ?_)
        have hpc := hp9.keep hwc
        refine WS.loadB rfl rfl rfl rfl rfl (hpc.obj 6 rfl) rfl ?_
        refine WS.loadB rfl rfl rfl rfl rfl (hpc.obj 4 rfl) rfl ?_
        refine WS.loadB rfl rfl rfl rfl rfl (hpc.obj 6 rfl) rfl ?_
        refine WS.loadB rfl rfl rfl rfl rfl (hpc.obj 4 rfl) rfl ?_
        refine WS.ix1 rfl rfl rfl rfl rfl rfl rfl (j := i) hi ?_
        refine WS.loadB rfl rfl rfl rfl rfl (hpc.obj 7 rfl) (v := .bool q) (by rw [nth_eq, Nat.zero_add]; simp [bls, frRow, hi]) ?_
        have fin : ∀ q', q' = (q && p (tz i) v) → ∀ wd', SetB wc b (.cells ((bls ((frRow p n i).set i q)).toArray.setIfInBounds (0 + i) (.bool q')) 4 (0, 0)) wd' →
            ∃ s', s' = (fr p c && ((els c).take (k + 1)).all (p (tz i))) ∧ Hp w wd' (.blk l (.loop o') :: .blk D dfr :: [.blk b7 (.cells #[.int .i64 c] 76 (0, 0)), .blk b8 (.cells #[.int .i64 (tz i : Nat)] 3 (0, 0)), .blk b6 (.cells #[.int .i64 (i : Nat)] 3 (0, 0)), .many (dfrs ds),
        .blk b5 (.cells #[.slice (some ⟨b, 0, none⟩) (2 ^ n) (2 ^ n)] 74 (0, 0)), .blk b (.cells (bls ((frRow p n i).set i s')).toArray 4 (0, 0)), .blk b3 (.cells #[.func (.func fv) #[] #[ca]] 80 (0, 0))]) := by
          intro q' hq' wd' hwd'
          rw [Nat.zero_add, bls_set, List.set_set] at hwd'
          refine ⟨q', ?_, hpc.set 7 rfl rfl hwd'⟩
          rw [hq', hq, List.take_add_one, hv, List.all_append]
          simp [Bool.and_assoc]
        repeat (first | refine WS.pure rfl rfl rfl ?_ | refine WS.off rfl rfl rfl ?_ | refine WS.nil ?_)
        refine WS.split 51 rfl (fun hq1 => ?_) (fun hq1 => ?_)
        · refine WS.loadB rfl rfl rfl rfl rfl (hpc.obj 8 rfl) rfl ?_
          refine WS.loadB rfl rfl rfl rfl rfl (hpc.obj 3 rfl) rfl ?_
          repeat (first | refine WS.pure rfl rfl rfl ?_ | refine WS.off rfl rfl rfl ?_ | refine WS.nil ?_)
          refine WS.call rfl rfl rfl rfl rfl hE (hfine wc hpc.below _ _ htzn hvn) ?_
          repeat (first | refine WS.pure rfl rfl rfl ?_ | refine WS.off rfl rfl rfl ?_ | refine WS.nil ?_)
          refine WS.ix1 rfl rfl rfl rfl rfl rfl rfl (j := i) hi ?_
          repeat (first | refine WS.pure rfl rfl rfl ?_ | refine WS.off rfl rfl rfl ?_ | refine WS.nil ?_)
          refine WL.store rfl rfl rfl rfl rfl rfl (hpc.obj 7 rfl) (by simp [bls, frRow]; omega) (fun wd' hwd' => ?_)
          repeat (first | refine WC.seq ?_ | refine WC.reg ?_ | refine WL.pure rfl rfl rfl ?_ | refine WL.nil ?_ | refine WC.skip ?_ | refine WC.block ?_ | refine WC.condT rfl ?_ | refine WC.condF rfl ?_ | refine WL.off rfl rfl rfl ?_ | refine WL.off0 rfl rfl ?_ | refine WC.exit ?_ | refine blk_hit ?_ | refine blk_miss rfl ?_ | refine WC.ret ?_)
          exact fin _ (by rw [hq1, Bool.true_and]) _ hwd'
        · repeat (first | refine WS.pure rfl rfl rfl ?_ | refine WS.off rfl rfl rfl ?_ | refine WS.nil ?_)
          refine WS.ix1 rfl rfl rfl rfl rfl rfl rfl (j := i) hi ?_
          repeat (first | refine WS.pure rfl rfl rfl ?_ | refine WS.off rfl rfl rfl ?_ | refine WS.nil ?_)
          refine WL.store rfl rfl rfl rfl rfl rfl (hpc.obj 7 rfl) (by simp [bls, frRow]; omega) (fun wd' hwd' => ?_)
          repeat (first | refine WC.seq ?_ | refine WC.reg ?_ | refine WL.pure rfl rfl rfl ?_ | refine WL.nil ?_ | refine WC.skip ?_ | refine WC.block ?_ | refine WC.condT rfl ?_ | refine WC.condF rfl ?_ | refine WL.off rfl rfl rfl ?_ | refine WL.off0 rfl rfl ?_ | refine WC.exit ?_ | refine blk_hit ?_ | refine blk_miss rfl ?_ | refine WC.ret ?_)
          exact fin _ (by rw [hq1, Bool.false_and]) _ hwd'
      · rintro q D w8 hq hp8
        have hq : q = fr p i := by
          rw [fr_step p h0 hi16, hc', hq, List.take_of_length_le (by simp [ints])]
        subst hq
        rw [frRow_next hi] at hp8
        have hpe := Hp.join (hp8.pick [0, 4, 5, 6, 7] (by decide))
        repeat (first | refine WC.seq ?_ | refine WC.reg ?_ | refine WL.pure rfl rfl rfl ?_ | refine WL.nil ?_ | refine WC.skip ?_ | refine WC.block ?_ | refine WC.condT rfl ?_ | refine WC.condF rfl ?_ | refine WL.off rfl rfl rfl ?_ | refine WL.off0 rfl rfl ?_ | refine WC.exit ?_ | refine blk_hit ?_ | refine blk_miss rfl ?_ | refine WC.ret ?_)
        refine ⟨(i + 1, D :: ds), by show 2 ^ n - (i + 1) < 2 ^ n - i; omega, ⟨rfl, rfl, rfl, congrArg (fun z => some (Value.int .i64 z)) step, ?_⟩, hi, hpe⟩
        show dec (enc (D :: ds)) = dec (enc (D :: dec (enc ds)))
        rw [dec_enc ds]
  · have hi : i = 2 ^ n := by have := of_decide_eq_false hc; omega
    subst hi
    repeat (first | refine WC.seq ?_ | refine WC.reg ?_ | refine WL.pure rfl rfl rfl ?_ | refine WL.nil ?_ | refine WC.skip ?_ | refine WC.block ?_ | refine WC.condT rfl ?_ | refine WC.condF rfl ?_ | refine WL.off rfl rfl rfl ?_ | refine WL.off0 rfl rfl ?_ | refine WC.exit ?_ | refine blk_hit ?_ | refine blk_miss rfl ?_ | refine WC.ret ?_)
    refine WL.loadB rfl rfl rfl rfl rfl (hp.obj 1 rfl) rfl ?_
    repeat (first | refine WC.seq ?_ | refine WC.reg ?_ | refine WL.pure rfl rfl rfl ?_ | refine WL.nil ?_ | refine WC.skip ?_ | refine WC.block ?_ | refine WC.condT rfl ?_ | refine WC.condF rfl ?_ | refine WL.off rfl rfl rfl ?_ | refine WL.off0 rfl rfl ?_ | refine WC.exit ?_ | refine blk_hit ?_ | refine blk_miss rfl ?_ | refine WC.ret ?_)
    exact ResM.one (dec_enc ds) rfl rfl hp (fun w6 hp6 => ⟨b, hp6.pick [1] (by decide), rfl⟩)
end Go.Proofs.YtdnkkflpgebfbaaDoor
