/- The walk of the reference's Colour. -/
import Derived.Test.YtdnkkflpgebfbaaDoorMC
namespace Go.Proofs.YtdnkkflpgebfbaaDoor
open Go.W Go.Tree
set_option maxRecDepth 100000
attribute [local irreducible] WC WL WQ WS WH

/-- A row with a number for each set. -/
def rowF (n : Nat) (f : Nat → Nat) : List Nat := (List.range (2 ^ n)).map f
theorem rowF_len (n : Nat) (f : Nat → Nat) : (rowF n f).length = 2 ^ n := by simp [rowF]
theorem rowF_at {n i : Nat} (f : Nat → Nat) (h : i < 2 ^ n) : (ints (rowF n f))[i]? = some (.int .i64 (f i : Nat)) := by
  simp [ints, rowF, h]
theorem rowF_set (n i x : Nat) (f : Nat → Nat) : (rowF n f).set i x = rowF n fun j => if j = i then x else f j := by
  apply List.ext_getElem?
  intro j
  by_cases h : j < 2 ^ n
  · by_cases h1 : j = i
    · subst h1
      rw [List.getElem?_set_self (by rw [rowF_len]; exact h)]
      simp [rowF, h]
    · rw [List.getElem?_set_ne (Ne.symm h1)]
      simp [rowF, h, h1]
  · rw [List.getElem?_eq_none (by simp [rowF_len]; omega), List.getElem?_eq_none (by simp [rowF_len]; omega)]
theorem rowF_congr {n : Nat} {f f' : Nat → Nat} (h : ∀ j, j < 2 ^ n → f j = f' j) : rowF n f = rowF n f' := by
  unfold rowF
  refine List.map_congr_left fun j hj => h j (by simpa using hj)
theorem rowF_zero (n : Nat) : List.replicate (2 ^ n) 0 = rowF n fun _ => 0 := by
  apply List.ext_getElem?
  intro i
  by_cases h : i < 2 ^ n
  · simp [rowF, h]
  · rw [List.getElem?_eq_none (by simp; omega), List.getElem?_eq_none (by simp [rowF]; omega)]
/-- The row under way: done below S, and q at S. -/
def rowP (p : Nat → Bool) (n c S q : Nat) : List Nat := rowF n fun j => if j < S then colD p c j else if j = S then q else 0
theorem rowP_set {p : Nat → Bool} {n c S q q' : Nat} : (rowP p n c S q).set S q' = rowP p n c S q' := by
  rw [rowP, rowF_set]
  refine rowF_congr fun j _ => ?_
  by_cases h : j = S
  · subst h; simp
  · rw [if_neg h]; simp [h]
theorem rowP_next {p : Nat → Bool} {n c S : Nat} : rowP p n c S (colD p c S) = rowP p n c (S + 1) 0 := by
  refine rowF_congr fun j _ => ?_
  by_cases h : j = S
  · subst h; simp
  · by_cases h1 : j < S
    · rw [if_pos h1, if_pos (by omega)]
    · rw [if_neg h1, if_neg h, if_neg (by omega)]
      split <;> rfl
def colT (p : Nat → Bool) (c S x : Nat) : Nat := if p x = true then colD p c (bd S x) else 0
theorem colD_sum (p : Nat → Bool) (c S : Nat) : (subsR S S).foldl (fun a x => a + colT p c S x) 0 = colD p (c + 1) S := by
  rw [subs_ss, Nat.zero_add]; rfl
theorem colD_lt (p : Nat → Bool) {c S : Nat} (hc : c ≤ 8) (hS : S < 16384) : colD p c S < 9223372036854775808 := by
  have h1 := colD_le p c S hS
  have h2 : card S ≤ 14 := card_le (by decide) hS
  have h3 : c ^ card S ≤ 8 ^ card S := Nat.pow_le_pow_left hc _
  have h4 : 8 ^ card S ≤ 8 ^ 14 := Nat.pow_le_pow_right (by decide) h2
  have h5 : 8 ^ 14 < 9223372036854775808 := by decide
  omega

theorem RColour_any (ea : Option Addr) (cap : Nat) (g : List Nat) (es : List Ed) (k : Nat) (hk : k ≤ 8) (w : World) (hs : Sl w ea (prs es)) (hlen : es.length ≤ 4611686018427387904) (hmk : mkG (g.length : Nat) es = some g) :
    Ret Tryd.prog 23 [.int .i64 (g.length : Nat), .slice ea es.length cap, .int .i64 (k : Nat)] w fun v w' => Hp w w' [] ∧ v = .int .i64 (colD (fr (ap g)) k (full g.length) : Nat) := by
  obtain ⟨hg, _, _, _, _⟩ := mkG_gr hmk
  have hn := hg.len
  have hp14 : 2 ^ g.length ≤ 2 ^ 14 := Nat.pow_le_pow_right (by decide) hn
  have hpos := Nat.two_pow_pos g.length
  have esh : shl .i64 1 g.length = ((2 ^ g.length : Nat) : Int) := shl_one (by omega)
  generalize hP : fr (ap g) = p
  refine enter Tryd.func23 rfl rfl ⟨rfl, rfl⟩ rfl ?_
  repeat (first | refine WC.seq ?_ | refine WC.reg ?_ | refine WL.pure rfl rfl rfl ?_ | refine WL.nil ?_ | refine WC.skip ?_ | refine WC.block ?_ | refine WC.condT rfl ?_ | refine WC.condF rfl ?_ | refine WL.off rfl rfl rfl ?_ | refine WL.off0 rfl rfl ?_ | refine WC.exit ?_ | refine blk_hit ?_ | refine blk_miss rfl ?_ | refine WC.ret ?_)
  refine WL.call rfl rfl rfl rfl rfl ent48 (Independent_any ea cap g es w hs hlen hmk) ?_
  rintro _ w1 ⟨bf, hp1, rfl⟩
  repeat (first | refine WC.seq ?_ | refine WC.reg ?_ | refine WL.pure rfl rfl rfl ?_ | refine WL.nil ?_ | refine WC.skip ?_ | refine WC.block ?_ | refine WC.condT rfl ?_ | refine WC.condF rfl ?_ | refine WL.off rfl rfl rfl ?_ | refine WL.off0 rfl rfl ?_ | refine WC.exit ?_ | refine blk_hit ?_ | refine blk_miss rfl ?_ | refine WC.ret ?_)
  refine WL.known (d := 17) (congrArg (fun z => some (Value.int .i64 z)) esh) ?_
  refine WL.make (m := 2 ^ g.length) rfl rfl rfl rfl rfl rfl rfl rfl ?_ ?_ ?_
  · show 8 * 2 ^ g.length ≤ _; omega
  · unfold maxLen; omega
  intro b w2 hb
  have hz : (List.replicate (2 ^ g.length) ti3.zero) = ints (rowF g.length fun _ => 0) := by rw [← rowF_zero]; simp only [ints, List.map_replicate]; rfl
  rw [hz] at hb
  have hp2 := hp1.new hb
  repeat (first | refine WC.seq ?_ | refine WC.reg ?_ | refine WL.pure rfl rfl rfl ?_ | refine WL.nil ?_ | refine WC.skip ?_ | refine WC.block ?_ | refine WC.condT rfl ?_ | refine WC.condF rfl ?_ | refine WL.off rfl rfl rfl ?_ | refine WL.off0 rfl rfl ?_ | refine WC.exit ?_ | refine blk_hit ?_ | refine blk_miss rfl ?_ | refine WC.ret ?_)
  refine WL.ix1 rfl rfl rfl rfl rfl rfl rfl (j := 0) hpos ?_
  refine WL.store rfl rfl rfl rfl rfl rfl (hp2.obj 0 rfl) (by simp [ints, rowF]; omega) (fun w3 hw3 => ?_)
  have e0 : (rowF g.length fun _ => 0).set 0 1 = rowF g.length (colD p 0) := by
    rw [rowF_set]
    exact rowF_congr fun j _ => rfl
  rw [show (Value.int .i64 1) = Value.int .i64 ((1 : Nat) : Int) from rfl, Nat.zero_add, ints_set, e0] at hw3
  have hp3 := hp2.set 0 rfl rfl hw3
  repeat (first | refine WC.seq ?_ | refine WC.reg ?_ | refine WL.pure rfl rfl rfl ?_ | refine WL.nil ?_ | refine WC.skip ?_ | refine WC.block ?_ | refine WC.condT rfl ?_ | refine WC.condF rfl ?_ | refine WL.off rfl rfl rfl ?_ | refine WL.off0 rfl rfl ?_ | refine WC.exit ?_ | refine blk_hit ?_ | refine blk_miss rfl ?_ | refine WC.ret ?_)
  refine WC.loop (Nat × Nat) (fun (c, bw) => [(0, .int .i64 (g.length : Nat)), (2, .int .i64 (k : Nat)), (7, .slice (some ⟨bf, 0, none⟩) (2 ^ g.length) (2 ^ g.length)), (8, .slice (some ⟨bw, 0, none⟩) (2 ^ g.length) (2 ^ g.length)), (9, .int .i64 (c : Nat))])
    (fun (c, bw) w' => c ≤ k ∧ Hp w w' [.blk bw (.cells (ints (rowF g.length (colD p c))).toArray 3 (0, 0)), .blk bf (.cells (bls (frRow (ap g) g.length (2 ^ g.length))).toArray 4 (0, 0))]) (fun (c, bw) => k - c) (0, b)
    ⟨rfl, rfl, rfl, rfl, rfl, rfl⟩ ⟨Nat.zero_le _, hp3⟩ ?_
  rintro ⟨c, bw⟩ w4 ⟨hc, hp4⟩
  repeat (first | refine WC.seq ?_ | refine WC.reg ?_ | refine WL.pure rfl rfl rfl ?_ | refine WL.nil ?_ | refine WC.skip ?_ | refine WC.block ?_ | refine WC.condT rfl ?_ | refine WC.condF rfl ?_ | refine WL.off rfl rfl rfl ?_ | refine WL.off0 rfl rfl ?_ | refine WC.exit ?_ | refine blk_hit ?_ | refine blk_miss rfl ?_ | refine WC.ret ?_)
  refine WC.cond rfl (fun hq => ?_) (fun hq => ?_)
  · have hc : c < k := by have := of_decide_eq_true hq; omega
    have step : IntKind.i64.wrap ((c : Int) + 1) = ((c + 1 : Nat) : Int) := by rw [wrap_i64_in (by omega) (by omega)]; omega
    repeat (first | refine WC.seq ?_ | refine WC.reg ?_ | refine WL.pure rfl rfl rfl ?_ | refine WL.nil ?_ | refine WC.skip ?_ | refine WC.block ?_ | refine WC.condT rfl ?_ | refine WC.condF rfl ?_ | refine WL.off rfl rfl rfl ?_ | refine WL.off0 rfl rfl ?_ | refine WC.exit ?_ | refine blk_hit ?_ | refine blk_miss rfl ?_ | refine WC.ret ?_)
    refine WL.known (d := 27) (congrArg (fun z => some (Value.int .i64 z)) esh) ?_
    refine WL.make (m := 2 ^ g.length) rfl rfl rfl rfl rfl rfl rfl rfl ?_ ?_ ?_
    · show 8 * 2 ^ g.length ≤ _; omega
    · unfold maxLen; omega
    intro b2 w5 hb2
    have hz2 : (rowF g.length fun _ => 0) = rowP p g.length (c + 1) 0 0 := rowF_congr fun j _ => by rw [if_neg (by omega)]; split <;> rfl
    rw [hz, hz2] at hb2
    have hp5 := hp4.new hb2
    repeat (first | refine WC.seq ?_ | refine WC.reg ?_ | refine WL.pure rfl rfl rfl ?_ | refine WL.nil ?_ | refine WC.skip ?_ | refine WC.block ?_ | refine WC.condT rfl ?_ | refine WC.condF rfl ?_ | refine WL.off rfl rfl rfl ?_ | refine WL.off0 rfl rfl ?_ | refine WC.exit ?_ | refine blk_hit ?_ | refine blk_miss rfl ?_ | refine WC.ret ?_)
    refine WC.loop Nat (fun S => [(0, .int .i64 (g.length : Nat)), (2, .int .i64 (k : Nat)), (7, .slice (some ⟨bf, 0, none⟩) (2 ^ g.length) (2 ^ g.length)), (8, .slice (some ⟨bw, 0, none⟩) (2 ^ g.length) (2 ^ g.length)), (9, .int .i64 (c : Nat)), (10, .slice (some ⟨b2, 0, none⟩) (2 ^ g.length) (2 ^ g.length)), (11, .int .i64 (S : Nat))])
      (fun S w' => S ≤ 2 ^ g.length ∧ Hp w w' [.blk b2 (.cells (ints (rowP p g.length (c + 1) S 0)).toArray 3 (0, 0)), .blk bw (.cells (ints (rowF g.length (colD p c))).toArray 3 (0, 0)), .blk bf (.cells (bls (frRow (ap g) g.length (2 ^ g.length))).toArray 4 (0, 0))]) (fun S => 2 ^ g.length - S) 0
      ⟨rfl, rfl, rfl, rfl, rfl, rfl, rfl, rfl⟩ ⟨Nat.zero_le _, hp5⟩ ?_
    rintro S w6 ⟨hS, hp6⟩
    repeat (first | refine WC.seq ?_ | refine WC.reg ?_ | refine WL.pure rfl rfl rfl ?_ | refine WL.nil ?_ | refine WC.skip ?_ | refine WC.block ?_ | refine WC.condT rfl ?_ | refine WC.condF rfl ?_ | refine WL.off rfl rfl rfl ?_ | refine WL.off0 rfl rfl ?_ | refine WC.exit ?_ | refine blk_hit ?_ | refine blk_miss rfl ?_ | refine WC.ret ?_)
    refine WC.cond rfl (fun hq2 => ?_) (fun hq2 => ?_)
    · have hS : S < 2 ^ g.length := by have := of_decide_eq_true hq2; rw [esh] at this; omega
      have step2 : IntKind.i64.wrap ((S : Int) + 1) = ((S + 1 : Nat) : Int) := by rw [wrap_i64_in (by omega) (by omega)]; omega
      have hlt := colD_lt p (c := c + 1) (S := S) (by omega) (by omega)
      repeat (first | refine WC.seq ?_ | refine WC.reg ?_ | refine WL.pure rfl rfl rfl ?_ | refine WL.nil ?_ | refine WC.skip ?_ | refine WC.block ?_ | refine WC.condT rfl ?_ | refine WC.condF rfl ?_ | refine WL.off rfl rfl rfl ?_ | refine WL.off0 rfl rfl ?_ | refine WC.exit ?_ | refine blk_hit ?_ | refine blk_miss rfl ?_ | refine WC.ret ?_)
      refine WC.loop (Nat × Nat) (fun (x, q) => [(0, .int .i64 (g.length : Nat)), (2, .int .i64 (k : Nat)), (7, .slice (some ⟨bf, 0, none⟩) (2 ^ g.length) (2 ^ g.length)), (8, .slice (some ⟨bw, 0, none⟩) (2 ^ g.length) (2 ^ g.length)), (9, .int .i64 (c : Nat)), (10, .slice (some ⟨b2, 0, none⟩) (2 ^ g.length) (2 ^ g.length)), (11, .int .i64 (S : Nat)), (12, .int .i64 (x : Nat))])
        (fun (x, q) w' => x ≤ S ∧ (subsR S x).foldl (fun a x => a + colT p c S x) q = colD p (c + 1) S ∧ Hp w w' [.blk b2 (.cells (ints (rowP p g.length (c + 1) S q)).toArray 3 (0, 0)), .blk bw (.cells (ints (rowF g.length (colD p c))).toArray 3 (0, 0)), .blk bf (.cells (bls (frRow (ap g) g.length (2 ^ g.length))).toArray 4 (0, 0))]) (fun (x, q) => x) (S, 0)
        ⟨rfl, rfl, rfl, rfl, rfl, rfl, rfl, rfl, rfl⟩ ⟨Nat.le_refl _, colD_sum p c S, hp6⟩ ?_
      rintro ⟨x, q⟩ w7 ⟨hx, hsum, hp7⟩
      have hxn : x < 2 ^ g.length := by omega
      repeat (first | refine WC.seq ?_ | refine WC.reg ?_ | refine WL.pure rfl rfl rfl ?_ | refine WL.nil ?_ | refine WC.skip ?_ | refine WC.block ?_ | refine WC.condT rfl ?_ | refine WC.condF rfl ?_ | refine WL.off rfl rfl rfl ?_ | refine WL.off0 rfl rfl ?_ | refine WC.exit ?_ | refine blk_hit ?_ | refine blk_miss rfl ?_ | refine WC.ret ?_)
      refine WL.ixload rfl (fun _ => rfl) rfl rfl rfl rfl rfl rfl rfl hxn rfl rfl (Sl.of_obj (hp7.obj 2 rfl) (cs := bls (frRow (ap g) g.length (2 ^ g.length))) (fun i u h => by simpa using h)) (v := .bool (fr (ap g) x)) (frRow_at hxn hxn) ?_
      intro pa
      repeat (first | refine WC.seq ?_ | refine WC.reg ?_ | refine WL.pure rfl rfl rfl ?_ | refine WL.nil ?_ | refine WC.skip ?_ | refine WC.block ?_ | refine WC.condT rfl ?_ | refine WC.condF rfl ?_ | refine WL.off rfl rfl rfl ?_ | refine WL.off0 rfl rfl ?_ | refine WC.exit ?_ | refine blk_hit ?_ | refine blk_miss rfl ?_ | refine WC.ret ?_)
      have hq' : q + colT p c S x < 9223372036854775808 := by
        rw [← hsum] at hlt
        by_cases h0 : x = 0
        · subst h0; rw [subsR_zero] at hlt; simpa using hlt
        · rw [subsR_step h0, List.foldl_cons] at hlt
          have := foldl_ge (colT p c S) (subsR S ((x - 1) &&& S)) (q + colT p c S x)
          omega
      refine WC.mid Nat (fun _ => [(0, .int .i64 (g.length : Nat)), (2, .int .i64 (k : Nat)), (7, .slice (some ⟨bf, 0, none⟩) (2 ^ g.length) (2 ^ g.length)), (8, .slice (some ⟨bw, 0, none⟩) (2 ^ g.length) (2 ^ g.length)), (9, .int .i64 (c : Nat)), (10, .slice (some ⟨b2, 0, none⟩) (2 ^ g.length) (2 ^ g.length)), (11, .int .i64 (S : Nat)), (12, .int .i64 (x : Nat))])
        (fun q' w' => q' = q + colT p c S x ∧ Hp w w' [.blk b2 (.cells (ints (rowP p g.length (c + 1) S q')).toArray 3 (0, 0)), .blk bw (.cells (ints (rowF g.length (colD p c))).toArray 3 (0, 0)), .blk bf (.cells (bls (frRow (ap g) g.length (2 ^ g.length))).toArray 4 (0, 0))]) ?_ ?_
      · refine WC.cond rfl (fun hf => ?_) (fun hf => ?_)
        · have ebd : bits .andNot .i64 (S : Int) (x : Int) = ((bd S x : Nat) : Int) := andNot_i64 (by omega) (by omega)
          have hbl := bd_le S x
          refine WC.regS 14 mixed (by kernel_rfl) rfl rfl (fun w8 hw8 hh8 => ?_)
          have hp8 := hp7.keep hw8
          repeat (first | refine WS.pure rfl rfl rfl ?_ | refine WS.off rfl rfl rfl ?_ | refine WS.nil ?_)
          refine WS.ix1 rfl rfl rfl rfl rfl rfl rfl hS ?_
          refine WS.loadB rfl rfl rfl rfl rfl (hp8.obj 0 rfl) (v := .int .i64 (q : Nat)) (by rw [nth_eq, Nat.zero_add, List.toList_toArray, rowP, rowF_at _ hS]; simp) ?_
          repeat (first | refine WS.pure rfl rfl rfl ?_ | refine WS.off rfl rfl rfl ?_ | refine WS.nil ?_)
          refine WS.known (d := 53) (congrArg (fun z => some (Value.int .i64 z)) ebd) ?_
          refine WS.ix1 rfl rfl rfl rfl rfl rfl rfl (j := bd S x) (by omega) ?_
          refine WS.loadB rfl rfl rfl rfl rfl (hp8.obj 1 rfl) (v := .int .i64 (colD p c (bd S x) : Nat)) (by rw [nth_eq, Nat.zero_add, List.toList_toArray, rowF_at _ (by omega)]) ?_
          repeat (first | refine WS.pure rfl rfl rfl ?_ | refine WS.off rfl rfl rfl ?_ | refine WS.nil ?_)
          have eq' : colT p c S x = colD p c (bd S x) := by rw [colT, if_pos (by rw [← hP]; exact hf)]
          have esum : IntKind.i64.wrap ((q : Int) + (colD p c (bd S x) : Nat)) = ((q + colT p c S x : Nat) : Int) := by rw [eq'] at hq' ⊢; rw [wrap_i64_in (by omega) (by omega)]; omega
          refine WS.known (d := 56) (congrArg (fun z => some (Value.int .i64 z)) esum) ?_
          refine WS.ix1 rfl rfl rfl rfl rfl rfl rfl hS ?_
          repeat (first | refine WS.pure rfl rfl rfl ?_ | refine WS.off rfl rfl rfl ?_ | refine WS.nil ?_)
          refine WL.store rfl rfl rfl rfl rfl rfl (hp8.obj 0 rfl) (by simp [ints, rowP, rowF]; omega) (fun w9 hw9 => ?_)
          rw [Nat.zero_add, ints_set, rowP_set] at hw9
          have hp9 := hp8.set 0 rfl rfl hw9
          repeat (first | refine WC.seq ?_ | refine WC.reg ?_ | refine WL.pure rfl rfl rfl ?_ | refine WL.nil ?_ | refine WC.skip ?_ | refine WC.block ?_ | refine WC.condT rfl ?_ | refine WC.condF rfl ?_ | refine WL.off rfl rfl rfl ?_ | refine WL.off0 rfl rfl ?_ | refine WC.exit ?_ | refine blk_hit ?_ | refine blk_miss rfl ?_ | refine WC.ret ?_)
          exact ⟨q + colT p c S x, ⟨rfl, rfl, rfl, rfl, rfl, rfl, rfl, rfl, rfl⟩, rfl, hp9⟩
        · have eq' : colT p c S x = 0 := by rw [colT, if_neg (by rw [← hP, hf]; decide)]
          repeat (first | refine WC.seq ?_ | refine WC.reg ?_ | refine WL.pure rfl rfl rfl ?_ | refine WL.nil ?_ | refine WC.skip ?_ | refine WC.block ?_ | refine WC.condT rfl ?_ | refine WC.condF rfl ?_ | refine WL.off rfl rfl rfl ?_ | refine WL.off0 rfl rfl ?_ | refine WC.exit ?_ | refine blk_hit ?_ | refine blk_miss rfl ?_ | refine WC.ret ?_)
          exact ⟨q, ⟨rfl, rfl, rfl, rfl, rfl, rfl, rfl, rfl, rfl⟩, by rw [eq']; rfl, hp7⟩
      · rintro q2 e2 w8 hsub ⟨rfl, hp8⟩
        refine WC.sub hsub ?_
        repeat (first | refine WC.seq ?_ | refine WC.reg ?_ | refine WL.pure rfl rfl rfl ?_ | refine WL.nil ?_ | refine WC.skip ?_ | refine WC.block ?_ | refine WC.condT rfl ?_ | refine WC.condF rfl ?_ | refine WL.off rfl rfl rfl ?_ | refine WL.off0 rfl rfl ?_ | refine WC.exit ?_ | refine blk_hit ?_ | refine blk_miss rfl ?_ | refine WC.ret ?_)
        refine WC.cond rfl (fun hz0 => ?_) (fun hz0 => ?_)
        · have hz0 : x = 0 := by simpa using hz0
          subst hz0
          rw [subsR_zero] at hsum
          have hsum : q + colT p c S 0 = colD p (c + 1) S := hsum
          rw [hsum, rowP_next] at hp8
          repeat (first | refine WC.seq ?_ | refine WC.reg ?_ | refine WL.pure rfl rfl rfl ?_ | refine WL.nil ?_ | refine WC.skip ?_ | refine WC.block ?_ | refine WC.condT rfl ?_ | refine WC.condF rfl ?_ | refine WL.off rfl rfl rfl ?_ | refine WL.off0 rfl rfl ?_ | refine WC.exit ?_ | refine blk_hit ?_ | refine blk_miss rfl ?_ | refine WC.ret ?_)
          exact ⟨S + 1, by show 2 ^ g.length - (S + 1) < 2 ^ g.length - S; omega, ⟨rfl, rfl, rfl, rfl, rfl, rfl, congrArg (fun z => some (Value.int .i64 z)) step2, rfl⟩, hS, hp8⟩
        · have hz0 : x ≠ 0 := by simpa using hz0
          have e33 : bits .and .i64 (IntKind.i64.wrap ((x : Int) - 1)) (S : Int) = (((x - 1) &&& S : Nat) : Int) := by
            rw [wrap_i64_in (by omega) (by omega), show (x : Int) - 1 = ((x - 1 : Nat) : Int) by omega, and_i64 (by omega) (by omega)]
          have hle : (x - 1) &&& S ≤ x - 1 := Nat.and_le_left
          repeat (first | refine WC.seq ?_ | refine WC.reg ?_ | refine WL.pure rfl rfl rfl ?_ | refine WL.nil ?_ | refine WC.skip ?_ | refine WC.block ?_ | refine WC.condT rfl ?_ | refine WC.condF rfl ?_ | refine WL.off rfl rfl rfl ?_ | refine WL.off0 rfl rfl ?_ | refine WC.exit ?_ | refine blk_hit ?_ | refine blk_miss rfl ?_ | refine WC.ret ?_)
          refine ⟨((x - 1) &&& S, q + colT p c S x), by show (x - 1) &&& S < x; omega, ⟨rfl, rfl, rfl, rfl, rfl, rfl, rfl, congrArg (fun z => some (Value.int .i64 z)) e33, rfl⟩, by omega, ?_, hp8⟩
          rw [← hsum, subsR_step hz0, List.foldl_cons]
    · have hS : S = 2 ^ g.length := by have := of_decide_eq_false hq2; rw [esh] at this; omega
      subst hS
      have hrow : rowP p g.length (c + 1) (2 ^ g.length) 0 = rowF g.length (colD p (c + 1)) := rowF_congr fun j hj => by rw [if_pos hj]
      rw [hrow] at hp6
      repeat (first | refine WC.seq ?_ | refine WC.reg ?_ | refine WL.pure rfl rfl rfl ?_ | refine WL.nil ?_ | refine WC.skip ?_ | refine WC.block ?_ | refine WC.condT rfl ?_ | refine WC.condF rfl ?_ | refine WL.off rfl rfl rfl ?_ | refine WL.off0 rfl rfl ?_ | refine WC.exit ?_ | refine blk_hit ?_ | refine blk_miss rfl ?_ | refine WC.ret ?_)
      exact ⟨(c + 1, b2), by show k - (c + 1) < k - c; omega, ⟨rfl, rfl, rfl, rfl, congrArg (fun z => some (Value.int .i64 z)) step, rfl⟩, hc, hp6.pick [0, 2] (by decide)⟩
  · have hc : c = k := by have := of_decide_eq_false hq; omega
    subst hc
    have e64 : IntKind.i64.wrap (shl .i64 1 g.length - 1) = ((full g.length : Nat) : Int) := full_i64' hn
    repeat (first | refine WC.seq ?_ | refine WC.reg ?_ | refine WL.pure rfl rfl rfl ?_ | refine WL.nil ?_ | refine WC.skip ?_ | refine WC.block ?_ | refine WC.condT rfl ?_ | refine WC.condF rfl ?_ | refine WL.off rfl rfl rfl ?_ | refine WL.off0 rfl rfl ?_ | refine WC.exit ?_ | refine blk_hit ?_ | refine blk_miss rfl ?_ | refine WC.ret ?_)
    refine WL.known (d := 64) (congrArg (fun z => some (Value.int .i64 z)) e64) ?_
    refine WL.ixload rfl (fun _ => rfl) rfl rfl rfl rfl rfl rfl rfl (j := full g.length) (full_lt _) rfl rfl (Sl.of_obj (hp4.obj 0 rfl) (fun i u h => by simpa using h)) (rowF_at _ (full_lt _)) ?_
    intro pa
    repeat (first | refine WC.seq ?_ | refine WC.reg ?_ | refine WL.pure rfl rfl rfl ?_ | refine WL.nil ?_ | refine WC.skip ?_ | refine WC.block ?_ | refine WC.condT rfl ?_ | refine WC.condF rfl ?_ | refine WL.off rfl rfl rfl ?_ | refine WL.off0 rfl rfl ?_ | refine WC.exit ?_ | refine blk_hit ?_ | refine blk_miss rfl ?_ | refine WC.ret ?_)
    exact Res.one rfl rfl rfl ⟨hp4.nil', rfl⟩

theorem row_cap {w : World} {B E s n c : Nat} {a : Option Addr} {xs : List Value} (h : w.ownsRow B E s (.slice a n c) n xs) : n ≤ c := by
  obtain ⟨_, ⟨hv, hn⟩ | ⟨_, _, _, hv, _, _, hnc, _⟩⟩ := h
  · rw [hn]; exact Nat.zero_le _
  · simp only [Value.slice.injEq] at hv; rw [hv.2.2]; exact hnc
/-- A list with a number for each place. -/
def fl (N : Nat) (f : Nat → Nat) : List Nat := (List.range N).map f
theorem fl_len (N : Nat) (f : Nat → Nat) : (fl N f).length = N := by simp [fl]
theorem fl_at {N i : Nat} (f : Nat → Nat) (h : i < N) : (ints (fl N f))[i]? = some (.int .i64 (f i : Nat)) := by
  simp [ints, fl, h]
theorem fl_congr {N : Nat} {f f' : Nat → Nat} (h : ∀ j, j < N → f j = f' j) : fl N f = fl N f' := by
  unfold fl
  exact List.map_congr_left fun j hj => h j (by simpa using hj)
theorem fl_set (N i x : Nat) (f : Nat → Nat) : (fl N f).set i x = fl N fun j => if j = i then x else f j := by
  apply List.ext_getElem?
  intro j
  by_cases h : j < N
  · by_cases h1 : j = i
    · subst h1
      rw [List.getElem?_set_self (by rw [fl_len]; exact h)]
      simp [fl, h]
    · rw [List.getElem?_set_ne (Ne.symm h1)]
      simp [fl, h, h1]
  · rw [List.getElem?_eq_none (by simp [fl_len]; omega), List.getElem?_eq_none (by simp [fl_len]; omega)]
theorem fl_zero (N : Nat) : List.replicate N 0 = fl N fun _ => 0 := by
  apply List.ext_getElem?
  intro i
  by_cases h : i < N
  · simp [fl, h]
  · rw [List.getElem?_eq_none (by simp; omega), List.getElem?_eq_none (by simp [fl]; omega)]
end Go.Proofs.YtdnkkflpgebfbaaDoor
