/- The walk of 'TreeForests'. -/
import Derived.Test.YtdnkkflpgebfbaaDoorL43
import Derived.Test.YtdnkkflpgebfbaaDoorPh
namespace Go.Proofs.YtdnkkflpgebfbaaDoor
open Go.W Go.Tree
set_option maxRecDepth 100000
attribute [local irreducible] WC WL WQ WS WH

theorem pow_small {K m i n : Nat} (hK : K ≤ 8) (h : m + i ≤ n) (hn : n ≤ 14) : K ^ m * (K - 1) ^ i < 9223372036854775808 := by
  have h1 : K ^ m ≤ 8 ^ m := Nat.pow_le_pow_left hK _
  have h2 : (K - 1) ^ i ≤ 8 ^ i := Nat.pow_le_pow_left (by omega) _
  have h3 : K ^ m * (K - 1) ^ i ≤ 8 ^ m * 8 ^ i := Nat.mul_le_mul h1 h2
  rw [← Nat.pow_add] at h3
  have h4 : 8 ^ (m + i) ≤ 8 ^ 14 := Nat.pow_le_pow_right (by decide) (by omega)
  have h5 : 8 ^ 14 < 9223372036854775808 := by decide
  omega

theorem TreeForests_any (ea : Option Addr) (ce : Nat) (n : Int) (es : List Ed) (k : Int) (w : World) (hs : Sl w ea (prs es)) (hT : Tb w) :
    Ret Tryd.prog 5 [.agg #[.int .i64 n, .slice ea es.length ce], .int .i64 k] w fun v w' => v = .bool true ∧ Hp w w' [] := by
  refine enter Tryd.func5 rfl rfl ⟨rfl, rfl⟩ rfl ?_
  repeat (first | refine WC.seq ?_ | refine WC.reg ?_ | refine WL.pure rfl rfl rfl ?_ | refine WL.nil ?_ | refine WC.skip ?_ | refine WC.block ?_ | refine WC.condT rfl ?_ | refine WC.condF rfl ?_ | refine WL.off rfl rfl rfl ?_ | refine WL.off0 rfl rfl ?_ | refine WC.exit ?_ | refine blk_hit ?_ | refine blk_miss rfl ?_ | refine WC.ret ?_)
  refine WL.box rfl rfl rfl ?_
  intro b2 w1 hb2
  have hp1 := (Hp.start w).new hb2
  repeat (first | refine WC.seq ?_ | refine WC.reg ?_ | refine WL.pure rfl rfl rfl ?_ | refine WL.nil ?_ | refine WC.skip ?_ | refine WC.block ?_ | refine WC.condT rfl ?_ | refine WC.condF rfl ?_ | refine WL.off rfl rfl rfl ?_ | refine WL.off0 rfl rfl ?_ | refine WC.exit ?_ | refine blk_hit ?_ | refine blk_miss rfl ?_ | refine WC.ret ?_)
  refine WL.loadN (cs := [.int .i64 n, .slice ea es.length ce]) rfl rfl rfl rfl rfl rfl (fun j v hj => cell_of_obj (hp1.obj 0 rfl) (by rw [Nat.zero_add]; simpa [Value.cells] using hj)) ?_
  refine WL.call rfl rfl rfl rfl rfl ent24 (tame_any ea ce n es 12 (by omega) w1 (hs.hp hp1)) ?_
  rintro _ w2 ⟨N, fs, g, a, c, hN, hmk, rfl, hp2⟩
  have hp2 := (hp1.comb hp2).swap.tail
  obtain ⟨hg, hgn, _, _, hf100⟩ := mkG_gr hmk
  have hgn : g.length = N := by simpa using hgn
  subst hgn
  have hn := hg.len
  have hf62 : fs.length ≤ 4611686018427387904 := by omega
  have hed := mk_edg hmk
  obtain ⟨law1, law2⟩ := forest_law hmk
  refine WL.var rfl rfl rfl (fun _ => rfl) rfl rfl (show ∀ u ∈ [Value.int .i64 (g.length : Nat), .slice a fs.length c], u.oneCell' = true from Cells.cons rfl (Cells.cons rfl Cells.nil)) ?_
  intro b5 w3 hb5
  have hp3 := hp2.new hb5
  have hp3 : Hp w w3 [.blk b5 (.cells #[.int .i64 (g.length : Nat), .slice a fs.length c] 24 (0, 0)), .row 50 2 (.slice a fs.length c) fs.length (prs fs)] := hp3
  generalize hFF : ([.blk b5 (.cells #[.int .i64 (g.length : Nat), .slice a fs.length c] 24 (0, 0)), .row 50 2 (.slice a fs.length c) fs.length (prs fs)] : List Ent) = F at hp3
  have LF : ∀ w' L, Hp w w' (L ++ F) → w'.heap[b5]? = some (.cells #[.int .i64 (g.length : Nat), .slice a fs.length c] 24 (0, 0)) ∧ Sl w' a (prs fs) ∧ Tb w' := by
    intro w' L h
    rw [← hFF] at h
    exact ⟨(h.sat (.blk b5 (.cells #[.int .i64 (g.length : Nat), .slice a fs.length c] 24 (0, 0))) (by simp)).2, Sl.of_row (h.sat (.row 50 2 (.slice a fs.length c) fs.length (prs fs)) (by simp)), hT.below h.below⟩
  obtain ⟨hB, sF, hT3⟩ := LF w3 [] hp3
  repeat (first | refine WC.seq ?_ | refine WC.reg ?_ | refine WL.pure rfl rfl rfl ?_ | refine WL.nil ?_ | refine WC.skip ?_ | refine WC.block ?_ | refine WC.condT rfl ?_ | refine WC.condF rfl ?_ | refine WL.off rfl rfl rfl ?_ | refine WL.off0 rfl rfl ?_ | refine WC.exit ?_ | refine blk_hit ?_ | refine blk_miss rfl ?_ | refine WC.ret ?_)
  refine WL.callP rfl rfl rfl rfl rfl ent26 (mod_any k 9 (by omega) (by omega) _) ?_
  have hK := modN_lt (n := 9) (by omega) k
  generalize modN k 9 = K at *
  repeat (first | refine WC.seq ?_ | refine WC.reg ?_ | refine WL.pure rfl rfl rfl ?_ | refine WL.nil ?_ | refine WC.skip ?_ | refine WC.block ?_ | refine WC.condT rfl ?_ | refine WC.condF rfl ?_ | refine WL.off rfl rfl rfl ?_ | refine WL.off0 rfl rfl ?_ | refine WC.exit ?_ | refine blk_hit ?_ | refine blk_miss rfl ?_ | refine WC.ret ?_)
  refine WL.loadB rfl rfl rfl rfl rfl hB rfl ?_
  repeat (first | refine WC.seq ?_ | refine WC.reg ?_ | refine WL.pure rfl rfl rfl ?_ | refine WL.nil ?_ | refine WC.skip ?_ | refine WC.block ?_ | refine WC.condT rfl ?_ | refine WC.condF rfl ?_ | refine WL.off rfl rfl rfl ?_ | refine WL.off0 rfl rfl ?_ | refine WC.exit ?_ | refine blk_hit ?_ | refine blk_miss rfl ?_ | refine WC.ret ?_)
  refine WL.loadB rfl rfl rfl rfl rfl hB rfl ?_
  refine WL.call rfl rfl rfl rfl rfl ent25 (Decompose_any a c _ fs w3 sF hf62 hT3) ?_
  intro v4 w4 hD
  unfold DecIs at hD
  rw [hmk] at hD
  obtain ⟨bl, ab, cb, al, cl, _, hp4, rfl⟩ := hD
  have hp4 := hp3.call hp4.below
  repeat (first | refine WC.seq ?_ | refine WC.reg ?_ | refine WL.pure rfl rfl rfl ?_ | refine WL.nil ?_ | refine WC.skip ?_ | refine WC.block ?_ | refine WC.condT rfl ?_ | refine WC.condF rfl ?_ | refine WL.off rfl rfl rfl ?_ | refine WL.off0 rfl rfl ?_ | refine WC.exit ?_ | refine blk_hit ?_ | refine blk_miss rfl ?_ | refine WC.ret ?_)
  refine WL.var rfl rfl rfl (fun _ => rfl) rfl rfl (show ∀ u ∈ [Value.slice ab bl.length cb, .slice al (linksOf g).length cl], u.oneCell' = true from Cells.cons rfl (Cells.cons rfl Cells.nil)) ?_
  intro b6 w5 hb6
  have hp5 := (hp4.new hb6).tail
  obtain ⟨hB, sF, hT5⟩ := LF w5 [] hp5
  have hcv : colV (g.length : Nat) fs (K : Nat) = .tuple #[.int .i64 (colD (fr (ap g)) K (full g.length) : Nat), .int .i64 0] := by
    simp only [colV, hmk]
    rw [if_neg (by omega), colP_colD (fr_zero _) (lt_pow16 hn (full_lt _)) (by omega)]
  repeat (first | refine WC.seq ?_ | refine WC.reg ?_ | refine WL.pure rfl rfl rfl ?_ | refine WL.nil ?_ | refine WC.skip ?_ | refine WC.block ?_ | refine WC.condT rfl ?_ | refine WC.condF rfl ?_ | refine WL.off rfl rfl rfl ?_ | refine WL.off0 rfl rfl ?_ | refine WC.exit ?_ | refine blk_hit ?_ | refine blk_miss rfl ?_ | refine WC.ret ?_)
  refine WL.loadB rfl rfl rfl rfl rfl hB rfl ?_
  repeat (first | refine WC.seq ?_ | refine WC.reg ?_ | refine WL.pure rfl rfl rfl ?_ | refine WL.nil ?_ | refine WC.skip ?_ | refine WC.block ?_ | refine WC.condT rfl ?_ | refine WC.condF rfl ?_ | refine WL.off rfl rfl rfl ?_ | refine WL.off0 rfl rfl ?_ | refine WC.exit ?_ | refine blk_hit ?_ | refine blk_miss rfl ?_ | refine WC.ret ?_)
  refine WL.loadB rfl rfl rfl rfl rfl hB rfl ?_
  repeat (first | refine WC.seq ?_ | refine WC.reg ?_ | refine WL.pure rfl rfl rfl ?_ | refine WL.nil ?_ | refine WC.skip ?_ | refine WC.block ?_ | refine WC.condT rfl ?_ | refine WC.condF rfl ?_ | refine WL.off rfl rfl rfl ?_ | refine WL.off0 rfl rfl ?_ | refine WC.exit ?_ | refine blk_hit ?_ | refine blk_miss rfl ?_ | refine WC.ret ?_)
  refine WL.call rfl rfl rfl rfl rfl ent14 (Colour_any a c _ fs (K : Nat) w5 sF hf62 hT5) ?_
  rintro _ w6 ⟨hp6, rfl⟩
  rw [hcv]
  have hp6 := hp5.call hp6.below
  obtain ⟨hB, sF, hT6⟩ := LF w6 [] hp6
  have law3 : joins (fun _ => true) id (lk2 fs) = fs.length → colD (fr (ap g)) K (full g.length) = K ^ (g.length - fs.length) * (K - 1) ^ fs.length := fun h => (law2 h).2.2 K
  generalize colD (fr (ap g)) K (full g.length) = CC at *
  repeat (first | refine WC.seq ?_ | refine WC.reg ?_ | refine WL.pure rfl rfl rfl ?_ | refine WL.nil ?_ | refine WC.skip ?_ | refine WC.block ?_ | refine WC.condT rfl ?_ | refine WC.condF rfl ?_ | refine WL.off rfl rfl rfl ?_ | refine WL.off0 rfl rfl ?_ | refine WC.exit ?_ | refine blk_hit ?_ | refine blk_miss rfl ?_ | refine WC.ret ?_)
  refine WL.loadB rfl rfl rfl rfl rfl hB rfl ?_
  refine WL.make (m := g.length) rfl rfl rfl rfl rfl rfl rfl rfl ?_ ?_ ?_
  · show 8 * g.length ≤ _; omega
  · unfold maxLen; omega
  intro b w7 hb
  have hz : (List.replicate g.length ti3.zero) = ints (fl g.length fun _ => 0) := by rw [← fl_zero]; simp only [ints, List.map_replicate]; rfl
  rw [hz] at hb
  have hp7 := hp6.new hb
  have hz2 : (fl g.length fun _ => 0) = fl g.length fun j => if j < 0 then j else 0 := fl_congr fun j _ => by rw [if_neg (by omega)]
  rw [hz2] at hp7
  generalize hNN : g.length = N at *
  repeat (first | refine WC.seq ?_ | refine WC.reg ?_ | refine WL.pure rfl rfl rfl ?_ | refine WL.nil ?_ | refine WC.skip ?_ | refine WC.block ?_ | refine WC.condT rfl ?_ | refine WC.condF rfl ?_ | refine WL.off rfl rfl rfl ?_ | refine WL.off0 rfl rfl ?_ | refine WC.exit ?_ | refine blk_hit ?_ | refine blk_miss rfl ?_ | refine WC.ret ?_)
  refine WC.loop Nat (fun i => [(1, .int .i64 (K : Nat)), (5, .pointer (some ⟨b5, 0, none⟩)), (7, .int .i64 (wd g 0)), (9, .int .i64 (CC : Nat)), (11, .slice (some ⟨b, 0, none⟩) N N), (12, .int .i64 (i : Nat))])
    (fun i w' => i ≤ N ∧ Hp w w' (.blk b (.cells (ints (fl N fun j => if j < i then j else 0)).toArray 3 (0, 0)) :: F)) (fun i => N - i) 0 ⟨rfl, rfl, rfl, rfl, rfl, rfl, rfl⟩ ⟨Nat.zero_le _, hp7⟩ ?_
  rintro i w8 ⟨hi, hp8⟩
  repeat (first | refine WC.seq ?_ | refine WC.reg ?_ | refine WL.pure rfl rfl rfl ?_ | refine WL.nil ?_ | refine WC.skip ?_ | refine WC.block ?_ | refine WC.condT rfl ?_ | refine WC.condF rfl ?_ | refine WL.off rfl rfl rfl ?_ | refine WL.off0 rfl rfl ?_ | refine WC.exit ?_ | refine blk_hit ?_ | refine blk_miss rfl ?_ | refine WC.ret ?_)
  refine WL.loadB rfl rfl rfl rfl rfl (LF w8 [_] hp8).1 rfl ?_
  repeat (first | refine WC.seq ?_ | refine WC.reg ?_ | refine WL.pure rfl rfl rfl ?_ | refine WL.nil ?_ | refine WC.skip ?_ | refine WC.block ?_ | refine WC.condT rfl ?_ | refine WC.condF rfl ?_ | refine WL.off rfl rfl rfl ?_ | refine WL.off0 rfl rfl ?_ | refine WC.exit ?_ | refine blk_hit ?_ | refine blk_miss rfl ?_ | refine WC.ret ?_)
  refine WC.cond rfl (fun hq => ?_) (fun hq => ?_)
  · have hi : i < N := by have := of_decide_eq_true hq; omega
    have step : IntKind.i64.wrap ((i : Int) + 1) = ((i + 1 : Nat) : Int) := by rw [wrap_i64_in (by omega) (by omega)]; omega
    repeat (first | refine WC.seq ?_ | refine WC.reg ?_ | refine WL.pure rfl rfl rfl ?_ | refine WL.nil ?_ | refine WC.skip ?_ | refine WC.block ?_ | refine WC.condT rfl ?_ | refine WC.condF rfl ?_ | refine WL.off rfl rfl rfl ?_ | refine WL.off0 rfl rfl ?_ | refine WC.exit ?_ | refine blk_hit ?_ | refine blk_miss rfl ?_ | refine WC.ret ?_)
    refine WL.ix1 rfl rfl rfl rfl rfl rfl rfl (j := i) hi ?_
    refine WL.store rfl rfl rfl rfl rfl rfl (hp8.obj 0 rfl) (by simp [ints, fl]; omega) (fun w9 hw9 => ?_)
    have e1 : (fl N fun j => if j < i then j else 0).set i i = fl N fun j => if j < i + 1 then j else 0 := by
      rw [fl_set]
      refine fl_congr fun j _ => ?_
      by_cases h : j = i
      · subst h; simp
      · rw [if_neg h]
        by_cases h1 : j < i
        · rw [if_pos h1, if_pos (by omega)]
        · rw [if_neg h1, if_neg (by omega)]
    rw [Nat.zero_add, ints_set, e1] at hw9
    have hp9 := hp8.set 0 rfl rfl hw9
    repeat (first | refine WC.seq ?_ | refine WC.reg ?_ | refine WL.pure rfl rfl rfl ?_ | refine WL.nil ?_ | refine WC.skip ?_ | refine WC.block ?_ | refine WC.condT rfl ?_ | refine WC.condF rfl ?_ | refine WL.off rfl rfl rfl ?_ | refine WL.off0 rfl rfl ?_ | refine WC.exit ?_ | refine blk_hit ?_ | refine blk_miss rfl ?_ | refine WC.ret ?_)
    exact ⟨i + 1, by show N - (i + 1) < N - i; omega, ⟨rfl, rfl, rfl, rfl, rfl, congrArg (fun z => some (Value.int .i64 z)) step, rfl⟩, hi, hp9⟩
  have hi : i = N := by have := of_decide_eq_false hq; omega
  have hid : (fl N fun j => if j < i then j else 0) = fl N id := fl_congr fun j hj => by rw [if_pos (by omega)]; rfl
  rw [hid] at hp8
  clear hq hid hi
  repeat (first | refine WC.seq ?_ | refine WC.reg ?_ | refine WL.pure rfl rfl rfl ?_ | refine WL.nil ?_ | refine WC.skip ?_ | refine WC.block ?_ | refine WC.condT rfl ?_ | refine WC.condF rfl ?_ | refine WL.off rfl rfl rfl ?_ | refine WL.off0 rfl rfl ?_ | refine WC.exit ?_ | refine blk_hit ?_ | refine blk_miss rfl ?_ | refine WC.ret ?_)
  refine WL.loadB rfl rfl rfl rfl rfl (LF w8 [_] hp8).1 rfl ?_
  repeat (first | refine WC.seq ?_ | refine WC.reg ?_ | refine WL.pure rfl rfl rfl ?_ | refine WL.nil ?_ | refine WC.skip ?_ | refine WC.block ?_ | refine WC.condT rfl ?_ | refine WC.condF rfl ?_ | refine WL.off rfl rfl rfl ?_ | refine WL.off0 rfl rfl ?_ | refine WC.exit ?_ | refine blk_hit ?_ | refine blk_miss rfl ?_ | refine WC.ret ?_)
  refine WC.loop (Nat × (Nat → Nat) × Nat) (fun (i, f, j) => [(1, .int .i64 (K : Nat)), (5, .pointer (some ⟨b5, 0, none⟩)), (7, .int .i64 (wd g 0)), (9, .int .i64 (CC : Nat)), (11, .slice (some ⟨b, 0, none⟩) N N), (13, .bool (decide (j < i))), (14, .int .i64 ((N : Int) - (j : Nat))), (15, .int .i64 (i : Nat))])
    (fun (i, f, j) w' => i ≤ fs.length ∧ j ≤ i ∧ (∀ q, q < N → f q < N) ∧ joins (fun _ => true) id (lk2 fs) = j + joins (fun _ => true) f (lk2 (fs.drop i)) ∧ Hp w w' (.blk b (.cells (ints (fl N f)).toArray 3 (0, 0)) :: F)) (fun (i, _) => fs.length - i) (0, id, 0)
    ⟨rfl, rfl, rfl, rfl, rfl, rfl, congrArg (fun z => some (Value.int .i64 z)) (Int.sub_zero _).symm, rfl, rfl⟩ ⟨Nat.zero_le _, Nat.le_refl _, fun q hq => hq, by rw [List.drop_zero, Nat.zero_add], hp8⟩ ?_
  rintro ⟨i, f, j⟩ w9 ⟨hi, hj, hf, hjo, hp9⟩
  obtain ⟨hB, sF, hT9⟩ := LF w9 [_] hp9
  repeat (first | refine WC.seq ?_ | refine WC.reg ?_ | refine WL.pure rfl rfl rfl ?_ | refine WL.nil ?_ | refine WC.skip ?_ | refine WC.block ?_ | refine WC.condT rfl ?_ | refine WC.condF rfl ?_ | refine WL.off rfl rfl rfl ?_ | refine WL.off0 rfl rfl ?_ | refine WC.exit ?_ | refine blk_hit ?_ | refine blk_miss rfl ?_ | refine WC.ret ?_)
  refine WL.loadB rfl rfl rfl rfl rfl hB rfl ?_
  repeat (first | refine WC.seq ?_ | refine WC.reg ?_ | refine WL.pure rfl rfl rfl ?_ | refine WL.nil ?_ | refine WC.skip ?_ | refine WC.block ?_ | refine WC.condT rfl ?_ | refine WC.condF rfl ?_ | refine WL.off rfl rfl rfl ?_ | refine WL.off0 rfl rfl ?_ | refine WC.exit ?_ | refine blk_hit ?_ | refine blk_miss rfl ?_ | refine WC.ret ?_)
  refine WC.cond rfl (fun hq => ?_) (fun hq => ?_)
  · have hi : i < fs.length := by have := of_decide_eq_true hq; omega
    have step : IntKind.i64.wrap ((i : Int) + 1) = ((i + 1 : Nat) : Int) := by rw [wrap_i64_in (by omega) (by omega)]; omega
    have hpg := prs_get hi
    have hmem : fs[i] ∈ fs := List.getElem_mem hi
    have hok := (mkG_okes hmk).1 _ hmem
    have hdr : lk2 (fs.drop i) = ((fs[i]).2.toNat, (fs[i]).1.toNat) :: lk2 (fs.drop (i + 1)) := by rw [List.drop_eq_getElem_cons hi]; rfl
    obtain ⟨r1, r2, r3, r4, r5⟩ := hok
    generalize hlk : fs[i] = l at *
    obtain ⟨x, y⟩ := l
    obtain ⟨x, rfl⟩ := Int.eq_ofNat_of_zero_le r1
    obtain ⟨y, rfl⟩ := Int.eq_ofNat_of_zero_le r3
    have hx : x < N := by simp only at r2; omega
    have hy : y < N := by simp only at r4; omega
    simp only [Int.toNat_natCast] at hdr
    rw [hdr, joins] at hjo
    have ht : inW (fun _ => true) (y, x) = true := rfl
    rw [if_pos ht] at hjo
    obtain ⟨bE, oE, hae⟩ := Sl.some sF hpg.1
    subst hae
    have cE : ∀ w', Hp w w' (.blk b (.cells (ints (fl N f)).toArray 3 (0, 0)) :: F) → w'.cell? ⟨b5, 0 + 1, none⟩ = some (.slice (some ⟨bE, oE, none⟩) fs.length c) ∧ w'.cell? ⟨bE, oE + i * 2 + 0 * 1, none⟩ = some (.int .i64 (x : Nat)) ∧ w'.cell? ⟨bE, oE + i * 2 + 1 * 1, none⟩ = some (.int .i64 (y : Nat)) ∧
        ∀ q, q < N → w'.cell? ⟨b, 0 + q, none⟩ = some (.int .i64 (f q : Nat)) := by
      intro w' h
      obtain ⟨hb5, hs5, _⟩ := LF w' [_] h
      have h1 := Sl.cell hs5 hpg.1
      have h2 := Sl.cell hs5 hpg.2
      rw [← Nat.add_assoc] at h1 h2
      exact ⟨cell_of_obj hb5 rfl, h1, h2, fun q hq => cell_of_obj (h.obj 0 rfl) (by rw [Nat.zero_add]; simpa using fl_at f hq)⟩
    repeat (first | refine WC.seq ?_ | refine WC.reg ?_ | refine WL.pure rfl rfl rfl ?_ | refine WL.nil ?_ | refine WC.skip ?_ | refine WC.block ?_ | refine WC.condT rfl ?_ | refine WC.condF rfl ?_ | refine WL.off rfl rfl rfl ?_ | refine WL.off0 rfl rfl ?_ | refine WC.exit ?_ | refine blk_hit ?_ | refine blk_miss rfl ?_ | refine WC.ret ?_)
    refine WC.mid Unit (fun _ => [(1, .int .i64 (K : Nat)), (5, .pointer (some ⟨b5, 0, none⟩)), (7, .int .i64 (wd g 0)), (9, .int .i64 (CC : Nat)), (11, .slice (some ⟨b, 0, none⟩) N N), (13, .bool (decide (j < i))), (14, .int .i64 ((N : Int) - (j : Nat))), (15, .int .i64 (i : Nat)), (16, .int .i64 (f x : Nat)), (17, .int .i64 (f y : Nat))])
      (fun _ w' => Hp w w' (.blk b (.cells (ints (fl N f)).toArray 3 (0, 0)) :: F)) ?_ ?_
    · refine WC.regQ (fun w' => Hp w w' _) mixed (by kernel_rfl) (fun w' hw' => hp9.keep hw') ?_
      repeat (first | refine WQ.pure rfl rfl rfl ?_ | refine WQ.off rfl rfl rfl ?_ | refine WQ.nil ?_)
      refine WQ.load rfl rfl rfl rfl rfl (fun w' h => (cE w' h).1) ?_
      repeat (first | refine WQ.pure rfl rfl rfl ?_ | refine WQ.off rfl rfl rfl ?_ | refine WQ.nil ?_)
      refine WQ.ix rfl rfl rfl rfl rfl rfl hi ?_
      repeat (first | refine WQ.pure rfl rfl rfl ?_ | refine WQ.off rfl rfl rfl ?_ | refine WQ.nil ?_)
      refine WQ.load rfl rfl rfl rfl rfl (fun w' h => (cE w' h).2.1) ?_
      refine WQ.ixload rfl (fun _ => rfl) rfl rfl rfl rfl rfl rfl rfl hx rfl rfl (fun w' h => (cE w' h).2.2.2 x hx) ?_
      repeat (first | refine WQ.pure rfl rfl rfl ?_ | refine WQ.off rfl rfl rfl ?_ | refine WQ.nil ?_)
      refine WQ.load rfl rfl rfl rfl rfl (fun w' h => (cE w' h).1) ?_
      repeat (first | refine WQ.pure rfl rfl rfl ?_ | refine WQ.off rfl rfl rfl ?_ | refine WQ.nil ?_)
      refine WQ.ix rfl rfl rfl rfl rfl rfl hi ?_
      repeat (first | refine WQ.pure rfl rfl rfl ?_ | refine WQ.off rfl rfl rfl ?_ | refine WQ.nil ?_)
      refine WQ.load rfl rfl rfl rfl rfl (fun w' h => (cE w' h).2.2.1) ?_
      refine WQ.ixload rfl (fun _ => rfl) rfl rfl rfl rfl rfl rfl rfl hy rfl rfl (fun w' h => (cE w' h).2.2.2 y hy) ?_
      repeat (first | refine WQ.pure rfl rfl rfl ?_ | refine WQ.off rfl rfl rfl ?_ | refine WQ.nil ?_)
      intro w' h
      exact ⟨(), ⟨rfl, rfl, rfl, rfl, rfl, rfl, rfl, rfl, rfl, rfl, rfl⟩, h⟩
    rintro ⟨⟩ eA wA hsub hpA
    refine WC.sub hsub ?_
    clear hsub hp9
    repeat (first | refine WC.seq ?_ | refine WC.reg ?_ | refine WL.pure rfl rfl rfl ?_ | refine WL.nil ?_ | refine WC.skip ?_ | refine WC.block ?_ | refine WC.condT rfl ?_ | refine WC.condF rfl ?_ | refine WL.off rfl rfl rfl ?_ | refine WL.off0 rfl rfl ?_ | refine WC.exit ?_ | refine blk_hit ?_ | refine blk_miss rfl ?_ | refine WC.ret ?_)
    refine WC.cond rfl (fun hq2 => ?_) (fun hq2 => ?_)
    · have hq2 : f x = f y := by simp at hq2; omega
      rw [if_neg (fun h => h.2 hq2.symm), mrg_same (show f y = f x from hq2.symm), Nat.zero_add] at hjo
      repeat (first | refine WC.seq ?_ | refine WC.reg ?_ | refine WL.pure rfl rfl rfl ?_ | refine WL.nil ?_ | refine WC.skip ?_ | refine WC.block ?_ | refine WC.condT rfl ?_ | refine WC.condF rfl ?_ | refine WL.off rfl rfl rfl ?_ | refine WL.off0 rfl rfl ?_ | refine WC.exit ?_ | refine blk_hit ?_ | refine blk_miss rfl ?_ | refine WC.ret ?_)
      refine ⟨(i + 1, f, j), by show fs.length - (i + 1) < fs.length - i; omega, ⟨rfl, rfl, rfl, rfl, rfl, ?_, rfl, congrArg (fun z => some (Value.int .i64 z)) step, rfl⟩, hi, by omega, hf, hjo, hpA⟩
      rw [decide_eq_true (show j < i + 1 by omega)]; rfl
    · have hq2 : f x ≠ f y := by simp at hq2; omega
      rw [if_pos ⟨ht, fun h => hq2 h.symm⟩] at hjo
      have em : IntKind.i64.wrap ((N : Int) - (j : Nat) - 1) = (N : Int) - ((j + 1 : Nat) : Int) := by rw [IntKind.wrap_i64]; omega
      have hst : fl N f = fl N fun q => if q < 0 then mrg f y x q else f q := fl_congr fun q _ => by rw [if_neg (by omega)]
      rw [hst] at hpA
      repeat (first | refine WC.seq ?_ | refine WC.reg ?_ | refine WL.pure rfl rfl rfl ?_ | refine WL.nil ?_ | refine WC.skip ?_ | refine WC.block ?_ | refine WC.condT rfl ?_ | refine WC.condF rfl ?_ | refine WL.off rfl rfl rfl ?_ | refine WL.off0 rfl rfl ?_ | refine WC.exit ?_ | refine blk_hit ?_ | refine blk_miss rfl ?_ | refine WC.ret ?_)
      refine WC.loop Nat (fun v => [(1, .int .i64 (K : Nat)), (5, .pointer (some ⟨b5, 0, none⟩)), (7, .int .i64 (wd g 0)), (9, .int .i64 (CC : Nat)), (11, .slice (some ⟨b, 0, none⟩) N N), (13, .bool (decide (j < i))), (14, .int .i64 ((N : Int) - ((j + 1 : Nat) : Int))), (15, .int .i64 (i : Nat)), (16, .int .i64 (f x : Nat)), (17, .int .i64 (f y : Nat)), (18, .int .i64 (v : Nat))])
        (fun v w' => v ≤ N ∧ Hp w w' (.blk b (.cells (ints (fl N fun q => if q < v then mrg f y x q else f q)).toArray 3 (0, 0)) :: F)) (fun v => N - v) 0 ⟨rfl, rfl, rfl, rfl, rfl, rfl, congrArg (fun z => some (Value.int .i64 z)) em, rfl, rfl, rfl, rfl, rfl⟩ ⟨Nat.zero_le _, hpA⟩ ?_
      rintro v wB ⟨hv, hpB⟩
      repeat (first | refine WC.seq ?_ | refine WC.reg ?_ | refine WL.pure rfl rfl rfl ?_ | refine WL.nil ?_ | refine WC.skip ?_ | refine WC.block ?_ | refine WC.condT rfl ?_ | refine WC.condF rfl ?_ | refine WL.off rfl rfl rfl ?_ | refine WL.off0 rfl rfl ?_ | refine WC.exit ?_ | refine blk_hit ?_ | refine blk_miss rfl ?_ | refine WC.ret ?_)
      refine WL.loadB rfl rfl rfl rfl rfl (LF wB [_] hpB).1 rfl ?_
      repeat (first | refine WC.seq ?_ | refine WC.reg ?_ | refine WL.pure rfl rfl rfl ?_ | refine WL.nil ?_ | refine WC.skip ?_ | refine WC.block ?_ | refine WC.condT rfl ?_ | refine WC.condF rfl ?_ | refine WL.off rfl rfl rfl ?_ | refine WL.off0 rfl rfl ?_ | refine WC.exit ?_ | refine blk_hit ?_ | refine blk_miss rfl ?_ | refine WC.ret ?_)
      refine WC.cond rfl (fun hc2 => ?_) (fun hc2 => ?_)
      · have hv : v < N := by have := of_decide_eq_true hc2; omega
        have step2 : IntKind.i64.wrap ((v : Int) + 1) = ((v + 1 : Nat) : Int) := by rw [wrap_i64_in (by omega) (by omega)]; omega
        have hfv := fl_at (fun q => if q < v then mrg f y x q else f q) hv
        simp only [Nat.lt_irrefl, if_false] at hfv
        repeat (first | refine WC.seq ?_ | refine WC.reg ?_ | refine WL.pure rfl rfl rfl ?_ | refine WL.nil ?_ | refine WC.skip ?_ | refine WC.block ?_ | refine WC.condT rfl ?_ | refine WC.condF rfl ?_ | refine WL.off rfl rfl rfl ?_ | refine WL.off0 rfl rfl ?_ | refine WC.exit ?_ | refine blk_hit ?_ | refine blk_miss rfl ?_ | refine WC.ret ?_)
        refine WL.ixload rfl (fun _ => rfl) rfl rfl rfl rfl rfl rfl rfl hv rfl rfl (Sl.of_obj (hpB.obj 0 rfl) (fun i u h => by simpa using h)) hfv ?_
        intro p3
        repeat (first | refine WC.seq ?_ | refine WC.reg ?_ | refine WL.pure rfl rfl rfl ?_ | refine WL.nil ?_ | refine WC.skip ?_ | refine WC.block ?_ | refine WC.condT rfl ?_ | refine WC.condF rfl ?_ | refine WL.off rfl rfl rfl ?_ | refine WL.off0 rfl rfl ?_ | refine WC.exit ?_ | refine blk_hit ?_ | refine blk_miss rfl ?_ | refine WC.ret ?_)
        refine WC.cond rfl (fun hc3 => ?_) (fun hc3 => ?_)
        · have hc3 : f v = f y := by simp at hc3; omega
          repeat (first | refine WC.seq ?_ | refine WC.reg ?_ | refine WL.pure rfl rfl rfl ?_ | refine WL.nil ?_ | refine WC.skip ?_ | refine WC.block ?_ | refine WC.condT rfl ?_ | refine WC.condF rfl ?_ | refine WL.off rfl rfl rfl ?_ | refine WL.off0 rfl rfl ?_ | refine WC.exit ?_ | refine blk_hit ?_ | refine blk_miss rfl ?_ | refine WC.ret ?_)
          refine WL.ix1 rfl rfl rfl rfl rfl rfl rfl (j := v) hv ?_
          refine WL.store rfl rfl rfl rfl rfl rfl (hpB.obj 0 rfl) (by simp [ints, fl]; omega) (fun wC hwC => ?_)
          have e1 : (fl N fun q => if q < v then mrg f y x q else f q).set v (f x) = fl N fun q => if q < v + 1 then mrg f y x q else f q := by
            rw [fl_set]
            refine fl_congr fun q _ => ?_
            by_cases h : q = v
            · subst h
              rw [if_pos rfl, if_pos (by omega)]
              unfold mrg
              rw [if_pos hc3]
            · rw [if_neg h]
              by_cases h1 : q < v
              · rw [if_pos h1, if_pos (by omega)]
              · rw [if_neg h1, if_neg (by omega)]
          rw [Nat.zero_add, ints_set, e1] at hwC
          have hpC := hpB.set 0 rfl rfl hwC
          repeat (first | refine WC.seq ?_ | refine WC.reg ?_ | refine WL.pure rfl rfl rfl ?_ | refine WL.nil ?_ | refine WC.skip ?_ | refine WC.block ?_ | refine WC.condT rfl ?_ | refine WC.condF rfl ?_ | refine WL.off rfl rfl rfl ?_ | refine WL.off0 rfl rfl ?_ | refine WC.exit ?_ | refine blk_hit ?_ | refine blk_miss rfl ?_ | refine WC.ret ?_)
          exact ⟨v + 1, by show N - (v + 1) < N - v; omega, ⟨rfl, rfl, rfl, rfl, rfl, rfl, rfl, rfl, rfl, rfl, congrArg (fun z => some (Value.int .i64 z)) step2, rfl⟩, hv, hpC⟩
        · have hc3 : f v ≠ f y := by simp at hc3; omega
          have e1 : (fl N fun q => if q < v then mrg f y x q else f q) = fl N fun q => if q < v + 1 then mrg f y x q else f q := by
            refine fl_congr fun q _ => ?_
            by_cases h : q = v
            · subst h
              rw [if_neg (by omega), if_pos (by omega)]
              unfold mrg
              rw [if_neg hc3]
            · by_cases h1 : q < v
              · rw [if_pos h1, if_pos (by omega)]
              · rw [if_neg h1, if_neg (by omega)]
          rw [e1] at hpB
          repeat (first | refine WC.seq ?_ | refine WC.reg ?_ | refine WL.pure rfl rfl rfl ?_ | refine WL.nil ?_ | refine WC.skip ?_ | refine WC.block ?_ | refine WC.condT rfl ?_ | refine WC.condF rfl ?_ | refine WL.off rfl rfl rfl ?_ | refine WL.off0 rfl rfl ?_ | refine WC.exit ?_ | refine blk_hit ?_ | refine blk_miss rfl ?_ | refine WC.ret ?_)
          exact ⟨v + 1, by show N - (v + 1) < N - v; omega, ⟨rfl, rfl, rfl, rfl, rfl, rfl, rfl, rfl, rfl, rfl, congrArg (fun z => some (Value.int .i64 z)) step2, rfl⟩, hv, hpB⟩
      · have hv : v = N := by have := of_decide_eq_false hc2; omega
        have e1 : (fl N fun q => if q < v then mrg f y x q else f q) = fl N (mrg f y x) := fl_congr fun q hq => by rw [if_pos (by omega)]
        rw [e1] at hpB
        repeat (first | refine WC.seq ?_ | refine WC.reg ?_ | refine WL.pure rfl rfl rfl ?_ | refine WL.nil ?_ | refine WC.skip ?_ | refine WC.block ?_ | refine WC.condT rfl ?_ | refine WC.condF rfl ?_ | refine WL.off rfl rfl rfl ?_ | refine WL.off0 rfl rfl ?_ | refine WC.exit ?_ | refine blk_hit ?_ | refine blk_miss rfl ?_ | refine WC.ret ?_)
        refine ⟨(i + 1, mrg f y x, j + 1), by show fs.length - (i + 1) < fs.length - i; omega, ⟨rfl, rfl, rfl, rfl, rfl, ?_, rfl, congrArg (fun z => some (Value.int .i64 z)) step, rfl⟩, hi, by omega, mrg_lt hf hx, by rw [hjo]; show j + (1 + joins _ (mrg f y x) _) = _; omega, hpB⟩
        have : decide (j + 1 < i + 1) = decide (j < i) := by rw [Bool.eq_iff_iff]; simp
        rw [this]; rfl
  have hi : i = fs.length := by have := of_decide_eq_false hq; omega
  subst hi
  rw [List.drop_length, show lk2 [] = [] from rfl, joins, Nat.add_zero] at hjo
  rw [hjo] at law1 law2 law3
  have fin : ∀ w', Tb w' → (∀ w'', Hp w' w'' [] → Hp w w'' []) → Ret Tryd.prog 19 [] w' fun v w'' => v = .bool true ∧ Hp w w'' [] := fun w' hTw hh => (awake_any w' hTw).mono fun v w'' ⟨h1, h2⟩ => ⟨h1, hh w'' h2⟩
  clear hq
  repeat (first | refine WC.seq ?_ | refine WC.reg ?_ | refine WL.pure rfl rfl rfl ?_ | refine WL.nil ?_ | refine WC.skip ?_ | refine WC.block ?_ | refine WC.condT rfl ?_ | refine WC.condF rfl ?_ | refine WL.off rfl rfl rfl ?_ | refine WL.off0 rfl rfl ?_ | refine WC.exit ?_ | refine blk_hit ?_ | refine blk_miss rfl ?_ | refine WC.ret ?_)
  refine WC.cond rfl (fun hq => ?_) (fun hq => ?_)
  · exfalso
    have hq : decide (wd g 0 ≤ 1) = decide (j < fs.length) := by simpa using hq
    by_cases h : wd g 0 ≤ 1
    · have := law1.1 h
      rw [decide_eq_true h, this] at hq
      simp at hq
    · have h2 : ¬ j = fs.length := fun e => h (law1.2 e)
      rw [decide_eq_false h, decide_eq_true (show j < fs.length by omega)] at hq
      cases hq
  clear hq
  repeat (first | refine WC.seq ?_ | refine WC.reg ?_ | refine WL.pure rfl rfl rfl ?_ | refine WL.nil ?_ | refine WC.skip ?_ | refine WC.block ?_ | refine WC.condT rfl ?_ | refine WC.condF rfl ?_ | refine WL.off rfl rfl rfl ?_ | refine WL.off0 rfl rfl ?_ | refine WC.exit ?_ | refine blk_hit ?_ | refine blk_miss rfl ?_ | refine WC.ret ?_)
  refine WC.cond rfl (fun hq => ?_) (fun hq => ?_)
  · repeat (first | refine WC.seq ?_ | refine WC.reg ?_ | refine WL.pure rfl rfl rfl ?_ | refine WL.nil ?_ | refine WC.skip ?_ | refine WC.block ?_ | refine WC.condT rfl ?_ | refine WC.condF rfl ?_ | refine WL.off rfl rfl rfl ?_ | refine WL.off0 rfl rfl ?_ | refine WC.exit ?_ | refine blk_hit ?_ | refine blk_miss rfl ?_ | refine WC.ret ?_)
    refine WL.call rfl rfl rfl rfl rfl ent19 (fin w9 hT9 (fun w'' h => (hp9.call h.below).nil')) ?_
    rintro _ wE ⟨rfl, hpE⟩
    repeat (first | refine WC.seq ?_ | refine WC.reg ?_ | refine WL.pure rfl rfl rfl ?_ | refine WL.nil ?_ | refine WC.skip ?_ | refine WC.block ?_ | refine WC.condT rfl ?_ | refine WC.condF rfl ?_ | refine WL.off rfl rfl rfl ?_ | refine WL.off0 rfl rfl ?_ | refine WC.exit ?_ | refine blk_hit ?_ | refine blk_miss rfl ?_ | refine WC.ret ?_)
    exact Res.one rfl rfl rfl ⟨rfl, hpE⟩
  have hje : j = fs.length := by have := of_decide_eq_false hq; omega
  obtain ⟨hle, hlt, _⟩ := law2 hje
  have law4 := law3 hje
  subst hje
  have em : (N : Int) - (fs.length : Nat) = ((N - fs.length : Nat) : Int) := by omega
  refine WC.known (d := 14) (congrArg (fun z => some (Value.int .i64 z)) em) ?_
  clear hq
  repeat (first | refine WC.seq ?_ | refine WC.reg ?_ | refine WL.pure rfl rfl rfl ?_ | refine WL.nil ?_ | refine WC.skip ?_ | refine WC.block ?_ | refine WC.condT rfl ?_ | refine WC.condF rfl ?_ | refine WL.off rfl rfl rfl ?_ | refine WL.off0 rfl rfl ?_ | refine WC.exit ?_ | refine blk_hit ?_ | refine blk_miss rfl ?_ | refine WC.ret ?_)
  refine WC.loop Nat (fun i => [(1, .int .i64 (K : Nat)), (5, .pointer (some ⟨b5, 0, none⟩)), (9, .int .i64 (CC : Nat)), (14, .int .i64 ((N - fs.length : Nat) : Int)), (19, .int .i64 (K ^ i : Nat)), (20, .int .i64 (i : Nat))])
    (fun i w' => i ≤ N - fs.length ∧ Hp w w' (.blk b (.cells (ints (fl N f)).toArray 3 (0, 0)) :: F)) (fun i => N - fs.length - i) 0 ⟨rfl, rfl, rfl, rfl, rfl, rfl, rfl⟩ ⟨Nat.zero_le _, hp9⟩ ?_
  rintro i wA ⟨hi, hpA⟩
  repeat (first | refine WC.seq ?_ | refine WC.reg ?_ | refine WL.pure rfl rfl rfl ?_ | refine WL.nil ?_ | refine WC.skip ?_ | refine WC.block ?_ | refine WC.condT rfl ?_ | refine WC.condF rfl ?_ | refine WL.off rfl rfl rfl ?_ | refine WL.off0 rfl rfl ?_ | refine WC.exit ?_ | refine blk_hit ?_ | refine blk_miss rfl ?_ | refine WC.ret ?_)
  refine WC.cond rfl (fun hq => ?_) (fun hq => ?_)
  · have hi : i < N - fs.length := by have := of_decide_eq_true hq; omega
    have step : IntKind.i64.wrap ((i : Int) + 1) = ((i + 1 : Nat) : Int) := by rw [wrap_i64_in (by omega) (by omega)]; omega
    have hsm := pow_small (K := K) (m := i + 1) (i := 0) (n := N) (by omega) (by omega) hn
    rw [Nat.pow_zero, Nat.mul_one] at hsm
    have emul : IntKind.i64.wrap (((K ^ i : Nat) : Int) * (K : Nat)) = ((K ^ (i + 1) : Nat) : Int) := by
      rw [← Int.natCast_mul, ← Nat.pow_succ]
      generalize K ^ (i + 1) = q at *
      exact wrap_i64_in (by omega) (by omega)
    repeat (first | refine WC.seq ?_ | refine WC.reg ?_ | refine WL.pure rfl rfl rfl ?_ | refine WL.nil ?_ | refine WC.skip ?_ | refine WC.block ?_ | refine WC.condT rfl ?_ | refine WC.condF rfl ?_ | refine WL.off rfl rfl rfl ?_ | refine WL.off0 rfl rfl ?_ | refine WC.exit ?_ | refine blk_hit ?_ | refine blk_miss rfl ?_ | refine WC.ret ?_)
    exact ⟨i + 1, by show N - fs.length - (i + 1) < N - fs.length - i; omega, ⟨rfl, rfl, rfl, rfl, congrArg (fun z => some (Value.int .i64 z)) emul, congrArg (fun z => some (Value.int .i64 z)) step, rfl⟩, hi, hpA⟩
  have hi : i = N - fs.length := by have := of_decide_eq_false hq; omega
  subst hi
  clear hq
  repeat (first | refine WC.seq ?_ | refine WC.reg ?_ | refine WL.pure rfl rfl rfl ?_ | refine WL.nil ?_ | refine WC.skip ?_ | refine WC.block ?_ | refine WC.condT rfl ?_ | refine WC.condF rfl ?_ | refine WL.off rfl rfl rfl ?_ | refine WL.off0 rfl rfl ?_ | refine WC.exit ?_ | refine blk_hit ?_ | refine blk_miss rfl ?_ | refine WC.ret ?_)
  refine WC.loop Nat (fun i => [(1, .int .i64 (K : Nat)), (5, .pointer (some ⟨b5, 0, none⟩)), (9, .int .i64 (CC : Nat)), (19, .int .i64 (K ^ (N - fs.length) * (K - 1) ^ i : Nat)), (21, .int .i64 (i : Nat))])
    (fun i w' => i ≤ fs.length ∧ Hp w w' (.blk b (.cells (ints (fl N f)).toArray 3 (0, 0)) :: F)) (fun i => fs.length - i) 0 ⟨rfl, rfl, rfl, by rw [Nat.pow_zero, Nat.mul_one]; rfl, rfl, rfl⟩ ⟨Nat.zero_le _, hpA⟩ ?_
  rintro i wB ⟨hi, hpB⟩
  obtain ⟨hB, sF, hTB⟩ := LF wB [_] hpB
  repeat (first | refine WC.seq ?_ | refine WC.reg ?_ | refine WL.pure rfl rfl rfl ?_ | refine WL.nil ?_ | refine WC.skip ?_ | refine WC.block ?_ | refine WC.condT rfl ?_ | refine WC.condF rfl ?_ | refine WL.off rfl rfl rfl ?_ | refine WL.off0 rfl rfl ?_ | refine WC.exit ?_ | refine blk_hit ?_ | refine blk_miss rfl ?_ | refine WC.ret ?_)
  refine WL.loadB rfl rfl rfl rfl rfl hB rfl ?_
  repeat (first | refine WC.seq ?_ | refine WC.reg ?_ | refine WL.pure rfl rfl rfl ?_ | refine WL.nil ?_ | refine WC.skip ?_ | refine WC.block ?_ | refine WC.condT rfl ?_ | refine WC.condF rfl ?_ | refine WL.off rfl rfl rfl ?_ | refine WL.off0 rfl rfl ?_ | refine WC.exit ?_ | refine blk_hit ?_ | refine blk_miss rfl ?_ | refine WC.ret ?_)
  refine WC.cond rfl (fun hq => ?_) (fun hq => ?_)
  · have hi : i < fs.length := by have := of_decide_eq_true hq; omega
    have step : IntKind.i64.wrap ((i : Int) + 1) = ((i + 1 : Nat) : Int) := by rw [wrap_i64_in (by omega) (by omega)]; omega
    have hsm := pow_small (K := K) (m := N - fs.length) (i := i + 1) (n := N) (by omega) (by omega) hn
    have emul : IntKind.i64.wrap (((K ^ (N - fs.length) * (K - 1) ^ i : Nat) : Int) * IntKind.i64.wrap ((K : Int) - 1)) = ((K ^ (N - fs.length) * (K - 1) ^ (i + 1) : Nat) : Int) := by
      by_cases h0 : K = 0
      · have : N - fs.length ≠ 0 := by have := hlt (by omega); omega
        subst h0
        rw [Nat.zero_pow (by omega), Nat.zero_mul, Nat.zero_mul]
        simp [IntKind.wrap_i64]
      · have e1 : IntKind.i64.wrap ((K : Int) - 1) = ((K - 1 : Nat) : Int) := by rw [wrap_i64_in (by omega) (by omega)]; omega
        rw [e1, ← Int.natCast_mul, Nat.mul_assoc, ← Nat.pow_succ]
        generalize K ^ (N - fs.length) * (K - 1) ^ (i + 1) = q at *
        exact wrap_i64_in (by omega) (by omega)
    repeat (first | refine WC.seq ?_ | refine WC.reg ?_ | refine WL.pure rfl rfl rfl ?_ | refine WL.nil ?_ | refine WC.skip ?_ | refine WC.block ?_ | refine WC.condT rfl ?_ | refine WC.condF rfl ?_ | refine WL.off rfl rfl rfl ?_ | refine WL.off0 rfl rfl ?_ | refine WC.exit ?_ | refine blk_hit ?_ | refine blk_miss rfl ?_ | refine WC.ret ?_)
    exact ⟨i + 1, by show fs.length - (i + 1) < fs.length - i; omega, ⟨rfl, rfl, rfl, congrArg (fun z => some (Value.int .i64 z)) emul, congrArg (fun z => some (Value.int .i64 z)) step, rfl⟩, hi, hpB⟩
  have hi : i = fs.length := by have := of_decide_eq_false hq; omega
  subst hi
  rw [← law4]
  repeat (first | refine WC.seq ?_ | refine WC.reg ?_ | refine WL.pure rfl rfl rfl ?_ | refine WL.nil ?_ | refine WC.skip ?_ | refine WC.block ?_ | refine WC.condT rfl ?_ | refine WC.condF rfl ?_ | refine WL.off rfl rfl rfl ?_ | refine WL.off0 rfl rfl ?_ | refine WC.exit ?_ | refine blk_hit ?_ | refine blk_miss rfl ?_ | refine WC.ret ?_)
  refine WL.split 139 (b := true) (by simp [W.look]) (fun _ => ?_) (fun h => by cases h)
  repeat (first | refine WC.seq ?_ | refine WC.reg ?_ | refine WL.pure rfl rfl rfl ?_ | refine WL.nil ?_ | refine WC.skip ?_ | refine WC.block ?_ | refine WC.condT rfl ?_ | refine WC.condF rfl ?_ | refine WL.off rfl rfl rfl ?_ | refine WL.off0 rfl rfl ?_ | refine WC.exit ?_ | refine blk_hit ?_ | refine blk_miss rfl ?_ | refine WC.ret ?_)
  refine WL.call rfl rfl rfl rfl rfl ent19 (fin wB hTB (fun w'' h => (hpB.call h.below).nil')) ?_
  rintro _ wE ⟨rfl, hpE⟩
  repeat (first | refine WC.seq ?_ | refine WC.reg ?_ | refine WL.pure rfl rfl rfl ?_ | refine WL.nil ?_ | refine WC.skip ?_ | refine WC.block ?_ | refine WC.condT rfl ?_ | refine WC.condF rfl ?_ | refine WL.off rfl rfl rfl ?_ | refine WL.off0 rfl rfl ?_ | refine WC.exit ?_ | refine blk_hit ?_ | refine blk_miss rfl ?_ | refine WC.ret ?_)
  exact Res.one rfl rfl rfl ⟨rfl, hpE⟩
end Go.Proofs.YtdnkkflpgebfbaaDoor
