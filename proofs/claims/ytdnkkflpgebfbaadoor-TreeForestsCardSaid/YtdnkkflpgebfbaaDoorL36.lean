/- The walk of the reference's parts. -/
import Derived.Test.YtdnkkflpgebfbaaDoorL35
namespace Go.Proofs.YtdnkkflpgebfbaaDoor
open Go.W Go.Tree
set_option maxRecDepth 100000
attribute [local irreducible] WC WL WQ WS WH

theorem sm_lt {f f' : Nat → Nat} : ∀ (N i : Nat), i < N → (∀ j, j < N → f' j ≤ f j) → f' i < f i → sm N f' < sm N f := by
  intro N
  induction N with
  | zero => intro i hi; omega
  | succ N ih =>
    intro i hi hle hlt
    rw [sm, sm]
    by_cases h : i = N
    · subst h
      have := sm_le i (fun j hj => hle j (by omega))
      omega
    · have := ih i (by omega) (fun j hj => hle j (by omega)) hlt
      have := hle N (by omega)
      omega
def lks (ls : List Ed) : List Lk := ls.map fun l => (l.1.toNat, l.2.toNat)
def Wv (ss : List Nat) (v : Int) (i : Nat) : Bool := decide (v < 0) || (ss.getD i 0).testBit v.toNat
def cntR (p : Nat → Nat) (W : Nat → Bool) (i : Nat) : Nat := (List.range i).countP fun j => p j == j && W j
theorem cntR_succ (p : Nat → Nat) (W : Nat → Bool) (i : Nat) : cntR p W (i + 1) = cntR p W i + (if (p i == i && W i) = true then 1 else 0) := by
  simp [cntR, List.range_succ, List.countP_cons]
theorem cntR_le (p : Nat → Nat) (W : Nat → Bool) (i : Nat) : cntR p W i ≤ i := by
  have := List.countP_le_length (p := fun j => p j == j && W j) (l := List.range i)
  simpa [cntR] using this
def put2 (p : Nat → Nat) (a b m : Nat) : Nat → Nat := fun j => if j = a ∨ j = b then m else p j

theorem parts_any (ba la : Option Addr) (bc lc : Nat) (ss : List Nat) (ls : List Ed) (v : Int) (hv : -1 ≤ v ∧ v < 64) (hss : ∀ x ∈ ss, x < 16384) (hsl : ss.length ≤ 1000) (hll : ls.length ≤ 1000)
    (hr : ∀ l ∈ ls, 0 ≤ l.1 ∧ l.1 < ss.length ∧ 0 ≤ l.2 ∧ l.2 < ss.length) (w : World) (hS : Sl w ba (ints ss)) (hL : Sl w la (prs ls)) :
    Ret Tryd.prog 57 [.slice ba ss.length bc, .slice la ls.length lc, .int .i64 v] w fun u w' => Hp w w' [] ∧ u = .int .i64 (partsN ss.length (Wv ss v) (lks ls) : Nat) := by
  have hRng : Rng ss.length (lks ls) := by
    intro l hl
    obtain ⟨e, he, rfl⟩ := List.mem_map.1 hl
    have := hr e he
    simp only
    omega
  refine enter Tryd.func57 rfl rfl ⟨rfl, rfl⟩ rfl ?_
  repeat (first | refine WC.seq ?_ | refine WC.reg ?_ | refine WL.pure rfl rfl rfl ?_ | refine WL.nil ?_ | refine WC.skip ?_ | refine WC.block ?_ | refine WC.condT rfl ?_ | refine WC.condF rfl ?_ | refine WL.off rfl rfl rfl ?_ | refine WL.off0 rfl rfl ?_ | refine WC.exit ?_ | refine blk_hit ?_ | refine blk_miss rfl ?_ | refine WC.ret ?_)
  refine WL.make (m := ss.length) rfl rfl rfl rfl rfl rfl rfl rfl ?_ ?_ ?_
  · show 8 * ss.length ≤ _; omega
  · unfold maxLen; omega
  intro b w1 hb
  have hz : (List.replicate ss.length ti3.zero) = ints (fl ss.length fun _ => 0) := by rw [← fl_zero]; simp only [ints, List.map_replicate]; rfl
  rw [hz] at hb
  have hp1 := (Hp.start w).new hb
  have hz2 : (fl ss.length fun _ => 0) = fl ss.length fun j => if j < 0 then j else 0 := fl_congr fun j _ => by rw [if_neg (by omega)]
  rw [hz2] at hp1
  generalize hNN : ss.length = N at *
  repeat (first | refine WC.seq ?_ | refine WC.reg ?_ | refine WL.pure rfl rfl rfl ?_ | refine WL.nil ?_ | refine WC.skip ?_ | refine WC.block ?_ | refine WC.condT rfl ?_ | refine WC.condF rfl ?_ | refine WL.off rfl rfl rfl ?_ | refine WL.off0 rfl rfl ?_ | refine WC.exit ?_ | refine blk_hit ?_ | refine blk_miss rfl ?_ | refine WC.ret ?_)
  refine WC.loop Nat (fun i => [(0, .slice ba N bc), (1, .slice la ls.length lc), (2, .int .i64 v), (7, .slice (some ⟨b, 0, none⟩) N N), (8, .int .i64 (i : Nat))])
    (fun i w' => i ≤ N ∧ Hp w w' [.blk b (.cells (ints (fl N fun j => if j < i then j else 0)).toArray 3 (0, 0))]) (fun i => N - i) 0 ⟨rfl, rfl, rfl, rfl, rfl, rfl⟩ ⟨Nat.zero_le _, hp1⟩ ?_
  rintro i w2 ⟨hi, hp2⟩
  repeat (first | refine WC.seq ?_ | refine WC.reg ?_ | refine WL.pure rfl rfl rfl ?_ | refine WL.nil ?_ | refine WC.skip ?_ | refine WC.block ?_ | refine WC.condT rfl ?_ | refine WC.condF rfl ?_ | refine WL.off rfl rfl rfl ?_ | refine WL.off0 rfl rfl ?_ | refine WC.exit ?_ | refine blk_hit ?_ | refine blk_miss rfl ?_ | refine WC.ret ?_)
  refine WC.cond rfl (fun hq => ?_) (fun hq => ?_)
  · have hi : i < N := by have := of_decide_eq_true hq; omega
    have step : IntKind.i64.wrap ((i : Int) + 1) = ((i + 1 : Nat) : Int) := by rw [wrap_i64_in (by omega) (by omega)]; omega
    repeat (first | refine WC.seq ?_ | refine WC.reg ?_ | refine WL.pure rfl rfl rfl ?_ | refine WL.nil ?_ | refine WC.skip ?_ | refine WC.block ?_ | refine WC.condT rfl ?_ | refine WC.condF rfl ?_ | refine WL.off rfl rfl rfl ?_ | refine WL.off0 rfl rfl ?_ | refine WC.exit ?_ | refine blk_hit ?_ | refine blk_miss rfl ?_ | refine WC.ret ?_)
    refine WL.ix1 rfl rfl rfl rfl rfl rfl rfl (j := i) hi ?_
    refine WL.store rfl rfl rfl rfl rfl rfl (hp2.obj 0 rfl) (by simp [ints, fl]; omega) (fun w3 hw3 => ?_)
    have e1 : (fl N fun j => if j < i then j else 0).set i i = fl N fun j => if j < i + 1 then j else 0 := by
      rw [fl_set]
      refine fl_congr fun j _ => ?_
      by_cases h : j = i
      · subst h; simp
      · rw [if_neg h]
        by_cases h1 : j < i
        · rw [if_pos h1, if_pos (by omega)]
        · rw [if_neg h1, if_neg (by omega)]
    rw [Nat.zero_add, ints_set, e1] at hw3
    have hp3 := hp2.set 0 rfl rfl hw3
    repeat (first | refine WC.seq ?_ | refine WC.reg ?_ | refine WL.pure rfl rfl rfl ?_ | refine WL.nil ?_ | refine WC.skip ?_ | refine WC.block ?_ | refine WC.condT rfl ?_ | refine WC.condF rfl ?_ | refine WL.off rfl rfl rfl ?_ | refine WL.off0 rfl rfl ?_ | refine WC.exit ?_ | refine blk_hit ?_ | refine blk_miss rfl ?_ | refine WC.ret ?_)
    exact ⟨i + 1, by show N - (i + 1) < N - i; omega, ⟨rfl, rfl, rfl, rfl, congrArg (fun z => some (Value.int .i64 z)) step, rfl⟩, hi, hp3⟩
  have hi : i = N := by have := of_decide_eq_false hq; omega
  have hid : (fl N fun j => if j < i then j else 0) = fl N id := fl_congr fun j hj => by rw [if_pos (by omega)]; rfl
  rw [hid] at hp2
  clear hq hi hid
  generalize hWW : Wv ss v = W at *
  repeat (first | refine WC.seq ?_ | refine WC.reg ?_ | refine WL.pure rfl rfl rfl ?_ | refine WL.nil ?_ | refine WC.skip ?_ | refine WC.block ?_ | refine WC.condT rfl ?_ | refine WC.condF rfl ?_ | refine WL.off rfl rfl rfl ?_ | refine WL.off0 rfl rfl ?_ | refine WC.exit ?_ | refine blk_hit ?_ | refine blk_miss rfl ?_ | refine WC.ret ?_)
  refine WC.loop ((Nat → Nat) × Bool) (fun (p, again) => [(0, .slice ba N bc), (1, .slice la ls.length lc), (2, .int .i64 v), (7, .slice (some ⟨b, 0, none⟩) N N), (9, .bool again)])
    (fun (p, again) w' => (∀ i, uf W id (lks ls) (p i) = uf W id (lks ls) i) ∧ (∀ i, i < N → p i < N) ∧ (again = false → ∀ l ∈ lks ls, inW W l = true → p l.1 = p l.2) ∧ Hp w w' [.blk b (.cells (ints (fl N p)).toArray 3 (0, 0))])
    (fun (p, again) => 2 * sm N p + (if again = true then 1 else 0)) (id, true) ⟨rfl, rfl, rfl, rfl, rfl, rfl⟩ ⟨fun _ => rfl, fun i hi => hi, (fun h => by cases h), hp2⟩ ?_
  rintro ⟨p, again⟩ w4 ⟨hown, hplt, hcons, hp4⟩
  repeat (first | refine WC.seq ?_ | refine WC.reg ?_ | refine WL.pure rfl rfl rfl ?_ | refine WL.nil ?_ | refine WC.skip ?_ | refine WC.block ?_ | refine WC.condT rfl ?_ | refine WC.condF rfl ?_ | refine WL.off rfl rfl rfl ?_ | refine WL.off0 rfl rfl ?_ | refine WC.exit ?_ | refine blk_hit ?_ | refine blk_miss rfl ?_ | refine WC.ret ?_)
  refine WC.cond rfl (fun hq => ?_) (fun hq => ?_)
  · subst hq
    repeat (first | refine WC.seq ?_ | refine WC.reg ?_ | refine WL.pure rfl rfl rfl ?_ | refine WL.nil ?_ | refine WC.skip ?_ | refine WC.block ?_ | refine WC.condT rfl ?_ | refine WC.condF rfl ?_ | refine WL.off rfl rfl rfl ?_ | refine WL.off0 rfl rfl ?_ | refine WC.exit ?_ | refine blk_hit ?_ | refine blk_miss rfl ?_ | refine WC.ret ?_)
    refine WC.loop (Nat × (Nat → Nat) × Bool) (fun (k, q, ag) => [(0, .slice ba N bc), (1, .slice la ls.length lc), (2, .int .i64 v), (7, .slice (some ⟨b, 0, none⟩) N N), (9, .bool ag), (10, .int .i64 (k : Nat))])
      (fun (k, q, ag) w' => k ≤ ls.length ∧ (∀ i, uf W id (lks ls) (q i) = uf W id (lks ls) i) ∧ (∀ i, i < N → q i < N) ∧ (ag = false → q = p ∧ ∀ l ∈ lks (ls.take k), inW W l = true → p l.1 = p l.2) ∧ (ag = true → sm N q < sm N p) ∧ Hp w w' [.blk b (.cells (ints (fl N q)).toArray 3 (0, 0))])
      (fun (k, _) => ls.length - k) (0, p, false) ⟨rfl, rfl, rfl, rfl, rfl, rfl, rfl⟩ ⟨Nat.zero_le _, hown, hplt, fun _ => ⟨rfl, fun l hl => by cases hl⟩, (fun h => by cases h), hp4⟩ ?_
    rintro ⟨k, q, ag⟩ w5 ⟨hk, hqo, hql, hag0, hag1, hp5⟩
    repeat (first | refine WC.seq ?_ | refine WC.reg ?_ | refine WL.pure rfl rfl rfl ?_ | refine WL.nil ?_ | refine WC.skip ?_ | refine WC.block ?_ | refine WC.condT rfl ?_ | refine WC.condF rfl ?_ | refine WL.off rfl rfl rfl ?_ | refine WL.off0 rfl rfl ?_ | refine WC.exit ?_ | refine blk_hit ?_ | refine blk_miss rfl ?_ | refine WC.ret ?_)
    refine WC.cond rfl (fun hq2 => ?_) (fun hq2 => ?_)
    · have hk : k < ls.length := by have := of_decide_eq_true hq2; omega
      have step : IntKind.i64.wrap ((k : Int) + 1) = ((k + 1 : Nat) : Int) := by rw [wrap_i64_in (by omega) (by omega)]; omega
      obtain ⟨r1, r2, r3, r4⟩ := hr _ (List.getElem_mem hk)
      have hpg := prs_get hk
      have hmem : ((ls[k].1).toNat, (ls[k].2).toNat) ∈ lks ls := List.mem_map.2 ⟨_, List.getElem_mem hk, rfl⟩
      have htk : lks (ls.take (k + 1)) = lks (ls.take k) ++ [((ls[k].1).toNat, (ls[k].2).toNat)] := by rw [List.take_succ_eq_append_getElem hk, lks, List.map_append]; rfl
      generalize hlk : ls[k] = l at *
      obtain ⟨x, y⟩ := l
      obtain ⟨u, rfl⟩ := Int.eq_ofNat_of_zero_le r1
      obtain ⟨z, rfl⟩ := Int.eq_ofNat_of_zero_le r3
      have hu : u < N := by simp only at r2; omega
      have hz : z < N := by simp only at r4; omega
      simp only [Int.toNat_natCast] at hmem htk
      obtain ⟨bl, ol, rfl⟩ := Sl.some hL hpg.1
      have cL : ∀ w', Hp w w' [.blk b (.cells (ints (fl N q)).toArray 3 (0, 0))] → w'.cell? ⟨bl, ol + k * 2 + 0 * 1, none⟩ = some (.int .i64 (u : Nat)) ∧ w'.cell? ⟨bl, ol + k * 2 + 1 * 1, none⟩ = some (.int .i64 (z : Nat)) := by
        intro w' h
        have h1 := Sl.cell (hL.hp h) hpg.1
        have h2 := Sl.cell (hL.hp h) hpg.2
        rw [← Nat.add_assoc] at h1 h2
        exact ⟨h1, h2⟩
      repeat (first | refine WC.seq ?_ | refine WC.reg ?_ | refine WL.pure rfl rfl rfl ?_ | refine WL.nil ?_ | refine WC.skip ?_ | refine WC.block ?_ | refine WC.condT rfl ?_ | refine WC.condF rfl ?_ | refine WL.off rfl rfl rfl ?_ | refine WL.off0 rfl rfl ?_ | refine WC.exit ?_ | refine blk_hit ?_ | refine blk_miss rfl ?_ | refine WC.ret ?_)
      refine WC.mid Unit (fun _ => [(0, .slice ba N bc), (1, .slice (some ⟨bl, ol, none⟩) ls.length lc), (2, .int .i64 v), (7, .slice (some ⟨b, 0, none⟩) N N), (9, .bool ag), (10, .int .i64 (k : Nat)), (11, .int .i64 (u : Nat)), (12, .int .i64 (z : Nat))])
        (fun _ w' => Hp w w' [.blk b (.cells (ints (fl N q)).toArray 3 (0, 0))]) ?_ ?_
      · refine WC.regQ (fun w' => Hp w w' _) mixed (by kernel_rfl) (fun w' hw' => hp5.keep hw') ?_
        repeat (first | refine WQ.pure rfl rfl rfl ?_ | refine WQ.off rfl rfl rfl ?_ | refine WQ.nil ?_)
        refine WQ.ix rfl rfl rfl rfl rfl rfl hk ?_
        repeat (first | refine WQ.pure rfl rfl rfl ?_ | refine WQ.off rfl rfl rfl ?_ | refine WQ.nil ?_)
        refine WQ.load rfl rfl rfl rfl rfl (fun w' h => (cL w' h).1) ?_
        repeat (first | refine WQ.pure rfl rfl rfl ?_ | refine WQ.off rfl rfl rfl ?_ | refine WQ.nil ?_)
        refine WQ.ix rfl rfl rfl rfl rfl rfl hk ?_
        repeat (first | refine WQ.pure rfl rfl rfl ?_ | refine WQ.off rfl rfl rfl ?_ | refine WQ.nil ?_)
        refine WQ.load rfl rfl rfl rfl rfl (fun w' h => (cL w' h).2) ?_
        repeat (first | refine WQ.pure rfl rfl rfl ?_ | refine WQ.off rfl rfl rfl ?_ | refine WQ.nil ?_)
        intro w' h
        exact ⟨(), ⟨rfl, rfl, rfl, rfl, rfl, rfl, rfl, rfl, rfl⟩, h⟩
      rintro ⟨⟩ e6 w6 hsub hp6
      refine WC.sub hsub ?_
      clear hsub hp5
      have hsu := getD_lt hss u
      have hsz := getD_lt hss z
      have out : inW W (u, z) = false → ∀ w', Hp w w' [.blk b (.cells (ints (fl N q)).toArray 3 (0, 0))] → (∀ i, uf W id (lks ls) (q i) = uf W id (lks ls) i) ∧ (∀ i, i < N → q i < N) ∧ (ag = false → q = p ∧ ∀ l ∈ lks (ls.take (k + 1)), inW W l = true → p l.1 = p l.2) ∧ (ag = true → sm N q < sm N p) ∧
          Hp w w' [.blk b (.cells (ints (fl N q)).toArray 3 (0, 0))] := by
        intro h w' hp
        refine ⟨hqo, hql, fun ha => ⟨(hag0 ha).1, fun l hl hw => ?_⟩, hag1, hp⟩
        rw [htk, List.mem_append, List.mem_singleton] at hl
        rcases hl with hl | rfl
        · exact (hag0 ha).2 l hl hw
        · rw [h] at hw; cases hw
      repeat (first | refine WC.seq ?_ | refine WC.skip ?_ | refine WC.block ?_)
      refine WC.mid Bool (fun r => [(0, .slice ba N bc), (1, .slice (some ⟨bl, ol, none⟩) ls.length lc), (2, .int .i64 v), (7, .slice (some ⟨b, 0, none⟩) N N), (9, .bool ag), (10, .int .i64 (k : Nat)), (11, .int .i64 (u : Nat)), (12, .int .i64 (z : Nat)), (65, .bool r)])
        (fun r w' => r = !inW W (u, z) ∧ Hp w w' [.blk b (.cells (ints (fl N q)).toArray 3 (0, 0))]) ?_ ?_
      · repeat (first | refine WC.seq ?_ | refine WC.reg ?_ | refine WL.pure rfl rfl rfl ?_ | refine WL.nil ?_ | refine WC.skip ?_ | refine WC.block ?_ | refine WC.condT rfl ?_ | refine WC.condF rfl ?_ | refine WL.off rfl rfl rfl ?_ | refine WL.off0 rfl rfl ?_ | refine WC.exit ?_ | refine blk_hit ?_ | refine blk_miss rfl ?_ | refine WC.ret ?_)
        refine WL.split 48 rfl (fun h1 => ?_) (fun h1 => ?_)
        · have h1 : 0 ≤ v := of_decide_eq_true h1
          obtain ⟨vn, rfl⟩ := Int.eq_ofNat_of_zero_le h1
          have hWu : ∀ i, W i = (ss.getD i 0).testBit vn := fun i => by rw [← hWW, Wv, decide_eq_false (by omega)]; rfl
          repeat (first | refine WC.seq ?_ | refine WC.reg ?_ | refine WL.pure rfl rfl rfl ?_ | refine WL.nil ?_ | refine WC.skip ?_ | refine WC.block ?_ | refine WC.condT rfl ?_ | refine WC.condF rfl ?_ | refine WL.off rfl rfl rfl ?_ | refine WL.off0 rfl rfl ?_ | refine WC.exit ?_ | refine blk_hit ?_ | refine blk_miss rfl ?_ | refine WC.ret ?_)
          refine WL.ixload rfl (fun _ => rfl) rfl rfl rfl rfl rfl rfl rfl hu rfl rfl (hS.hp hp6) (ints_at (by omega)) ?_
          intro p1
          repeat (first | refine WC.seq ?_ | refine WC.reg ?_ | refine WL.pure rfl rfl rfl ?_ | refine WL.nil ?_ | refine WC.skip ?_ | refine WC.block ?_ | refine WC.condT rfl ?_ | refine WC.condF rfl ?_ | refine WL.off rfl rfl rfl ?_ | refine WL.off0 rfl rfl ?_ | refine WC.exit ?_ | refine blk_hit ?_ | refine blk_miss rfl ?_ | refine WC.ret ?_)
          refine WL.callP rfl rfl rfl rfl rfl ent51 (Has_any _ vn (by omega) _) ?_
          refine WL.pure rfl rfl rfl ?_
          refine WL.pure rfl rfl rfl ?_
          refine WL.split 56 rfl (fun h2 => ?_) (fun h2 => ?_)
          · repeat (first | refine WC.seq ?_ | refine WC.reg ?_ | refine WL.pure rfl rfl rfl ?_ | refine WL.nil ?_ | refine WC.skip ?_ | refine WC.block ?_ | refine WC.condT rfl ?_ | refine WC.condF rfl ?_ | refine WL.off rfl rfl rfl ?_ | refine WL.off0 rfl rfl ?_ | refine WC.exit ?_ | refine blk_hit ?_ | refine blk_miss rfl ?_ | refine WC.ret ?_)
            refine ⟨_, ⟨rfl, rfl, rfl, rfl, rfl, rfl, rfl, rfl, rfl, rfl⟩, ?_, hp6⟩
            simp only [inW, hWu]
            simp at h2
            simp [h2]
          · repeat (first | refine WC.seq ?_ | refine WC.reg ?_ | refine WL.pure rfl rfl rfl ?_ | refine WL.nil ?_ | refine WC.skip ?_ | refine WC.block ?_ | refine WC.condT rfl ?_ | refine WC.condF rfl ?_ | refine WL.off rfl rfl rfl ?_ | refine WL.off0 rfl rfl ?_ | refine WC.exit ?_ | refine blk_hit ?_ | refine blk_miss rfl ?_ | refine WC.ret ?_)
            refine WL.ixload rfl (fun _ => rfl) rfl rfl rfl rfl rfl rfl rfl hz rfl rfl (hS.hp hp6) (ints_at (by omega)) ?_
            intro p2
            repeat (first | refine WC.seq ?_ | refine WC.reg ?_ | refine WL.pure rfl rfl rfl ?_ | refine WL.nil ?_ | refine WC.skip ?_ | refine WC.block ?_ | refine WC.condT rfl ?_ | refine WC.condF rfl ?_ | refine WL.off rfl rfl rfl ?_ | refine WL.off0 rfl rfl ?_ | refine WC.exit ?_ | refine blk_hit ?_ | refine blk_miss rfl ?_ | refine WC.ret ?_)
            refine WL.callP rfl rfl rfl rfl rfl ent51 (Has_any _ vn (by omega) _) ?_
            repeat (first | refine WC.seq ?_ | refine WC.reg ?_ | refine WL.pure rfl rfl rfl ?_ | refine WL.nil ?_ | refine WC.skip ?_ | refine WC.block ?_ | refine WC.condT rfl ?_ | refine WC.condF rfl ?_ | refine WL.off rfl rfl rfl ?_ | refine WL.off0 rfl rfl ?_ | refine WC.exit ?_ | refine blk_hit ?_ | refine blk_miss rfl ?_ | refine WC.ret ?_)
            refine ⟨_, ⟨rfl, rfl, rfl, rfl, rfl, rfl, rfl, rfl, rfl, rfl⟩, ?_, hp6⟩
            simp only [inW, hWu]
            simp at h2
            simp [h2]
        · have h1 : ¬ 0 ≤ v := of_decide_eq_false h1
          have hWu : ∀ i, W i = true := fun i => by rw [← hWW, Wv, decide_eq_true (by omega)]; rfl
          repeat (first | refine WC.seq ?_ | refine WC.reg ?_ | refine WL.pure rfl rfl rfl ?_ | refine WL.nil ?_ | refine WC.skip ?_ | refine WC.block ?_ | refine WC.condT rfl ?_ | refine WC.condF rfl ?_ | refine WL.off rfl rfl rfl ?_ | refine WL.off0 rfl rfl ?_ | refine WC.exit ?_ | refine blk_hit ?_ | refine blk_miss rfl ?_ | refine WC.ret ?_)
          refine ⟨_, ⟨rfl, rfl, rfl, rfl, rfl, rfl, rfl, rfl, rfl, rfl⟩, ?_, hp6⟩
          simp [inW, hWu]
      rintro r e7 w7 hsub ⟨hr7, hp7⟩
      refine WC.sub hsub ?_
      clear hsub hp6
      refine WC.cond rfl (fun hq3 => ?_) (fun hq3 => ?_)
      · rw [hr7] at hq3
        obtain ⟨o1, o2, o3, o4, o5⟩ := out (by simpa using hq3) w7 hp7
        repeat (first | refine WC.seq ?_ | refine WC.reg ?_ | refine WL.pure rfl rfl rfl ?_ | refine WL.nil ?_ | refine WC.skip ?_ | refine WC.block ?_ | refine WC.condT rfl ?_ | refine WC.condF rfl ?_ | refine WL.off rfl rfl rfl ?_ | refine WL.off0 rfl rfl ?_ | refine WC.exit ?_ | refine blk_hit ?_ | refine blk_miss rfl ?_ | refine WC.ret ?_)
        exact ⟨(k + 1, q, ag), by show ls.length - (k + 1) < ls.length - k; omega, ⟨rfl, rfl, rfl, rfl, rfl, congrArg (fun z => some (Value.int .i64 z)) step, rfl⟩, hk, o1, o2, o3, o4, o5⟩
      have hin : inW W (u, z) = true := by rw [hr7] at hq3; simpa using hq3
      have hmin : min ((q u : Nat) : Int) ((q z : Nat) : Int) = ((min (q u) (q z) : Nat) : Int) := by omega
      have cP : ∀ w', Hp w w' [.blk b (.cells (ints (fl N q)).toArray 3 (0, 0))] → ∀ j, j < N → w'.cell? ⟨b, 0 + j, none⟩ = some (.int .i64 (q j : Nat)) := fun w' h j hj => cell_of_obj (h.obj 0 rfl) (by rw [Nat.zero_add]; simpa using fl_at q hj)
      have hqu := hql u hu
      have hqz := hql z hz
      generalize hmm : min (q u) (q z) = m at *
      repeat (first | refine WC.seq ?_ | refine WC.reg ?_ | refine WL.pure rfl rfl rfl ?_ | refine WL.nil ?_ | refine WC.skip ?_ | refine WC.block ?_ | refine WC.condT rfl ?_ | refine WC.condF rfl ?_ | refine WL.off rfl rfl rfl ?_ | refine WL.off0 rfl rfl ?_ | refine WC.exit ?_ | refine blk_hit ?_ | refine blk_miss rfl ?_ | refine WC.ret ?_)
      refine WC.mid Unit (fun _ => [(0, .slice ba N bc), (1, .slice (some ⟨bl, ol, none⟩) ls.length lc), (2, .int .i64 v), (7, .slice (some ⟨b, 0, none⟩) N N), (9, .bool ag), (10, .int .i64 (k : Nat)), (11, .int .i64 (u : Nat)), (12, .int .i64 (z : Nat)), (13, .int .i64 (m : Nat))])
        (fun _ w' => Hp w w' [.blk b (.cells (ints (fl N q)).toArray 3 (0, 0))]) ?_ ?_
      · refine WC.regQ (fun w' => Hp w w' _) mixed (by kernel_rfl) (fun w' hw' => hp7.keep hw') ?_
        repeat (first | refine WQ.pure rfl rfl rfl ?_ | refine WQ.off rfl rfl rfl ?_ | refine WQ.nil ?_)
        refine WQ.ixload rfl (fun _ => rfl) rfl rfl rfl rfl rfl rfl rfl hu rfl rfl (fun w' h => cP w' h u hu) ?_
        repeat (first | refine WQ.pure rfl rfl rfl ?_ | refine WQ.off rfl rfl rfl ?_ | refine WQ.nil ?_)
        refine WQ.ixload rfl (fun _ => rfl) rfl rfl rfl rfl rfl rfl rfl hz rfl rfl (fun w' h => cP w' h z hz) ?_
        repeat (first | refine WQ.pure rfl rfl rfl ?_ | refine WQ.off rfl rfl rfl ?_ | refine WQ.nil ?_)
        intro w' h
        exact ⟨(), ⟨rfl, rfl, rfl, rfl, rfl, rfl, rfl, rfl, congrArg (fun z => some (Value.int .i64 z)) hmin, rfl⟩, h⟩
      rintro ⟨⟩ e8 w8 hsub hp8
      refine WC.sub hsub ?_
      clear hsub hp7
      have sP : ∀ {q : Nat → Nat} {w' : World}, Hp w w' [.blk b (.cells (ints (fl N q)).toArray 3 (0, 0))] → Sl w' (some ⟨b, 0, none⟩) (ints (fl N q)) := fun h => Sl.of_obj (h.obj 0 rfl) (fun i u h => by simpa using h)
      repeat (first | refine WC.seq ?_ | refine WC.skip ?_ | refine WC.block ?_)
      refine WC.mid Bool (fun r => [(0, .slice ba N bc), (1, .slice (some ⟨bl, ol, none⟩) ls.length lc), (2, .int .i64 v), (7, .slice (some ⟨b, 0, none⟩) N N), (9, .bool ag), (10, .int .i64 (k : Nat)), (11, .int .i64 (u : Nat)), (12, .int .i64 (z : Nat)), (13, .int .i64 (m : Nat)), (88, .bool r)])
        (fun r w' => r = decide (q u ≠ q z) ∧ Hp w w' [.blk b (.cells (ints (fl N q)).toArray 3 (0, 0))]) ?_ ?_
      · repeat (first | refine WC.seq ?_ | refine WC.reg ?_ | refine WL.pure rfl rfl rfl ?_ | refine WL.nil ?_ | refine WC.skip ?_ | refine WC.block ?_ | refine WC.condT rfl ?_ | refine WC.condF rfl ?_ | refine WL.off rfl rfl rfl ?_ | refine WL.off0 rfl rfl ?_ | refine WC.exit ?_ | refine blk_hit ?_ | refine blk_miss rfl ?_ | refine WC.ret ?_)
        refine WL.ixload rfl (fun _ => rfl) rfl rfl rfl rfl rfl rfl rfl hu rfl rfl (sP hp8) (fl_at q hu) ?_
        intro p1
        repeat (first | refine WC.seq ?_ | refine WC.reg ?_ | refine WL.pure rfl rfl rfl ?_ | refine WL.nil ?_ | refine WC.skip ?_ | refine WC.block ?_ | refine WC.condT rfl ?_ | refine WC.condF rfl ?_ | refine WL.off rfl rfl rfl ?_ | refine WL.off0 rfl rfl ?_ | refine WC.exit ?_ | refine blk_hit ?_ | refine blk_miss rfl ?_ | refine WC.ret ?_)
        refine WL.split 81 rfl (fun h1 => ?_) (fun h1 => ?_)
        · repeat (first | refine WC.seq ?_ | refine WC.reg ?_ | refine WL.pure rfl rfl rfl ?_ | refine WL.nil ?_ | refine WC.skip ?_ | refine WC.block ?_ | refine WC.condT rfl ?_ | refine WC.condF rfl ?_ | refine WL.off rfl rfl rfl ?_ | refine WL.off0 rfl rfl ?_ | refine WC.exit ?_ | refine blk_hit ?_ | refine blk_miss rfl ?_ | refine WC.ret ?_)
          refine ⟨_, ⟨rfl, rfl, rfl, rfl, rfl, rfl, rfl, rfl, rfl, rfl, rfl⟩, ?_, hp8⟩
          simp at h1
          rw [Bool.eq_iff_iff]; simp; omega
        · repeat (first | refine WC.seq ?_ | refine WC.reg ?_ | refine WL.pure rfl rfl rfl ?_ | refine WL.nil ?_ | refine WC.skip ?_ | refine WC.block ?_ | refine WC.condT rfl ?_ | refine WC.condF rfl ?_ | refine WL.off rfl rfl rfl ?_ | refine WL.off0 rfl rfl ?_ | refine WC.exit ?_ | refine blk_hit ?_ | refine blk_miss rfl ?_ | refine WC.ret ?_)
          refine WL.ixload rfl (fun _ => rfl) rfl rfl rfl rfl rfl rfl rfl hz rfl rfl (sP hp8) (fl_at q hz) ?_
          intro p2
          repeat (first | refine WC.seq ?_ | refine WC.reg ?_ | refine WL.pure rfl rfl rfl ?_ | refine WL.nil ?_ | refine WC.skip ?_ | refine WC.block ?_ | refine WC.condT rfl ?_ | refine WC.condF rfl ?_ | refine WL.off rfl rfl rfl ?_ | refine WL.off0 rfl rfl ?_ | refine WC.exit ?_ | refine blk_hit ?_ | refine blk_miss rfl ?_ | refine WC.ret ?_)
          refine ⟨_, ⟨rfl, rfl, rfl, rfl, rfl, rfl, rfl, rfl, rfl, rfl, rfl⟩, ?_, hp8⟩
          simp at h1
          rw [Bool.eq_iff_iff]; simp; omega
      rintro r e9 w9 hsub ⟨hr9, hp9⟩
      refine WC.sub hsub ?_
      clear hsub hp8
      refine WC.cond rfl (fun hq4 => ?_) (fun hq4 => ?_)
      · rw [hr9] at hq4
        have hne : q u ≠ q z := of_decide_eq_true hq4
        have huz : u ≠ z := fun e => hne (by rw [e])
        have hown2 := own_step hqo hmem hin m (show m = q u ∨ m = q z by omega)
        repeat (first | refine WC.seq ?_ | refine WC.reg ?_ | refine WL.pure rfl rfl rfl ?_ | refine WL.nil ?_ | refine WC.skip ?_ | refine WC.block ?_ | refine WC.condT rfl ?_ | refine WC.condF rfl ?_ | refine WL.off rfl rfl rfl ?_ | refine WL.off0 rfl rfl ?_ | refine WC.exit ?_ | refine blk_hit ?_ | refine blk_miss rfl ?_ | refine WC.ret ?_)
        refine WL.ix1 rfl rfl rfl rfl rfl rfl rfl (j := u) hu ?_
        refine WL.store rfl rfl rfl rfl rfl rfl (hp9.obj 0 rfl) (by simp [ints, fl]; omega) (fun wA hwA => ?_)
        rw [Nat.zero_add, ints_set, fl_set] at hwA
        have hpA := hp9.set 0 rfl rfl hwA
        repeat (first | refine WC.seq ?_ | refine WC.reg ?_ | refine WL.pure rfl rfl rfl ?_ | refine WL.nil ?_ | refine WC.skip ?_ | refine WC.block ?_ | refine WC.condT rfl ?_ | refine WC.condF rfl ?_ | refine WL.off rfl rfl rfl ?_ | refine WL.off0 rfl rfl ?_ | refine WC.exit ?_ | refine blk_hit ?_ | refine blk_miss rfl ?_ | refine WC.ret ?_)
        refine WL.ix1 rfl rfl rfl rfl rfl rfl rfl (j := z) hz ?_
        refine WL.store rfl rfl rfl rfl rfl rfl (hpA.obj 0 rfl) (by simp [ints, fl]; omega) (fun wB hwB => ?_)
        have e1 : (fl N fun j => if j = z then m else if j = u then m else q j) = fl N (put2 q u z m) := fl_congr fun j _ => by
          unfold put2
          by_cases h1 : j = z
          · rw [if_pos h1, if_pos (.inr h1)]
          · by_cases h2 : j = u
            · rw [if_neg h1, if_pos h2, if_pos (.inl h2)]
            · rw [if_neg h1, if_neg h2, if_neg (fun h => h.elim h2 h1)]
        rw [Nat.zero_add, ints_set, fl_set, e1] at hwB
        have hpB := hpA.set 0 rfl rfl hwB
        have hsum : sm N (put2 q u z m) < sm N q := by
          have hle : ∀ j, j < N → put2 q u z m j ≤ q j := by
            intro j _
            unfold put2
            split
            · rename_i h
              rcases h with h | h
              · rw [h]; omega
              · rw [h]; omega
            · exact Nat.le_refl _
          by_cases h : q u < q z
          · exact sm_lt N z hz hle (by unfold put2; rw [if_pos (.inr rfl)]; omega)
          · exact sm_lt N u hu hle (by unfold put2; rw [if_pos (.inl rfl)]; omega)
        have hbase : sm N q ≤ sm N p := by
          cases hag : ag with
          | true => exact Nat.le_of_lt (hag1 hag)
          | false => rw [(hag0 hag).1]; exact Nat.le_refl _
        repeat (first | refine WC.seq ?_ | refine WC.reg ?_ | refine WL.pure rfl rfl rfl ?_ | refine WL.nil ?_ | refine WC.skip ?_ | refine WC.block ?_ | refine WC.condT rfl ?_ | refine WC.condF rfl ?_ | refine WL.off rfl rfl rfl ?_ | refine WL.off0 rfl rfl ?_ | refine WC.exit ?_ | refine blk_hit ?_ | refine blk_miss rfl ?_ | refine WC.ret ?_)
        exact ⟨(k + 1, put2 q u z m, true), by show ls.length - (k + 1) < ls.length - k; omega, ⟨rfl, rfl, rfl, rfl, rfl, congrArg (fun z => some (Value.int .i64 z)) step, rfl⟩, hk, hown2, (fun i hi => by unfold put2; split <;> first | omega | exact hql i hi), (fun h => by cases h), (fun _ => by omega), hpB⟩
      · rw [hr9] at hq4
        have heq : q u = q z := by have := of_decide_eq_false hq4; omega
        repeat (first | refine WC.seq ?_ | refine WC.reg ?_ | refine WL.pure rfl rfl rfl ?_ | refine WL.nil ?_ | refine WC.skip ?_ | refine WC.block ?_ | refine WC.condT rfl ?_ | refine WC.condF rfl ?_ | refine WL.off rfl rfl rfl ?_ | refine WL.off0 rfl rfl ?_ | refine WC.exit ?_ | refine blk_hit ?_ | refine blk_miss rfl ?_ | refine WC.ret ?_)
        refine ⟨(k + 1, q, ag), by show ls.length - (k + 1) < ls.length - k; omega, ⟨rfl, rfl, rfl, rfl, rfl, congrArg (fun z => some (Value.int .i64 z)) step, rfl⟩, hk, hqo, hql, fun ha => ⟨(hag0 ha).1, fun l hl hw => ?_⟩, hag1, hp9⟩
        rw [htk, List.mem_append, List.mem_singleton] at hl
        rcases hl with hl | rfl
        · exact (hag0 ha).2 l hl hw
        · rw [← (hag0 ha).1]; exact heq
    · have hk : k = ls.length := by have := of_decide_eq_false hq2; omega
      subst hk
      rw [List.take_length] at hag0
      repeat (first | refine WC.seq ?_ | refine WC.reg ?_ | refine WL.pure rfl rfl rfl ?_ | refine WL.nil ?_ | refine WC.skip ?_ | refine WC.block ?_ | refine WC.condT rfl ?_ | refine WC.condF rfl ?_ | refine WL.off rfl rfl rfl ?_ | refine WL.off0 rfl rfl ?_ | refine WC.exit ?_ | refine blk_hit ?_ | refine blk_miss rfl ?_ | refine WC.ret ?_)
      refine ⟨(q, ag), ?_, ⟨rfl, rfl, rfl, rfl, rfl, rfl⟩, hqo, hql, fun ha => ?_, hp5⟩
      · show 2 * sm N q + (if ag = true then 1 else 0) < 2 * sm N p + (if true = true then 1 else 0)
        cases hag : ag with
        | true => have := hag1 hag; simp; omega
        | false => rw [(hag0 hag).1]; simp
      · rw [(hag0 ha).1]; exact (hag0 ha).2
  · have hfix : Fixed W N (lks ls) p := ⟨hown, hplt, hcons hq⟩
    have hcount := fixed_count hRng hfix
    repeat (first | refine WC.seq ?_ | refine WC.reg ?_ | refine WL.pure rfl rfl rfl ?_ | refine WL.nil ?_ | refine WC.skip ?_ | refine WC.block ?_ | refine WC.condT rfl ?_ | refine WC.condF rfl ?_ | refine WL.off rfl rfl rfl ?_ | refine WL.off0 rfl rfl ?_ | refine WC.exit ?_ | refine blk_hit ?_ | refine blk_miss rfl ?_ | refine WC.ret ?_)
    refine WC.loop Nat (fun i => [(0, .slice ba N bc), (2, .int .i64 v), (7, .slice (some ⟨b, 0, none⟩) N N), (14, .int .i64 (cntR p W i : Nat)), (15, .int .i64 (i : Nat))])
      (fun i w' => i ≤ N ∧ Hp w w' [.blk b (.cells (ints (fl N p)).toArray 3 (0, 0))]) (fun i => N - i) 0 ⟨rfl, rfl, rfl, rfl, rfl, rfl⟩ ⟨Nat.zero_le _, hp4⟩ ?_
    rintro i w5 ⟨hi, hp5⟩
    repeat (first | refine WC.seq ?_ | refine WC.reg ?_ | refine WL.pure rfl rfl rfl ?_ | refine WL.nil ?_ | refine WC.skip ?_ | refine WC.block ?_ | refine WC.condT rfl ?_ | refine WC.condF rfl ?_ | refine WL.off rfl rfl rfl ?_ | refine WL.off0 rfl rfl ?_ | refine WC.exit ?_ | refine blk_hit ?_ | refine blk_miss rfl ?_ | refine WC.ret ?_)
    refine WC.cond rfl (fun hq2 => ?_) (fun hq2 => ?_)
    · have hi : i < N := by have := of_decide_eq_true hq2; omega
      have step : IntKind.i64.wrap ((i : Int) + 1) = ((i + 1 : Nat) : Int) := by rw [wrap_i64_in (by omega) (by omega)]; omega
      have hcs := cntR_succ p W i
      have hcl := cntR_le p W i
      have e1 : IntKind.i64.wrap ((cntR p W i : Int) + 1) = ((cntR p W i + 1 : Nat) : Int) := by rw [wrap_i64_in (by omega) (by omega)]; omega
      have hsi := getD_lt hss i
      repeat (first | refine WC.seq ?_ | refine WC.skip ?_ | refine WC.block ?_)
      refine WC.mid Bool (fun r => [(0, .slice ba N bc), (2, .int .i64 v), (7, .slice (some ⟨b, 0, none⟩) N N), (14, .int .i64 (cntR p W i : Nat)), (15, .int .i64 (i : Nat)), (120, .bool r)])
        (fun r w' => r = (p i == i && W i) ∧ Hp w w' [.blk b (.cells (ints (fl N p)).toArray 3 (0, 0))]) ?_ ?_
      · repeat (first | refine WC.seq ?_ | refine WC.reg ?_ | refine WL.pure rfl rfl rfl ?_ | refine WL.nil ?_ | refine WC.skip ?_ | refine WC.block ?_ | refine WC.condT rfl ?_ | refine WC.condF rfl ?_ | refine WL.off rfl rfl rfl ?_ | refine WL.off0 rfl rfl ?_ | refine WC.exit ?_ | refine blk_hit ?_ | refine blk_miss rfl ?_ | refine WC.ret ?_)
        refine WL.ixload rfl (fun _ => rfl) rfl rfl rfl rfl rfl rfl rfl hi rfl rfl (Sl.of_obj (hp5.obj 0 rfl) (fun i u h => by simpa using h)) (fl_at p hi) ?_
        intro p1
        repeat (first | refine WC.seq ?_ | refine WC.reg ?_ | refine WL.pure rfl rfl rfl ?_ | refine WL.nil ?_ | refine WC.skip ?_ | refine WC.block ?_ | refine WC.condT rfl ?_ | refine WC.condF rfl ?_ | refine WL.off rfl rfl rfl ?_ | refine WL.off0 rfl rfl ?_ | refine WC.exit ?_ | refine blk_hit ?_ | refine blk_miss rfl ?_ | refine WC.ret ?_)
        refine WL.split 109 rfl (fun h1 => ?_) (fun h1 => ?_)
        · have h1 : p i = i := by simp at h1; omega
          repeat (first | refine WC.seq ?_ | refine WC.reg ?_ | refine WL.pure rfl rfl rfl ?_ | refine WL.nil ?_ | refine WC.skip ?_ | refine WC.block ?_ | refine WC.condT rfl ?_ | refine WC.condF rfl ?_ | refine WL.off rfl rfl rfl ?_ | refine WL.off0 rfl rfl ?_ | refine WC.exit ?_ | refine blk_hit ?_ | refine blk_miss rfl ?_ | refine WC.ret ?_)
          refine WL.split 112 rfl (fun h2 => ?_) (fun h2 => ?_)
          · have h2 : v < 0 := of_decide_eq_true h2
            repeat (first | refine WC.seq ?_ | refine WC.reg ?_ | refine WL.pure rfl rfl rfl ?_ | refine WL.nil ?_ | refine WC.skip ?_ | refine WC.block ?_ | refine WC.condT rfl ?_ | refine WC.condF rfl ?_ | refine WL.off rfl rfl rfl ?_ | refine WL.off0 rfl rfl ?_ | refine WC.exit ?_ | refine blk_hit ?_ | refine blk_miss rfl ?_ | refine WC.ret ?_)
            refine ⟨_, ⟨rfl, rfl, rfl, rfl, rfl, rfl, rfl⟩, ?_, hp5⟩
            rw [h1, ← hWW, Wv, decide_eq_true h2]; simp
          · have h2 : ¬ v < 0 := of_decide_eq_false h2
            obtain ⟨vn, rfl⟩ := Int.eq_ofNat_of_zero_le (show 0 ≤ v by omega)
            repeat (first | refine WC.seq ?_ | refine WC.reg ?_ | refine WL.pure rfl rfl rfl ?_ | refine WL.nil ?_ | refine WC.skip ?_ | refine WC.block ?_ | refine WC.condT rfl ?_ | refine WC.condF rfl ?_ | refine WL.off rfl rfl rfl ?_ | refine WL.off0 rfl rfl ?_ | refine WC.exit ?_ | refine blk_hit ?_ | refine blk_miss rfl ?_ | refine WC.ret ?_)
            refine WL.ixload rfl (fun _ => rfl) rfl rfl rfl rfl rfl rfl rfl hi rfl rfl (hS.hp hp5) (ints_at (by omega)) ?_
            intro p2
            repeat (first | refine WC.seq ?_ | refine WC.reg ?_ | refine WL.pure rfl rfl rfl ?_ | refine WL.nil ?_ | refine WC.skip ?_ | refine WC.block ?_ | refine WC.condT rfl ?_ | refine WC.condF rfl ?_ | refine WL.off rfl rfl rfl ?_ | refine WL.off0 rfl rfl ?_ | refine WC.exit ?_ | refine blk_hit ?_ | refine blk_miss rfl ?_ | refine WC.ret ?_)
            refine WL.callP rfl rfl rfl rfl rfl ent51 (Has_any _ vn (by omega) _) ?_
            repeat (first | refine WC.seq ?_ | refine WC.reg ?_ | refine WL.pure rfl rfl rfl ?_ | refine WL.nil ?_ | refine WC.skip ?_ | refine WC.block ?_ | refine WC.condT rfl ?_ | refine WC.condF rfl ?_ | refine WL.off rfl rfl rfl ?_ | refine WL.off0 rfl rfl ?_ | refine WC.exit ?_ | refine blk_hit ?_ | refine blk_miss rfl ?_ | refine WC.ret ?_)
            refine ⟨_, ⟨rfl, rfl, rfl, rfl, rfl, rfl, rfl⟩, ?_, hp5⟩
            rw [h1, ← hWW, Wv, decide_eq_false h2]; simp
        · have h1 : p i ≠ i := by simp at h1; omega
          repeat (first | refine WC.seq ?_ | refine WC.reg ?_ | refine WL.pure rfl rfl rfl ?_ | refine WL.nil ?_ | refine WC.skip ?_ | refine WC.block ?_ | refine WC.condT rfl ?_ | refine WC.condF rfl ?_ | refine WL.off rfl rfl rfl ?_ | refine WL.off0 rfl rfl ?_ | refine WC.exit ?_ | refine blk_hit ?_ | refine blk_miss rfl ?_ | refine WC.ret ?_)
          refine ⟨_, ⟨rfl, rfl, rfl, rfl, rfl, rfl, rfl⟩, ?_, hp5⟩
          rw [beq_eq_false_iff_ne.2 h1]; rfl
      rintro r e6 w6 hsub ⟨hr6, hp6⟩
      refine WC.sub hsub ?_
      refine WC.cond rfl (fun hq3 => ?_) (fun hq3 => ?_)
      · rw [← hr6, if_pos hq3] at hcs
        repeat (first | refine WC.seq ?_ | refine WC.reg ?_ | refine WL.pure rfl rfl rfl ?_ | refine WL.nil ?_ | refine WC.skip ?_ | refine WC.block ?_ | refine WC.condT rfl ?_ | refine WC.condF rfl ?_ | refine WL.off rfl rfl rfl ?_ | refine WL.off0 rfl rfl ?_ | refine WC.exit ?_ | refine blk_hit ?_ | refine blk_miss rfl ?_ | refine WC.ret ?_)
        exact ⟨i + 1, by show N - (i + 1) < N - i; omega, ⟨rfl, rfl, rfl, by rw [hcs]; exact congrArg (fun z => some (Value.int .i64 z)) e1, congrArg (fun z => some (Value.int .i64 z)) step, rfl⟩, hi, hp6⟩
      · rw [← hr6, if_neg (by rw [hq3]; decide)] at hcs
        repeat (first | refine WC.seq ?_ | refine WC.reg ?_ | refine WL.pure rfl rfl rfl ?_ | refine WL.nil ?_ | refine WC.skip ?_ | refine WC.block ?_ | refine WC.condT rfl ?_ | refine WC.condF rfl ?_ | refine WL.off rfl rfl rfl ?_ | refine WL.off0 rfl rfl ?_ | refine WC.exit ?_ | refine blk_hit ?_ | refine blk_miss rfl ?_ | refine WC.ret ?_)
        exact ⟨i + 1, by show N - (i + 1) < N - i; omega, ⟨rfl, rfl, rfl, by rw [hcs]; rfl, congrArg (fun z => some (Value.int .i64 z)) step, rfl⟩, hi, hp6⟩
    · have hi : i = N := by have := of_decide_eq_false hq2; omega
      subst hi
      repeat (first | refine WC.seq ?_ | refine WC.reg ?_ | refine WL.pure rfl rfl rfl ?_ | refine WL.nil ?_ | refine WC.skip ?_ | refine WC.block ?_ | refine WC.condT rfl ?_ | refine WC.condF rfl ?_ | refine WL.off rfl rfl rfl ?_ | refine WL.off0 rfl rfl ?_ | refine WC.exit ?_ | refine blk_hit ?_ | refine blk_miss rfl ?_ | refine WC.ret ?_)
      refine Res.one rfl rfl rfl ⟨hp5.nil', ?_⟩
      rw [← hcount]
      rfl
end Go.Proofs.YtdnkkflpgebfbaaDoor
