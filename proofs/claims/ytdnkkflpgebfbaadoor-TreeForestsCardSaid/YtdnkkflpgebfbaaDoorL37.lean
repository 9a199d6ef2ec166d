/- The walk of the reference's Right. -/
import Derived.Test.YtdnkkflpgebfbaaDoorL36
namespace Go.Proofs.YtdnkkflpgebfbaaDoor
open Go.W Go.Tree
set_option maxRecDepth 100000
attribute [local irreducible] WC WL WQ WS WH

def rngL (N : Nat) (l : Ed) : Bool := decide (0 ≤ l.1) && (decide (l.1 < N) && (decide (0 ≤ l.2) && (decide (l.2 < N) && decide (l.1 ≠ l.2))))
def covE (ss : List Nat) (e : Ed) : Bool := ss.any fun s => s.testBit e.1.toNat && s.testBit e.2.toNat
def wdL (bs : List (List Int)) (k : Nat) : Int := (bs.take k).foldl (fun m b => max m ((b.length : Int) - 1)) (-1)
theorem wdL_succ {bs : List (List Int)} {k : Nat} (hk : k < bs.length) : wdL bs (k + 1) = max (wdL bs k) ((bs[k].length : Int) - 1) := by
  rw [wdL, List.take_succ_eq_append_getElem hk, List.foldl_append, wdL]
  rfl
theorem wdL_lo (bs : List (List Int)) : ∀ k, k ≤ bs.length → -1 ≤ wdL bs k := by
  intro k
  induction k with
  | zero => intro _; simp [wdL]
  | succ k ih => intro hk; rw [wdL_succ (by omega)]; have := ih (by omega); omega
def partsB (n : Nat) (ss : List Nat) (ls : List Ed) : Bool := (List.range n).all fun v => partsN ss.length (Wv ss (v : Nat)) (lks ls) == 1
def rgtB (n : Nat) (es : List Ed) (bs : List (List Int)) (ls : List Ed) : Bool :=
  decide (1 ≤ bs.length) && (decide (bs.length ≤ 64) && (decide (ls.length + 1 = bs.length) && (bs.all (bagB n) && (ls.all (rngL bs.length) &&
    (partsN bs.length (Wv (bs.map setAll) (-1)) (lks ls) == 1 && (partsB n (bs.map setAll) ls && es.all (covE (bs.map setAll))))))))
def rgtV (n : Nat) (es : List Ed) (bs : List (List Int)) (ls : List Ed) : Value := if rgtB n es bs ls = true then .tuple #[.int .i64 (wdL bs bs.length), .bool true] else .tuple #[.int .i64 0, .bool false]
theorem all_false {α : Type} {l : List α} {p : α → Bool} {x : α} (hx : x ∈ l) (h : p x = false) : l.all p = false := by
  cases hl : l.all p with
  | false => rfl
  | true =>
    rw [List.all_eq_true] at hl
    have := hl x hx
    rw [h] at this; cases this
theorem take_all {α : Type} {l : List α} {p : α → Bool} {k : Nat} (hk : k < l.length) : (l.take (k + 1)).all p = ((l.take k).all p && p l[k]) := by
  rw [List.take_succ_eq_append_getElem hk, List.all_append]; simp
theorem take_any {α : Type} {l : List α} {p : α → Bool} {k : Nat} (hk : k < l.length) : (l.take (k + 1)).any p = ((l.take k).any p || p l[k]) := by
  rw [List.take_succ_eq_append_getElem hk, List.any_append]; simp

theorem Right_any (ea ba la : Option Addr) (ec bc lc : Nat) (g : List Nat) (es : List Ed) (hmk : mkG (g.length : Nat) es = some g) (bl : List BagI) (ls : List Ed) (w : World) (hs : Sl w ea (prs es)) (hA : BagsAt w ba bl)
    (hsm : ∀ b ∈ bl, b.2.2.length ≤ 4611686018427387904) (hbl : bl.length ≤ 4611686018427387904) (hL : Sl w la (prs ls)) :
    Ret Tryd.prog 29 [.int .i64 (g.length : Nat), .slice ea es.length ec, .agg #[.slice ba bl.length bc, .slice la ls.length lc]] w fun v w' => Hp w w' [] ∧ v = rgtV g.length es (bl.map (·.2.2)) ls := by
  obtain ⟨hg, _, _, _, h100⟩ := mkG_gr hmk
  have hn := hg.len
  have hok := mkG_okes hmk
  have hp14 : 2 ^ g.length ≤ 2 ^ 14 := Nat.pow_le_pow_right (by decide) hn
  generalize hbs : bl.map (·.2.2) = bs
  have hbm : bs.length = bl.length := by rw [← hbs]; simp
  generalize hnn : g.length = n at *
  have bad : rgtB n es bs ls = false → ∀ w', Hp w w' [] → Hp w w' [] ∧ .tuple #[.int .i64 0, .bool false] = rgtV n es bs ls := fun h w' hp => ⟨hp, by rw [rgtV, if_neg (by rw [h]; decide)]⟩
  refine enter Tryd.func29 rfl rfl ⟨rfl, rfl⟩ rfl ?_
  repeat (first | refine WC.seq ?_ | refine WC.reg ?_ | refine WL.pure rfl rfl rfl ?_ | refine WL.nil ?_ | refine WC.skip ?_ | refine WC.block ?_ | refine WC.condT rfl ?_ | refine WC.condF rfl ?_ | refine WL.off rfl rfl rfl ?_ | refine WL.off0 rfl rfl ?_ | refine WC.exit ?_ | refine blk_hit ?_ | refine blk_miss rfl ?_ | refine WC.ret ?_)
  refine WL.box rfl rfl rfl ?_
  intro b5 w1 hb5
  have hp1 := (Hp.start w).new hb5
  repeat (first | refine WC.seq ?_ | refine WC.reg ?_ | refine WL.pure rfl rfl rfl ?_ | refine WL.nil ?_ | refine WC.skip ?_ | refine WC.block ?_ | refine WC.condT rfl ?_ | refine WC.condF rfl ?_ | refine WL.off rfl rfl rfl ?_ | refine WL.off0 rfl rfl ?_ | refine WC.exit ?_ | refine blk_hit ?_ | refine blk_miss rfl ?_ | refine WC.ret ?_)
  refine WL.loadB rfl rfl rfl rfl rfl (hp1.obj 0 rfl) rfl ?_
  repeat (first | refine WC.seq ?_ | refine WC.reg ?_ | refine WL.pure rfl rfl rfl ?_ | refine WL.nil ?_ | refine WC.skip ?_ | refine WC.block ?_ | refine WC.condT rfl ?_ | refine WC.condF rfl ?_ | refine WL.off rfl rfl rfl ?_ | refine WL.off0 rfl rfl ?_ | refine WC.exit ?_ | refine blk_hit ?_ | refine blk_miss rfl ?_ | refine WC.ret ?_)
  refine WL.split 27 rfl (fun h1 => ?_) (fun h1 => ?_)
  · have h1 : bl.length < 1 := by have := of_decide_eq_true h1; omega
    repeat (first | refine WC.seq ?_ | refine WC.reg ?_ | refine WL.pure rfl rfl rfl ?_ | refine WL.nil ?_ | refine WC.skip ?_ | refine WC.block ?_ | refine WC.condT rfl ?_ | refine WC.condF rfl ?_ | refine WL.off rfl rfl rfl ?_ | refine WL.off0 rfl rfl ?_ | refine WC.exit ?_ | refine blk_hit ?_ | refine blk_miss rfl ?_ | refine WC.ret ?_)
    exact Res.two rfl rfl rfl rfl (bad (by rw [rgtB, decide_eq_false (by omega)]; rfl) _ hp1.nil')
  have h1 : 1 ≤ bl.length := by have := of_decide_eq_false h1; omega
  repeat (first | refine WC.seq ?_ | refine WC.reg ?_ | refine WL.pure rfl rfl rfl ?_ | refine WL.nil ?_ | refine WC.skip ?_ | refine WC.block ?_ | refine WC.condT rfl ?_ | refine WC.condF rfl ?_ | refine WL.off rfl rfl rfl ?_ | refine WL.off0 rfl rfl ?_ | refine WC.exit ?_ | refine blk_hit ?_ | refine blk_miss rfl ?_ | refine WC.ret ?_)
  refine WL.split 31 rfl (fun h2 => ?_) (fun h2 => ?_)
  · have h2 : 64 < bl.length := by have := of_decide_eq_true h2; omega
    repeat (first | refine WC.seq ?_ | refine WC.reg ?_ | refine WL.pure rfl rfl rfl ?_ | refine WL.nil ?_ | refine WC.skip ?_ | refine WC.block ?_ | refine WC.condT rfl ?_ | refine WC.condF rfl ?_ | refine WL.off rfl rfl rfl ?_ | refine WL.off0 rfl rfl ?_ | refine WC.exit ?_ | refine blk_hit ?_ | refine blk_miss rfl ?_ | refine WC.ret ?_)
    exact Res.two rfl rfl rfl rfl (bad (by rw [rgtB, decide_eq_false (show ¬ bs.length ≤ 64 by omega)]; simp) _ hp1.nil')
  have h2 : bl.length ≤ 64 := by have := of_decide_eq_false h2; omega
  have em : IntKind.i64.wrap ((bl.length : Int) - 1) = ((bl.length - 1 : Nat) : Int) := by rw [wrap_i64_in (by omega) (by omega)]; omega
  repeat (first | refine WC.seq ?_ | refine WC.reg ?_ | refine WL.pure rfl rfl rfl ?_ | refine WL.nil ?_ | refine WC.skip ?_ | refine WC.block ?_ | refine WC.condT rfl ?_ | refine WC.condF rfl ?_ | refine WL.off rfl rfl rfl ?_ | refine WL.off0 rfl rfl ?_ | refine WC.exit ?_ | refine blk_hit ?_ | refine blk_miss rfl ?_ | refine WC.ret ?_)
  refine WL.loadB rfl rfl rfl rfl rfl (hp1.obj 0 rfl) rfl ?_
  repeat (first | refine WC.seq ?_ | refine WC.reg ?_ | refine WL.pure rfl rfl rfl ?_ | refine WL.nil ?_ | refine WC.skip ?_ | refine WC.block ?_ | refine WC.condT rfl ?_ | refine WC.condF rfl ?_ | refine WL.off rfl rfl rfl ?_ | refine WL.off0 rfl rfl ?_ | refine WC.exit ?_ | refine blk_hit ?_ | refine blk_miss rfl ?_ | refine WC.ret ?_)
  refine WC.cond rfl (fun h3 => ?_) (fun h3 => ?_)
  · rw [em] at h3
    have h3 : ls.length + 1 ≠ bl.length := by simp at h3; omega
    repeat (first | refine WC.seq ?_ | refine WC.reg ?_ | refine WL.pure rfl rfl rfl ?_ | refine WL.nil ?_ | refine WC.skip ?_ | refine WC.block ?_ | refine WC.condT rfl ?_ | refine WC.condF rfl ?_ | refine WL.off rfl rfl rfl ?_ | refine WL.off0 rfl rfl ?_ | refine WC.exit ?_ | refine blk_hit ?_ | refine blk_miss rfl ?_ | refine WC.ret ?_)
    exact Res.two rfl rfl rfl rfl (bad (by rw [rgtB, decide_eq_false (show ¬ ls.length + 1 = bs.length by omega)]; simp) _ hp1.nil')
  rw [em] at h3
  have h3 : ls.length + 1 = bl.length := by simp at h3; omega
  have hr0 : rgtB n es bs ls = (bs.all (bagB n) && (ls.all (rngL bs.length) && (partsN bs.length (Wv (bs.map setAll) (-1)) (lks ls) == 1 && (partsB n (bs.map setAll) ls && es.all (covE (bs.map setAll)))))) := by
    rw [rgtB, decide_eq_true (show 1 ≤ bs.length by omega), decide_eq_true (show bs.length ≤ 64 by omega), decide_eq_true (show ls.length + 1 = bs.length by omega)]; rfl
  have hp1 := hp1.nilrow 3 1
  have L1 : ∀ {w' : World} {k : Nat} {a : Option Addr} {c : Nat} {xs : List Nat}, Hp w w' [.row 3 1 (.slice a k c) k (ints xs), .blk b5 (.cells #[.slice ba bl.length bc, .slice la ls.length lc] 46 (0, 0))] → w'.heap[b5]? = some (.cells #[.slice ba bl.length bc, .slice la ls.length lc] 46 (0, 0)) := fun h => h.obj 1 rfl
  repeat (first | refine WC.seq ?_ | refine WC.reg ?_ | refine WL.pure rfl rfl rfl ?_ | refine WL.nil ?_ | refine WC.skip ?_ | refine WC.block ?_ | refine WC.condT rfl ?_ | refine WC.condF rfl ?_ | refine WL.off rfl rfl rfl ?_ | refine WL.off0 rfl rfl ?_ | refine WC.exit ?_ | refine blk_hit ?_ | refine blk_miss rfl ?_ | refine WC.ret ?_)
  refine WC.loop (Nat × Option Addr × Nat) (fun (k, a, c) => [(0, .int .i64 (n : Nat)), (1, .slice ea es.length ec), (5, .pointer (some ⟨b5, 0, none⟩)), (8, .int .i64 (bl.length : Nat)), (9, .int .i64 (wdL bs k)), (10, .slice a k c), (11, .int .i64 (k : Nat))])
    (fun (k, a, c) w' => k ≤ bl.length ∧ (bs.take k).all (bagB n) = true ∧ Hp w w' [.row 3 1 (.slice a k c) k (ints ((bs.take k).map setAll)), .blk b5 (.cells #[.slice ba bl.length bc, .slice la ls.length lc] 46 (0, 0))]) (fun (k, _) => bl.length - k) (0, none, 0)
    ⟨rfl, rfl, rfl, rfl, rfl, rfl, rfl, rfl⟩ ⟨Nat.zero_le _, rfl, hp1⟩ ?_
  rintro ⟨k, a, c⟩ w2 ⟨hk, hall, hp2⟩
  repeat (first | refine WC.seq ?_ | refine WC.reg ?_ | refine WL.pure rfl rfl rfl ?_ | refine WL.nil ?_ | refine WC.skip ?_ | refine WC.block ?_ | refine WC.condT rfl ?_ | refine WC.condF rfl ?_ | refine WL.off rfl rfl rfl ?_ | refine WL.off0 rfl rfl ?_ | refine WC.exit ?_ | refine blk_hit ?_ | refine blk_miss rfl ?_ | refine WC.ret ?_)
  refine WC.cond rfl (fun hq => ?_) (fun hq => ?_)
  · have hk : k < bl.length := by have := of_decide_eq_true hq; omega
    have step : IntKind.i64.wrap ((k : Int) + 1) = ((k + 1 : Nat) : Int) := by rw [wrap_i64_in (by omega) (by omega)]; omega
    have hmem : bl[k] ∈ bl := List.getElem_mem hk
    have hvk := bagVI_at hk
    have hkb : k < bs.length := by omega
    have hbk : bs[k] = bl[k].2.2 := by simp [← hbs]
    have hta := take_all (p := bagB n) hkb
    have hwk := wdL_succ hkb
    have hwl := wdL_lo bs k (by omega)
    have hts : bs.take (k + 1) = bs.take k ++ [bs[k]] := List.take_succ_eq_append_getElem hkb
    rw [hbk] at hta hwk hts
    generalize hb : bl[k] = b at *
    have hbl2 := hsm b hmem
    have hbmem : b.2.2 ∈ bs := by rw [← hbs]; exact List.mem_map.2 ⟨b, hmem, rfl⟩
    repeat (first | refine WC.seq ?_ | refine WC.reg ?_ | refine WL.pure rfl rfl rfl ?_ | refine WL.nil ?_ | refine WC.skip ?_ | refine WC.block ?_ | refine WC.condT rfl ?_ | refine WC.condF rfl ?_ | refine WL.off rfl rfl rfl ?_ | refine WL.off0 rfl rfl ?_ | refine WC.exit ?_ | refine blk_hit ?_ | refine blk_miss rfl ?_ | refine WC.ret ?_)
    refine WC.loop Nat (fun i => [(0, .int .i64 (n : Nat)), (1, .slice ea es.length ec), (5, .pointer (some ⟨b5, 0, none⟩)), (8, .int .i64 (bl.length : Nat)), (9, .int .i64 (wdL bs k)), (10, .slice a k c), (11, .int .i64 (k : Nat)), (12, .int .i64 (setTo b.2.2 i : Nat)), (13, .int .i64 (i : Nat))])
      (fun i w' => i ≤ b.2.2.length ∧ okTo n b.2.2 i = true ∧ Hp w w' [.row 3 1 (.slice a k c) k (ints ((bs.take k).map setAll)), .blk b5 (.cells #[.slice ba bl.length bc, .slice la ls.length lc] 46 (0, 0))]) (fun i => b.2.2.length - i) 0
      ⟨rfl, rfl, rfl, rfl, rfl, rfl, rfl, rfl, rfl, rfl⟩ ⟨Nat.zero_le _, rfl, hp2⟩ ?_
    rintro i w3 ⟨hi, hoki, hp3⟩
    have sA := (hA.hp hp3).1
    have sB := (hA.hp hp3).2 b hmem
    repeat (first | refine WC.seq ?_ | refine WC.reg ?_ | refine WL.pure rfl rfl rfl ?_ | refine WL.nil ?_ | refine WC.skip ?_ | refine WC.block ?_ | refine WC.condT rfl ?_ | refine WC.condF rfl ?_ | refine WL.off rfl rfl rfl ?_ | refine WL.off0 rfl rfl ?_ | refine WC.exit ?_ | refine blk_hit ?_ | refine blk_miss rfl ?_ | refine WC.ret ?_)
    refine WL.loadB rfl rfl rfl rfl rfl (L1 hp3) rfl ?_
    repeat (first | refine WC.seq ?_ | refine WC.reg ?_ | refine WL.pure rfl rfl rfl ?_ | refine WL.nil ?_ | refine WC.skip ?_ | refine WC.block ?_ | refine WC.condT rfl ?_ | refine WC.condF rfl ?_ | refine WL.off rfl rfl rfl ?_ | refine WL.off0 rfl rfl ?_ | refine WC.exit ?_ | refine blk_hit ?_ | refine blk_miss rfl ?_ | refine WC.ret ?_)
    refine WL.ixload rfl (fun _ => rfl) rfl rfl rfl rfl rfl rfl rfl hk rfl rfl sA hvk ?_
    intro p
    repeat (first | refine WC.seq ?_ | refine WC.reg ?_ | refine WL.pure rfl rfl rfl ?_ | refine WL.nil ?_ | refine WC.skip ?_ | refine WC.block ?_ | refine WC.condT rfl ?_ | refine WC.condF rfl ?_ | refine WL.off rfl rfl rfl ?_ | refine WL.off0 rfl rfl ?_ | refine WC.exit ?_ | refine blk_hit ?_ | refine blk_miss rfl ?_ | refine WC.ret ?_)
    refine WC.cond rfl (fun hq2 => ?_) (fun hq2 => ?_)
    · have hi : i < b.2.2.length := by have := of_decide_eq_true hq2; omega
      have step2 : IntKind.i64.wrap ((i : Int) + 1) = ((i + 1 : Nat) : Int) := by rw [wrap_i64_in (by omega) (by omega)]; omega
      have hos := okTo_succ n b.2.2 i
      have hss := setTo_succ hi
      have hlt := setTo_lt (n := n) i (by omega) hoki
      have badI : okAt n b.2.2 i = false → Hp w w3 [] ∧ .tuple #[.int .i64 0, .bool false] = rgtV n es bs ls := by
        intro h
        refine bad ?_ _ hp3.nil'
        rw [hr0, all_false hbmem (by rw [bagB]; exact okTo_mono h _ hi)]
        rfl
      generalize hxv : b.2.2.getD i 0 = x at *
      have hget : (zs b.2.2)[i]? = some (.int .i64 x) := by rw [zs_get hi, hxv]
      repeat (first | refine WC.seq ?_ | refine WC.reg ?_ | refine WL.pure rfl rfl rfl ?_ | refine WL.nil ?_ | refine WC.skip ?_ | refine WC.block ?_ | refine WC.condT rfl ?_ | refine WC.condF rfl ?_ | refine WL.off rfl rfl rfl ?_ | refine WL.off0 rfl rfl ?_ | refine WC.exit ?_ | refine blk_hit ?_ | refine blk_miss rfl ?_ | refine WC.ret ?_)
      refine WL.loadB rfl rfl rfl rfl rfl (L1 hp3) rfl ?_
      repeat (first | refine WC.seq ?_ | refine WC.reg ?_ | refine WL.pure rfl rfl rfl ?_ | refine WL.nil ?_ | refine WC.skip ?_ | refine WC.block ?_ | refine WC.condT rfl ?_ | refine WC.condF rfl ?_ | refine WL.off rfl rfl rfl ?_ | refine WL.off0 rfl rfl ?_ | refine WC.exit ?_ | refine blk_hit ?_ | refine blk_miss rfl ?_ | refine WC.ret ?_)
      refine WL.ixload rfl (fun _ => rfl) rfl rfl rfl rfl rfl rfl rfl hk rfl rfl sA hvk ?_
      intro p2
      refine WL.pure rfl rfl rfl ?_
      refine WL.ixload rfl (fun _ => rfl) rfl rfl rfl rfl rfl rfl rfl hi rfl rfl sB hget ?_
      intro p3
      repeat (first | refine WC.seq ?_ | refine WC.reg ?_ | refine WL.pure rfl rfl rfl ?_ | refine WL.nil ?_ | refine WC.skip ?_ | refine WC.block ?_ | refine WC.condT rfl ?_ | refine WC.condF rfl ?_ | refine WL.off rfl rfl rfl ?_ | refine WL.off0 rfl rfl ?_ | refine WC.exit ?_ | refine blk_hit ?_ | refine blk_miss rfl ?_ | refine WC.ret ?_)
      refine WL.split 64 rfl (fun h1 => ?_) (fun h1 => ?_)
      · have h1 : x < 0 := of_decide_eq_true h1
        repeat (first | refine WC.seq ?_ | refine WC.reg ?_ | refine WL.pure rfl rfl rfl ?_ | refine WL.nil ?_ | refine WC.skip ?_ | refine WC.block ?_ | refine WC.condT rfl ?_ | refine WC.condF rfl ?_ | refine WL.off rfl rfl rfl ?_ | refine WL.off0 rfl rfl ?_ | refine WC.exit ?_ | refine blk_hit ?_ | refine blk_miss rfl ?_ | refine WC.ret ?_)
        exact Res.two rfl rfl rfl rfl (badI (by rw [okAt, hxv, decide_eq_false (by omega)]; rfl))
      have h1 : ¬ x < 0 := of_decide_eq_false h1
      repeat (first | refine WC.seq ?_ | refine WC.reg ?_ | refine WL.pure rfl rfl rfl ?_ | refine WL.nil ?_ | refine WC.skip ?_ | refine WC.block ?_ | refine WC.condT rfl ?_ | refine WC.condF rfl ?_ | refine WL.off rfl rfl rfl ?_ | refine WL.off0 rfl rfl ?_ | refine WC.exit ?_ | refine blk_hit ?_ | refine blk_miss rfl ?_ | refine WC.ret ?_)
      refine WL.split 69 rfl (fun h2 => ?_) (fun h2 => ?_)
      · have h2 : (n : Int) ≤ x := of_decide_eq_true h2
        repeat (first | refine WC.seq ?_ | refine WC.reg ?_ | refine WL.pure rfl rfl rfl ?_ | refine WL.nil ?_ | refine WC.skip ?_ | refine WC.block ?_ | refine WC.condT rfl ?_ | refine WC.condF rfl ?_ | refine WL.off rfl rfl rfl ?_ | refine WL.off0 rfl rfl ?_ | refine WC.exit ?_ | refine blk_hit ?_ | refine blk_miss rfl ?_ | refine WC.ret ?_)
        exact Res.two rfl rfl rfl rfl (badI (by rw [okAt, hxv, decide_eq_false (show ¬ x < n by omega), Bool.and_false]; rfl))
      have h2 : ¬ (n : Int) ≤ x := of_decide_eq_false h2
      obtain ⟨u, rfl⟩ := Int.eq_ofNat_of_zero_le (show 0 ≤ x by omega)
      have hu : u < n := by omega
      have h2u : 2 ^ u < 2 ^ n := Nat.pow_lt_pow_right (by decide) hu
      have eor : bits .or .i64 ((setTo b.2.2 i : Nat) : Int) ((2 ^ u : Nat) : Int) = ((setTo b.2.2 i ||| 2 ^ u : Nat) : Int) := or_i64 (by omega) (by omega)
      have hss : setTo b.2.2 (i + 1) = setTo b.2.2 i ||| 2 ^ u := hss
      have hgood : okAt n b.2.2 i = true → okTo n b.2.2 (i + 1) = true := fun h => by rw [hos, hoki, h]; rfl
      repeat (first | refine WC.seq ?_ | refine WC.reg ?_ | refine WL.pure rfl rfl rfl ?_ | refine WL.nil ?_ | refine WC.skip ?_ | refine WC.block ?_ | refine WC.condT rfl ?_ | refine WC.condF rfl ?_ | refine WL.off rfl rfl rfl ?_ | refine WL.off0 rfl rfl ?_ | refine WC.exit ?_ | refine blk_hit ?_ | refine blk_miss rfl ?_ | refine WC.ret ?_)
      refine WL.split 72 rfl (fun h3 => ?_) (fun h3 => ?_)
      · have h3 : 0 < i := by have := of_decide_eq_true h3; omega
        have ei : IntKind.i64.wrap ((i : Int) - 1) = ((i - 1 : Nat) : Int) := by rw [wrap_i64_in (by omega) (by omega)]; omega
        repeat (first | refine WC.seq ?_ | refine WC.reg ?_ | refine WL.pure rfl rfl rfl ?_ | refine WL.nil ?_ | refine WC.skip ?_ | refine WC.block ?_ | refine WC.condT rfl ?_ | refine WC.condF rfl ?_ | refine WL.off rfl rfl rfl ?_ | refine WL.off0 rfl rfl ?_ | refine WC.exit ?_ | refine blk_hit ?_ | refine blk_miss rfl ?_ | refine WC.ret ?_)
        refine WL.loadB rfl rfl rfl rfl rfl (L1 hp3) rfl ?_
        repeat (first | refine WC.seq ?_ | refine WC.reg ?_ | refine WL.pure rfl rfl rfl ?_ | refine WL.nil ?_ | refine WC.skip ?_ | refine WC.block ?_ | refine WC.condT rfl ?_ | refine WC.condF rfl ?_ | refine WL.off rfl rfl rfl ?_ | refine WL.off0 rfl rfl ?_ | refine WC.exit ?_ | refine blk_hit ?_ | refine blk_miss rfl ?_ | refine WC.ret ?_)
        refine WL.ixload rfl (fun _ => rfl) rfl rfl rfl rfl rfl rfl rfl hk rfl rfl sA hvk ?_
        intro p4
        repeat (first | refine WC.seq ?_ | refine WC.reg ?_ | refine WL.pure rfl rfl rfl ?_ | refine WL.nil ?_ | refine WC.skip ?_ | refine WC.block ?_ | refine WC.condT rfl ?_ | refine WC.condF rfl ?_ | refine WL.off rfl rfl rfl ?_ | refine WL.off0 rfl rfl ?_ | refine WC.exit ?_ | refine blk_hit ?_ | refine blk_miss rfl ?_ | refine WC.ret ?_)
        refine WL.known (d := 79) (congrArg (fun z => some (Value.int .i64 z)) ei) ?_
        refine WL.ixload rfl (fun _ => rfl) rfl rfl rfl rfl rfl rfl rfl (j := i - 1) (by omega) rfl rfl sB (zs_get (by omega)) ?_
        intro p5
        repeat (first | refine WC.seq ?_ | refine WC.reg ?_ | refine WL.pure rfl rfl rfl ?_ | refine WL.nil ?_ | refine WC.skip ?_ | refine WC.block ?_ | refine WC.condT rfl ?_ | refine WC.condF rfl ?_ | refine WL.off rfl rfl rfl ?_ | refine WL.off0 rfl rfl ?_ | refine WC.exit ?_ | refine blk_hit ?_ | refine blk_miss rfl ?_ | refine WC.ret ?_)
        refine WC.cond rfl (fun h4 => ?_) (fun h4 => ?_)
        · have h4 : (u : Int) ≤ b.2.2.getD (i - 1) 0 := of_decide_eq_true h4
          repeat (first | refine WC.seq ?_ | refine WC.reg ?_ | refine WL.pure rfl rfl rfl ?_ | refine WL.nil ?_ | refine WC.skip ?_ | refine WC.block ?_ | refine WC.condT rfl ?_ | refine WC.condF rfl ?_ | refine WL.off rfl rfl rfl ?_ | refine WL.off0 rfl rfl ?_ | refine WC.exit ?_ | refine blk_hit ?_ | refine blk_miss rfl ?_ | refine WC.ret ?_)
          refine Res.two rfl rfl rfl rfl (badI ?_)
          rw [okAt, hxv, decide_eq_false (show ¬ b.2.2.getD (i - 1) 0 < (u : Int) by omega), beq_eq_false_iff_ne.2 (show i ≠ 0 by omega)]; simp
        · have h4 : ¬ (u : Int) ≤ b.2.2.getD (i - 1) 0 := of_decide_eq_false h4
          have hoa : okAt n b.2.2 i = true := by
            rw [okAt, hxv, decide_eq_true (show b.2.2.getD (i - 1) 0 < (u : Int) by omega), decide_eq_true (show (0 : Int) ≤ u by omega), decide_eq_true (show (u : Int) < n by omega)]; simp
          repeat (first | refine WC.seq ?_ | refine WC.reg ?_ | refine WL.pure rfl rfl rfl ?_ | refine WL.nil ?_ | refine WC.skip ?_ | refine WC.block ?_ | refine WC.condT rfl ?_ | refine WC.condF rfl ?_ | refine WL.off rfl rfl rfl ?_ | refine WL.off0 rfl rfl ?_ | refine WC.exit ?_ | refine blk_hit ?_ | refine blk_miss rfl ?_ | refine WC.ret ?_)
          refine WL.callP rfl rfl rfl rfl rfl ent52 (bit_any u (by omega) _) ?_
          repeat (first | refine WC.seq ?_ | refine WC.reg ?_ | refine WL.pure rfl rfl rfl ?_ | refine WL.nil ?_ | refine WC.skip ?_ | refine WC.block ?_ | refine WC.condT rfl ?_ | refine WC.condF rfl ?_ | refine WL.off rfl rfl rfl ?_ | refine WL.off0 rfl rfl ?_ | refine WC.exit ?_ | refine blk_hit ?_ | refine blk_miss rfl ?_ | refine WC.ret ?_)
          exact ⟨i + 1, by show b.2.2.length - (i + 1) < b.2.2.length - i; omega, ⟨rfl, rfl, rfl, rfl, rfl, rfl, rfl, by rw [hss, ← eor]; rfl, congrArg (fun z => some (Value.int .i64 z)) step2, rfl⟩, hi, hgood hoa, hp3⟩
      · have h3 : i = 0 := by have := of_decide_eq_false h3; omega
        have hoa : okAt n b.2.2 i = true := by
          rw [okAt, hxv, decide_eq_true (show (0 : Int) ≤ u by omega), decide_eq_true (show (u : Int) < n by omega), h3]; rfl
        repeat (first | refine WC.seq ?_ | refine WC.reg ?_ | refine WL.pure rfl rfl rfl ?_ | refine WL.nil ?_ | refine WC.skip ?_ | refine WC.block ?_ | refine WC.condT rfl ?_ | refine WC.condF rfl ?_ | refine WL.off rfl rfl rfl ?_ | refine WL.off0 rfl rfl ?_ | refine WC.exit ?_ | refine blk_hit ?_ | refine blk_miss rfl ?_ | refine WC.ret ?_)
        refine WL.callP rfl rfl rfl rfl rfl ent52 (bit_any u (by omega) _) ?_
        repeat (first | refine WC.seq ?_ | refine WC.reg ?_ | refine WL.pure rfl rfl rfl ?_ | refine WL.nil ?_ | refine WC.skip ?_ | refine WC.block ?_ | refine WC.condT rfl ?_ | refine WC.condF rfl ?_ | refine WL.off rfl rfl rfl ?_ | refine WL.off0 rfl rfl ?_ | refine WC.exit ?_ | refine blk_hit ?_ | refine blk_miss rfl ?_ | refine WC.ret ?_)
        exact ⟨i + 1, by show b.2.2.length - (i + 1) < b.2.2.length - i; omega, ⟨rfl, rfl, rfl, rfl, rfl, rfl, rfl, by rw [hss, ← eor]; rfl, congrArg (fun z => some (Value.int .i64 z)) step2, rfl⟩, hi, hgood hoa, hp3⟩
    · have hi : i = b.2.2.length := by have := of_decide_eq_false hq2; omega
      subst hi
      have ew : max (wdL bs k) (IntKind.i64.wrap ((b.2.2.length : Int) - 1)) = wdL bs (k + 1) := by
        have : IntKind.i64.wrap ((b.2.2.length : Int) - 1) = (b.2.2.length : Int) - 1 := by rw [IntKind.wrap_i64]; omega
        rw [hwk, this]
      repeat (first | refine WC.seq ?_ | refine WC.reg ?_ | refine WL.pure rfl rfl rfl ?_ | refine WL.nil ?_ | refine WC.skip ?_ | refine WC.block ?_ | refine WC.condT rfl ?_ | refine WC.condF rfl ?_ | refine WL.off rfl rfl rfl ?_ | refine WL.off0 rfl rfl ?_ | refine WC.exit ?_ | refine blk_hit ?_ | refine blk_miss rfl ?_ | refine WC.ret ?_)
      refine WL.buildS (cs := [.int .i64 (setAll b.2.2 : Nat)]) rfl rfl rfl rfl rfl rfl rfl rfl rfl ?_
      intro bs2 w4 hbs4
      have hp4 := hp3.new hbs4
      refine WL.append 1 hp4 rfl rfl rfl rfl rfl Nat.zero_lt_one rfl rfl rfl (news := [.int .i64 (setAll b.2.2 : Nat)]) (Sl.of_obj (hp4.obj 0 rfl) (fun q u hq => by simpa using hq)) rfl (Cells.cons rfl Cells.nil) (by unfold maxLen; omega) (by show (k + 1) * 8 ≤ _; omega) ?_
      intro a' c' w5 hp5 hg5
      have hx4 : ints ((bs.take k).map setAll) ++ [Value.int .i64 (setAll b.2.2 : Nat)] = ints ((bs.take (k + 1)).map setAll) := by rw [hts]; simp [ints]
      rw [hx4] at hp5
      have hp5 : Hp w w5 [.row 3 1 (.slice a' (k + 1) c') (k + 1) (ints ((bs.take (k + 1)).map setAll)), .blk b5 (.cells #[.slice ba bl.length bc, .slice la ls.length lc] 46 (0, 0))] := hp5.tail
      repeat (first | refine WC.seq ?_ | refine WC.reg ?_ | refine WL.pure rfl rfl rfl ?_ | refine WL.nil ?_ | refine WC.skip ?_ | refine WC.block ?_ | refine WC.condT rfl ?_ | refine WC.condF rfl ?_ | refine WL.off rfl rfl rfl ?_ | refine WL.off0 rfl rfl ?_ | refine WC.exit ?_ | refine blk_hit ?_ | refine blk_miss rfl ?_ | refine WC.ret ?_)
      refine WL.loadB rfl rfl rfl rfl rfl (L1 hp5) rfl ?_
      repeat (first | refine WC.seq ?_ | refine WC.reg ?_ | refine WL.pure rfl rfl rfl ?_ | refine WL.nil ?_ | refine WC.skip ?_ | refine WC.block ?_ | refine WC.condT rfl ?_ | refine WC.condF rfl ?_ | refine WL.off rfl rfl rfl ?_ | refine WL.off0 rfl rfl ?_ | refine WC.exit ?_ | refine blk_hit ?_ | refine blk_miss rfl ?_ | refine WC.ret ?_)
      refine WL.ixload rfl (fun _ => rfl) rfl rfl rfl rfl rfl rfl rfl hk rfl rfl (hA.hp hp5).1 hvk ?_
      intro p6
      repeat (first | refine WC.seq ?_ | refine WC.reg ?_ | refine WL.pure rfl rfl rfl ?_ | refine WL.nil ?_ | refine WC.skip ?_ | refine WC.block ?_ | refine WC.condT rfl ?_ | refine WC.condF rfl ?_ | refine WL.off rfl rfl rfl ?_ | refine WL.off0 rfl rfl ?_ | refine WC.exit ?_ | refine blk_hit ?_ | refine blk_miss rfl ?_ | refine WC.ret ?_)
      exact ⟨(k + 1, a', c'), by show bl.length - (k + 1) < bl.length - k; omega, ⟨rfl, rfl, rfl, rfl, congrArg (fun z => some (Value.int .i64 z)) ew, rfl, congrArg (fun z => some (Value.int .i64 z)) step, rfl⟩, hk, by rw [hta, hall]; exact hoki, hp5⟩
  have hk : k = bl.length := by have := of_decide_eq_false hq; omega
  subst hk
  rw [List.take_of_length_le (by omega)] at hall hp2
  have hsets : ∀ x ∈ bs.map setAll, x < 16384 := by
    intro x hx
    obtain ⟨b, hb, rfl⟩ := List.mem_map.1 hx
    rw [List.all_eq_true] at hall
    exact Nat.lt_of_lt_of_le (setTo_lt b.length (Nat.le_refl _) (hall b hb)) hp14
  have hssl : (bs.map setAll).length = bl.length := by simp [hbm]
  rw [hall, Bool.true_and] at hr0
  rw [hbm] at hr0
  generalize hss : bs.map setAll = ss at *
  have sS : ∀ {w' : World}, Hp w w' [.row 3 1 (.slice a bl.length c) bl.length (ints ss), .blk b5 (.cells #[.slice ba bl.length bc, .slice la ls.length lc] 46 (0, 0))] → Sl w' a (ints ss) := fun h => Sl.of_row (h.at 0 rfl)
  clear hq
  repeat (first | refine WC.seq ?_ | refine WC.reg ?_ | refine WL.pure rfl rfl rfl ?_ | refine WL.nil ?_ | refine WC.skip ?_ | refine WC.block ?_ | refine WC.condT rfl ?_ | refine WC.condF rfl ?_ | refine WL.off rfl rfl rfl ?_ | refine WL.off0 rfl rfl ?_ | refine WC.exit ?_ | refine blk_hit ?_ | refine blk_miss rfl ?_ | refine WC.ret ?_)
  refine WC.loop Nat (fun i => [(0, .int .i64 (n : Nat)), (1, .slice ea es.length ec), (5, .pointer (some ⟨b5, 0, none⟩)), (8, .int .i64 (bl.length : Nat)), (9, .int .i64 (wdL bs bl.length)), (10, .slice a bl.length c), (15, .int .i64 (i : Nat))])
    (fun i w' => i ≤ ls.length ∧ (ls.take i).all (rngL bl.length) = true ∧ Hp w w' [.row 3 1 (.slice a bl.length c) bl.length (ints ss), .blk b5 (.cells #[.slice ba bl.length bc, .slice la ls.length lc] 46 (0, 0))]) (fun i => ls.length - i) 0
    ⟨rfl, rfl, rfl, rfl, rfl, rfl, rfl, rfl⟩ ⟨Nat.zero_le _, rfl, hp2⟩ ?_
  rintro i w3 ⟨hi, hall, hp3⟩
  repeat (first | refine WC.seq ?_ | refine WC.reg ?_ | refine WL.pure rfl rfl rfl ?_ | refine WL.nil ?_ | refine WC.skip ?_ | refine WC.block ?_ | refine WC.condT rfl ?_ | refine WC.condF rfl ?_ | refine WL.off rfl rfl rfl ?_ | refine WL.off0 rfl rfl ?_ | refine WC.exit ?_ | refine blk_hit ?_ | refine blk_miss rfl ?_ | refine WC.ret ?_)
  refine WL.loadB rfl rfl rfl rfl rfl (L1 hp3) rfl ?_
  repeat (first | refine WC.seq ?_ | refine WC.reg ?_ | refine WL.pure rfl rfl rfl ?_ | refine WL.nil ?_ | refine WC.skip ?_ | refine WC.block ?_ | refine WC.condT rfl ?_ | refine WC.condF rfl ?_ | refine WL.off rfl rfl rfl ?_ | refine WL.off0 rfl rfl ?_ | refine WC.exit ?_ | refine blk_hit ?_ | refine blk_miss rfl ?_ | refine WC.ret ?_)
  refine WC.cond rfl (fun hq => ?_) (fun hq => ?_)
  · have hi : i < ls.length := by have := of_decide_eq_true hq; omega
    have step : IntKind.i64.wrap ((i : Int) + 1) = ((i + 1 : Nat) : Int) := by rw [wrap_i64_in (by omega) (by omega)]; omega
    have hpg := prs_get hi
    have hta := take_all (p := rngL bl.length) hi
    have hmem : ls[i] ∈ ls := List.getElem_mem hi
    generalize hlk : ls[i] = l at *
    obtain ⟨x, y⟩ := l
    obtain ⟨bL, oL, rfl⟩ := Sl.some hL hpg.1
    have cL : ∀ w', Hp w w' [.row 3 1 (.slice a bl.length c) bl.length (ints ss), .blk b5 (.cells #[.slice ba bl.length bc, .slice (some ⟨bL, oL, none⟩) ls.length lc] 46 (0, 0))] →
        w'.cell? ⟨b5, 0 + 1, none⟩ = some (.slice (some ⟨bL, oL, none⟩) ls.length lc) ∧ w'.cell? ⟨bL, oL + i * 2 + 0 * 1, none⟩ = some (.int .i64 x) ∧ w'.cell? ⟨bL, oL + i * 2 + 1 * 1, none⟩ = some (.int .i64 y) := by
      intro w' h
      have h1 := Sl.cell (hL.hp h) hpg.1
      have h2 := Sl.cell (hL.hp h) hpg.2
      rw [← Nat.add_assoc] at h1 h2
      exact ⟨cell_of_obj (L1 h) rfl, h1, h2⟩
    repeat (first | refine WC.seq ?_ | refine WC.reg ?_ | refine WL.pure rfl rfl rfl ?_ | refine WL.nil ?_ | refine WC.skip ?_ | refine WC.block ?_ | refine WC.condT rfl ?_ | refine WC.condF rfl ?_ | refine WL.off rfl rfl rfl ?_ | refine WL.off0 rfl rfl ?_ | refine WC.exit ?_ | refine blk_hit ?_ | refine blk_miss rfl ?_ | refine WC.ret ?_)
    refine WC.mid Unit (fun _ => [(0, .int .i64 (n : Nat)), (1, .slice ea es.length ec), (5, .pointer (some ⟨b5, 0, none⟩)), (8, .int .i64 (bl.length : Nat)), (9, .int .i64 (wdL bs bl.length)), (10, .slice a bl.length c), (15, .int .i64 (i : Nat)), (16, .int .i64 x), (17, .int .i64 y)])
      (fun _ w' => Hp w w' [.row 3 1 (.slice a bl.length c) bl.length (ints ss), .blk b5 (.cells #[.slice ba bl.length bc, .slice (some ⟨bL, oL, none⟩) ls.length lc] 46 (0, 0))]) ?_ ?_
    · refine WC.regQ (fun w' => Hp w w' _) mixed (by kernel_rfl) (fun w' hw' => hp3.keep hw') ?_
      repeat (first | refine WQ.pure rfl rfl rfl ?_ | refine WQ.off rfl rfl rfl ?_ | refine WQ.nil ?_)
      refine WQ.load rfl rfl rfl rfl rfl (fun w' h => (cL w' h).1) ?_
      repeat (first | refine WQ.pure rfl rfl rfl ?_ | refine WQ.off rfl rfl rfl ?_ | refine WQ.nil ?_)
      refine WQ.ix rfl rfl rfl rfl rfl rfl hi ?_
      repeat (first | refine WQ.pure rfl rfl rfl ?_ | refine WQ.off rfl rfl rfl ?_ | refine WQ.nil ?_)
      refine WQ.load rfl rfl rfl rfl rfl (fun w' h => (cL w' h).2.1) ?_
      repeat (first | refine WQ.pure rfl rfl rfl ?_ | refine WQ.off rfl rfl rfl ?_ | refine WQ.nil ?_)
      refine WQ.load rfl rfl rfl rfl rfl (fun w' h => (cL w' h).1) ?_
      repeat (first | refine WQ.pure rfl rfl rfl ?_ | refine WQ.off rfl rfl rfl ?_ | refine WQ.nil ?_)
      refine WQ.ix rfl rfl rfl rfl rfl rfl hi ?_
      repeat (first | refine WQ.pure rfl rfl rfl ?_ | refine WQ.off rfl rfl rfl ?_ | refine WQ.nil ?_)
      refine WQ.load rfl rfl rfl rfl rfl (fun w' h => (cL w' h).2.2) ?_
      repeat (first | refine WQ.pure rfl rfl rfl ?_ | refine WQ.off rfl rfl rfl ?_ | refine WQ.nil ?_)
      intro w' h
      exact ⟨(), ⟨rfl, rfl, rfl, rfl, rfl, rfl, rfl, rfl, rfl, rfl⟩, h⟩
    rintro ⟨⟩ e4 w4 hsub hp4
    refine WC.sub hsub ?_
    clear hsub hp3
    have badL : rngL bl.length (x, y) = false → Hp w w4 [] ∧ .tuple #[.int .i64 0, .bool false] = rgtV n es bs ls := fun h => bad (by rw [hr0, all_false hmem h]; rfl) _ hp4.nil'
    repeat (first | refine WC.seq ?_ | refine WC.reg ?_ | refine WL.pure rfl rfl rfl ?_ | refine WL.nil ?_ | refine WC.skip ?_ | refine WC.block ?_ | refine WC.condT rfl ?_ | refine WC.condF rfl ?_ | refine WL.off rfl rfl rfl ?_ | refine WL.off0 rfl rfl ?_ | refine WC.exit ?_ | refine blk_hit ?_ | refine blk_miss rfl ?_ | refine WC.ret ?_)
    refine WL.split 124 rfl (fun h1 => ?_) (fun h1 => ?_)
    · have h1 : x < 0 := of_decide_eq_true h1
      repeat (first | refine WC.seq ?_ | refine WC.reg ?_ | refine WL.pure rfl rfl rfl ?_ | refine WL.nil ?_ | refine WC.skip ?_ | refine WC.block ?_ | refine WC.condT rfl ?_ | refine WC.condF rfl ?_ | refine WL.off rfl rfl rfl ?_ | refine WL.off0 rfl rfl ?_ | refine WC.exit ?_ | refine blk_hit ?_ | refine blk_miss rfl ?_ | refine WC.ret ?_)
      exact Res.two rfl rfl rfl rfl (badL (by rw [rngL, decide_eq_false (by simp only; omega)]; rfl))
    have h1 : ¬ x < 0 := of_decide_eq_false h1
    repeat (first | refine WC.seq ?_ | refine WC.reg ?_ | refine WL.pure rfl rfl rfl ?_ | refine WL.nil ?_ | refine WC.skip ?_ | refine WC.block ?_ | refine WC.condT rfl ?_ | refine WC.condF rfl ?_ | refine WL.off rfl rfl rfl ?_ | refine WL.off0 rfl rfl ?_ | refine WC.exit ?_ | refine blk_hit ?_ | refine blk_miss rfl ?_ | refine WC.ret ?_)
    refine WL.split 129 rfl (fun h2 => ?_) (fun h2 => ?_)
    · have h2 : (bl.length : Int) ≤ x := of_decide_eq_true h2
      repeat (first | refine WC.seq ?_ | refine WC.reg ?_ | refine WL.pure rfl rfl rfl ?_ | refine WL.nil ?_ | refine WC.skip ?_ | refine WC.block ?_ | refine WC.condT rfl ?_ | refine WC.condF rfl ?_ | refine WL.off rfl rfl rfl ?_ | refine WL.off0 rfl rfl ?_ | refine WC.exit ?_ | refine blk_hit ?_ | refine blk_miss rfl ?_ | refine WC.ret ?_)
      exact Res.two rfl rfl rfl rfl (badL (by rw [rngL, decide_eq_false (show ¬ x < (bl.length : Int) by omega)]; simp))
    have h2 : ¬ (bl.length : Int) ≤ x := of_decide_eq_false h2
    repeat (first | refine WC.seq ?_ | refine WC.reg ?_ | refine WL.pure rfl rfl rfl ?_ | refine WL.nil ?_ | refine WC.skip ?_ | refine WC.block ?_ | refine WC.condT rfl ?_ | refine WC.condF rfl ?_ | refine WL.off rfl rfl rfl ?_ | refine WL.off0 rfl rfl ?_ | refine WC.exit ?_ | refine blk_hit ?_ | refine blk_miss rfl ?_ | refine WC.ret ?_)
    refine WL.split 133 rfl (fun h3 => ?_) (fun h3 => ?_)
    · have h3 : y < 0 := of_decide_eq_true h3
      repeat (first | refine WC.seq ?_ | refine WC.reg ?_ | refine WL.pure rfl rfl rfl ?_ | refine WL.nil ?_ | refine WC.skip ?_ | refine WC.block ?_ | refine WC.condT rfl ?_ | refine WC.condF rfl ?_ | refine WL.off rfl rfl rfl ?_ | refine WL.off0 rfl rfl ?_ | refine WC.exit ?_ | refine blk_hit ?_ | refine blk_miss rfl ?_ | refine WC.ret ?_)
      exact Res.two rfl rfl rfl rfl (badL (by rw [rngL, decide_eq_false (show ¬ 0 ≤ y by omega)]; simp))
    have h3 : ¬ y < 0 := of_decide_eq_false h3
    repeat (first | refine WC.seq ?_ | refine WC.reg ?_ | refine WL.pure rfl rfl rfl ?_ | refine WL.nil ?_ | refine WC.skip ?_ | refine WC.block ?_ | refine WC.condT rfl ?_ | refine WC.condF rfl ?_ | refine WL.off rfl rfl rfl ?_ | refine WL.off0 rfl rfl ?_ | refine WC.exit ?_ | refine blk_hit ?_ | refine blk_miss rfl ?_ | refine WC.ret ?_)
    refine WL.split 138 rfl (fun h4 => ?_) (fun h4 => ?_)
    · have h4 : (bl.length : Int) ≤ y := of_decide_eq_true h4
      repeat (first | refine WC.seq ?_ | refine WC.reg ?_ | refine WL.pure rfl rfl rfl ?_ | refine WL.nil ?_ | refine WC.skip ?_ | refine WC.block ?_ | refine WC.condT rfl ?_ | refine WC.condF rfl ?_ | refine WL.off rfl rfl rfl ?_ | refine WL.off0 rfl rfl ?_ | refine WC.exit ?_ | refine blk_hit ?_ | refine blk_miss rfl ?_ | refine WC.ret ?_)
      exact Res.two rfl rfl rfl rfl (badL (by rw [rngL, decide_eq_false (show ¬ y < (bl.length : Int) by omega)]; simp))
    have h4 : ¬ (bl.length : Int) ≤ y := of_decide_eq_false h4
    repeat (first | refine WC.seq ?_ | refine WC.reg ?_ | refine WL.pure rfl rfl rfl ?_ | refine WL.nil ?_ | refine WC.skip ?_ | refine WC.block ?_ | refine WC.condT rfl ?_ | refine WC.condF rfl ?_ | refine WL.off rfl rfl rfl ?_ | refine WL.off0 rfl rfl ?_ | refine WC.exit ?_ | refine blk_hit ?_ | refine blk_miss rfl ?_ | refine WC.ret ?_)
    refine WC.cond rfl (fun h5 => ?_) (fun h5 => ?_)
    · have h5 : x = y := by simpa using h5
      repeat (first | refine WC.seq ?_ | refine WC.reg ?_ | refine WL.pure rfl rfl rfl ?_ | refine WL.nil ?_ | refine WC.skip ?_ | refine WC.block ?_ | refine WC.condT rfl ?_ | refine WC.condF rfl ?_ | refine WL.off rfl rfl rfl ?_ | refine WL.off0 rfl rfl ?_ | refine WC.exit ?_ | refine blk_hit ?_ | refine blk_miss rfl ?_ | refine WC.ret ?_)
      exact Res.two rfl rfl rfl rfl (badL (by rw [rngL, decide_eq_false (show ¬ x ≠ y from fun h => h h5)]; simp))
    · have h5 : x ≠ y := by simpa using h5
      repeat (first | refine WC.seq ?_ | refine WC.reg ?_ | refine WL.pure rfl rfl rfl ?_ | refine WL.nil ?_ | refine WC.skip ?_ | refine WC.block ?_ | refine WC.condT rfl ?_ | refine WC.condF rfl ?_ | refine WL.off rfl rfl rfl ?_ | refine WL.off0 rfl rfl ?_ | refine WC.exit ?_ | refine blk_hit ?_ | refine blk_miss rfl ?_ | refine WC.ret ?_)
      refine ⟨i + 1, by show ls.length - (i + 1) < ls.length - i; omega, ⟨rfl, rfl, rfl, rfl, rfl, rfl, congrArg (fun z => some (Value.int .i64 z)) step, rfl⟩, hi, ?_, hp4⟩
      rw [hta, hall, rngL, decide_eq_true (show 0 ≤ x by omega), decide_eq_true (show x < (bl.length : Int) by omega), decide_eq_true (show 0 ≤ y by omega), decide_eq_true (show y < (bl.length : Int) by omega), decide_eq_true h5]
      rfl
  have hi : i = ls.length := by have := of_decide_eq_false hq; omega
  subst hi
  rw [List.take_length] at hall
  rw [hall, Bool.true_and] at hr0
  have hrng : ∀ l ∈ ls, 0 ≤ l.1 ∧ l.1 < ss.length ∧ 0 ≤ l.2 ∧ l.2 < ss.length := by
    intro l hl
    rw [List.all_eq_true] at hall
    have := hall l hl
    simp [rngL] at this
    rw [hssl]; omega
  clear hall hq
  have hpar : ∀ (v : Int) (w' : World), -1 ≤ v ∧ v < 64 → Hp w w' [.row 3 1 (.slice a bl.length c) bl.length (ints ss), .blk b5 (.cells #[.slice ba bl.length bc, .slice la ls.length lc] 46 (0, 0))] →
      Ret Tryd.prog 57 [.slice a bl.length c, .slice la ls.length lc, .int .i64 v] w' fun u w'' => Hp w' w'' [] ∧ u = .int .i64 (partsN bl.length (Wv ss v) (lks ls) : Nat) := by
    intro v w' hv h
    have := parts_any a la c lc ss ls v hv hsets (by omega) (by omega) hrng w' (sS h) (hL.hp h)
    rw [hssl] at this
    exact this
  repeat (first | refine WC.seq ?_ | refine WC.reg ?_ | refine WL.pure rfl rfl rfl ?_ | refine WL.nil ?_ | refine WC.skip ?_ | refine WC.block ?_ | refine WC.condT rfl ?_ | refine WC.condF rfl ?_ | refine WL.off rfl rfl rfl ?_ | refine WL.off0 rfl rfl ?_ | refine WC.exit ?_ | refine blk_hit ?_ | refine blk_miss rfl ?_ | refine WC.ret ?_)
  refine WL.loadB rfl rfl rfl rfl rfl (L1 hp3) rfl ?_
  refine WL.call rfl rfl rfl rfl rfl ent57 (hpar (-1) w3 (by omega) hp3) ?_
  rintro _ w4 ⟨hp4, rfl⟩
  have hp4 := hp3.call hp4.below
  generalize partsN bl.length (Wv ss (-1)) (lks ls) = P1 at *
  repeat (first | refine WC.seq ?_ | refine WC.reg ?_ | refine WL.pure rfl rfl rfl ?_ | refine WL.nil ?_ | refine WC.skip ?_ | refine WC.block ?_ | refine WC.condT rfl ?_ | refine WC.condF rfl ?_ | refine WL.off rfl rfl rfl ?_ | refine WL.off0 rfl rfl ?_ | refine WC.exit ?_ | refine blk_hit ?_ | refine blk_miss rfl ?_ | refine WC.ret ?_)
  refine WC.cond rfl (fun hq => ?_) (fun hq => ?_)
  · have hq : P1 ≠ 1 := by simp at hq; omega
    repeat (first | refine WC.seq ?_ | refine WC.reg ?_ | refine WL.pure rfl rfl rfl ?_ | refine WL.nil ?_ | refine WC.skip ?_ | refine WC.block ?_ | refine WC.condT rfl ?_ | refine WC.condF rfl ?_ | refine WL.off rfl rfl rfl ?_ | refine WL.off0 rfl rfl ?_ | refine WC.exit ?_ | refine blk_hit ?_ | refine blk_miss rfl ?_ | refine WC.ret ?_)
    exact Res.two rfl rfl rfl rfl (bad (by rw [hr0, beq_eq_false_iff_ne.2 hq]; rfl) _ hp4.nil')
  have hq : P1 = 1 := by simp at hq; omega
  rw [hq] at hr0
  have hr0 : rgtB n es bs ls = (partsB n ss ls && es.all (covE ss)) := by rw [hr0]; rfl
  repeat (first | refine WC.seq ?_ | refine WC.reg ?_ | refine WL.pure rfl rfl rfl ?_ | refine WL.nil ?_ | refine WC.skip ?_ | refine WC.block ?_ | refine WC.condT rfl ?_ | refine WC.condF rfl ?_ | refine WL.off rfl rfl rfl ?_ | refine WL.off0 rfl rfl ?_ | refine WC.exit ?_ | refine blk_hit ?_ | refine blk_miss rfl ?_ | refine WC.ret ?_)
  refine WC.loop Nat (fun v => [(0, .int .i64 (n : Nat)), (1, .slice ea es.length ec), (5, .pointer (some ⟨b5, 0, none⟩)), (8, .int .i64 (bl.length : Nat)), (9, .int .i64 (wdL bs bl.length)), (10, .slice a bl.length c), (18, .int .i64 (v : Nat))])
    (fun v w' => v ≤ n ∧ (∀ u, u < v → partsN ss.length (Wv ss (u : Nat)) (lks ls) = 1) ∧ Hp w w' [.row 3 1 (.slice a bl.length c) bl.length (ints ss), .blk b5 (.cells #[.slice ba bl.length bc, .slice la ls.length lc] 46 (0, 0))]) (fun v => n - v) 0
    ⟨rfl, rfl, rfl, rfl, rfl, rfl, rfl, rfl⟩ ⟨Nat.zero_le _, fun u hu => absurd hu (by omega), hp4⟩ ?_
  rintro v w5 ⟨hv, hall, hp5⟩
  repeat (first | refine WC.seq ?_ | refine WC.reg ?_ | refine WL.pure rfl rfl rfl ?_ | refine WL.nil ?_ | refine WC.skip ?_ | refine WC.block ?_ | refine WC.condT rfl ?_ | refine WC.condF rfl ?_ | refine WL.off rfl rfl rfl ?_ | refine WL.off0 rfl rfl ?_ | refine WC.exit ?_ | refine blk_hit ?_ | refine blk_miss rfl ?_ | refine WC.ret ?_)
  refine WC.cond rfl (fun hq => ?_) (fun hq => ?_)
  · have hv : v < n := by have := of_decide_eq_true hq; omega
    have step : IntKind.i64.wrap ((v : Int) + 1) = ((v + 1 : Nat) : Int) := by rw [wrap_i64_in (by omega) (by omega)]; omega
    repeat (first | refine WC.seq ?_ | refine WC.reg ?_ | refine WL.pure rfl rfl rfl ?_ | refine WL.nil ?_ | refine WC.skip ?_ | refine WC.block ?_ | refine WC.condT rfl ?_ | refine WC.condF rfl ?_ | refine WL.off rfl rfl rfl ?_ | refine WL.off0 rfl rfl ?_ | refine WC.exit ?_ | refine blk_hit ?_ | refine blk_miss rfl ?_ | refine WC.ret ?_)
    refine WL.loadB rfl rfl rfl rfl rfl (L1 hp5) rfl ?_
    repeat (first | refine WC.seq ?_ | refine WC.reg ?_ | refine WL.pure rfl rfl rfl ?_ | refine WL.nil ?_ | refine WC.skip ?_ | refine WC.block ?_ | refine WC.condT rfl ?_ | refine WC.condF rfl ?_ | refine WL.off rfl rfl rfl ?_ | refine WL.off0 rfl rfl ?_ | refine WC.exit ?_ | refine blk_hit ?_ | refine blk_miss rfl ?_ | refine WC.ret ?_)
    refine WL.call rfl rfl rfl rfl rfl ent57 (hpar (v : Nat) w5 (by omega) hp5) ?_
    rintro _ w6 ⟨hp6, rfl⟩
    have hp6 := hp5.call hp6.below
    generalize hPv : partsN bl.length (Wv ss (v : Nat)) (lks ls) = Pv at *
    repeat (first | refine WC.seq ?_ | refine WC.reg ?_ | refine WL.pure rfl rfl rfl ?_ | refine WL.nil ?_ | refine WC.skip ?_ | refine WC.block ?_ | refine WC.condT rfl ?_ | refine WC.condF rfl ?_ | refine WL.off rfl rfl rfl ?_ | refine WL.off0 rfl rfl ?_ | refine WC.exit ?_ | refine blk_hit ?_ | refine blk_miss rfl ?_ | refine WC.ret ?_)
    refine WC.cond rfl (fun hq2 => ?_) (fun hq2 => ?_)
    · have hq2 : Pv ≠ 1 := by simp at hq2; omega
      repeat (first | refine WC.seq ?_ | refine WC.reg ?_ | refine WL.pure rfl rfl rfl ?_ | refine WL.nil ?_ | refine WC.skip ?_ | refine WC.block ?_ | refine WC.condT rfl ?_ | refine WC.condF rfl ?_ | refine WL.off rfl rfl rfl ?_ | refine WL.off0 rfl rfl ?_ | refine WC.exit ?_ | refine blk_hit ?_ | refine blk_miss rfl ?_ | refine WC.ret ?_)
      refine Res.two rfl rfl rfl rfl (bad ?_ _ hp6.nil')
      rw [hr0, partsB, all_false (show v ∈ List.range n by simpa using hv) (by rw [hssl, hPv]; exact beq_eq_false_iff_ne.2 hq2)]
      rfl
    · have hq2 : Pv = 1 := by simp at hq2; omega
      repeat (first | refine WC.seq ?_ | refine WC.reg ?_ | refine WL.pure rfl rfl rfl ?_ | refine WL.nil ?_ | refine WC.skip ?_ | refine WC.block ?_ | refine WC.condT rfl ?_ | refine WC.condF rfl ?_ | refine WL.off rfl rfl rfl ?_ | refine WL.off0 rfl rfl ?_ | refine WC.exit ?_ | refine blk_hit ?_ | refine blk_miss rfl ?_ | refine WC.ret ?_)
      refine ⟨v + 1, by show n - (v + 1) < n - v; omega, ⟨rfl, rfl, rfl, rfl, rfl, rfl, congrArg (fun z => some (Value.int .i64 z)) step, rfl⟩, hv, fun u hu => ?_, hp6⟩
      by_cases huv : u = v
      · rw [huv, hssl, hPv, hq2]
      · exact hall u (by omega)
  have hv : v = n := by have := of_decide_eq_false hq; omega
  have hpb : partsB n ss ls = true := by
    rw [partsB, List.all_eq_true]
    intro u hu
    rw [hall u (by rw [hv]; simpa using hu)]
    rfl
  rw [hpb, Bool.true_and] at hr0
  clear hall hq
  repeat (first | refine WC.seq ?_ | refine WC.reg ?_ | refine WL.pure rfl rfl rfl ?_ | refine WL.nil ?_ | refine WC.skip ?_ | refine WC.block ?_ | refine WC.condT rfl ?_ | refine WC.condF rfl ?_ | refine WL.off rfl rfl rfl ?_ | refine WL.off0 rfl rfl ?_ | refine WC.exit ?_ | refine blk_hit ?_ | refine blk_miss rfl ?_ | refine WC.ret ?_)
  refine WC.loop Nat (fun i => [(0, .int .i64 (n : Nat)), (1, .slice ea es.length ec), (5, .pointer (some ⟨b5, 0, none⟩)), (8, .int .i64 (bl.length : Nat)), (9, .int .i64 (wdL bs bl.length)), (10, .slice a bl.length c), (19, .int .i64 (i : Nat))])
    (fun i w' => i ≤ es.length ∧ (es.take i).all (covE ss) = true ∧ Hp w w' [.row 3 1 (.slice a bl.length c) bl.length (ints ss), .blk b5 (.cells #[.slice ba bl.length bc, .slice la ls.length lc] 46 (0, 0))]) (fun i => es.length - i) 0
    ⟨rfl, rfl, rfl, rfl, rfl, rfl, rfl, rfl⟩ ⟨Nat.zero_le _, rfl, hp5⟩ ?_
  rintro i w6 ⟨hi, hall, hp6⟩
  repeat (first | refine WC.seq ?_ | refine WC.reg ?_ | refine WL.pure rfl rfl rfl ?_ | refine WL.nil ?_ | refine WC.skip ?_ | refine WC.block ?_ | refine WC.condT rfl ?_ | refine WC.condF rfl ?_ | refine WL.off rfl rfl rfl ?_ | refine WL.off0 rfl rfl ?_ | refine WC.exit ?_ | refine blk_hit ?_ | refine blk_miss rfl ?_ | refine WC.ret ?_)
  refine WC.cond rfl (fun hq => ?_) (fun hq => ?_)
  · have hi : i < es.length := by have := of_decide_eq_true hq; omega
    have step : IntKind.i64.wrap ((i : Int) + 1) = ((i + 1 : Nat) : Int) := by rw [wrap_i64_in (by omega) (by omega)]; omega
    have hpg := prs_get hi
    have hta := take_all (p := covE ss) hi
    have hmem : es[i] ∈ es := List.getElem_mem hi
    obtain ⟨r1, r2, r3, r4, r5⟩ := hok.1 _ hmem
    generalize hlk : es[i] = l at *
    obtain ⟨x, y⟩ := l
    obtain ⟨x, rfl⟩ := Int.eq_ofNat_of_zero_le r1
    obtain ⟨y, rfl⟩ := Int.eq_ofNat_of_zero_le r3
    obtain ⟨bE, oE, rfl⟩ := Sl.some hs hpg.1
    have cL : ∀ w', Hp w w' [.row 3 1 (.slice a bl.length c) bl.length (ints ss), .blk b5 (.cells #[.slice ba bl.length bc, .slice la ls.length lc] 46 (0, 0))] →
        w'.cell? ⟨bE, oE + i * 2 + 0 * 1, none⟩ = some (.int .i64 x) ∧ w'.cell? ⟨bE, oE + i * 2 + 1 * 1, none⟩ = some (.int .i64 y) := by
      intro w' h
      have h1 := Sl.cell (hs.hp h) hpg.1
      have h2 := Sl.cell (hs.hp h) hpg.2
      rw [← Nat.add_assoc] at h1 h2
      exact ⟨h1, h2⟩
    repeat (first | refine WC.seq ?_ | refine WC.reg ?_ | refine WL.pure rfl rfl rfl ?_ | refine WL.nil ?_ | refine WC.skip ?_ | refine WC.block ?_ | refine WC.condT rfl ?_ | refine WC.condF rfl ?_ | refine WL.off rfl rfl rfl ?_ | refine WL.off0 rfl rfl ?_ | refine WC.exit ?_ | refine blk_hit ?_ | refine blk_miss rfl ?_ | refine WC.ret ?_)
    refine WC.loop Nat (fun k => [(0, .int .i64 (n : Nat)), (1, .slice (some ⟨bE, oE, none⟩) es.length ec), (5, .pointer (some ⟨b5, 0, none⟩)), (8, .int .i64 (bl.length : Nat)), (9, .int .i64 (wdL bs bl.length)), (10, .slice a bl.length c), (19, .int .i64 (i : Nat)), (20, .bool ((ss.take k).any fun s => s.testBit x && s.testBit y)), (21, .int .i64 (k : Nat))])
      (fun k w' => k ≤ bl.length ∧ Hp w w' [.row 3 1 (.slice a bl.length c) bl.length (ints ss), .blk b5 (.cells #[.slice ba bl.length bc, .slice la ls.length lc] 46 (0, 0))]) (fun k => bl.length - k) 0
      ⟨rfl, rfl, rfl, rfl, rfl, rfl, rfl, rfl, rfl, rfl⟩ ⟨Nat.zero_le _, hp6⟩ ?_
    rintro k w7 ⟨hk, hp7⟩
    repeat (first | refine WC.seq ?_ | refine WC.reg ?_ | refine WL.pure rfl rfl rfl ?_ | refine WL.nil ?_ | refine WC.skip ?_ | refine WC.block ?_ | refine WC.condT rfl ?_ | refine WC.condF rfl ?_ | refine WL.off rfl rfl rfl ?_ | refine WL.off0 rfl rfl ?_ | refine WC.exit ?_ | refine blk_hit ?_ | refine blk_miss rfl ?_ | refine WC.ret ?_)
    refine WC.cond rfl (fun hq2 => ?_) (fun hq2 => ?_)
    · have hk : k < bl.length := by have := of_decide_eq_true hq2; omega
      have hks : k < ss.length := by omega
      have step2 : IntKind.i64.wrap ((k : Int) + 1) = ((k + 1 : Nat) : Int) := by rw [wrap_i64_in (by omega) (by omega)]; omega
      have htn := take_any (p := fun s => s.testBit x && s.testBit y) hks
      have hsk : ss.getD k 0 = ss[k] := by rw [List.getD_eq_getElem?_getD, List.getElem?_eq_getElem hks]; rfl
      have hlt := getD_lt hsets k
      have hik := ints_at hks
      rw [← hsk] at htn
      obtain ⟨bS, oS, rfl⟩ := Sl.some (sS hp7) hik
      have cS : ∀ w', Hp w w' [.row 3 1 (.slice (some ⟨bS, oS, none⟩) bl.length c) bl.length (ints ss), .blk b5 (.cells #[.slice ba bl.length bc, .slice la ls.length lc] 46 (0, 0))] →
          w'.cell? ⟨bS, oS + k, none⟩ = some (.int .i64 (ss.getD k 0 : Nat)) := fun w' h => Sl.cell (sS h) hik
      repeat (first | refine WC.seq ?_ | refine WC.reg ?_ | refine WL.pure rfl rfl rfl ?_ | refine WL.nil ?_ | refine WC.skip ?_ | refine WC.block ?_ | refine WC.condT rfl ?_ | refine WC.condF rfl ?_ | refine WL.off rfl rfl rfl ?_ | refine WL.off0 rfl rfl ?_ | refine WC.exit ?_ | refine blk_hit ?_ | refine blk_miss rfl ?_ | refine WC.ret ?_)
      generalize hsv : ss.getD k 0 = sv at *
      refine WC.mid Unit (fun _ => [(0, .int .i64 (n : Nat)), (1, .slice (some ⟨bE, oE, none⟩) es.length ec), (5, .pointer (some ⟨b5, 0, none⟩)), (8, .int .i64 (bl.length : Nat)), (9, .int .i64 (wdL bs bl.length)), (10, .slice (some ⟨bS, oS, none⟩) bl.length c), (19, .int .i64 (i : Nat)), (20, .bool ((ss.take (k + 1)).any fun s => s.testBit x && s.testBit y)), (21, .int .i64 (k : Nat))])
        (fun _ w' => Hp w w' [.row 3 1 (.slice (some ⟨bS, oS, none⟩) bl.length c) bl.length (ints ss), .blk b5 (.cells #[.slice ba bl.length bc, .slice la ls.length lc] 46 (0, 0))]) ?_ ?_
      · refine WC.regQ (fun w' => Hp w w' _) mixed (by kernel_rfl) (fun w' hw' => hp7.keep hw') ?_
        repeat (first | refine WQ.pure rfl rfl rfl ?_ | refine WQ.off rfl rfl rfl ?_ | refine WQ.nil ?_)
        refine WQ.split 171 rfl (fun g1 => ?_) (fun g1 => ?_)
        · repeat (first | refine WQ.pure rfl rfl rfl ?_ | refine WQ.off rfl rfl rfl ?_ | refine WQ.nil ?_)
          intro w' h
          refine ⟨(), ⟨rfl, rfl, rfl, rfl, rfl, rfl, rfl, ?_, rfl, rfl⟩, h⟩
          rw [htn, g1]; rfl
        · repeat (first | refine WQ.pure rfl rfl rfl ?_ | refine WQ.off rfl rfl rfl ?_ | refine WQ.nil ?_)
          refine WQ.ixload rfl (fun _ => rfl) rfl rfl rfl rfl rfl rfl rfl hk rfl rfl cS ?_
          repeat (first | refine WQ.pure rfl rfl rfl ?_ | refine WQ.off rfl rfl rfl ?_ | refine WQ.nil ?_)
          refine WQ.ix rfl rfl rfl rfl rfl rfl hi ?_
          repeat (first | refine WQ.pure rfl rfl rfl ?_ | refine WQ.off rfl rfl rfl ?_ | refine WQ.nil ?_)
          refine WQ.load rfl rfl rfl rfl rfl (fun w' h => (cL w' h).1) ?_
          refine WQ.call rfl rfl rfl rfl rfl ent51 (fun w' h => (Has_any sv x (by omega) w').mono fun u w'' ⟨h5, h6⟩ => ⟨h5, by rw [h6]; exact h⟩) ?_
          refine WQ.pure rfl rfl rfl ?_
          refine WQ.split 182 rfl (fun g2 => ?_) (fun g2 => ?_)
          · repeat (first | refine WQ.pure rfl rfl rfl ?_ | refine WQ.off rfl rfl rfl ?_ | refine WQ.nil ?_)
            refine WQ.ixload rfl (fun _ => rfl) rfl rfl rfl rfl rfl rfl rfl hk rfl rfl cS ?_
            repeat (first | refine WQ.pure rfl rfl rfl ?_ | refine WQ.off rfl rfl rfl ?_ | refine WQ.nil ?_)
            refine WQ.ix rfl rfl rfl rfl rfl rfl hi ?_
            repeat (first | refine WQ.pure rfl rfl rfl ?_ | refine WQ.off rfl rfl rfl ?_ | refine WQ.nil ?_)
            refine WQ.load rfl rfl rfl rfl rfl (fun w' h => (cL w' h).2) ?_
            refine WQ.call rfl rfl rfl rfl rfl ent51 (fun w' h => (Has_any sv y (by omega) w').mono fun u w'' ⟨h5, h6⟩ => ⟨h5, by rw [h6]; exact h⟩) ?_
            repeat (first | refine WQ.pure rfl rfl rfl ?_ | refine WQ.off rfl rfl rfl ?_ | refine WQ.nil ?_)
            intro w' h
            refine ⟨(), ⟨rfl, rfl, rfl, rfl, rfl, rfl, rfl, ?_, rfl, rfl⟩, h⟩
            rw [htn, g1, g2]; rfl
          · repeat (first | refine WQ.pure rfl rfl rfl ?_ | refine WQ.off rfl rfl rfl ?_ | refine WQ.nil ?_)
            intro w' h
            refine ⟨(), ⟨rfl, rfl, rfl, rfl, rfl, rfl, rfl, ?_, rfl, rfl⟩, h⟩
            rw [htn, g1, g2]; rfl
      rintro ⟨⟩ e8 w8 hsub hp8
      refine WC.sub hsub ?_
      clear hsub hp7
      repeat (first | refine WC.seq ?_ | refine WC.reg ?_ | refine WL.pure rfl rfl rfl ?_ | refine WL.nil ?_ | refine WC.skip ?_ | refine WC.block ?_ | refine WC.condT rfl ?_ | refine WC.condF rfl ?_ | refine WL.off rfl rfl rfl ?_ | refine WL.off0 rfl rfl ?_ | refine WC.exit ?_ | refine blk_hit ?_ | refine blk_miss rfl ?_ | refine WC.ret ?_)
      exact ⟨k + 1, by show bl.length - (k + 1) < bl.length - k; omega, ⟨rfl, rfl, rfl, rfl, rfl, rfl, rfl, rfl, congrArg (fun z => some (Value.int .i64 z)) step2, rfl⟩, hk, hp8⟩
    · have hk : k = bl.length := by have := of_decide_eq_false hq2; omega
      have htk : ss.take k = ss := List.take_of_length_le (by omega)
      rw [htk]
      have hcE : covE ss ((x : Int), (y : Int)) = (ss.any fun s => s.testBit x && s.testBit y) := rfl
      rw [← hcE]
      repeat (first | refine WC.seq ?_ | refine WC.reg ?_ | refine WL.pure rfl rfl rfl ?_ | refine WL.nil ?_ | refine WC.skip ?_ | refine WC.block ?_ | refine WC.condT rfl ?_ | refine WC.condF rfl ?_ | refine WL.off rfl rfl rfl ?_ | refine WL.off0 rfl rfl ?_ | refine WC.exit ?_ | refine blk_hit ?_ | refine blk_miss rfl ?_ | refine WC.ret ?_)
      refine WC.cond rfl (fun hq3 => ?_) (fun hq3 => ?_)
      · have hq3 : covE ss ((x : Int), (y : Int)) = false := by simpa using hq3
        repeat (first | refine WC.seq ?_ | refine WC.reg ?_ | refine WL.pure rfl rfl rfl ?_ | refine WL.nil ?_ | refine WC.skip ?_ | refine WC.block ?_ | refine WC.condT rfl ?_ | refine WC.condF rfl ?_ | refine WL.off rfl rfl rfl ?_ | refine WL.off0 rfl rfl ?_ | refine WC.exit ?_ | refine blk_hit ?_ | refine blk_miss rfl ?_ | refine WC.ret ?_)
        refine Res.two rfl rfl rfl rfl (bad ?_ _ hp7.nil')
        rw [hr0, all_false hmem hq3]
      · have hq3 : covE ss ((x : Int), (y : Int)) = true := by simpa using hq3
        repeat (first | refine WC.seq ?_ | refine WC.reg ?_ | refine WL.pure rfl rfl rfl ?_ | refine WL.nil ?_ | refine WC.skip ?_ | refine WC.block ?_ | refine WC.condT rfl ?_ | refine WC.condF rfl ?_ | refine WL.off rfl rfl rfl ?_ | refine WL.off0 rfl rfl ?_ | refine WC.exit ?_ | refine blk_hit ?_ | refine blk_miss rfl ?_ | refine WC.ret ?_)
        exact ⟨i + 1, by show es.length - (i + 1) < es.length - i; omega, ⟨rfl, rfl, rfl, rfl, rfl, rfl, congrArg (fun z => some (Value.int .i64 z)) step, rfl⟩, hi, by rw [hta, hall, hq3]; rfl, hp7⟩
  · have hi : i = es.length := by have := of_decide_eq_false hq; omega
    subst hi
    rw [List.take_length] at hall
    rw [hall] at hr0
    repeat (first | refine WC.seq ?_ | refine WC.reg ?_ | refine WL.pure rfl rfl rfl ?_ | refine WL.nil ?_ | refine WC.skip ?_ | refine WC.block ?_ | refine WC.condT rfl ?_ | refine WC.condF rfl ?_ | refine WL.off rfl rfl rfl ?_ | refine WL.off0 rfl rfl ?_ | refine WC.exit ?_ | refine blk_hit ?_ | refine blk_miss rfl ?_ | refine WC.ret ?_)
    refine Res.two rfl rfl rfl rfl ⟨hp6.nil', ?_⟩
    rw [rgtV, if_pos hr0, hbm]
end Go.Proofs.YtdnkkflpgebfbaaDoor
