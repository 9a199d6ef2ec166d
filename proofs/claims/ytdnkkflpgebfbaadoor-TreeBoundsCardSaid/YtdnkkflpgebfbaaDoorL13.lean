/- The walk of 'Decompose'. -/
import Derived.Test.YtdnkkflpgebfbaaDoorL12
import Derived.Test.YtdnkkflpgebfbaaDoorL7
import Derived.Test.YtdnkkflpgebfbaaDoorDc
import Derived.Test.YtdnkkflpgebfbaaDoorW8
namespace Go.Proofs.YtdnkkflpgebfbaaDoor
open Go.W Go.Tree
set_option maxRecDepth 100000
attribute [local irreducible] WC WL WQ WS WH

theorem Hp.permP {w0 w : World} {L L' : List Ent} (h : Hp w0 w L) (p : L.Perm L') : Hp w0 w L' :=
  ⟨h.below, fun x hx => h.sat x (p.mem_iff.2 hx), (p.pairwise_iff (fun {a b} h => Apart.symm h)).1 h.dist⟩
abbrev Bag := Option Addr × Nat × List Nat
def bagV (b : Bag) : Value := .slice b.1 b.2.2.length b.2.1
def bagE (b : Bag) : Ent := .row 3 1 (.slice b.1 b.2.2.length b.2.1) b.2.2.length (ints b.2.2)
/-- The memory and the value of a decomposition. -/
def TreeIs (w : World) (bl : List Bag) (ab : Option Addr) (cb : Nat) (ls : List Ed) (al : Option Addr) (cl : Nat) (w' : World) : Prop :=
  Hp w w' (.row 32 1 (.slice ab bl.length cb) bl.length (bl.map bagV) :: .row 50 2 (.slice al ls.length cl) ls.length (prs ls) :: bl.map bagE)
def treeV (nb : Nat) (ab : Option Addr) (cb nl : Nat) (al : Option Addr) (cl : Nat) : Value := .agg #[.slice ab nb cb, .slice al nl cl]
def DecIs (w : World) (n : Int) (es : List Ed) (v : Value) (w' : World) : Prop := match mkG n es with
  | none => Hp w w' [] ∧ v = .tuple #[treeV 0 none 0 0 none 0, .int .i64 0, .int .i64 2]
  | some g => ∃ bl ab cb al cl, bl.map (·.2.2) = bagsOf g ∧ TreeIs w bl ab cb (linksOf g) al cl w' ∧ v = .tuple #[treeV bl.length ab cb (linksOf g).length al cl, .int .i64 (wd g 0), .int .i64 0]

theorem Decompose_any (ea : Option Addr) (cap : Nat) (n : Int) (es : List Ed) (w : World) (hs : Sl w ea (prs es)) (hlen : es.length ≤ 4611686018427387904) (hT : Tb w) :
    Ret Tryd.prog 25 [.int .i64 n, .slice ea es.length cap] w (DecIs w n es) := by
  refine enterM Tryd.func25 rfl rfl ⟨rfl, rfl⟩ rfl ?_
  repeat (first | refine WC.seq ?_ | refine WC.reg ?_ | refine WL.pure rfl rfl rfl ?_ | refine WL.nil ?_ | refine WC.skip ?_ | refine WC.block ?_ | refine WC.condT rfl ?_ | refine WC.condF rfl ?_ | refine WL.off rfl rfl rfl ?_ | refine WL.off0 rfl rfl ?_ | refine WC.exit ?_ | refine blk_hit ?_ | refine blk_miss rfl ?_ | refine WC.ret ?_)
  refine WL.alloc rfl rfl rfl ?_
  intro b4 w1 hb4
  have hp1 := (Hp.start w).new hb4
  repeat (first | refine WC.seq ?_ | refine WC.reg ?_ | refine WL.pure rfl rfl rfl ?_ | refine WL.nil ?_ | refine WC.skip ?_ | refine WC.block ?_ | refine WC.condT rfl ?_ | refine WC.condF rfl ?_ | refine WL.off rfl rfl rfl ?_ | refine WL.off0 rfl rfl ?_ | refine WC.exit ?_ | refine blk_hit ?_ | refine blk_miss rfl ?_ | refine WC.ret ?_)
  refine WL.call rfl rfl rfl rfl rfl ent38 (newGraph_any ea cap n es w1 (hs.hp hp1) hlen) ?_
  intro v2 w2 hG
  cases hmk : mkG n es with
  | none =>
    obtain ⟨hp2, rfl⟩ := graph_none hG hmk
    have hp2 := hp1.comb hp2
    repeat (first | refine WC.seq ?_ | refine WC.reg ?_ | refine WL.pure rfl rfl rfl ?_ | refine WL.nil ?_ | refine WC.skip ?_ | refine WC.block ?_ | refine WC.condT rfl ?_ | refine WC.condF rfl ?_ | refine WL.off rfl rfl rfl ?_ | refine WL.off0 rfl rfl ?_ | refine WC.exit ?_ | refine blk_hit ?_ | refine blk_miss rfl ?_ | refine WC.ret ?_)
    refine WL.buildT rfl rfl rfl rfl rfl rfl ?_
    refine WL.storeN rfl rfl rfl rfl rfl (by decide) (hp2.obj 0 rfl) (Nat.le_refl 2) rfl (fun w3 hw3 => ?_)
    have hp3 := hp2.set 0 rfl rfl hw3
    repeat (first | refine WC.seq ?_ | refine WC.reg ?_ | refine WL.pure rfl rfl rfl ?_ | refine WL.nil ?_ | refine WC.skip ?_ | refine WC.block ?_ | refine WC.condT rfl ?_ | refine WC.condF rfl ?_ | refine WL.off rfl rfl rfl ?_ | refine WL.off0 rfl rfl ?_ | refine WC.exit ?_ | refine blk_hit ?_ | refine blk_miss rfl ?_ | refine WC.ret ?_)
    refine ResM.ctt (ds := []) 0 rfl rfl rfl rfl rfl rfl rfl rfl hp3.none' rfl (fun w4 hp4 => ?_)
    unfold DecIs
    rw [hmk]
    exact ⟨hp4.nil', rfl⟩
  | some g =>
    obtain ⟨hg, hgn, hn0, _, _⟩ := mkG_gr hmk
    have hn := hg.len
    have hp14 : 2 ^ g.length ≤ 2 ^ 14 := Nat.pow_le_pow_right (by decide) hn
    obtain ⟨bg, hp2, rfl⟩ := graph_hp hG hmk
    have hp2 := hp1.comb hp2
    obtain ⟨m, rfl⟩ := Int.eq_ofNat_of_zero_le hn0
    have hgn : g.length = m := by simpa using hgn
    subst hgn
    have hsg : ∀ w' L i, Hp w w' L → nth L i = some (.blk bg (.cells (ints g).toArray 76 (0, 0))) → Sl w' (some ⟨bg, 0, none⟩) (ints g) := fun w' L i hp hi => Sl.of_obj (hp.obj i hi) (fun i u h => by simpa using h)
    repeat (first | refine WC.seq ?_ | refine WC.reg ?_ | refine WL.pure rfl rfl rfl ?_ | refine WL.nil ?_ | refine WC.skip ?_ | refine WC.block ?_ | refine WC.condT rfl ?_ | refine WC.condF rfl ?_ | refine WL.off rfl rfl rfl ?_ | refine WL.off0 rfl rfl ?_ | refine WC.exit ?_ | refine blk_hit ?_ | refine blk_miss rfl ?_ | refine WC.ret ?_)
    refine WL.call rfl rfl rfl rfl rfl ent54 (best_any _ _ g w2 (hsg _ _ 0 hp2 rfl) (hT.below hp2.below) hg) ?_
    rintro _ w3 ⟨ao, co, hp3, rfl⟩
    have hp3 := hp2.comb hp3
    have hol := bestO_len hg
    repeat (first | refine WC.seq ?_ | refine WC.reg ?_ | refine WL.pure rfl rfl rfl ?_ | refine WL.nil ?_ | refine WC.skip ?_ | refine WC.block ?_ | refine WC.condT rfl ?_ | refine WC.condF rfl ?_ | refine WL.off rfl rfl rfl ?_ | refine WL.off0 rfl rfl ?_ | refine WC.exit ?_ | refine blk_hit ?_ | refine blk_miss rfl ?_ | refine WC.ret ?_)
    refine WC.cond rfl (fun h0 => ?_) (fun h0 => ?_)
    · have h0 : g.length = 0 := by simp at h0; exact congrArg List.length h0
      repeat (first | refine WC.seq ?_ | refine WC.reg ?_ | refine WL.pure rfl rfl rfl ?_ | refine WL.nil ?_ | refine WC.skip ?_ | refine WC.block ?_ | refine WC.condT rfl ?_ | refine WC.condF rfl ?_ | refine WL.off rfl rfl rfl ?_ | refine WL.off0 rfl rfl ?_ | refine WC.exit ?_ | refine blk_hit ?_ | refine blk_miss rfl ?_ | refine WC.ret ?_)
      refine WL.buildS (cs := [.slice none 0 0]) rfl rfl rfl rfl rfl rfl rfl rfl rfl ?_
      intro b5 w4 hb5
      have hp4 := hp3.new hb5
      refine WL.buildT rfl rfl rfl rfl rfl rfl ?_
      repeat (first | refine WC.seq ?_ | refine WC.reg ?_ | refine WL.pure rfl rfl rfl ?_ | refine WL.nil ?_ | refine WC.skip ?_ | refine WC.block ?_ | refine WC.condT rfl ?_ | refine WC.condF rfl ?_ | refine WL.off rfl rfl rfl ?_ | refine WL.off0 rfl rfl ?_ | refine WC.exit ?_ | refine blk_hit ?_ | refine blk_miss rfl ?_ | refine WC.ret ?_)
      refine WL.storeN rfl rfl rfl rfl rfl (by intro v hv; simp at hv; rcases hv with rfl | rfl <;> rfl) (hp4.obj 3 rfl) (Nat.le_refl 2) rfl (fun w5 hw5 => ?_)
      have hp5 := hp4.set 3 rfl rfl hw5
      repeat (first | refine WC.seq ?_ | refine WC.reg ?_ | refine WL.pure rfl rfl rfl ?_ | refine WL.nil ?_ | refine WC.skip ?_ | refine WC.block ?_ | refine WC.condT rfl ?_ | refine WC.condF rfl ?_ | refine WL.off rfl rfl rfl ?_ | refine WL.off0 rfl rfl ?_ | refine WC.exit ?_ | refine blk_hit ?_ | refine blk_miss rfl ?_ | refine WC.ret ?_)
      refine ResM.ctt (ds := []) 3 rfl rfl rfl rfl rfl rfl rfl rfl hp5.none' rfl (fun w6 hp6 => ?_)
      unfold DecIs
      rw [hmk]
      have hrow := (((hp6.pick [0] (by decide)).nilrow 3 1).nilrow 50 2).pick [2, 0, 1] (by decide)
      refine ⟨[(none, 0, [])], some ⟨b5, 0, none⟩, 1, none, 0, ?_, ?_, ?_⟩
      · simp [bagsOf, h0]
      · rw [linksOf, if_pos h0]
        exact Hp.toRow hrow rfl (by show (1 : Nat) ≤ maxLen; unfold maxLen; omega)
      · rw [linksOf, if_pos h0]; rfl
    have h0 : g.length ≠ 0 := by intro h; rw [h] at h0; simp at h0
    repeat (first | refine WC.seq ?_ | refine WC.reg ?_ | refine WL.pure rfl rfl rfl ?_ | refine WL.nil ?_ | refine WC.skip ?_ | refine WC.block ?_ | refine WC.condT rfl ?_ | refine WC.condF rfl ?_ | refine WL.off rfl rfl rfl ?_ | refine WL.off0 rfl rfl ?_ | refine WC.exit ?_ | refine blk_hit ?_ | refine blk_miss rfl ?_ | refine WC.ret ?_)
    refine WL.make (m := g.length) rfl rfl rfl rfl rfl rfl rfl rfl ?_ ?_ ?_
    · show 8 * g.length ≤ _; omega
    · unfold maxLen; omega
    intro ba w4 hba
    have hz : (List.replicate g.length ti3.zero) = ints (List.replicate g.length 0) := by simp only [ints, List.map_replicate]; rfl
    rw [hz] at hba
    have hp4 := hp3.new hba
    refine WL.var rfl rfl rfl (fun _ => rfl) rfl rfl (by intro y hy; simp [Value.cells] at hy; subst hy; rfl) ?_
    intro b11 w5 hb11
    have hp5 := hp4.new hb11
    repeat (first | refine WC.seq ?_ | refine WC.reg ?_ | refine WL.pure rfl rfl rfl ?_ | refine WL.nil ?_ | refine WC.skip ?_ | refine WC.block ?_ | refine WC.condT rfl ?_ | refine WC.condF rfl ?_ | refine WL.off rfl rfl rfl ?_ | refine WL.off0 rfl rfl ?_ | refine WC.exit ?_ | refine blk_hit ?_ | refine blk_miss rfl ?_ | refine WC.ret ?_)
    refine WC.loop Nat (fun i => [(0, .int .i64 (g.length : Nat)), (4, .pointer (some ⟨b4, 0, none⟩)), (7, .slice (some ⟨bg, 0, none⟩) g.length g.length), (9, .slice ao g.length co), (10, .int .i64 (wd g 0)), (11, .pointer (some ⟨b11, 0, none⟩)), (42, .slice ao g.length co), (43, .int .i64 (g.length : Nat)), (44, .int .i64 (i : Nat))])
      (fun i w' => i ≤ g.length ∧ Hp w w' [.blk b11 (.cells #[.slice (some ⟨ba, 0, none⟩) g.length g.length] 32 (0, 0)), .blk ba (.cells (ints (posA (bestO g) g.length i)).toArray 3 (0, 0)), .row 3 1 (.slice ao g.length co) g.length (ints (bestO g)),
        .blk bg (.cells (ints g).toArray 76 (0, 0)), .blk b4 (.cells ti46.zero.cells 46 (0, 0))]) (fun i => g.length - i) 0
      ⟨rfl, rfl, rfl, rfl, rfl, rfl, rfl, rfl, rfl, rfl⟩ ⟨Nat.zero_le _, hp5⟩ ?_
    rintro i w6 ⟨hi, hp6⟩
    repeat (first | refine WC.seq ?_ | refine WC.reg ?_ | refine WL.pure rfl rfl rfl ?_ | refine WL.nil ?_ | refine WC.skip ?_ | refine WC.block ?_ | refine WC.condT rfl ?_ | refine WC.condF rfl ?_ | refine WL.off rfl rfl rfl ?_ | refine WL.off0 rfl rfl ?_ | refine WC.exit ?_ | refine blk_hit ?_ | refine blk_miss rfl ?_ | refine WC.ret ?_)
    refine WC.cond rfl (fun hc => ?_) (fun hc => ?_)
    · have hi : i < g.length := by have := of_decide_eq_true hc; omega
      have hi' : i < (bestO g).length := by omega
      have step : IntKind.i64.wrap ((i : Int) + 1) = ((i + 1 : Nat) : Int) := by rw [wrap_i64_in (by omega) (by omega)]; omega
      have hv := bestO_lt hi'
      repeat (first | refine WC.seq ?_ | refine WC.reg ?_ | refine WL.pure rfl rfl rfl ?_ | refine WL.nil ?_ | refine WC.skip ?_ | refine WC.block ?_ | refine WC.condT rfl ?_ | refine WC.condF rfl ?_ | refine WL.off rfl rfl rfl ?_ | refine WL.off0 rfl rfl ?_ | refine WC.exit ?_ | refine blk_hit ?_ | refine blk_miss rfl ?_ | refine WC.ret ?_)
      refine WL.ixload rfl (fun _ => rfl) rfl rfl rfl rfl rfl rfl rfl hi rfl rfl (Sl.of_row (hp6.at 2 rfl)) (ints_at hi') ?_
      intro p
      repeat (first | refine WC.seq ?_ | refine WC.reg ?_ | refine WL.pure rfl rfl rfl ?_ | refine WL.nil ?_ | refine WC.skip ?_ | refine WC.block ?_ | refine WC.condT rfl ?_ | refine WC.condF rfl ?_ | refine WL.off rfl rfl rfl ?_ | refine WL.off0 rfl rfl ?_ | refine WC.exit ?_ | refine blk_hit ?_ | refine blk_miss rfl ?_ | refine WC.ret ?_)
      refine WL.loadB rfl rfl rfl rfl rfl (hp6.obj 0 rfl) rfl ?_
      repeat (first | refine WC.seq ?_ | refine WC.reg ?_ | refine WL.pure rfl rfl rfl ?_ | refine WL.nil ?_ | refine WC.skip ?_ | refine WC.block ?_ | refine WC.condT rfl ?_ | refine WC.condF rfl ?_ | refine WL.off rfl rfl rfl ?_ | refine WL.off0 rfl rfl ?_ | refine WC.exit ?_ | refine blk_hit ?_ | refine blk_miss rfl ?_ | refine WC.ret ?_)
      refine WL.ix1 rfl rfl rfl rfl rfl rfl rfl hv ?_
      refine WL.store rfl rfl rfl rfl rfl rfl (hp6.obj 1 rfl) (by simp [ints, posA_len]; exact hv) (fun w7 hw7 => ?_)
      rw [Nat.zero_add, ints_set, ← posA_succ] at hw7
      have hp7 := hp6.set 1 rfl rfl hw7
      repeat (first | refine WC.seq ?_ | refine WC.reg ?_ | refine WL.pure rfl rfl rfl ?_ | refine WL.nil ?_ | refine WC.skip ?_ | refine WC.block ?_ | refine WC.condT rfl ?_ | refine WC.condF rfl ?_ | refine WL.off rfl rfl rfl ?_ | refine WL.off0 rfl rfl ?_ | refine WC.exit ?_ | refine blk_hit ?_ | refine blk_miss rfl ?_ | refine WC.ret ?_)
      exact ⟨i + 1, by show g.length - (i + 1) < g.length - i; omega, ⟨rfl, rfl, rfl, rfl, rfl, rfl, rfl, rfl, congrArg (fun z => some (Value.int .i64 z)) step, rfl⟩, hi, hp7⟩
    have hi : i = g.length := by have := of_decide_eq_false hc; omega
    subst hi
    repeat (first | refine WC.seq ?_ | refine WC.reg ?_ | refine WL.pure rfl rfl rfl ?_ | refine WL.nil ?_ | refine WC.skip ?_ | refine WC.block ?_ | refine WC.condT rfl ?_ | refine WC.condF rfl ?_ | refine WL.off rfl rfl rfl ?_ | refine WL.off0 rfl rfl ?_ | refine WC.exit ?_ | refine blk_hit ?_ | refine blk_miss rfl ?_ | refine WC.ret ?_)
    refine WL.alloc rfl rfl rfl ?_
    intro bt w7 hbt
    have hp7 := (((hp6.new hbt).nilrow 50 2).nilrow 32 1).none'
    repeat (first | refine WC.seq ?_ | refine WC.reg ?_ | refine WL.pure rfl rfl rfl ?_ | refine WL.nil ?_ | refine WC.skip ?_ | refine WC.block ?_ | refine WC.condT rfl ?_ | refine WC.condF rfl ?_ | refine WL.off rfl rfl rfl ?_ | refine WL.off0 rfl rfl ?_ | refine WC.exit ?_ | refine blk_hit ?_ | refine blk_miss rfl ?_ | refine WC.ret ?_)
    let F : List Nat → List Bag → Option Addr → Nat → List Ed → Option Addr → Nat → List Ent := fun ds bl ab cb ls al cl => [.many (dfrs ds), .row 32 1 (.slice ab bl.length cb) bl.length (bl.map bagV), .row 50 2 (.slice al ls.length cl) ls.length (prs ls),
        .blk bt (.cells #[.slice ab bl.length cb, .slice al ls.length cl] 46 (0, 0)), .blk b11 (.cells #[.slice (some ⟨ba, 0, none⟩) g.length g.length] 32 (0, 0)), .blk ba (.cells (ints (posA (bestO g) g.length g.length)).toArray 3 (0, 0)), .row 3 1 (.slice ao g.length co) g.length (ints (bestO g)),
        .blk bg (.cells (ints g).toArray 76 (0, 0)), .blk b4 (.cells ti46.zero.cells 46 (0, 0))]
    refine WC.loop (Nat × Nat × List Bag × (Option Addr × Nat) × List Ed × (Option Addr × Nat) × List Nat) (fun (i, S, bl, (ab, cb), ls, (al, cl), ds) => [(1000000000, enc ds), (0, .int .i64 (g.length : Nat)), (4, .pointer (some ⟨b4, 0, none⟩)), (7, .slice (some ⟨bg, 0, none⟩) g.length g.length), (10, .int .i64 (wd g 0)), (11, .pointer (some ⟨b11, 0, none⟩)), (14, .pointer (some ⟨bt, 0, none⟩)),
        (15, .int .i64 (S : Nat)), (54, .slice ao g.length co), (55, .int .i64 (g.length : Nat)), (56, .int .i64 (i : Nat))])
      (fun (i, S, bl, (ab, cb), ls, (al, cl), ds) w' => i ≤ g.length ∧ S < 2 ^ g.length ∧ bl.length = i ∧ ls.length ≤ i ∧ bl.map (·.2.2) ++ dcB g ((bestO g).drop i) S = bagsOf g ∧ ls ++ dcL g (posA (bestO g) g.length g.length) ((bestO g).drop i) i S = linksOf g ∧
        Hp w w' (F ds bl ab cb ls al cl ++ bl.map bagE)) (fun (i, _) => g.length - i) (0, 0, [], (none, 0), [], (none, 0), [])
      ⟨rfl, rfl, rfl, rfl, rfl, rfl, rfl, rfl, rfl, rfl, rfl⟩ ⟨Nat.zero_le _, Nat.two_pow_pos _, rfl, Nat.le_refl _, by rw [bagsOf, if_neg h0]; rfl, by rw [linksOf, if_neg h0]; rfl, hp7⟩ ?_
    rintro ⟨i, S, bl, ⟨ab, cb⟩, ls, ⟨al, cl⟩, ds⟩ w8 ⟨hi, hS, hbl, hls, hbags, hlinks, hp8⟩
    have hS14 : S < 16384 := by omega
    repeat (first | refine WC.seq ?_ | refine WC.reg ?_ | refine WL.pure rfl rfl rfl ?_ | refine WL.nil ?_ | refine WC.skip ?_ | refine WC.block ?_ | refine WC.condT rfl ?_ | refine WC.condF rfl ?_ | refine WL.off rfl rfl rfl ?_ | refine WL.off0 rfl rfl ?_ | refine WC.exit ?_ | refine blk_hit ?_ | refine blk_miss rfl ?_ | refine WC.ret ?_)
    refine WC.cond rfl (fun hc => ?_) (fun hc => ?_)
    · have hi : i < g.length := by have := of_decide_eq_true hc; omega
      have hi' : i < (bestO g).length := by omega
      have step : IntKind.i64.wrap ((i : Int) + 1) = ((i + 1 : Nat) : Int) := by rw [wrap_i64_in (by omega) (by omega)]; omega
      have hv := bestO_lt hi'
      have hdrop : (bestO g).drop i = (bestO g).getD i 0 :: (bestO g).drop (i + 1) := by rw [List.drop_eq_getElem_cons hi']; simp [hi']
      repeat (first | refine WC.seq ?_ | refine WC.reg ?_ | refine WL.pure rfl rfl rfl ?_ | refine WL.nil ?_ | refine WC.skip ?_ | refine WC.block ?_ | refine WC.condT rfl ?_ | refine WC.condF rfl ?_ | refine WL.off rfl rfl rfl ?_ | refine WL.off0 rfl rfl ?_ | refine WC.exit ?_ | refine blk_hit ?_ | refine blk_miss rfl ?_ | refine WC.ret ?_)
      refine WL.ixload rfl (fun _ => rfl) rfl rfl rfl rfl rfl rfl rfl hi rfl rfl (Sl.of_row (hp8.at 6 rfl)) (ints_at hi') ?_
      intro p
      rw [hdrop] at hbags hlinks
      rw [dcB] at hbags
      rw [dcL] at hlinks
      generalize (bestO g).getD i 0 = v at *
      have hpv : 2 ^ v < 2 ^ g.length := Nat.pow_lt_pow_right (by decide) hv
      have hlat := lat_lt hg hv (gone := S)
      have hor : S ||| 2 ^ v < 2 ^ g.length := or_pow_lt hS hv
      have e15 : bits .or .i64 (S : Int) (shl .i64 1 v) = ((S ||| 2 ^ v : Nat) : Int) := by rw [shl_one (by omega), or_i64 (by omega) (by omega)]
      repeat (first | refine WC.seq ?_ | refine WC.reg ?_ | refine WL.pure rfl rfl rfl ?_ | refine WL.nil ?_ | refine WC.skip ?_ | refine WC.block ?_ | refine WC.condT rfl ?_ | refine WC.condF rfl ?_ | refine WL.off rfl rfl rfl ?_ | refine WL.off0 rfl rfl ?_ | refine WC.exit ?_ | refine blk_hit ?_ | refine blk_miss rfl ?_ | refine WC.ret ?_)
      refine WL.callP rfl rfl rfl rfl rfl ent55 (later_any _ _ g S v w8 (hsg _ _ 7 hp8 rfl) (hT.below hp8.below) hg hv hS14) ?_
      generalize lat g S v = near at *
      have hnl : near ||| 2 ^ v < 2 ^ g.length := or_pow_lt hlat hv
      have e74 : bits .or .i64 (near : Int) (shl .i64 1 v) = ((near ||| 2 ^ v : Nat) : Int) := by rw [shl_one (by omega), or_i64 (by omega) (by omega)]
      repeat (first | refine WC.seq ?_ | refine WC.reg ?_ | refine WL.pure rfl rfl rfl ?_ | refine WL.nil ?_ | refine WC.skip ?_ | refine WC.block ?_ | refine WC.condT rfl ?_ | refine WC.condF rfl ?_ | refine WL.off rfl rfl rfl ?_ | refine WL.off0 rfl rfl ?_ | refine WC.exit ?_ | refine blk_hit ?_ | refine blk_miss rfl ?_ | refine WC.ret ?_)
      refine WC.mid (Bag × Option Addr × Nat) (fun _ => [(1000000000, enc ds), (0, .int .i64 (g.length : Nat)), (4, .pointer (some ⟨b4, 0, none⟩)), (7, .slice (some ⟨bg, 0, none⟩) g.length g.length), (10, .int .i64 (wd g 0)), (11, .pointer (some ⟨b11, 0, none⟩)), (14, .pointer (some ⟨bt, 0, none⟩)),
          (15, .int .i64 (S ||| 2 ^ v : Nat)), (16, .int .i64 (i : Nat)), (18, .int .i64 (near : Nat)), (54, .slice ao g.length co), (55, .int .i64 (g.length : Nat)), (56, .int .i64 (i : Nat))])
        (fun (b, ab', cb') w' => b.2.2 = els (near ||| 2 ^ v) ∧ Hp w w' (F ds (bl ++ [b]) ab' cb' ls al cl ++ (bl ++ [b]).map bagE)) ?_ ?_
      · have fin : ∀ (a : Option Addr) (c bs : Nat) (a' : Option Addr) (cap' : Nat) (w' : World) (arr : Array Value) (E : Nat),
            Hp w w' (.blk bs (.cells arr E (0, 0)) :: .row 3 1 (.slice a (els (near ||| 2 ^ v)).length c) (els (near ||| 2 ^ v)).length (ints (els (near ||| 2 ^ v))) :: .many (dfrs ds) :: .row 32 1 (.slice a' (bl.length + 1) cap') (bl.length + 1) (bl.map bagV ++ [.slice a (els (near ||| 2 ^ v)).length c]) ::
              .row 50 2 (.slice al ls.length cl) ls.length (prs ls) :: .blk bt (.cells #[.slice a' (bl.length + 1) cap', .slice al ls.length cl] 46 (0, 0)) :: .blk b11 (.cells #[.slice (some ⟨ba, 0, none⟩) g.length g.length] 32 (0, 0)) :: .blk ba (.cells (ints (posA (bestO g) g.length g.length)).toArray 3 (0, 0)) :: .row 3 1 (.slice ao g.length co) g.length (ints (bestO g)) ::
              .blk bg (.cells (ints g).toArray 76 (0, 0)) :: .blk b4 (.cells ti46.zero.cells 46 (0, 0)) :: bl.map bagE) →
            Hp w w' (F ds (bl ++ [(a, c, els (near ||| 2 ^ v))]) a' cap' ls al cl ++ (bl ++ [(a, c, els (near ||| 2 ^ v))]).map bagE) := by
          intro a c bs a' cap' w' arr E h
          have h1 := Hp.permP h.tail (List.perm_append_singleton _ _).symm
          simp only [F, List.length_append, List.length_singleton, List.map_append, List.map_cons, List.map_nil]
          simpa [bagV, bagE] using h1
        have hel := els_le (near ||| 2 ^ v)
        have hil : (ints (els (near ||| 2 ^ v))).length = (els (near ||| 2 ^ v)).length := by simp [ints]
        refine WC.regH (fun _ => True) mixed (by kernel_rfl) (fun w9 hw9 hh9 => ?_)
        have hp9 := hp8.keep hw9
        refine WH.pure 0 (by kernel_rfl) rfl (by kernel_rfl) rfl rfl rfl trivial ?_
        refine WH.pure 2 (by kernel_rfl) rfl (by kernel_rfl) rfl rfl rfl trivial ?_
        refine WH.pure 3 (by kernel_rfl) rfl (by kernel_rfl) rfl rfl rfl trivial ?_
        refine WH.pure 4 (by kernel_rfl) rfl (by kernel_rfl) rfl rfl rfl trivial ?_
        refine WH.pure 5 (by kernel_rfl) rfl (by kernel_rfl) rfl rfl rfl trivial ?_
        refine WH.known (d := 74) (congrArg (fun z => some (Value.int .i64 z)) e74) ?_
        refine WH.two 1 6 rfl rfl (by kernel_rfl) ?_ ?_
        · refine WL.loadB rfl rfl rfl rfl rfl (hp9.obj 3 rfl) rfl ?_
          refine WL.nil ⟨trivial, ?_⟩
          refine WH.one 6 rfl (by kernel_rfl) ?_
          refine WL.call rfl rfl rfl rfl rfl ent45 (listed_any _ (by omega) w9 (hT.below hp9.below)) ?_
          rintro _ wA ⟨a5, c5, rfl, hm⟩
          have hpA := hp9.comb hm
          rw [hil] at hpA ⊢
          refine WL.nil ⟨trivial, ?_⟩
          refine WH.one 7 rfl (by kernel_rfl) ?_
          refine WL.buildS (cs := [.slice a5 (els (near ||| 2 ^ v)).length c5]) rfl rfl rfl rfl rfl rfl rfl rfl rfl ?_
          intro bs wB hbs
          have hpB := hpA.new hbs
          refine WL.nil ⟨trivial, ?_⟩
          refine WH.one 8 rfl (by kernel_rfl) ?_
          refine WL.append 3 hpB rfl rfl rfl rfl rfl Nat.zero_lt_one rfl rfl rfl (news := [.slice a5 (els (near ||| 2 ^ v)).length c5]) (Sl.of_obj (hpB.obj 0 rfl) (fun q u hq => by simpa using hq)) rfl (Cells.cons rfl Cells.nil) (by unfold maxLen; omega) (by show (bl.length + 1) * 24 ≤ _; omega) ?_
          intro a' cap' wC hpC hgC
          refine WL.nil ⟨trivial, ?_⟩
          refine WH.one 9 rfl (by kernel_rfl) ?_
          refine WL.pure rfl rfl rfl (WL.nil ⟨trivial, ?_⟩)
          refine WH.one 10 rfl (by kernel_rfl) ?_
          refine WL.store rfl rfl rfl rfl rfl rfl (hpC.obj 5 rfl) (by simp) (fun wD hwD => ?_)
          have hpD := hpC.set 5 rfl rfl hwD
          refine WL.nil ⟨trivial, ?_⟩
          refine WH.done (by kernel_rfl) ?_
          exact ⟨((a5, c5, els (near ||| 2 ^ v)), a', cap'), ⟨rfl, rfl, rfl, rfl, rfl, rfl, congrArg (fun z => some (Value.int .i64 z)) e15, rfl, rfl, rfl, rfl, rfl, rfl⟩, rfl, fin _ _ _ _ _ _ _ _ hpD⟩
        · refine WL.call rfl rfl rfl rfl rfl ent45 (listed_any _ (by omega) w9 (hT.below hp9.below)) ?_
          rintro _ wA ⟨a5, c5, rfl, hm⟩
          have hpA := hp9.comb hm
          rw [hil] at hpA ⊢
          refine WL.nil ⟨trivial, ?_⟩
          refine WH.two 1 7 rfl rfl (by kernel_rfl) ?_ ?_
          · refine WL.loadB rfl rfl rfl rfl rfl (hpA.obj 4 rfl) rfl ?_
            refine WL.nil ⟨trivial, ?_⟩
            refine WH.one 7 rfl (by kernel_rfl) ?_
            refine WL.buildS (cs := [.slice a5 (els (near ||| 2 ^ v)).length c5]) rfl rfl rfl rfl rfl rfl rfl rfl rfl ?_
            intro bs wB hbs
            have hpB := hpA.new hbs
            refine WL.nil ⟨trivial, ?_⟩
            refine WH.one 8 rfl (by kernel_rfl) ?_
            refine WL.append 3 hpB rfl rfl rfl rfl rfl Nat.zero_lt_one rfl rfl rfl (news := [.slice a5 (els (near ||| 2 ^ v)).length c5]) (Sl.of_obj (hpB.obj 0 rfl) (fun q u hq => by simpa using hq)) rfl (Cells.cons rfl Cells.nil) (by unfold maxLen; omega) (by show (bl.length + 1) * 24 ≤ _; omega) ?_
            intro a' cap' wC hpC hgC
            refine WL.nil ⟨trivial, ?_⟩
            refine WH.one 9 rfl (by kernel_rfl) ?_
            refine WL.pure rfl rfl rfl (WL.nil ⟨trivial, ?_⟩)
            refine WH.one 10 rfl (by kernel_rfl) ?_
            refine WL.store rfl rfl rfl rfl rfl rfl (hpC.obj 5 rfl) (by simp) (fun wD hwD => ?_)
            have hpD := hpC.set 5 rfl rfl hwD
            refine WL.nil ⟨trivial, ?_⟩
            refine WH.done (by kernel_rfl) ?_
            exact ⟨((a5, c5, els (near ||| 2 ^ v)), a', cap'), ⟨rfl, rfl, rfl, rfl, rfl, rfl, congrArg (fun z => some (Value.int .i64 z)) e15, rfl, rfl, rfl, rfl, rfl, rfl⟩, rfl, fin _ _ _ _ _ _ _ _ hpD⟩
          · refine WL.buildS (cs := [.slice a5 (els (near ||| 2 ^ v)).length c5]) rfl rfl rfl rfl rfl rfl rfl rfl rfl ?_
            intro bs wB hbs
            have hpB := hpA.new hbs
            refine WL.nil ⟨trivial, ?_⟩
            refine WH.one 1 rfl (by kernel_rfl) ?_
            refine WL.loadB rfl rfl rfl rfl rfl (hpB.obj 5 rfl) rfl ?_
            refine WL.nil ⟨trivial, ?_⟩
            refine WH.one 8 rfl (by kernel_rfl) ?_
            refine WL.append 3 hpB rfl rfl rfl rfl rfl Nat.zero_lt_one rfl rfl rfl (news := [.slice a5 (els (near ||| 2 ^ v)).length c5]) (Sl.of_obj (hpB.obj 0 rfl) (fun q u hq => by simpa using hq)) rfl (Cells.cons rfl Cells.nil) (by unfold maxLen; omega) (by show (bl.length + 1) * 24 ≤ _; omega) ?_
            intro a' cap' wC hpC hgC
            refine WL.nil ⟨trivial, ?_⟩
            refine WH.one 9 rfl (by kernel_rfl) ?_
            refine WL.pure rfl rfl rfl (WL.nil ⟨trivial, ?_⟩)
            refine WH.one 10 rfl (by kernel_rfl) ?_
            refine WL.store rfl rfl rfl rfl rfl rfl (hpC.obj 5 rfl) (by simp) (fun wD hwD => ?_)
            have hpD := hpC.set 5 rfl rfl hwD
            refine WL.nil ⟨trivial, ?_⟩
            refine WH.done (by kernel_rfl) ?_
            exact ⟨((a5, c5, els (near ||| 2 ^ v)), a', cap'), ⟨rfl, rfl, rfl, rfl, rfl, rfl, congrArg (fun z => some (Value.int .i64 z)) e15, rfl, rfl, rfl, rfl, rfl, rfl⟩, rfl, fin _ _ _ _ _ _ _ _ hpD⟩
      · rintro ⟨b, ab', cb'⟩ e2 w9 hsub ⟨hb, hp9⟩
        refine WC.sub hsub ?_
        generalize hbl' : bl ++ [b] = bl' at hp9
        have hbll : bl'.length = i + 1 := by rw [← hbl', List.length_append, hbl]; rfl
        have step' := step
        repeat (first | refine WC.seq ?_ | refine WC.reg ?_ | refine WL.pure rfl rfl rfl ?_ | refine WL.nil ?_ | refine WC.skip ?_ | refine WC.block ?_ | refine WC.condT rfl ?_ | refine WC.condF rfl ?_ | refine WL.off rfl rfl rfl ?_ | refine WL.off0 rfl rfl ?_ | refine WC.exit ?_ | refine blk_hit ?_ | refine blk_miss rfl ?_ | refine WC.ret ?_)
        refine WL.known (d := 80) (congrArg (fun z => some (Value.int .i64 z)) step) ?_
        refine WL.var rfl rfl rfl (fun _ => rfl) rfl rfl (by intro y hy; simp [Value.cells] at hy; subst hy; rfl) ?_
        intro b19 wA hb19
        have hpA := hp9.new hb19
        repeat (first | refine WC.seq ?_ | refine WC.reg ?_ | refine WL.pure rfl rfl rfl ?_ | refine WL.nil ?_ | refine WC.skip ?_ | refine WC.block ?_ | refine WC.condT rfl ?_ | refine WC.condF rfl ?_ | refine WL.off rfl rfl rfl ?_ | refine WL.off0 rfl rfl ?_ | refine WC.exit ?_ | refine blk_hit ?_ | refine blk_miss rfl ?_ | refine WC.ret ?_)
        generalize hnx : nxt (posA (bestO g) g.length g.length) g.length i near = nx at *
        refine WC.mid (List Nat) (fun ds' => [(1000000000, enc ds'), (0, .int .i64 (g.length : Nat)), (4, .pointer (some ⟨b4, 0, none⟩)), (7, .slice (some ⟨bg, 0, none⟩) g.length g.length), (10, .int .i64 (wd g 0)), (11, .pointer (some ⟨b11, 0, none⟩)), (14, .pointer (some ⟨bt, 0, none⟩)),
            (15, .int .i64 (S ||| 2 ^ v : Nat)), (16, .int .i64 (i : Nat)), (19, .pointer (some ⟨b19, 0, none⟩)), (54, .slice ao g.length co), (55, .int .i64 (g.length : Nat)), (56, .int .i64 (i : Nat))])
          (fun ds' w' => Hp w w' (.blk b19 (.cells #[.int .i64 (nx : Nat)] 3 (0, 0)) :: (F ds' bl' ab' cb' ls al cl ++ bl'.map bagE))) ?_ ?_
        · refine WC.cond rfl (fun hc2 => ?_) (fun hc2 => ?_)
          · have hn0 : near ≠ 0 := by intro h; rw [h] at hc2; simp at hc2
            repeat (first | refine WC.seq ?_ | refine WC.reg ?_ | refine WL.pure rfl rfl rfl ?_ | refine WL.nil ?_ | refine WC.skip ?_ | refine WC.block ?_ | refine WC.condT rfl ?_ | refine WC.condF rfl ?_ | refine WL.off rfl rfl rfl ?_ | refine WL.off0 rfl rfl ?_ | refine WC.exit ?_ | refine blk_hit ?_ | refine blk_miss rfl ?_ | refine WC.ret ?_)
            refine WL.store rfl rfl rfl rfl rfl rfl (hpA.obj 0 rfl) Nat.zero_lt_one (fun wB hwB => ?_)
            have hpB := hpA.set 0 rfl rfl hwB
            repeat (first | refine WC.seq ?_ | refine WC.reg ?_ | refine WL.pure rfl rfl rfl ?_ | refine WL.nil ?_ | refine WC.skip ?_ | refine WC.block ?_ | refine WC.condT rfl ?_ | refine WC.condF rfl ?_ | refine WL.off rfl rfl rfl ?_ | refine WL.off0 rfl rfl ?_ | refine WC.exit ?_ | refine blk_hit ?_ | refine blk_miss rfl ?_ | refine WC.ret ?_)
            refine WL.call rfl rfl rfl rfl rfl ent56 (all_any _ _) ?_
            rintro _ wC ⟨bx, hbx, rfl⟩
            have hpC := Hp.rot [_, _] [_] _ (hpB.new hbx)
            repeat (first | refine WC.seq ?_ | refine WC.reg ?_ | refine WL.pure rfl rfl rfl ?_ | refine WL.nil ?_ | refine WC.skip ?_ | refine WC.block ?_ | refine WC.condT rfl ?_ | refine WC.condF rfl ?_ | refine WL.off rfl rfl rfl ?_ | refine WL.off0 rfl rfl ?_ | refine WC.exit ?_ | refine blk_hit ?_ | refine blk_miss rfl ?_ | refine WC.ret ?_)
            refine WC.rangeF (ints (els near)) Nat (fun m => .many (dfrs ds) :: .blk bx (.cells #[.int .i64 near] 76 (0, 0)) :: .blk b19 (.cells #[.int .i64 (m : Nat)] 3 (0, 0)) :: .row 32 1 (.slice ab' bl'.length cb') bl'.length (bl'.map bagV) :: .row 50 2 (.slice al ls.length cl) ls.length (prs ls) ::
                .blk bt (.cells #[.slice ab' bl'.length cb', .slice al ls.length cl] 46 (0, 0)) :: .blk b11 (.cells #[.slice (some ⟨ba, 0, none⟩) g.length g.length] 32 (0, 0)) :: .blk ba (.cells (ints (posA (bestO g) g.length g.length)).toArray 3 (0, 0)) :: .row 3 1 (.slice ao g.length co) g.length (ints (bestO g)) ::
                .blk bg (.cells (ints g).toArray 76 (0, 0)) :: .blk b4 (.cells ti46.zero.cells 46 (0, 0)) :: bl'.map bagE)
              (fun k m => m = ((els near).take k).foldl (fun m u => min m ((posA (bestO g) g.length g.length).getD u 0)) g.length) g.length
              [(11, .pointer (some ⟨b11, 0, none⟩)), (19, .pointer (some ⟨b19, 0, none⟩))] rfl ent70 rfl ⟨rfl, rfl, trivial⟩ hpC rfl ?_ ?_ ?_
            · intro wD hpD
              exact all1_iter _ near (by omega) w wD hT (cell_of_obj (hpD.obj 1 rfl) rfl)
            · rintro k x m l D o wD hx hm hpD
              obtain ⟨u, hu, rfl⟩ : ∃ u : Nat, (els near)[k]? = some u ∧ x = .int .i64 u := by
                simp only [ints, List.getElem?_map, Option.map_eq_some_iff] at hx
                obtain ⟨y, h1, rfl⟩ := hx
                exact ⟨y, h1, rfl⟩
              have hun : u < g.length := lt_of_testBit hlat (mem_els.1 (List.mem_of_getElem? hu)).2
              have hpl := posA_len (bestO g) g.length g.length
              repeat (first | refine WC.seq ?_ | refine WC.reg ?_ | refine WL.pure rfl rfl rfl ?_ | refine WL.nil ?_ | refine WC.skip ?_ | refine WC.block ?_ | refine WC.condT rfl ?_ | refine WC.condF rfl ?_ | refine WL.off rfl rfl rfl ?_ | refine WL.off0 rfl rfl ?_ | refine WC.exit ?_ | refine blk_hit ?_ | refine blk_miss rfl ?_ | refine WC.ret ?_)
              refine ⟨_, hpD, fun o' wE hpE => ?_⟩
              repeat (first | refine WC.seq ?_ | refine WC.reg ?_ | refine WL.pure rfl rfl rfl ?_ | refine WL.nil ?_ | refine WC.skip ?_ | refine WC.block ?_ | refine WC.condT rfl ?_ | refine WC.condF rfl ?_ | refine WL.off rfl rfl rfl ?_ | refine WL.off0 rfl rfl ?_ | refine WC.exit ?_ | refine blk_hit ?_ | refine blk_miss rfl ?_ | refine WC.ret ?_)
              refine WC.regS 6 mixed (by kernel_rfl) rfl rfl (fun wG hwG hhG => ?_)
              have hpG := hpE.keep hwG
              refine WS.loadB rfl rfl rfl rfl rfl (hpG.obj 4 rfl) rfl ?_
              refine WS.loadB rfl rfl rfl rfl rfl (hpG.obj 8 rfl) rfl ?_
              repeat (first | refine WS.pure rfl rfl rfl ?_ | refine WS.off rfl rfl rfl ?_ | refine WS.nil ?_)
              refine WS.ix1 rfl rfl rfl rfl rfl rfl rfl hun ?_
              refine WS.loadB rfl rfl rfl rfl rfl (hpG.obj 9 rfl) (v := .int .i64 ((posA (bestO g) g.length g.length).getD u 0 : Nat)) (by rw [nth_eq, Nat.zero_add]; exact ints_at (by omega)) ?_
              repeat (first | refine WS.pure rfl rfl rfl ?_ | refine WS.off rfl rfl rfl ?_ | refine WS.nil ?_)
              refine WL.store rfl rfl rfl rfl rfl rfl (hpG.obj 4 rfl) Nat.zero_lt_one (fun wI hwI => ?_)
              rw [show min (m : Int) (((posA (bestO g) g.length g.length).getD u 0 : Nat) : Int) = ((min m ((posA (bestO g) g.length g.length).getD u 0) : Nat) : Int) by omega] at hwI
              have hpI := hpG.set 4 rfl rfl hwI
              repeat (first | refine WC.seq ?_ | refine WC.reg ?_ | refine WL.pure rfl rfl rfl ?_ | refine WL.nil ?_ | refine WC.skip ?_ | refine WC.block ?_ | refine WC.condT rfl ?_ | refine WC.condF rfl ?_ | refine WL.off rfl rfl rfl ?_ | refine WL.off0 rfl rfl ?_ | refine WC.exit ?_ | refine blk_hit ?_ | refine blk_miss rfl ?_ | refine WC.ret ?_)
              refine ⟨_, ?_, hpI⟩
              rw [List.take_add_one, hu, List.foldl_append, ← hm]
              rfl
            · rintro m D wD hm hpD
              have hm' : m = nx := by
                rw [← hnx, nxt, if_neg hn0, hm, List.take_of_length_le (by simp [ints])]
              subst hm'
              have hpE := ((hpD.join).swap.tail).swap
              repeat (first | refine WC.seq ?_ | refine WC.reg ?_ | refine WL.pure rfl rfl rfl ?_ | refine WL.nil ?_ | refine WC.skip ?_ | refine WC.block ?_ | refine WC.condT rfl ?_ | refine WC.condF rfl ?_ | refine WL.off rfl rfl rfl ?_ | refine WL.off0 rfl rfl ?_ | refine WC.exit ?_ | refine blk_hit ?_ | refine blk_miss rfl ?_ | refine WC.ret ?_)
              exact ⟨D :: ds, ⟨rfl, rfl, rfl, rfl, rfl, rfl, rfl, rfl, rfl, rfl, rfl, rfl, by show dec (enc (D :: ds)) = dec (enc (D :: dec (enc ds))); rw [dec_enc ds]⟩, hpE⟩
          · have hn0 : near = 0 := by simpa using hc2
            have hnx' : nx = i + 1 := by rw [← hnx, nxt, if_pos hn0]
            subst hnx'
            repeat (first | refine WC.seq ?_ | refine WC.reg ?_ | refine WL.pure rfl rfl rfl ?_ | refine WL.nil ?_ | refine WC.skip ?_ | refine WC.block ?_ | refine WC.condT rfl ?_ | refine WC.condF rfl ?_ | refine WL.off rfl rfl rfl ?_ | refine WL.off0 rfl rfl ?_ | refine WC.exit ?_ | refine blk_hit ?_ | refine blk_miss rfl ?_ | refine WC.ret ?_)
            exact ⟨ds, ⟨rfl, rfl, rfl, rfl, rfl, rfl, rfl, rfl, rfl, rfl, rfl, rfl, rfl⟩, hpA⟩
        · intro ds' e3 wB hsub3 hpB
          refine WC.sub hsub3 ?_
          have hbags' : bl'.map (·.2.2) ++ dcB g ((bestO g).drop (i + 1)) (S ||| 2 ^ v) = bagsOf g := by
            rw [← hbags, ← hbl', List.map_append, List.append_assoc, List.map_cons, hb]; rfl
          repeat (first | refine WC.seq ?_ | refine WC.reg ?_ | refine WL.pure rfl rfl rfl ?_ | refine WL.nil ?_ | refine WC.skip ?_ | refine WC.block ?_ | refine WC.condT rfl ?_ | refine WC.condF rfl ?_ | refine WL.off rfl rfl rfl ?_ | refine WL.off0 rfl rfl ?_ | refine WC.exit ?_ | refine blk_hit ?_ | refine blk_miss rfl ?_ | refine WC.ret ?_)
          refine WL.loadB rfl rfl rfl rfl rfl (hpB.obj 0 rfl) rfl ?_
          repeat (first | refine WC.seq ?_ | refine WC.reg ?_ | refine WL.pure rfl rfl rfl ?_ | refine WL.nil ?_ | refine WC.skip ?_ | refine WC.block ?_ | refine WC.condT rfl ?_ | refine WC.condF rfl ?_ | refine WL.off rfl rfl rfl ?_ | refine WL.off0 rfl rfl ?_ | refine WC.exit ?_ | refine blk_hit ?_ | refine blk_miss rfl ?_ | refine WC.ret ?_)
          refine WC.cond rfl (fun hc3 => ?_) (fun hc3 => ?_)
          · have hnn : nx < g.length := by have := of_decide_eq_true hc3; omega
            rw [if_pos hnn] at hlinks
            repeat (first | refine WC.seq ?_ | refine WC.reg ?_ | refine WL.pure rfl rfl rfl ?_ | refine WL.nil ?_ | refine WC.skip ?_ | refine WC.block ?_ | refine WC.condT rfl ?_ | refine WC.condF rfl ?_ | refine WL.off rfl rfl rfl ?_ | refine WL.off0 rfl rfl ?_ | refine WC.exit ?_ | refine blk_hit ?_ | refine blk_miss rfl ?_ | refine WC.ret ?_)
            refine WL.loadB rfl rfl rfl rfl rfl (hpB.obj 4 rfl) rfl ?_
            repeat (first | refine WC.seq ?_ | refine WC.reg ?_ | refine WL.pure rfl rfl rfl ?_ | refine WL.nil ?_ | refine WC.skip ?_ | refine WC.block ?_ | refine WC.condT rfl ?_ | refine WC.condF rfl ?_ | refine WL.off rfl rfl rfl ?_ | refine WL.off0 rfl rfl ?_ | refine WC.exit ?_ | refine blk_hit ?_ | refine blk_miss rfl ?_ | refine WC.ret ?_)
            refine WL.loadB rfl rfl rfl rfl rfl (hpB.obj 0 rfl) rfl ?_
            refine WL.buildA (cs := pr ((i : Int), (nx : Int))) rfl rfl rfl rfl rfl rfl ?_
            refine WL.buildS (cs := pr ((i : Int), (nx : Int))) rfl rfl rfl rfl rfl rfl rfl rfl rfl ?_
            intro bs wC hbs
            have hpC := hpB.new hbs
            refine WL.append 4 hpC rfl rfl rfl rfl rfl (by decide) rfl rfl rfl (news := pr ((i : Int), (nx : Int))) (Sl.of_obj (hpC.obj 0 rfl) (fun q u hq => by simpa using hq)) rfl (Cells.cons rfl (Cells.cons rfl Cells.nil)) (by unfold maxLen; omega) (by show (ls.length + 1) * 16 ≤ _; omega) ?_
            intro a' cap' wD hpD hgD
            repeat (first | refine WC.seq ?_ | refine WC.reg ?_ | refine WL.pure rfl rfl rfl ?_ | refine WL.nil ?_ | refine WC.skip ?_ | refine WC.block ?_ | refine WC.condT rfl ?_ | refine WC.condF rfl ?_ | refine WL.off rfl rfl rfl ?_ | refine WL.off0 rfl rfl ?_ | refine WC.exit ?_ | refine blk_hit ?_ | refine blk_miss rfl ?_ | refine WC.ret ?_)
            refine WL.store rfl rfl rfl rfl rfl rfl (hpD.obj 5 rfl) (by simp) (fun wE hwE => ?_)
            have hpE := (hpD.set 5 rfl rfl hwE).tail.tail
            repeat (first | refine WC.seq ?_ | refine WC.reg ?_ | refine WL.pure rfl rfl rfl ?_ | refine WL.nil ?_ | refine WC.skip ?_ | refine WC.block ?_ | refine WC.condT rfl ?_ | refine WC.condF rfl ?_ | refine WL.off rfl rfl rfl ?_ | refine WL.off0 rfl rfl ?_ | refine WC.exit ?_ | refine blk_hit ?_ | refine blk_miss rfl ?_ | refine WC.ret ?_)
            refine ⟨(i + 1, S ||| 2 ^ v, bl', (ab', cb'), ls ++ [((i : Int), (nx : Int))], (a', cap'), ds'), by show g.length - (i + 1) < g.length - i; omega, ⟨rfl, rfl, rfl, rfl, rfl, rfl, rfl, rfl, rfl, congrArg (fun z => some (Value.int .i64 z)) step, rfl⟩, hi, hor, hbll, by rw [List.length_append, List.length_singleton]; omega, hbags', by rw [← hlinks, List.append_assoc], ?_⟩
            simp only [F, List.length_append, List.length_singleton]
            rw [show prs (ls ++ [((i : Int), (nx : Int))]) = prs ls ++ pr ((i : Int), (nx : Int)) by simp [prs]]
            exact hpE
          · have hnn : ¬ nx < g.length := by have := of_decide_eq_false hc3; omega
            rw [if_neg hnn] at hlinks
            repeat (first | refine WC.seq ?_ | refine WC.reg ?_ | refine WL.pure rfl rfl rfl ?_ | refine WL.nil ?_ | refine WC.skip ?_ | refine WC.block ?_ | refine WC.condT rfl ?_ | refine WC.condF rfl ?_ | refine WL.off rfl rfl rfl ?_ | refine WL.off0 rfl rfl ?_ | refine WC.exit ?_ | refine blk_hit ?_ | refine blk_miss rfl ?_ | refine WC.ret ?_)
            exact ⟨(i + 1, S ||| 2 ^ v, bl', (ab', cb'), ls, (al, cl), ds'), by show g.length - (i + 1) < g.length - i; omega, ⟨rfl, rfl, rfl, rfl, rfl, rfl, rfl, rfl, rfl, congrArg (fun z => some (Value.int .i64 z)) step, rfl⟩, hi, hor, hbll, by omega, hbags', hlinks, hpB.tail⟩
    have hi : i = g.length := by have := of_decide_eq_false hc; omega
    subst hi
    have hd : (bestO g).drop bl.length = [] := List.drop_eq_nil_of_le (by omega)
    rw [← hbl, hd] at hbags hlinks
    simp only [dcB, dcL, List.append_nil] at hbags hlinks
    have hcell : ∀ w' : World, w'.heap[bt]? = some (.cells #[.slice ab bl.length cb, .slice al ls.length cl] 46 (0, 0)) → ∀ (j : Nat) (v : Value), [Value.slice ab bl.length cb, .slice al ls.length cl][j]? = some v → w'.cell? ⟨bt, 0 + j, none⟩ = some v :=
      fun w' h j v hj => cell_of_obj h (by rw [Nat.zero_add]; simpa using hj)
    repeat (first | refine WC.seq ?_ | refine WC.reg ?_ | refine WL.pure rfl rfl rfl ?_ | refine WL.nil ?_ | refine WC.skip ?_ | refine WC.block ?_ | refine WC.condT rfl ?_ | refine WC.condF rfl ?_ | refine WL.off rfl rfl rfl ?_ | refine WL.off0 rfl rfl ?_ | refine WC.exit ?_ | refine blk_hit ?_ | refine blk_miss rfl ?_ | refine WC.ret ?_)
    refine WL.loadN (cs := [.slice ab bl.length cb, .slice al ls.length cl]) rfl rfl rfl rfl rfl rfl (hcell _ (hp8.obj 3 rfl)) ?_
    repeat (first | refine WC.seq ?_ | refine WC.reg ?_ | refine WL.pure rfl rfl rfl ?_ | refine WL.nil ?_ | refine WC.skip ?_ | refine WC.block ?_ | refine WC.condT rfl ?_ | refine WC.condF rfl ?_ | refine WL.off rfl rfl rfl ?_ | refine WL.off0 rfl rfl ?_ | refine WC.exit ?_ | refine blk_hit ?_ | refine blk_miss rfl ?_ | refine WC.ret ?_)
    refine WL.storeN rfl rfl rfl rfl rfl (by intro v hv; simp at hv; rcases hv with rfl | rfl <;> rfl) (hp8.obj 8 rfl) (Nat.le_refl 2) rfl (fun w9 hw9 => ?_)
    have hp9 := hp8.set 8 rfl rfl hw9
    repeat (first | refine WC.seq ?_ | refine WC.reg ?_ | refine WL.pure rfl rfl rfl ?_ | refine WL.nil ?_ | refine WC.skip ?_ | refine WC.block ?_ | refine WC.condT rfl ?_ | refine WC.condF rfl ?_ | refine WL.off rfl rfl rfl ?_ | refine WL.off0 rfl rfl ?_ | refine WC.exit ?_ | refine blk_hit ?_ | refine blk_miss rfl ?_ | refine WC.ret ?_)
    refine ResM.ctt 7 (dec_enc ds) rfl rfl rfl rfl rfl rfl rfl hp9 rfl (fun wA hpA => ?_)
    unfold DecIs
    rw [hmk]
    subst hlinks
    refine ⟨bl, ab, cb, al, cl, hbags, ?_, rfl⟩
    exact (Hp.rot [_, _] [_, _, _, _, _, _] _ hpA).tail.tail.tail.tail.tail.tail
end Go.Proofs.YtdnkkflpgebfbaaDoor
