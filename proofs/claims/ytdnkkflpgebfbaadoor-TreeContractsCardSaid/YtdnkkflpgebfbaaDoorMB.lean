/- The walks of Decompose, Order, Best and of the laws helpers. -/
import Derived.Test.YtdnkkflpgebfbaaDoorMA
/- The walk of 'Decompose'. -/
namespace Go.Proofs.YtdnkkflpgebfbaaDoor
open Go.W Go.Tree
set_option maxRecDepth 100000
attribute [local irreducible] WC WL WQ WS WH

theorem Hp.permP {w0 w : World} {L L' : List Ent} (h : Hp w0 w L) (p : L.Perm L') : Hp w0 w L' :=
  ⟨h.below, fun x hx => h.sat x (p.mem_iff.2 hx), (p.pairwise_iff (fun {_a _b} h => Apart.symm h)).1 h.dist⟩
abbrev Bag := Option Addr × Nat × List Nat
def bagV (b : Bag) : Value := .slice b.1 b.2.2.length b.2.1
def bagE (b : Bag) : Ent := .row 3 1 (.slice b.1 b.2.2.length b.2.1) b.2.2.length (ints b.2.2)
/-- The memory and the value of a decomposition. -/
def TreeIs (w : World) (bl : List Bag) (ab : Option Addr) (cb : Nat) (ls : List Ed) (al : Option Addr) (cl : Nat) (w' : World) : Prop :=
  Hp w w' (.row 32 1 (.slice ab bl.length cb) bl.length (bl.map bagV) :: .row 50 2 (.slice al ls.length cl) ls.length (prs ls) :: bl.map bagE)
def treeV (nb : Nat) (ab : Option Addr) (cb nl : Nat) (al : Option Addr) (cl : Nat) : Value := .agg #[.slice ab nb cb, .slice al nl cl]
def DecIs (w : World) (n : Int) (es : List Ed) (v : Value) (w' : World) : Prop := match mkG n es with
  | none => Hp w w' [] ∧ v = .tuple #[treeV 0 none 0 0 none 0, .int .i64 0, .int .i64 2]
  | some g => ∃ bl ab cb al cl, bl.map (·.2.2) = bagsOf g ∧ TreeIs w bl ab cb (linksOf g) al cl w' ∧ v = .tuple #[treeV bl.length ab cb (linksOf g).length al cl, .int .i64 (wd g 0), .int .i64 0]

theorem Decompose_any (ea : Option Addr) (cap : Nat) (n : Int) (es : List Ed) (w : World) (hs : Sl w ea (prs es)) (hlen : es.length ≤ 4611686018427387904) (hT : Tb w) :
    Ret Tryd.prog 25 [.int .i64 n, .slice ea es.length cap] w (DecIs w n es) := by
  refine enterM Tryd.func25 rfl rfl ⟨rfl, rfl⟩ rfl ?_
  repeat (first | refine WC.seq ?_ | refine WC.reg ?_ | refine WL.pure rfl rfl rfl ?_ | refine WL.nil ?_ | refine WC.skip ?_ | refine WC.block ?_ | refine WC.condT rfl ?_ | refine WC.condF rfl ?_ | refine WL.off rfl rfl rfl ?_ | refine WL.off0 rfl rfl ?_ | refine WC.exit ?_ | refine blk_hit ?_ | refine blk_miss rfl ?_ | refine WC.ret ?_)
  refine WL.alloc rfl rfl rfl ?_
  intro b4 w1 hb4
  have hp1 := (Hp.start w).new hb4
  repeat (first | refine WC.seq ?_ | refine WC.reg ?_ | refine WL.pure rfl rfl rfl ?_ | refine WL.nil ?_ | refine WC.skip ?_ | refine WC.block ?_ | refine WC.condT rfl ?_ | refine WC.condF rfl ?_ | refine WL.off rfl rfl rfl ?_ | refine WL.off0 rfl rfl ?_ | refine WC.exit ?_ | refine blk_hit ?_ | refine blk_miss rfl ?_ | refine WC.ret ?_)
  refine WL.call rfl rfl rfl rfl rfl ent38 (newGraph_any ea cap n es w1 (hs.hp hp1) hlen) ?_
  intro v2 w2 hG
  cases hmk : mkG n es with
  | none =>
    obtain ⟨hp2, rfl⟩ := graph_none hG hmk
    have hp2 := hp1.comb hp2
    repeat (first | refine WC.seq ?_ | refine WC.reg ?_ | refine WL.pure rfl rfl rfl ?_ | refine WL.nil ?_ | refine WC.skip ?_ | refine WC.block ?_ | refine WC.condT rfl ?_ | refine WC.condF rfl ?_ | refine WL.off rfl rfl rfl ?_ | refine WL.off0 rfl rfl ?_ | refine WC.exit ?_ | refine blk_hit ?_ | refine blk_miss rfl ?_ | refine WC.ret ?_)
    refine WL.buildT rfl rfl rfl rfl rfl rfl ?_
    refine WL.storeN rfl rfl rfl rfl rfl (by decide) (hp2.obj 0 rfl) (Nat.le_refl 2) rfl (fun w3 hw3 => ?_)
    have hp3 := hp2.set 0 rfl rfl hw3
    repeat (first | refine WC.seq ?_ | refine WC.reg ?_ | refine WL.pure rfl rfl rfl ?_ | refine WL.nil ?_ | refine WC.skip ?_ | refine WC.block ?_ | refine WC.condT rfl ?_ | refine WC.condF rfl ?_ | refine WL.off rfl rfl rfl ?_ | refine WL.off0 rfl rfl ?_ | refine WC.exit ?_ | refine blk_hit ?_ | refine blk_miss rfl ?_ | refine WC.ret ?_)
    refine ResM.ctt (ds := []) 0 rfl rfl rfl rfl rfl rfl rfl rfl hp3.none' rfl (fun w4 hp4 => ?_)
    unfold DecIs
    rw [hmk]
    exact ⟨hp4.nil', rfl⟩
  | some g =>
    obtain ⟨hg, hgn, hn0, _, _⟩ := mkG_gr hmk
    have hn := hg.len
    have hp14 : 2 ^ g.length ≤ 2 ^ 14 := Nat.pow_le_pow_right (by decide) hn
    obtain ⟨bg, hp2, rfl⟩ := graph_hp hG hmk
    have hp2 := hp1.comb hp2
    obtain ⟨m, rfl⟩ := Int.eq_ofNat_of_zero_le hn0
    have hgn : g.length = m := by simpa using hgn
    subst hgn
    have hsg : ∀ w' L i, Hp w w' L → nth L i = some (.blk bg (.cells (ints g).toArray 76 (0, 0))) → Sl w' (some ⟨bg, 0, none⟩) (ints g) := fun w' L i hp hi => Sl.of_obj (hp.obj i hi) (fun i u h => by simpa using h)
    repeat (first | refine WC.seq ?_ | refine WC.reg ?_ | refine WL.pure rfl rfl rfl ?_ | refine WL.nil ?_ | refine WC.skip ?_ | refine WC.block ?_ | refine WC.condT rfl ?_ | refine WC.condF rfl ?_ | refine WL.off rfl rfl rfl ?_ | refine WL.off0 rfl rfl ?_ | refine WC.exit ?_ | refine blk_hit ?_ | refine blk_miss rfl ?_ | refine WC.ret ?_)
    refine WL.call rfl rfl rfl rfl rfl ent54 (best_any _ _ g w2 (hsg _ _ 0 hp2 rfl) (hT.below hp2.below) hg) ?_
    rintro _ w3 ⟨ao, co, hp3, rfl⟩
    have hp3 := hp2.comb hp3
    have hol := bestO_len hg
    repeat (first | refine WC.seq ?_ | refine WC.reg ?_ | refine WL.pure rfl rfl rfl ?_ | refine WL.nil ?_ | refine WC.skip ?_ | refine WC.block ?_ | refine WC.condT rfl ?_ | refine WC.condF rfl ?_ | refine WL.off rfl rfl rfl ?_ | refine WL.off0 rfl rfl ?_ | refine WC.exit ?_ | refine blk_hit ?_ | refine blk_miss rfl ?_ | refine WC.ret ?_)
    refine WC.cond rfl (fun h0 => ?_) (fun h0 => ?_)
    · have h0 : g.length = 0 := by simp at h0; exact congrArg List.length h0
      repeat (first | refine WC.seq ?_ | refine WC.reg ?_ | refine WL.pure rfl rfl rfl ?_ | refine WL.nil ?_ | refine WC.skip ?_ | refine WC.block ?_ | refine WC.condT rfl ?_ | refine WC.condF rfl ?_ | refine WL.off rfl rfl rfl ?_ | refine WL.off0 rfl rfl ?_ | refine WC.exit ?_ | refine blk_hit ?_ | refine blk_miss rfl ?_ | refine WC.ret ?_)
      refine WL.buildS (cs := [.slice none 0 0]) rfl rfl rfl rfl rfl rfl rfl rfl rfl ?_
      intro b5 w4 hb5
      have hp4 := hp3.new hb5
      refine WL.buildT rfl rfl rfl rfl rfl rfl ?_
      repeat (first | refine WC.seq ?_ | refine WC.reg ?_ | refine WL.pure rfl rfl rfl ?_ | refine WL.nil ?_ | refine WC.skip ?_ | refine WC.block ?_ | refine WC.condT rfl ?_ | refine WC.condF rfl ?_ | refine WL.off rfl rfl rfl ?_ | refine WL.off0 rfl rfl ?_ | refine WC.exit ?_ | refine blk_hit ?_ | refine blk_miss rfl ?_ | refine WC.ret ?_)
      refine WL.storeN rfl rfl rfl rfl rfl (by intro v hv; simp at hv; rcases hv with rfl | rfl <;> rfl) (hp4.obj 3 rfl) (Nat.le_refl 2) rfl (fun w5 hw5 => ?_)
      have hp5 := hp4.set 3 rfl rfl hw5
      repeat (first | refine WC.seq ?_ | refine WC.reg ?_ | refine WL.pure rfl rfl rfl ?_ | refine WL.nil ?_ | refine WC.skip ?_ | refine WC.block ?_ | refine WC.condT rfl ?_ | refine WC.condF rfl ?_ | refine WL.off rfl rfl rfl ?_ | refine WL.off0 rfl rfl ?_ | refine WC.exit ?_ | refine blk_hit ?_ | refine blk_miss rfl ?_ | refine WC.ret ?_)
      refine ResM.ctt (ds := []) 3 rfl rfl rfl rfl rfl rfl rfl rfl hp5.none' rfl (fun w6 hp6 => ?_)
      unfold DecIs
      rw [hmk]
      have hrow := (((hp6.pick [0] (by decide)).nilrow 3 1).nilrow 50 2).pick [2, 0, 1] (by decide)
      refine ⟨[(none, 0, [])], some ⟨b5, 0, none⟩, 1, none, 0, ?_, ?_, ?_⟩
      · simp [bagsOf, h0]
      · rw [linksOf, if_pos h0]
        exact Hp.toRow hrow rfl (by show (1 : Nat) ≤ maxLen; unfold maxLen; omega)
      · rw [linksOf, if_pos h0]; rfl
    have h0 : g.length ≠ 0 := by intro h; rw [h] at h0; simp at h0
    repeat (first | refine WC.seq ?_ | refine WC.reg ?_ | refine WL.pure rfl rfl rfl ?_ | refine WL.nil ?_ | refine WC.skip ?_ | refine WC.block ?_ | refine WC.condT rfl ?_ | refine WC.condF rfl ?_ | refine WL.off rfl rfl rfl ?_ | refine WL.off0 rfl rfl ?_ | refine WC.exit ?_ | refine blk_hit ?_ | refine blk_miss rfl ?_ | refine WC.ret ?_)
    refine WL.make (m := g.length) rfl rfl rfl rfl rfl rfl rfl rfl ?_ ?_ ?_
    · show 8 * g.length ≤ _; omega
    · unfold maxLen; omega
    intro ba w4 hba
    have hz : (List.replicate g.length ti3.zero) = ints (List.replicate g.length 0) := by simp only [ints, List.map_replicate]; rfl
    rw [hz] at hba
    have hp4 := hp3.new hba
    refine WL.var rfl rfl rfl (fun _ => rfl) rfl rfl (by intro y hy; simp [Value.cells] at hy; subst hy; rfl) ?_
    intro b11 w5 hb11
    have hp5 := hp4.new hb11
    repeat (first | refine WC.seq ?_ | refine WC.reg ?_ | refine WL.pure rfl rfl rfl ?_ | refine WL.nil ?_ | refine WC.skip ?_ | refine WC.block ?_ | refine WC.condT rfl ?_ | refine WC.condF rfl ?_ | refine WL.off rfl rfl rfl ?_ | refine WL.off0 rfl rfl ?_ | refine WC.exit ?_ | refine blk_hit ?_ | refine blk_miss rfl ?_ | refine WC.ret ?_)
    refine WC.loop Nat (fun i => [(0, .int .i64 (g.length : Nat)), (4, .pointer (some ⟨b4, 0, none⟩)), (7, .slice (some ⟨bg, 0, none⟩) g.length g.length), (9, .slice ao g.length co), (10, .int .i64 (wd g 0)), (11, .pointer (some ⟨b11, 0, none⟩)), (42, .slice ao g.length co), (43, .int .i64 (g.length : Nat)), (44, .int .i64 (i : Nat))])
      (fun i w' => i ≤ g.length ∧ Hp w w' [.blk b11 (.cells #[.slice (some ⟨ba, 0, none⟩) g.length g.length] 32 (0, 0)), .blk ba (.cells (ints (posA (bestO g) g.length i)).toArray 3 (0, 0)), .row 3 1 (.slice ao g.length co) g.length (ints (bestO g)),
        .blk bg (.cells (ints g).toArray 76 (0, 0)), .blk b4 (.cells ti46.zero.cells 46 (0, 0))]) (fun i => g.length - i) 0
      ⟨rfl, rfl, rfl, rfl, rfl, rfl, rfl, rfl, rfl, rfl⟩ ⟨Nat.zero_le _, hp5⟩ ?_
    rintro i w6 ⟨hi, hp6⟩
    repeat (first | refine WC.seq ?_ | refine WC.reg ?_ | refine WL.pure rfl rfl rfl ?_ | refine WL.nil ?_ | refine WC.skip ?_ | refine WC.block ?_ | refine WC.condT rfl ?_ | refine WC.condF rfl ?_ | refine WL.off rfl rfl rfl ?_ | refine WL.off0 rfl rfl ?_ | refine WC.exit ?_ | refine blk_hit ?_ | refine blk_miss rfl ?_ | refine WC.ret ?_)
    refine WC.cond rfl (fun hc => ?_) (fun hc => ?_)
    · have hi : i < g.length := by have := of_decide_eq_true hc; omega
      have hi' : i < (bestO g).length := by omega
      have step : IntKind.i64.wrap ((i : Int) + 1) = ((i + 1 : Nat) : Int) := by rw [wrap_i64_in (by omega) (by omega)]; omega
      have hv := bestO_lt hi'
      repeat (first | refine WC.seq ?_ | refine WC.reg ?_ | refine WL.pure rfl rfl rfl ?_ | refine WL.nil ?_ | refine WC.skip ?_ | refine WC.block ?_ | refine WC.condT rfl ?_ | refine WC.condF rfl ?_ | refine WL.off rfl rfl rfl ?_ | refine WL.off0 rfl rfl ?_ | refine WC.exit ?_ | refine blk_hit ?_ | refine blk_miss rfl ?_ | refine WC.ret ?_)
      refine WL.ixload rfl (fun _ => rfl) rfl rfl rfl rfl rfl rfl rfl hi rfl rfl (Sl.of_row (hp6.at 2 rfl)) (ints_at hi') ?_
      intro p
      repeat (first | refine WC.seq ?_ | refine WC.reg ?_ | refine WL.pure rfl rfl rfl ?_ | refine WL.nil ?_ | refine WC.skip ?_ | refine WC.block ?_ | refine WC.condT rfl ?_ | refine WC.condF rfl ?_ | refine WL.off rfl rfl rfl ?_ | refine WL.off0 rfl rfl ?_ | refine WC.exit ?_ | refine blk_hit ?_ | refine blk_miss rfl ?_ | refine WC.ret ?_)
      refine WL.loadB rfl rfl rfl rfl rfl (hp6.obj 0 rfl) rfl ?_
      repeat (first | refine WC.seq ?_ | refine WC.reg ?_ | refine WL.pure rfl rfl rfl ?_ | refine WL.nil ?_ | refine WC.skip ?_ | refine WC.block ?_ | refine WC.condT rfl ?_ | refine WC.condF rfl ?_ | refine WL.off rfl rfl rfl ?_ | refine WL.off0 rfl rfl ?_ | refine WC.exit ?_ | refine blk_hit ?_ | refine blk_miss rfl ?_ | refine WC.ret ?_)
      refine WL.ix1 rfl rfl rfl rfl rfl rfl rfl hv ?_
      refine WL.store rfl rfl rfl rfl rfl rfl (hp6.obj 1 rfl) (by simp [ints, posA_len]; exact hv) (fun w7 hw7 => ?_)
      rw [Nat.zero_add, ints_set, ← posA_succ] at hw7
      have hp7 := hp6.set 1 rfl rfl hw7
      repeat (first | refine WC.seq ?_ | refine WC.reg ?_ | refine WL.pure rfl rfl rfl ?_ | refine WL.nil ?_ | refine WC.skip ?_ | refine WC.block ?_ | refine WC.condT rfl ?_ | refine WC.condF rfl ?_ | refine WL.off rfl rfl rfl ?_ | refine WL.off0 rfl rfl ?_ | refine WC.exit ?_ | refine blk_hit ?_ | refine blk_miss rfl ?_ | refine WC.ret ?_)
      exact ⟨i + 1, by show g.length - (i + 1) < g.length - i; omega, ⟨rfl, rfl, rfl, rfl, rfl, rfl, rfl, rfl, congrArg (fun z => some (Value.int .i64 z)) step, rfl⟩, hi, hp7⟩
    have hi : i = g.length := by have := of_decide_eq_false hc; omega
    subst hi
    repeat (first | refine WC.seq ?_ | refine WC.reg ?_ | refine WL.pure rfl rfl rfl ?_ | refine WL.nil ?_ | refine WC.skip ?_ | refine WC.block ?_ | refine WC.condT rfl ?_ | refine WC.condF rfl ?_ | refine WL.off rfl rfl rfl ?_ | refine WL.off0 rfl rfl ?_ | refine WC.exit ?_ | refine blk_hit ?_ | refine blk_miss rfl ?_ | refine WC.ret ?_)
    refine WL.alloc rfl rfl rfl ?_
    intro bt w7 hbt
    have hp7 := (((hp6.new hbt).nilrow 50 2).nilrow 32 1).none'
    repeat (first | refine WC.seq ?_ | refine WC.reg ?_ | refine WL.pure rfl rfl rfl ?_ | refine WL.nil ?_ | refine WC.skip ?_ | refine WC.block ?_ | refine WC.condT rfl ?_ | refine WC.condF rfl ?_ | refine WL.off rfl rfl rfl ?_ | refine WL.off0 rfl rfl ?_ | refine WC.exit ?_ | refine blk_hit ?_ | refine blk_miss rfl ?_ | refine WC.ret ?_)
    let F : List Nat → List Bag → Option Addr → Nat → List Ed → Option Addr → Nat → List Ent := fun ds bl ab cb ls al cl => [.many (dfrs ds), .row 32 1 (.slice ab bl.length cb) bl.length (bl.map bagV), .row 50 2 (.slice al ls.length cl) ls.length (prs ls),
        .blk bt (.cells #[.slice ab bl.length cb, .slice al ls.length cl] 46 (0, 0)), .blk b11 (.cells #[.slice (some ⟨ba, 0, none⟩) g.length g.length] 32 (0, 0)), .blk ba (.cells (ints (posA (bestO g) g.length g.length)).toArray 3 (0, 0)), .row 3 1 (.slice ao g.length co) g.length (ints (bestO g)),
        .blk bg (.cells (ints g).toArray 76 (0, 0)), .blk b4 (.cells ti46.zero.cells 46 (0, 0))]
    refine WC.loop (Nat × Nat × List Bag × (Option Addr × Nat) × List Ed × (Option Addr × Nat) × List Nat) (fun (i, S, bl, (ab, cb), ls, (al, cl), ds) => [(1000000000, enc ds), (0, .int .i64 (g.length : Nat)), (4, .pointer (some ⟨b4, 0, none⟩)), (7, .slice (some ⟨bg, 0, none⟩) g.length g.length), (10, .int .i64 (wd g 0)), (11, .pointer (some ⟨b11, 0, none⟩)), (14, .pointer (some ⟨bt, 0, none⟩)),
        (15, .int .i64 (S : Nat)), (54, .slice ao g.length co), (55, .int .i64 (g.length : Nat)), (56, .int .i64 (i : Nat))])
      (fun (i, S, bl, (ab, cb), ls, (al, cl), ds) w' => i ≤ g.length ∧ S < 2 ^ g.length ∧ bl.length = i ∧ ls.length ≤ i ∧ bl.map (·.2.2) ++ dcB g ((bestO g).drop i) S = bagsOf g ∧ ls ++ dcL g (posA (bestO g) g.length g.length) ((bestO g).drop i) i S = linksOf g ∧
        Hp w w' (F ds bl ab cb ls al cl ++ bl.map bagE)) (fun (i, _) => g.length - i) (0, 0, [], (none, 0), [], (none, 0), [])
      ⟨rfl, rfl, rfl, rfl, rfl, rfl, rfl, rfl, rfl, rfl, rfl⟩ ⟨Nat.zero_le _, Nat.two_pow_pos _, rfl, Nat.le_refl _, by rw [bagsOf, if_neg h0]; rfl, by rw [linksOf, if_neg h0]; rfl, hp7⟩ ?_
    rintro ⟨i, S, bl, ⟨ab, cb⟩, ls, ⟨al, cl⟩, ds⟩ w8 ⟨hi, hS, hbl, hls, hbags, hlinks, hp8⟩
    have hS14 : S < 16384 := by omega
    repeat (first | refine WC.seq ?_ | refine WC.reg ?_ | refine WL.pure rfl rfl rfl ?_ | refine WL.nil ?_ | refine WC.skip ?_ | refine WC.block ?_ | refine WC.condT rfl ?_ | refine WC.condF rfl ?_ | refine WL.off rfl rfl rfl ?_ | refine WL.off0 rfl rfl ?_ | refine WC.exit ?_ | refine blk_hit ?_ | refine blk_miss rfl ?_ | refine WC.ret ?_)
    refine WC.cond rfl (fun hc => ?_) (fun hc => ?_)
    · have hi : i < g.length := by have := of_decide_eq_true hc; omega
      have hi' : i < (bestO g).length := by omega
      have step : IntKind.i64.wrap ((i : Int) + 1) = ((i + 1 : Nat) : Int) := by rw [wrap_i64_in (by omega) (by omega)]; omega
      have hv := bestO_lt hi'
      have hdrop : (bestO g).drop i = (bestO g).getD i 0 :: (bestO g).drop (i + 1) := by rw [List.drop_eq_getElem_cons hi']; simp [hi']
      repeat (first | refine WC.seq ?_ | refine WC.reg ?_ | refine WL.pure rfl rfl rfl ?_ | refine WL.nil ?_ | refine WC.skip ?_ | refine WC.block ?_ | refine WC.condT rfl ?_ | refine WC.condF rfl ?_ | refine WL.off rfl rfl rfl ?_ | refine WL.off0 rfl rfl ?_ | refine WC.exit ?_ | refine blk_hit ?_ | refine blk_miss rfl ?_ | refine WC.ret ?_)
      refine WL.ixload rfl (fun _ => rfl) rfl rfl rfl rfl rfl rfl rfl hi rfl rfl (Sl.of_row (hp8.at 6 rfl)) (ints_at hi') ?_
      intro p
      rw [hdrop] at hbags hlinks
      rw [dcB] at hbags
      rw [dcL] at hlinks
      generalize (bestO g).getD i 0 = v at *
      have hpv : 2 ^ v < 2 ^ g.length := Nat.pow_lt_pow_right (by decide) hv
      have hlat := lat_lt hg hv (gone := S)
      have hor : S ||| 2 ^ v < 2 ^ g.length := or_pow_lt hS hv
      have e15 : bits .or .i64 (S : Int) (shl .i64 1 v) = ((S ||| 2 ^ v : Nat) : Int) := by rw [shl_one (by omega), or_i64 (by omega) (by omega)]
      repeat (first | refine WC.seq ?_ | refine WC.reg ?_ | refine WL.pure rfl rfl rfl ?_ | refine WL.nil ?_ | refine WC.skip ?_ | refine WC.block ?_ | refine WC.condT rfl ?_ | refine WC.condF rfl ?_ | refine WL.off rfl rfl rfl ?_ | refine WL.off0 rfl rfl ?_ | refine WC.exit ?_ | refine blk_hit ?_ | refine blk_miss rfl ?_ | refine WC.ret ?_)
      refine WL.callP rfl rfl rfl rfl rfl ent55 (later_any _ _ g S v w8 (hsg _ _ 7 hp8 rfl) (hT.below hp8.below) hg hv hS14) ?_
      generalize lat g S v = near at *
      have hnl : near ||| 2 ^ v < 2 ^ g.length := or_pow_lt hlat hv
      have e74 : bits .or .i64 (near : Int) (shl .i64 1 v) = ((near ||| 2 ^ v : Nat) : Int) := by rw [shl_one (by omega), or_i64 (by omega) (by omega)]
      repeat (first | refine WC.seq ?_ | refine WC.reg ?_ | refine WL.pure rfl rfl rfl ?_ | refine WL.nil ?_ | refine WC.skip ?_ | refine WC.block ?_ | refine WC.condT rfl ?_ | refine WC.condF rfl ?_ | refine WL.off rfl rfl rfl ?_ | refine WL.off0 rfl rfl ?_ | refine WC.exit ?_ | refine blk_hit ?_ | refine blk_miss rfl ?_ | refine WC.ret ?_)
      refine WC.mid (Bag × Option Addr × Nat) (fun _ => [(1000000000, enc ds), (0, .int .i64 (g.length : Nat)), (4, .pointer (some ⟨b4, 0, none⟩)), (7, .slice (some ⟨bg, 0, none⟩) g.length g.length), (10, .int .i64 (wd g 0)), (11, .pointer (some ⟨b11, 0, none⟩)), (14, .pointer (some ⟨bt, 0, none⟩)),
          (15, .int .i64 (S ||| 2 ^ v : Nat)), (16, .int .i64 (i : Nat)), (18, .int .i64 (near : Nat)), (54, .slice ao g.length co), (55, .int .i64 (g.length : Nat)), (56, .int .i64 (i : Nat))])
        (fun (b, ab', cb') w' => b.2.2 = els (near ||| 2 ^ v) ∧ Hp w w' (F ds (bl ++ [b]) ab' cb' ls al cl ++ (bl ++ [b]).map bagE)) ?_ ?_
      · have fin : ∀ (a : Option Addr) (c bs : Nat) (a' : Option Addr) (cap' : Nat) (w' : World) (arr : Array Value) (E : Nat),
            Hp w w' (.blk bs (.cells arr E (0, 0)) :: .row 3 1 (.slice a (els (near ||| 2 ^ v)).length c) (els (near ||| 2 ^ v)).length (ints (els (near ||| 2 ^ v))) :: .many (dfrs ds) :: .row 32 1 (.slice a' (bl.length + 1) cap') (bl.length + 1) (bl.map bagV ++ [.slice a (els (near ||| 2 ^ v)).length c]) ::
              .row 50 2 (.slice al ls.length cl) ls.length (prs ls) :: .blk bt (.cells #[.slice a' (bl.length + 1) cap', .slice al ls.length cl] 46 (0, 0)) :: .blk b11 (.cells #[.slice (some ⟨ba, 0, none⟩) g.length g.length] 32 (0, 0)) :: .blk ba (.cells (ints (posA (bestO g) g.length g.length)).toArray 3 (0, 0)) :: .row 3 1 (.slice ao g.length co) g.length (ints (bestO g)) ::
              .blk bg (.cells (ints g).toArray 76 (0, 0)) :: .blk b4 (.cells ti46.zero.cells 46 (0, 0)) :: bl.map bagE) →
            Hp w w' (F ds (bl ++ [(a, c, els (near ||| 2 ^ v))]) a' cap' ls al cl ++ (bl ++ [(a, c, els (near ||| 2 ^ v))]).map bagE) := by
          intro a c bs a' cap' w' arr E h
          have h1 := Hp.permP h.tail (List.perm_append_singleton _ _).symm
          simp only [F, List.length_append, List.length_singleton, List.map_append, List.map_cons, List.map_nil]
          simpa [bagV, bagE] using h1
        have hel := els_le (near ||| 2 ^ v)
        have hil : (ints (els (near ||| 2 ^ v))).length = (els (near ||| 2 ^ v)).length := by simp [ints]
        refine WC.regH (fun _ => True) mixed (by kernel_rfl) (fun w9 hw9 hh9 => ?_)
        have hp9 := hp8.keep hw9
        refine WH.pure 0 (by kernel_rfl) rfl (by kernel_rfl) rfl rfl rfl trivial ?_
        refine WH.pure 2 (by kernel_rfl) rfl (by kernel_rfl) rfl rfl rfl trivial ?_
        refine WH.pure 3 (by kernel_rfl) rfl (by kernel_rfl) rfl rfl rfl trivial ?_
        refine WH.pure 4 (by kernel_rfl) rfl (by kernel_rfl) rfl rfl rfl trivial ?_
        refine WH.pure 5 (by kernel_rfl) rfl (by kernel_rfl) rfl rfl rfl trivial ?_
        refine WH.known (d := 74) (congrArg (fun z => some (Value.int .i64 z)) e74) ?_
        refine WH.two 1 6 rfl rfl (by kernel_rfl) ?_ ?_
        · refine WL.loadB rfl rfl rfl rfl rfl (hp9.obj 3 rfl) rfl ?_
          refine WL.nil ⟨trivial, ?_⟩
          refine WH.one 6 rfl (by kernel_rfl) ?_
          refine WL.call rfl rfl rfl rfl rfl ent45 (listed_any _ (by omega) w9 (hT.below hp9.below)) ?_
          rintro _ wA ⟨a5, c5, rfl, hm⟩
          have hpA := hp9.comb hm
          rw [hil] at hpA ⊢
          refine WL.nil ⟨trivial, ?_⟩
          refine WH.one 7 rfl (by kernel_rfl) ?_
          refine WL.buildS (cs := [.slice a5 (els (near ||| 2 ^ v)).length c5]) rfl rfl rfl rfl rfl rfl rfl rfl rfl ?_
          intro bs wB hbs
          have hpB := hpA.new hbs
          refine WL.nil ⟨trivial, ?_⟩
          refine WH.one 8 rfl (by kernel_rfl) ?_
          refine WL.append 3 hpB rfl rfl rfl rfl rfl Nat.zero_lt_one rfl rfl rfl (news := [.slice a5 (els (near ||| 2 ^ v)).length c5]) (Sl.of_obj (hpB.obj 0 rfl) (fun q u hq => by simpa using hq)) rfl (Cells.cons rfl Cells.nil) (by unfold maxLen; omega) (by show (bl.length + 1) * 24 ≤ _; omega) ?_
          intro a' cap' wC hpC hgC
          refine WL.nil ⟨trivial, ?_⟩
          refine WH.one 9 rfl (by kernel_rfl) ?_
          refine WL.pure rfl rfl rfl (WL.nil ⟨trivial, ?_⟩)
          refine WH.one 10 rfl (by kernel_rfl) ?_
          refine WL.store rfl rfl rfl rfl rfl rfl (hpC.obj 5 rfl) (by simp) (fun wD hwD => ?_)
          have hpD := hpC.set 5 rfl rfl hwD
          refine WL.nil ⟨trivial, ?_⟩
          refine WH.done (by kernel_rfl) ?_
          exact ⟨((a5, c5, els (near ||| 2 ^ v)), a', cap'), ⟨rfl, rfl, rfl, rfl, rfl, rfl, congrArg (fun z => some (Value.int .i64 z)) e15, rfl, rfl, rfl, rfl, rfl, rfl⟩, rfl, fin _ _ _ _ _ _ _ _ hpD⟩
        · refine WL.call rfl rfl rfl rfl rfl ent45 (listed_any _ (by omega) w9 (hT.below hp9.below)) ?_
          rintro _ wA ⟨a5, c5, rfl, hm⟩
          have hpA := hp9.comb hm
          rw [hil] at hpA ⊢
          refine WL.nil ⟨trivial, ?_⟩
          refine WH.two 1 7 rfl rfl (by kernel_rfl) ?_ ?_
          · refine WL.loadB rfl rfl rfl rfl rfl (hpA.obj 4 rfl) rfl ?_
            refine WL.nil ⟨trivial, ?_⟩
            refine WH.one 7 rfl (by kernel_rfl) ?_
            refine WL.buildS (cs := [.slice a5 (els (near ||| 2 ^ v)).length c5]) rfl rfl rfl rfl rfl rfl rfl rfl rfl ?_
            intro bs wB hbs
            have hpB := hpA.new hbs
            refine WL.nil ⟨trivial, ?_⟩
            refine WH.one 8 rfl (by kernel_rfl) ?_
            refine WL.append 3 hpB rfl rfl rfl rfl rfl Nat.zero_lt_one rfl rfl rfl (news := [.slice a5 (els (near ||| 2 ^ v)).length c5]) (Sl.of_obj (hpB.obj 0 rfl) (fun q u hq => by simpa using hq)) rfl (Cells.cons rfl Cells.nil) (by unfold maxLen; omega) (by show (bl.length + 1) * 24 ≤ _; omega) ?_
            intro a' cap' wC hpC hgC
            refine WL.nil ⟨trivial, ?_⟩
            refine WH.one 9 rfl (by kernel_rfl) ?_
            refine WL.pure rfl rfl rfl (WL.nil ⟨trivial, ?_⟩)
            refine WH.one 10 rfl (by kernel_rfl) ?_
            refine WL.store rfl rfl rfl rfl rfl rfl (hpC.obj 5 rfl) (by simp) (fun wD hwD => ?_)
            have hpD := hpC.set 5 rfl rfl hwD
            refine WL.nil ⟨trivial, ?_⟩
            refine WH.done (by kernel_rfl) ?_
            exact ⟨((a5, c5, els (near ||| 2 ^ v)), a', cap'), ⟨rfl, rfl, rfl, rfl, rfl, rfl, congrArg (fun z => some (Value.int .i64 z)) e15, rfl, rfl, rfl, rfl, rfl, rfl⟩, rfl, fin _ _ _ _ _ _ _ _ hpD⟩
          · refine WL.buildS (cs := [.slice a5 (els (near ||| 2 ^ v)).length c5]) rfl rfl rfl rfl rfl rfl rfl rfl rfl ?_
            intro bs wB hbs
            have hpB := hpA.new hbs
            refine WL.nil ⟨trivial, ?_⟩
            refine WH.one 1 rfl (by kernel_rfl) ?_
            refine WL.loadB rfl rfl rfl rfl rfl (hpB.obj 5 rfl) rfl ?_
            refine WL.nil ⟨trivial, ?_⟩
            refine WH.one 8 rfl (by kernel_rfl) ?_
            refine WL.append 3 hpB rfl rfl rfl rfl rfl Nat.zero_lt_one rfl rfl rfl (news := [.slice a5 (els (near ||| 2 ^ v)).length c5]) (Sl.of_obj (hpB.obj 0 rfl) (fun q u hq => by simpa using hq)) rfl (Cells.cons rfl Cells.nil) (by unfold maxLen; omega) (by show (bl.length + 1) * 24 ≤ _; omega) ?_
            intro a' cap' wC hpC hgC
            refine WL.nil ⟨trivial, ?_⟩
            refine WH.one 9 rfl (by kernel_rfl) ?_
            refine WL.pure rfl rfl rfl (WL.nil ⟨trivial, ?_⟩)
            refine WH.one 10 rfl (by kernel_rfl) ?_
            refine WL.store rfl rfl rfl rfl rfl rfl (hpC.obj 5 rfl) (by simp) (fun wD hwD => ?_)
            have hpD := hpC.set 5 rfl rfl hwD
            refine WL.nil ⟨trivial, ?_⟩
            refine WH.done (by kernel_rfl) ?_
            exact ⟨((a5, c5, els (near ||| 2 ^ v)), a', cap'), ⟨rfl, rfl, rfl, rfl, rfl, rfl, congrArg (fun z => some (Value.int .i64 z)) e15, rfl, rfl, rfl, rfl, rfl, rfl⟩, rfl, fin _ _ _ _ _ _ _ _ hpD⟩
      · rintro ⟨b, ab', cb'⟩ e2 w9 hsub ⟨hb, hp9⟩
        refine WC.sub hsub ?_
        generalize hbl' : bl ++ [b] = bl' at hp9
        have hbll : bl'.length = i + 1 := by rw [← hbl', List.length_append, hbl]; rfl
        have step' := step
        repeat (first | refine WC.seq ?_ | refine WC.reg ?_ | refine WL.pure rfl rfl rfl ?_ | refine WL.nil ?_ | refine WC.skip ?_ | refine WC.block ?_ | refine WC.condT rfl ?_ | refine WC.condF rfl ?_ | refine WL.off rfl rfl rfl ?_ | refine WL.off0 rfl rfl ?_ | refine WC.exit ?_ | refine blk_hit ?_ | refine blk_miss rfl ?_ | refine WC.ret ?_)
        refine WL.known (d := 80) (congrArg (fun z => some (Value.int .i64 z)) step) ?_
        refine WL.var rfl rfl rfl (fun _ => rfl) rfl rfl (by intro y hy; simp [Value.cells] at hy; subst hy; rfl) ?_
        intro b19 wA hb19
        have hpA := hp9.new hb19
        repeat (first | refine WC.seq ?_ | refine WC.reg ?_ | refine WL.pure rfl rfl rfl ?_ | refine WL.nil ?_ | refine WC.skip ?_ | refine WC.block ?_ | refine WC.condT rfl ?_ | refine WC.condF rfl ?_ | refine WL.off rfl rfl rfl ?_ | refine WL.off0 rfl rfl ?_ | refine WC.exit ?_ | refine blk_hit ?_ | refine blk_miss rfl ?_ | refine WC.ret ?_)
        generalize hnx : nxt (posA (bestO g) g.length g.length) g.length i near = nx at *
        refine WC.mid (List Nat) (fun ds' => [(1000000000, enc ds'), (0, .int .i64 (g.length : Nat)), (4, .pointer (some ⟨b4, 0, none⟩)), (7, .slice (some ⟨bg, 0, none⟩) g.length g.length), (10, .int .i64 (wd g 0)), (11, .pointer (some ⟨b11, 0, none⟩)), (14, .pointer (some ⟨bt, 0, none⟩)),
            (15, .int .i64 (S ||| 2 ^ v : Nat)), (16, .int .i64 (i : Nat)), (19, .pointer (some ⟨b19, 0, none⟩)), (54, .slice ao g.length co), (55, .int .i64 (g.length : Nat)), (56, .int .i64 (i : Nat))])
          (fun ds' w' => Hp w w' (.blk b19 (.cells #[.int .i64 (nx : Nat)] 3 (0, 0)) :: (F ds' bl' ab' cb' ls al cl ++ bl'.map bagE))) ?_ ?_
        · refine WC.cond rfl (fun hc2 => ?_) (fun hc2 => ?_)
          · have hn0 : near ≠ 0 := by intro h; rw [h] at hc2; simp at hc2
            repeat (first | refine WC.seq ?_ | refine WC.reg ?_ | refine WL.pure rfl rfl rfl ?_ | refine WL.nil ?_ | refine WC.skip ?_ | refine WC.block ?_ | refine WC.condT rfl ?_ | refine WC.condF rfl ?_ | refine WL.off rfl rfl rfl ?_ | refine WL.off0 rfl rfl ?_ | refine WC.exit ?_ | refine blk_hit ?_ | refine blk_miss rfl ?_ | refine WC.ret ?_)
            refine WL.store rfl rfl rfl rfl rfl rfl (hpA.obj 0 rfl) Nat.zero_lt_one (fun wB hwB => ?_)
            have hpB := hpA.set 0 rfl rfl hwB
            repeat (first | refine WC.seq ?_ | refine WC.reg ?_ | refine WL.pure rfl rfl rfl ?_ | refine WL.nil ?_ | refine WC.skip ?_ | refine WC.block ?_ | refine WC.condT rfl ?_ | refine WC.condF rfl ?_ | refine WL.off rfl rfl rfl ?_ | refine WL.off0 rfl rfl ?_ | refine WC.exit ?_ | refine blk_hit ?_ | refine blk_miss rfl ?_ | refine WC.ret ?_)
            refine WL.call rfl rfl rfl rfl rfl ent56 (all_any _ _) ?_
            rintro _ wC ⟨bx, hbx, rfl⟩
            have hpC := Hp.rot [_, _] [_] _ (hpB.new hbx)
            repeat (first | refine WC.seq ?_ | refine WC.reg ?_ | refine WL.pure rfl rfl rfl ?_ | refine WL.nil ?_ | refine WC.skip ?_ | refine WC.block ?_ | refine WC.condT rfl ?_ | refine WC.condF rfl ?_ | refine WL.off rfl rfl rfl ?_ | refine WL.off0 rfl rfl ?_ | refine WC.exit ?_ | refine blk_hit ?_ | refine blk_miss rfl ?_ | refine WC.ret ?_)
            refine WC.rangeF (ints (els near)) Nat (fun m => .many (dfrs ds) :: .blk bx (.cells #[.int .i64 near] 76 (0, 0)) :: .blk b19 (.cells #[.int .i64 (m : Nat)] 3 (0, 0)) :: .row 32 1 (.slice ab' bl'.length cb') bl'.length (bl'.map bagV) :: .row 50 2 (.slice al ls.length cl) ls.length (prs ls) ::
                .blk bt (.cells #[.slice ab' bl'.length cb', .slice al ls.length cl] 46 (0, 0)) :: .blk b11 (.cells #[.slice (some ⟨ba, 0, none⟩) g.length g.length] 32 (0, 0)) :: .blk ba (.cells (ints (posA (bestO g) g.length g.length)).toArray 3 (0, 0)) :: .row 3 1 (.slice ao g.length co) g.length (ints (bestO g)) ::
                .blk bg (.cells (ints g).toArray 76 (0, 0)) :: .blk b4 (.cells ti46.zero.cells 46 (0, 0)) :: bl'.map bagE)
              (fun k m => m = ((els near).take k).foldl (fun m u => min m ((posA (bestO g) g.length g.length).getD u 0)) g.length) g.length
              [(11, .pointer (some ⟨b11, 0, none⟩)), (19, .pointer (some ⟨b19, 0, none⟩))] rfl ent70 rfl ⟨rfl, rfl, trivial⟩ hpC rfl ?_ ?_ ?_
            · intro wD hpD
              exact all1_iter _ near (by omega) w wD hT (cell_of_obj (hpD.obj 1 rfl) rfl)
            · rintro k x m l D o wD hx hm hpD
              obtain ⟨u, hu, rfl⟩ : ∃ u : Nat, (els near)[k]? = some u ∧ x = .int .i64 u := by
                simp only [ints, List.getElem?_map, Option.map_eq_some_iff] at hx
                obtain ⟨y, h1, rfl⟩ := hx
                exact ⟨y, h1, rfl⟩
              have hun : u < g.length := lt_of_testBit hlat (mem_els.1 (List.mem_of_getElem? hu)).2
              have hpl := posA_len (bestO g) g.length g.length
              repeat (first | refine WC.seq ?_ | refine WC.reg ?_ | refine WL.pure rfl rfl rfl ?_ | refine WL.nil ?_ | refine WC.skip ?_ | refine WC.block ?_ | refine WC.condT rfl ?_ | refine WC.condF rfl ?_ | refine WL.off rfl rfl rfl ?_ | refine WL.off0 rfl rfl ?_ | refine WC.exit ?_ | refine blk_hit ?_ | refine blk_miss rfl ?_ | refine WC.ret ?_)
              refine ⟨_, hpD, fun o' wE hpE => ?_⟩
              repeat (first | refine WC.seq ?_ | refine WC.reg ?_ | refine WL.pure rfl rfl rfl ?_ | refine WL.nil ?_ | refine WC.skip ?_ | refine WC.block ?_ | refine WC.condT rfl ?_ | refine WC.condF rfl ?_ | refine WL.off rfl rfl rfl ?_ | refine WL.off0 rfl rfl ?_ | refine WC.exit ?_ | refine blk_hit ?_ | refine blk_miss rfl ?_ | refine WC.ret ?_)
              refine WC.regS 6 mixed (by kernel_rfl) rfl rfl (fun wG hwG hhG => ?_)
              have hpG := hpE.keep hwG
              refine WS.loadB rfl rfl rfl rfl rfl (hpG.obj 4 rfl) rfl ?_
              refine WS.loadB rfl rfl rfl rfl rfl (hpG.obj 8 rfl) rfl ?_
              repeat (first | refine WS.pure rfl rfl rfl ?_ | refine WS.off rfl rfl rfl ?_ | refine WS.nil ?_)
              refine WS.ix1 rfl rfl rfl rfl rfl rfl rfl hun ?_
              refine WS.loadB rfl rfl rfl rfl rfl (hpG.obj 9 rfl) (v := .int .i64 ((posA (bestO g) g.length g.length).getD u 0 : Nat)) (by rw [nth_eq, Nat.zero_add]; exact ints_at (by omega)) ?_
              repeat (first | refine WS.pure rfl rfl rfl ?_ | refine WS.off rfl rfl rfl ?_ | refine WS.nil ?_)
              refine WL.store rfl rfl rfl rfl rfl rfl (hpG.obj 4 rfl) Nat.zero_lt_one (fun wI hwI => ?_)
              rw [show min (m : Int) (((posA (bestO g) g.length g.length).getD u 0 : Nat) : Int) = ((min m ((posA (bestO g) g.length g.length).getD u 0) : Nat) : Int) by omega] at hwI
              have hpI := hpG.set 4 rfl rfl hwI
              repeat (first | refine WC.seq ?_ | refine WC.reg ?_ | refine WL.pure rfl rfl rfl ?_ | refine WL.nil ?_ | refine WC.skip ?_ | refine WC.block ?_ | refine WC.condT rfl ?_ | refine WC.condF rfl ?_ | refine WL.off rfl rfl rfl ?_ | refine WL.off0 rfl rfl ?_ | refine WC.exit ?_ | refine blk_hit ?_ | refine blk_miss rfl ?_ | refine WC.ret ?_)
              refine ⟨_, ?_, hpI⟩
              rw [List.take_add_one, hu, List.foldl_append, ← hm]
              rfl
            · rintro m D wD hm hpD
              have hm' : m = nx := by
                rw [← hnx, nxt, if_neg hn0, hm, List.take_of_length_le (by simp [ints])]
              subst hm'
              have hpE := ((hpD.join).swap.tail).swap
              repeat (first | refine WC.seq ?_ | refine WC.reg ?_ | refine WL.pure rfl rfl rfl ?_ | refine WL.nil ?_ | refine WC.skip ?_ | refine WC.block ?_ | refine WC.condT rfl ?_ | refine WC.condF rfl ?_ | refine WL.off rfl rfl rfl ?_ | refine WL.off0 rfl rfl ?_ | refine WC.exit ?_ | refine blk_hit ?_ | refine blk_miss rfl ?_ | refine WC.ret ?_)
              exact ⟨D :: ds, ⟨rfl, rfl, rfl, rfl, rfl, rfl, rfl, rfl, rfl, rfl, rfl, rfl, by show dec (enc (D :: ds)) = dec (enc (D :: dec (enc ds))); rw [dec_enc ds]⟩, hpE⟩
          · have hn0 : near = 0 := by simpa using hc2
            have hnx' : nx = i + 1 := by rw [← hnx, nxt, if_pos hn0]
            subst hnx'
            repeat (first | refine WC.seq ?_ | refine WC.reg ?_ | refine WL.pure rfl rfl rfl ?_ | refine WL.nil ?_ | refine WC.skip ?_ | refine WC.block ?_ | refine WC.condT rfl ?_ | refine WC.condF rfl ?_ | refine WL.off rfl rfl rfl ?_ | refine WL.off0 rfl rfl ?_ | refine WC.exit ?_ | refine blk_hit ?_ | refine blk_miss rfl ?_ | refine WC.ret ?_)
            exact ⟨ds, ⟨rfl, rfl, rfl, rfl, rfl, rfl, rfl, rfl, rfl, rfl, rfl, rfl, rfl⟩, hpA⟩
        · intro ds' e3 wB hsub3 hpB
          refine WC.sub hsub3 ?_
          have hbags' : bl'.map (·.2.2) ++ dcB g ((bestO g).drop (i + 1)) (S ||| 2 ^ v) = bagsOf g := by
            rw [← hbags, ← hbl', List.map_append, List.append_assoc, List.map_cons, hb]; rfl
          repeat (first | refine WC.seq ?_ | refine WC.reg ?_ | refine WL.pure rfl rfl rfl ?_ | refine WL.nil ?_ | refine WC.skip ?_ | refine WC.block ?_ | refine WC.condT rfl ?_ | refine WC.condF rfl ?_ | refine WL.off rfl rfl rfl ?_ | refine WL.off0 rfl rfl ?_ | refine WC.exit ?_ | refine blk_hit ?_ | refine blk_miss rfl ?_ | refine WC.ret ?_)
          refine WL.loadB rfl rfl rfl rfl rfl (hpB.obj 0 rfl) rfl ?_
          repeat (first | refine WC.seq ?_ | refine WC.reg ?_ | refine WL.pure rfl rfl rfl ?_ | refine WL.nil ?_ | refine WC.skip ?_ | refine WC.block ?_ | refine WC.condT rfl ?_ | refine WC.condF rfl ?_ | refine WL.off rfl rfl rfl ?_ | refine WL.off0 rfl rfl ?_ | refine WC.exit ?_ | refine blk_hit ?_ | refine blk_miss rfl ?_ | refine WC.ret ?_)
          refine WC.cond rfl (fun hc3 => ?_) (fun hc3 => ?_)
          · have hnn : nx < g.length := by have := of_decide_eq_true hc3; omega
            rw [if_pos hnn] at hlinks
            repeat (first | refine WC.seq ?_ | refine WC.reg ?_ | refine WL.pure rfl rfl rfl ?_ | refine WL.nil ?_ | refine WC.skip ?_ | refine WC.block ?_ | refine WC.condT rfl ?_ | refine WC.condF rfl ?_ | refine WL.off rfl rfl rfl ?_ | refine WL.off0 rfl rfl ?_ | refine WC.exit ?_ | refine blk_hit ?_ | refine blk_miss rfl ?_ | refine WC.ret ?_)
            refine WL.loadB rfl rfl rfl rfl rfl (hpB.obj 4 rfl) rfl ?_
            repeat (first | refine WC.seq ?_ | refine WC.reg ?_ | refine WL.pure rfl rfl rfl ?_ | refine WL.nil ?_ | refine WC.skip ?_ | refine WC.block ?_ | refine WC.condT rfl ?_ | refine WC.condF rfl ?_ | refine WL.off rfl rfl rfl ?_ | refine WL.off0 rfl rfl ?_ | refine WC.exit ?_ | refine blk_hit ?_ | refine blk_miss rfl ?_ | refine WC.ret ?_)
            refine WL.loadB rfl rfl rfl rfl rfl (hpB.obj 0 rfl) rfl ?_
            refine WL.buildA (cs := pr ((i : Int), (nx : Int))) rfl rfl rfl rfl rfl rfl ?_
            refine WL.buildS (cs := pr ((i : Int), (nx : Int))) rfl rfl rfl rfl rfl rfl rfl rfl rfl ?_
            intro bs wC hbs
            have hpC := hpB.new hbs
            refine WL.append 4 hpC rfl rfl rfl rfl rfl (by decide) rfl rfl rfl (news := pr ((i : Int), (nx : Int))) (Sl.of_obj (hpC.obj 0 rfl) (fun q u hq => by simpa using hq)) rfl (Cells.cons rfl (Cells.cons rfl Cells.nil)) (by unfold maxLen; omega) (by show (ls.length + 1) * 16 ≤ _; omega) ?_
            intro a' cap' wD hpD hgD
            repeat (first | refine WC.seq ?_ | refine WC.reg ?_ | refine WL.pure rfl rfl rfl ?_ | refine WL.nil ?_ | refine WC.skip ?_ | refine WC.block ?_ | refine WC.condT rfl ?_ | refine WC.condF rfl ?_ | refine WL.off rfl rfl rfl ?_ | refine WL.off0 rfl rfl ?_ | refine WC.exit ?_ | refine blk_hit ?_ | refine blk_miss rfl ?_ | refine WC.ret ?_)
            refine WL.store rfl rfl rfl rfl rfl rfl (hpD.obj 5 rfl) (by simp) (fun wE hwE => ?_)
            have hpE := (hpD.set 5 rfl rfl hwE).tail.tail
            repeat (first | refine WC.seq ?_ | refine WC.reg ?_ | refine WL.pure rfl rfl rfl ?_ | refine WL.nil ?_ | refine WC.skip ?_ | refine WC.block ?_ | refine WC.condT rfl ?_ | refine WC.condF rfl ?_ | refine WL.off rfl rfl rfl ?_ | refine WL.off0 rfl rfl ?_ | refine WC.exit ?_ | refine blk_hit ?_ | refine blk_miss rfl ?_ | refine WC.ret ?_)
            refine ⟨(i + 1, S ||| 2 ^ v, bl', (ab', cb'), ls ++ [((i : Int), (nx : Int))], (a', cap'), ds'), by show g.length - (i + 1) < g.length - i; omega, ⟨rfl, rfl, rfl, rfl, rfl, rfl, rfl, rfl, rfl, congrArg (fun z => some (Value.int .i64 z)) step, rfl⟩, hi, hor, hbll, by rw [List.length_append, List.length_singleton]; omega, hbags', by rw [← hlinks, List.append_assoc], ?_⟩
            simp only [F, List.length_append, List.length_singleton]
            rw [show prs (ls ++ [((i : Int), (nx : Int))]) = prs ls ++ pr ((i : Int), (nx : Int)) by simp [prs]]
            exact hpE
          · have hnn : ¬ nx < g.length := by have := of_decide_eq_false hc3; omega
            rw [if_neg hnn] at hlinks
            repeat (first | refine WC.seq ?_ | refine WC.reg ?_ | refine WL.pure rfl rfl rfl ?_ | refine WL.nil ?_ | refine WC.skip ?_ | refine WC.block ?_ | refine WC.condT rfl ?_ | refine WC.condF rfl ?_ | refine WL.off rfl rfl rfl ?_ | refine WL.off0 rfl rfl ?_ | refine WC.exit ?_ | refine blk_hit ?_ | refine blk_miss rfl ?_ | refine WC.ret ?_)
            exact ⟨(i + 1, S ||| 2 ^ v, bl', (ab', cb'), ls, (al, cl), ds'), by show g.length - (i + 1) < g.length - i; omega, ⟨rfl, rfl, rfl, rfl, rfl, rfl, rfl, rfl, rfl, congrArg (fun z => some (Value.int .i64 z)) step, rfl⟩, hi, hor, hbll, by omega, hbags', hlinks, hpB.tail⟩
    have hi : i = g.length := by have := of_decide_eq_false hc; omega
    subst hi
    have hd : (bestO g).drop bl.length = [] := List.drop_eq_nil_of_le (by omega)
    rw [← hbl, hd] at hbags hlinks
    simp only [dcB, dcL, List.append_nil] at hbags hlinks
    have hcell : ∀ w' : World, w'.heap[bt]? = some (.cells #[.slice ab bl.length cb, .slice al ls.length cl] 46 (0, 0)) → ∀ (j : Nat) (v : Value), [Value.slice ab bl.length cb, .slice al ls.length cl][j]? = some v → w'.cell? ⟨bt, 0 + j, none⟩ = some v :=
      fun w' h j v hj => cell_of_obj h (by rw [Nat.zero_add]; simpa using hj)
    repeat (first | refine WC.seq ?_ | refine WC.reg ?_ | refine WL.pure rfl rfl rfl ?_ | refine WL.nil ?_ | refine WC.skip ?_ | refine WC.block ?_ | refine WC.condT rfl ?_ | refine WC.condF rfl ?_ | refine WL.off rfl rfl rfl ?_ | refine WL.off0 rfl rfl ?_ | refine WC.exit ?_ | refine blk_hit ?_ | refine blk_miss rfl ?_ | refine WC.ret ?_)
    refine WL.loadN (cs := [.slice ab bl.length cb, .slice al ls.length cl]) rfl rfl rfl rfl rfl rfl (hcell _ (hp8.obj 3 rfl)) ?_
    repeat (first | refine WC.seq ?_ | refine WC.reg ?_ | refine WL.pure rfl rfl rfl ?_ | refine WL.nil ?_ | refine WC.skip ?_ | refine WC.block ?_ | refine WC.condT rfl ?_ | refine WC.condF rfl ?_ | refine WL.off rfl rfl rfl ?_ | refine WL.off0 rfl rfl ?_ | refine WC.exit ?_ | refine blk_hit ?_ | refine blk_miss rfl ?_ | refine WC.ret ?_)
    refine WL.storeN rfl rfl rfl rfl rfl (by intro v hv; simp at hv; rcases hv with rfl | rfl <;> rfl) (hp8.obj 8 rfl) (Nat.le_refl 2) rfl (fun w9 hw9 => ?_)
    have hp9 := hp8.set 8 rfl rfl hw9
    repeat (first | refine WC.seq ?_ | refine WC.reg ?_ | refine WL.pure rfl rfl rfl ?_ | refine WL.nil ?_ | refine WC.skip ?_ | refine WC.block ?_ | refine WC.condT rfl ?_ | refine WC.condF rfl ?_ | refine WL.off rfl rfl rfl ?_ | refine WL.off0 rfl rfl ?_ | refine WC.exit ?_ | refine blk_hit ?_ | refine blk_miss rfl ?_ | refine WC.ret ?_)
    refine ResM.ctt 7 (dec_enc ds) rfl rfl rfl rfl rfl rfl rfl hp9 rfl (fun wA hpA => ?_)
    unfold DecIs
    rw [hmk]
    subst hlinks
    refine ⟨bl, ab, cb, al, cl, hbags, ?_, rfl⟩
    exact (Hp.rot [_, _] [_, _, _, _, _, _] _ hpA).tail.tail.tail.tail.tail.tail
end Go.Proofs.YtdnkkflpgebfbaaDoor

/- The walks of 'Order' and 'Best'. -/
namespace Go.Proofs.YtdnkkflpgebfbaaDoor
open Go.W Go.Tree
set_option maxRecDepth 100000
attribute [local irreducible] WC WL WQ WS

def ordV (n : Int) (es : List Ed) (o : List Int) : Value := match mkG n es with
  | none => .tuple #[.int .i64 0, .int .i64 2]
  | some g => if (o.length : Int) ≠ n then .tuple #[.int .i64 0, .int .i64 2] else match ordL g o 0 (-1) with
    | none => .tuple #[.int .i64 0, .int .i64 2]
    | some k => .tuple #[.int .i64 k, .int .i64 0]

theorem zs_get {xs : List Int} {i : Nat} (h : i < xs.length) : (zs xs)[i]? = some (.int .i64 (xs.getD i 0)) := by simp [zs, h]

theorem Order_any (ea oa : Option Addr) (cap oc : Nat) (n : Int) (es : List Ed) (o : List Int) (w : World) (hs : Sl w ea (prs es)) (hlen : es.length ≤ 4611686018427387904) (ho : Sl w oa (zs o)) (_hol : o.length ≤ 4611686018427387904) (hT : Tb w) :
    Ret Tryd.prog 31 [.int .i64 n, .slice ea es.length cap, .slice oa o.length oc] w fun v w' => Hp w w' [] ∧ v = ordV n es o := by
  refine enter Tryd.func31 rfl rfl ⟨rfl, rfl⟩ rfl ?_
  repeat (first | refine WC.seq ?_ | refine WC.reg ?_ | refine WL.pure rfl rfl rfl ?_ | refine WL.nil ?_ | refine WC.skip ?_ | refine WC.block ?_ | refine WC.condT rfl ?_ | refine WC.condF rfl ?_ | refine WL.off rfl rfl rfl ?_ | refine WL.off0 rfl rfl ?_ | refine WC.exit ?_ | refine blk_hit ?_ | refine blk_miss rfl ?_ | refine WC.ret ?_)
  refine WL.call rfl rfl rfl rfl rfl ent38 (newGraph_any ea cap n es w hs hlen) ?_
  intro v1 w1 hG
  cases hmk : mkG n es with
  | none =>
    obtain ⟨hp1, rfl⟩ := graph_none hG hmk
    repeat (first | refine WC.seq ?_ | refine WC.reg ?_ | refine WL.pure rfl rfl rfl ?_ | refine WL.nil ?_ | refine WC.skip ?_ | refine WC.block ?_ | refine WC.condT rfl ?_ | refine WC.condF rfl ?_ | refine WL.off rfl rfl rfl ?_ | refine WL.off0 rfl rfl ?_ | refine WC.exit ?_ | refine blk_hit ?_ | refine blk_miss rfl ?_ | refine WC.ret ?_)
    exact Res.two rfl rfl rfl rfl ⟨hp1, by rw [ordV, hmk]⟩
  | some g =>
    obtain ⟨hg, hgn, hn0, _, _⟩ := mkG_gr hmk
    have hn := hg.len
    have hp14 : 2 ^ g.length ≤ 2 ^ 14 := Nat.pow_le_pow_right (by decide) hn
    obtain ⟨bg, hp1, rfl⟩ := graph_hp hG hmk
    obtain ⟨m, rfl⟩ := Int.eq_ofNat_of_zero_le hn0
    have hgn : g.length = m := by simpa using hgn
    subst hgn
    repeat (first | refine WC.seq ?_ | refine WC.reg ?_ | refine WL.pure rfl rfl rfl ?_ | refine WL.nil ?_ | refine WC.skip ?_ | refine WC.block ?_ | refine WC.condT rfl ?_ | refine WC.condF rfl ?_ | refine WL.off rfl rfl rfl ?_ | refine WL.off0 rfl rfl ?_ | refine WC.exit ?_ | refine blk_hit ?_ | refine blk_miss rfl ?_ | refine WC.ret ?_)
    refine WC.cond rfl (fun h0 => ?_) (fun h0 => ?_)
    · have h0 : (o.length : Int) ≠ (g.length : Nat) := by simpa using h0
      repeat (first | refine WC.seq ?_ | refine WC.reg ?_ | refine WL.pure rfl rfl rfl ?_ | refine WL.nil ?_ | refine WC.skip ?_ | refine WC.block ?_ | refine WC.condT rfl ?_ | refine WC.condF rfl ?_ | refine WL.off rfl rfl rfl ?_ | refine WL.off0 rfl rfl ?_ | refine WC.exit ?_ | refine blk_hit ?_ | refine blk_miss rfl ?_ | refine WC.ret ?_)
      exact Res.two rfl rfl rfl rfl ⟨hp1.nil', by simp only [ordV, hmk]; rw [if_pos h0]⟩
    have h0 : (o.length : Int) = (g.length : Nat) := by simpa using h0
    have hval : ordV (g.length : Nat) es o = match ordL g o 0 (-1) with
      | none => .tuple #[.int .i64 0, .int .i64 2]
      | some k => .tuple #[.int .i64 k, .int .i64 0] := by
      simp only [ordV, hmk]; rw [if_neg (fun h => h h0)]
    repeat (first | refine WC.seq ?_ | refine WC.reg ?_ | refine WL.pure rfl rfl rfl ?_ | refine WL.nil ?_ | refine WC.skip ?_ | refine WC.block ?_ | refine WC.condT rfl ?_ | refine WC.condF rfl ?_ | refine WL.off rfl rfl rfl ?_ | refine WL.off0 rfl rfl ?_ | refine WC.exit ?_ | refine blk_hit ?_ | refine blk_miss rfl ?_ | refine WC.ret ?_)
    refine WC.loop (Nat × Nat × Int) (fun (i, S, k) => [(0, .int .i64 (g.length : Nat)), (8, .slice (some ⟨bg, 0, none⟩) g.length g.length), (10, .int .i64 k), (11, .int .i64 (S : Nat)), (28, .slice oa o.length oc), (29, .int .i64 (o.length : Nat)), (30, .int .i64 (i : Nat))])
      (fun (i, S, k) w' => i ≤ o.length ∧ S < 2 ^ g.length ∧ ordL g o 0 (-1) = ordL g (o.drop i) S k ∧ Hp w w' [.blk bg (.cells (ints g).toArray 76 (0, 0))]) (fun (i, _) => o.length - i) (0, 0, -1)
      ⟨rfl, rfl, rfl, rfl, rfl, rfl, rfl, rfl⟩ ⟨Nat.zero_le _, Nat.two_pow_pos _, rfl, hp1⟩ ?_
    rintro ⟨i, S, k⟩ w2 ⟨hi, hS, hr, hp2⟩
    repeat (first | refine WC.seq ?_ | refine WC.reg ?_ | refine WL.pure rfl rfl rfl ?_ | refine WL.nil ?_ | refine WC.skip ?_ | refine WC.block ?_ | refine WC.condT rfl ?_ | refine WC.condF rfl ?_ | refine WL.off rfl rfl rfl ?_ | refine WL.off0 rfl rfl ?_ | refine WC.exit ?_ | refine blk_hit ?_ | refine blk_miss rfl ?_ | refine WC.ret ?_)
    refine WC.cond rfl (fun hc => ?_) (fun hc => ?_)
    · have hi : i < o.length := by have := of_decide_eq_true hc; omega
      have step : IntKind.i64.wrap ((i : Int) + 1) = ((i + 1 : Nat) : Int) := by rw [wrap_i64_in (by omega) (by omega)]; omega
      have hdrop : o.drop i = o.getD i 0 :: o.drop (i + 1) := by rw [List.drop_eq_getElem_cons hi]; simp [hi]
      repeat (first | refine WC.seq ?_ | refine WC.reg ?_ | refine WL.pure rfl rfl rfl ?_ | refine WL.nil ?_ | refine WC.skip ?_ | refine WC.block ?_ | refine WC.condT rfl ?_ | refine WC.condF rfl ?_ | refine WL.off rfl rfl rfl ?_ | refine WL.off0 rfl rfl ?_ | refine WC.exit ?_ | refine blk_hit ?_ | refine blk_miss rfl ?_ | refine WC.ret ?_)
      refine WL.ixload rfl (fun _ => rfl) rfl rfl rfl rfl rfl rfl rfl hi rfl rfl (ho.hp hp2) (zs_get hi) ?_
      intro p
      rw [hdrop, ordL] at hr
      generalize o.getD i 0 = v at *
      have bad : (v < 0 ∨ (g.length : Int) ≤ v ∨ S.testBit v.toNat = true) → ordV (g.length : Nat) es o = .tuple #[.int .i64 0, .int .i64 2] := by
        intro h
        rw [if_pos h] at hr
        rw [hval, hr]
      repeat (first | refine WC.seq ?_ | refine WC.reg ?_ | refine WL.pure rfl rfl rfl ?_ | refine WL.nil ?_ | refine WC.skip ?_ | refine WC.block ?_ | refine WC.condT rfl ?_ | refine WC.condF rfl ?_ | refine WL.off rfl rfl rfl ?_ | refine WL.off0 rfl rfl ?_ | refine WC.exit ?_ | refine blk_hit ?_ | refine blk_miss rfl ?_ | refine WC.ret ?_)
      refine WL.split 36 rfl (fun q1 => ?_) (fun q1 => ?_)
      · repeat (first | refine WC.seq ?_ | refine WC.reg ?_ | refine WL.pure rfl rfl rfl ?_ | refine WL.nil ?_ | refine WC.skip ?_ | refine WC.block ?_ | refine WC.condT rfl ?_ | refine WC.condF rfl ?_ | refine WL.off rfl rfl rfl ?_ | refine WL.off0 rfl rfl ?_ | refine WC.exit ?_ | refine blk_hit ?_ | refine blk_miss rfl ?_ | refine WC.ret ?_)
        exact Res.two rfl rfl rfl rfl ⟨hp2.nil', (bad (.inl (of_decide_eq_true q1))).symm⟩
      have q1 : ¬ v < 0 := of_decide_eq_false q1
      repeat (first | refine WC.seq ?_ | refine WC.reg ?_ | refine WL.pure rfl rfl rfl ?_ | refine WL.nil ?_ | refine WC.skip ?_ | refine WC.block ?_ | refine WC.condT rfl ?_ | refine WC.condF rfl ?_ | refine WL.off rfl rfl rfl ?_ | refine WL.off0 rfl rfl ?_ | refine WC.exit ?_ | refine blk_hit ?_ | refine blk_miss rfl ?_ | refine WC.ret ?_)
      refine WL.split 41 rfl (fun q2 => ?_) (fun q2 => ?_)
      · repeat (first | refine WC.seq ?_ | refine WC.reg ?_ | refine WL.pure rfl rfl rfl ?_ | refine WL.nil ?_ | refine WC.skip ?_ | refine WC.block ?_ | refine WC.condT rfl ?_ | refine WC.condF rfl ?_ | refine WL.off rfl rfl rfl ?_ | refine WL.off0 rfl rfl ?_ | refine WC.exit ?_ | refine blk_hit ?_ | refine blk_miss rfl ?_ | refine WC.ret ?_)
        exact Res.two rfl rfl rfl rfl ⟨hp2.nil', (bad (.inr (.inl (of_decide_eq_true q2)))).symm⟩
      have q2 : ¬ (g.length : Int) ≤ v := of_decide_eq_false q2
      obtain ⟨v, rfl⟩ := Int.eq_ofNat_of_zero_le (show 0 ≤ v by omega)
      have hv : v < g.length := by omega
      simp only [Int.toNat_natCast] at bad hr
      repeat (first | refine WC.seq ?_ | refine WC.reg ?_ | refine WL.pure rfl rfl rfl ?_ | refine WL.nil ?_ | refine WC.skip ?_ | refine WC.block ?_ | refine WC.condT rfl ?_ | refine WC.condF rfl ?_ | refine WL.off rfl rfl rfl ?_ | refine WL.off0 rfl rfl ?_ | refine WC.exit ?_ | refine blk_hit ?_ | refine blk_miss rfl ?_ | refine WC.ret ?_)
      refine WL.callP rfl rfl rfl rfl rfl ent44 (has_any S v (by omega) _) ?_
      repeat (first | refine WC.seq ?_ | refine WC.reg ?_ | refine WL.pure rfl rfl rfl ?_ | refine WL.nil ?_ | refine WC.skip ?_ | refine WC.block ?_ | refine WC.condT rfl ?_ | refine WC.condF rfl ?_ | refine WL.off rfl rfl rfl ?_ | refine WL.off0 rfl rfl ?_ | refine WC.exit ?_ | refine blk_hit ?_ | refine blk_miss rfl ?_ | refine WC.ret ?_)
      refine WC.cond rfl (fun q3 => ?_) (fun q3 => ?_)
      · repeat (first | refine WC.seq ?_ | refine WC.reg ?_ | refine WL.pure rfl rfl rfl ?_ | refine WL.nil ?_ | refine WC.skip ?_ | refine WC.block ?_ | refine WC.condT rfl ?_ | refine WC.condF rfl ?_ | refine WL.off rfl rfl rfl ?_ | refine WL.off0 rfl rfl ?_ | refine WC.exit ?_ | refine blk_hit ?_ | refine blk_miss rfl ?_ | refine WC.ret ?_)
        exact Res.two rfl rfl rfl rfl ⟨hp2.nil', (bad (.inr (.inr q3))).symm⟩
      rw [if_neg (fun h => h.elim q1 (fun h => h.elim q2 (fun h => by rw [q3] at h; cases h)))] at hr
      have hlat := lat_lt hg hv (gone := S)
      have e3 : bits .or .i64 (S : Int) (shl .i64 1 v) = ((S ||| 2 ^ v : Nat) : Int) := by rw [shl_one (by omega), or_i64 (by omega) (by have := Nat.pow_lt_pow_right (a := 2) (by decide) hv; omega)]
      repeat (first | refine WC.seq ?_ | refine WC.reg ?_ | refine WL.pure rfl rfl rfl ?_ | refine WL.nil ?_ | refine WC.skip ?_ | refine WC.block ?_ | refine WC.condT rfl ?_ | refine WC.condF rfl ?_ | refine WL.off rfl rfl rfl ?_ | refine WL.off0 rfl rfl ?_ | refine WC.exit ?_ | refine blk_hit ?_ | refine blk_miss rfl ?_ | refine WC.ret ?_)
      refine WL.callP rfl rfl rfl rfl rfl ent55 (later_any _ _ g S v w2 (Sl.of_obj (hp2.obj 0 rfl) (fun i u h => by simpa using h)) (hT.below hp2.below) hg hv (by omega)) ?_
      refine WL.callP rfl rfl rfl rfl rfl ent41 (size_any _ (by omega) _) ?_
      repeat (first | refine WC.seq ?_ | refine WC.reg ?_ | refine WL.pure rfl rfl rfl ?_ | refine WL.nil ?_ | refine WC.skip ?_ | refine WC.block ?_ | refine WC.condT rfl ?_ | refine WC.condF rfl ?_ | refine WL.off rfl rfl rfl ?_ | refine WL.off0 rfl rfl ?_ | refine WC.exit ?_ | refine blk_hit ?_ | refine blk_miss rfl ?_ | refine WC.ret ?_)
      exact ⟨(i + 1, S ||| 2 ^ v, max k (pc (lat g S v) : Nat)), by show o.length - (i + 1) < o.length - i; omega, ⟨rfl, rfl, rfl, congrArg (fun z => some (Value.int .i64 z)) e3, rfl, rfl, congrArg (fun z => some (Value.int .i64 z)) step, rfl⟩, hi, or_pow_lt hS hv, hr, hp2⟩
    · have hi : o.length ≤ i := by have := of_decide_eq_false hc; omega
      rw [List.drop_eq_nil_of_le hi, ordL] at hr
      repeat (first | refine WC.seq ?_ | refine WC.reg ?_ | refine WL.pure rfl rfl rfl ?_ | refine WL.nil ?_ | refine WC.skip ?_ | refine WC.block ?_ | refine WC.condT rfl ?_ | refine WC.condF rfl ?_ | refine WL.off rfl rfl rfl ?_ | refine WL.off0 rfl rfl ?_ | refine WC.exit ?_ | refine blk_hit ?_ | refine blk_miss rfl ?_ | refine WC.ret ?_)
      exact Res.two rfl rfl rfl rfl ⟨hp2.nil', by rw [hval, hr]⟩

def BestIs (w : World) (n : Int) (es : List Ed) (v : Value) (w' : World) : Prop := match mkG n es with
  | none => Hp w w' [] ∧ v = .tuple #[.slice none 0 0, .int .i64 2]
  | some g => ∃ a c, Hp w w' [.row 3 1 (.slice a g.length c) g.length (ints (bestO g))] ∧ v = .tuple #[.slice a g.length c, .int .i64 0]
theorem Best_any (ea : Option Addr) (cap : Nat) (n : Int) (es : List Ed) (w : World) (hs : Sl w ea (prs es)) (hlen : es.length ≤ 4611686018427387904) (hT : Tb w) :
    Ret Tryd.prog 28 [.int .i64 n, .slice ea es.length cap] w (BestIs w n es) := by
  refine enter Tryd.func28 rfl rfl ⟨rfl, rfl⟩ rfl ?_
  repeat (first | refine WC.seq ?_ | refine WC.reg ?_ | refine WL.pure rfl rfl rfl ?_ | refine WL.nil ?_ | refine WC.skip ?_ | refine WC.block ?_ | refine WC.condT rfl ?_ | refine WC.condF rfl ?_ | refine WL.off rfl rfl rfl ?_ | refine WL.off0 rfl rfl ?_ | refine WC.exit ?_ | refine blk_hit ?_ | refine blk_miss rfl ?_ | refine WC.ret ?_)
  refine WL.call rfl rfl rfl rfl rfl ent38 (newGraph_any ea cap n es w hs hlen) ?_
  intro v1 w1 hG
  cases hmk : mkG n es with
  | none =>
    obtain ⟨hp1, rfl⟩ := graph_none hG hmk
    repeat (first | refine WC.seq ?_ | refine WC.reg ?_ | refine WL.pure rfl rfl rfl ?_ | refine WL.nil ?_ | refine WC.skip ?_ | refine WC.block ?_ | refine WC.condT rfl ?_ | refine WC.condF rfl ?_ | refine WL.off rfl rfl rfl ?_ | refine WL.off0 rfl rfl ?_ | refine WC.exit ?_ | refine blk_hit ?_ | refine blk_miss rfl ?_ | refine WC.ret ?_)
    exact Res.two rfl rfl rfl rfl (by unfold BestIs; rw [hmk]; exact ⟨hp1, rfl⟩)
  | some g =>
    obtain ⟨hg, _, _, _, _⟩ := mkG_gr hmk
    obtain ⟨bg, hp1, rfl⟩ := graph_hp hG hmk
    repeat (first | refine WC.seq ?_ | refine WC.reg ?_ | refine WL.pure rfl rfl rfl ?_ | refine WL.nil ?_ | refine WC.skip ?_ | refine WC.block ?_ | refine WC.condT rfl ?_ | refine WC.condF rfl ?_ | refine WL.off rfl rfl rfl ?_ | refine WL.off0 rfl rfl ?_ | refine WC.exit ?_ | refine blk_hit ?_ | refine blk_miss rfl ?_ | refine WC.ret ?_)
    refine WL.call rfl rfl rfl rfl rfl ent54 (best_any _ _ g w1 (Sl.of_obj (hp1.obj 0 rfl) (fun i u h => by simpa using h)) (hT.below hp1.below) hg) ?_
    rintro _ w2 ⟨a, c, hp2, rfl⟩
    have hp2 := hp1.comb hp2
    repeat (first | refine WC.seq ?_ | refine WC.reg ?_ | refine WL.pure rfl rfl rfl ?_ | refine WL.nil ?_ | refine WC.skip ?_ | refine WC.block ?_ | refine WC.condT rfl ?_ | refine WC.condF rfl ?_ | refine WL.off rfl rfl rfl ?_ | refine WL.off0 rfl rfl ?_ | refine WC.exit ?_ | refine blk_hit ?_ | refine blk_miss rfl ?_ | refine WC.ret ?_)
    exact Res.two rfl rfl rfl rfl (by unfold BestIs; rw [hmk]; exact ⟨a, c, hp2.pick [0] (by decide), rfl⟩)
end Go.Proofs.YtdnkkflpgebfbaaDoor

/- The circle with five vertices, reckoned. -/
namespace Go.Proofs.YtdnkkflpgebfbaaDoor
open Go.W Go.Tree
def five : List Ed := [(0, 1), (1, 2), (2, 3), (3, 4), (4, 0)]
def g5 : List Nat := [18, 5, 10, 20, 9]
theorem five_g : mkG 5 five = some g5 := by decide +kernel
theorem five_wd : wd g5 0 = 2 := by decide +kernel
theorem five_bags : (bagsOf g5).length = 5 := by decide +kernel
theorem five_links : (linksOf g5).length = 4 := by decide +kernel
theorem five_ap : apR (ap g5) (2 ^ g5.length) = (11, 2) := by decide +kernel
theorem five_cl : clR (nb g5) (2 ^ g5.length) = [0, 1] := by decide +kernel
theorem five_col : colP (cls (fr (ap g5)) (full g5.length)) 3 15 = 30 := by decide +kernel
end Go.Proofs.YtdnkkflpgebfbaaDoor

/- The walks of the law's helpers and of the reference's first functions. -/
namespace Go.Proofs.YtdnkkflpgebfbaaDoor
open Go.W Go.Tree
set_option maxRecDepth 100000
attribute [local irreducible] WC WL WQ WS WH

theorem Sl.cell {w : World} {b o i : Nat} {cs : List Value} {u : Value} (h : Sl w (some ⟨b, o, none⟩) cs) (hi : cs[i]? = some u) : w.cell? ⟨b, o + i, none⟩ = some u := by
  obtain ⟨b', o', ha, hc⟩ := h i u hi
  simp only [Option.some.injEq, Addr.mk.injEq] at ha
  rw [ha.1, ha.2.1]; exact hc
theorem Sl.some {w : World} {a : Option Addr} {cs : List Value} {i : Nat} {u : Value} (h : Sl w a cs) (hi : cs[i]? = some u) : ∃ b o, a = some ⟨b, o, none⟩ := by
  obtain ⟨b, o, ha, _⟩ := h i u hi; exact ⟨b, o, ha⟩
theorem prs_get {es : List Ed} {i : Nat} (h : i < es.length) : (prs es)[i * 2 + 0]? = some (.int .i64 (es[i]).1) ∧ (prs es)[i * 2 + 1]? = some (.int .i64 (es[i]).2) :=
  ⟨prs_at es i h 0 _ rfl, prs_at es i h 1 _ rfl⟩
theorem prs_cells (es : List Ed) : Cells (prs es) := by
  intro u hu
  simp only [prs, List.mem_flatMap, pr, List.mem_cons, List.not_mem_nil, or_false] at hu
  obtain ⟨e, _, rfl | rfl⟩ := hu <;> rfl
theorem prs_take : ∀ (es : List Ed) (m : Nat), (prs es).take (m * 2) = prs (es.take m) := by
  intro es
  induction es with
  | nil => intro m; simp [prs]
  | cons e es ih =>
    intro m
    cases m with
    | zero => simp [prs]
    | succ m =>
      have := ih m
      simp only [prs, List.flatMap_cons, List.take_succ_cons] at this ⊢
      rw [show (m + 1) * 2 = m * 2 + 2 by omega, pr, List.cons_append, List.take_succ_cons, List.cons_append, List.take_succ_cons, List.nil_append, this]
      rfl

theorem lines_any (ea : Option Addr) (cap : Nat) (es : List Ed) (w : World) (hs : Sl w ea (prs es)) (hcap : es.length ≤ cap) :
    Ret Tryd.prog 13 [.slice ea es.length cap] w fun v w' => ∃ a c, Hp w w' [.row 50 2 (.slice a (es.take 101).length c) (es.take 101).length (prs (es.take 101))] ∧ v = .slice a (es.take 101).length c := by
  refine enter Tryd.func13 rfl rfl ⟨rfl, rfl⟩ rfl ?_
  have hl : (es.take 101).length = min es.length 101 := by rw [List.length_take]; omega
  have hm : min ((es.length : Nat) : Int) 101 = ((min es.length 101 : Nat) : Int) := by omega
  repeat (first | refine WC.seq ?_ | refine WC.reg ?_ | refine WL.pure rfl rfl rfl ?_ | refine WL.nil ?_ | refine WC.skip ?_ | refine WC.block ?_ | refine WC.condT rfl ?_ | refine WC.condF rfl ?_ | refine WL.off rfl rfl rfl ?_ | refine WL.off0 rfl rfl ?_ | refine WC.exit ?_ | refine blk_hit ?_ | refine blk_miss rfl ?_ | refine WC.ret ?_)
  refine WL.known (d := 8) (congrArg (fun z => some (Value.int .i64 z)) hm) ?_
  refine WL.sliceHi rfl rfl rfl rfl rfl rfl (by omega) ?_
  refine WL.append 0 ((Hp.start w).nilrow 50 2) rfl rfl rfl rfl rfl (by decide) rfl rfl rfl (news := prs (es.take 101)) ?_ (by rw [prs_len, hl]; rfl) (prs_cells _) (by unfold maxLen; omega) ?_ ?_
  · rw [← prs_take]; exact hs.take _
  · show (0 + min es.length 101) * 16 ≤ _; omega
  intro a' c' w' hp' hg'
  repeat (first | refine WC.seq ?_ | refine WC.reg ?_ | refine WL.pure rfl rfl rfl ?_ | refine WL.nil ?_ | refine WC.skip ?_ | refine WC.block ?_ | refine WC.condT rfl ?_ | refine WC.condF rfl ?_ | refine WL.off rfl rfl rfl ?_ | refine WL.off0 rfl rfl ?_ | refine WC.exit ?_ | refine blk_hit ?_ | refine blk_miss rfl ?_ | refine WC.ret ?_)
  refine Res.one rfl rfl rfl ?_
  rw [hl]
  refine ⟨a', c', ?_, ?_⟩
  · have := hp'
    rw [Nat.zero_add, List.nil_append] at this
    exact this
  · rw [Nat.zero_add]

theorem edges_any (ea fa : Option Addr) (ce cf : Nat) (es fs : List Ed) (w : World) (he : Sl w ea (prs es)) (hf : Sl w fa (prs fs)) (hlen : es.length ≤ 4611686018427387904) :
    Ret Tryd.prog 15 [.slice ea es.length ce, .slice fa fs.length cf] w fun v w' => Hp w w' [] ∧ v = .bool (decide (es = fs)) := by
  refine enter Tryd.func15 rfl rfl ⟨rfl, rfl⟩ rfl ?_
  repeat (first | refine WC.seq ?_ | refine WC.reg ?_ | refine WL.pure rfl rfl rfl ?_ | refine WL.nil ?_ | refine WC.skip ?_ | refine WC.block ?_ | refine WC.condT rfl ?_ | refine WC.condF rfl ?_ | refine WL.off rfl rfl rfl ?_ | refine WL.off0 rfl rfl ?_ | refine WC.exit ?_ | refine blk_hit ?_ | refine blk_miss rfl ?_ | refine WC.ret ?_)
  refine WC.cond rfl (fun h0 => ?_) (fun h0 => ?_)
  · have h0 : es.length ≠ fs.length := by intro h; rw [h] at h0; simp at h0
    repeat (first | refine WC.seq ?_ | refine WC.reg ?_ | refine WL.pure rfl rfl rfl ?_ | refine WL.nil ?_ | refine WC.skip ?_ | refine WC.block ?_ | refine WC.condT rfl ?_ | refine WC.condF rfl ?_ | refine WL.off rfl rfl rfl ?_ | refine WL.off0 rfl rfl ?_ | refine WC.exit ?_ | refine blk_hit ?_ | refine blk_miss rfl ?_ | refine WC.ret ?_)
    exact Res.one rfl rfl rfl ⟨Hp.start w, by rw [decide_eq_false (fun h => h0 (by rw [h]))]⟩
  have h0 : es.length = fs.length := by simp at h0; omega
  repeat (first | refine WC.seq ?_ | refine WC.reg ?_ | refine WL.pure rfl rfl rfl ?_ | refine WL.nil ?_ | refine WC.skip ?_ | refine WC.block ?_ | refine WC.condT rfl ?_ | refine WC.condF rfl ?_ | refine WL.off rfl rfl rfl ?_ | refine WL.off0 rfl rfl ?_ | refine WC.exit ?_ | refine blk_hit ?_ | refine blk_miss rfl ?_ | refine WC.ret ?_)
  refine WC.loop Nat (fun i => [(0, .slice ea es.length ce), (1, .slice fa fs.length cf), (5, .int .i64 (i : Nat))]) (fun i w' => i ≤ es.length ∧ es.take i = fs.take i ∧ Hp w w' []) (fun i => es.length - i) 0 ⟨rfl, rfl, rfl, rfl⟩ ⟨Nat.zero_le _, rfl, Hp.start w⟩ ?_
  rintro i w1 ⟨hi, ht, hp1⟩
  repeat (first | refine WC.seq ?_ | refine WC.reg ?_ | refine WL.pure rfl rfl rfl ?_ | refine WL.nil ?_ | refine WC.skip ?_ | refine WC.block ?_ | refine WC.condT rfl ?_ | refine WC.condF rfl ?_ | refine WL.off rfl rfl rfl ?_ | refine WL.off0 rfl rfl ?_ | refine WC.exit ?_ | refine blk_hit ?_ | refine blk_miss rfl ?_ | refine WC.ret ?_)
  refine WC.cond rfl (fun hc => ?_) (fun hc => ?_)
  · have hi : i < es.length := by have := of_decide_eq_true hc; omega
    have hi2 : i < fs.length := by omega
    have step : IntKind.i64.wrap ((i : Int) + 1) = ((i + 1 : Nat) : Int) := by rw [wrap_i64_in (by omega) (by omega)]; omega
    obtain ⟨be, oe, rfl⟩ := Sl.some he (prs_get hi).1
    obtain ⟨bf, of', rfl⟩ := Sl.some hf (prs_get hi2).1
    have lod : ∀ {b o : Nat} {xs : List Ed} (hx : Sl w (some ⟨b, o, none⟩) (prs xs)) (hi : i < xs.length) (w2 : World), Hp w w2 [] → ∀ j v, (pr xs[i])[j]? = some v → w2.cell? ⟨b, o + i * 2 + j, none⟩ = some v := by
      intro b o xs hx hi w2 h2 j v hj
      rw [Nat.add_assoc]
      exact Sl.cell (hx.hp h2) (prs_at xs i hi j v hj)
    repeat (first | refine WC.seq ?_ | refine WC.reg ?_ | refine WL.pure rfl rfl rfl ?_ | refine WL.nil ?_ | refine WC.skip ?_ | refine WC.block ?_ | refine WC.condT rfl ?_ | refine WC.condF rfl ?_ | refine WL.off rfl rfl rfl ?_ | refine WL.off0 rfl rfl ?_ | refine WC.exit ?_ | refine blk_hit ?_ | refine blk_miss rfl ?_ | refine WC.ret ?_)
    refine WC.regQ (fun w2 => Hp w w2 []) mixed (by kernel_rfl) (fun w2 hw2 => hp1.keep hw2) ?_
    repeat (first | refine WQ.pure rfl rfl rfl ?_ | refine WQ.off rfl rfl rfl ?_ | refine WQ.nil ?_)
    refine WQ.ix rfl rfl rfl rfl rfl rfl hi ?_
    refine WQ.loadN (cs := pr es[i]) rfl rfl rfl rfl rfl rfl (fun w2 h2 => lod he hi w2 h2) ?_
    repeat (first | refine WQ.pure rfl rfl rfl ?_ | refine WQ.off rfl rfl rfl ?_ | refine WQ.nil ?_)
    refine WQ.ix rfl rfl rfl rfl rfl rfl hi2 ?_
    refine WQ.loadN (cs := pr fs[i]) rfl rfl rfl rfl rfl rfl (fun w2 h2 => lod hf hi2 w2 h2) ?_
    refine WQ.cmp2 rfl rfl rfl rfl (by kernel_rfl) rfl rfl (.inr ⟨rfl, rfl⟩) ?_
    repeat (first | refine WQ.pure rfl rfl rfl ?_ | refine WQ.off rfl rfl rfl ?_ | refine WQ.nil ?_)
    intro w2 hp2
    repeat (first | refine WC.seq ?_ | refine WC.reg ?_ | refine WL.pure rfl rfl rfl ?_ | refine WL.nil ?_ | refine WC.skip ?_ | refine WC.block ?_ | refine WC.condT rfl ?_ | refine WC.condF rfl ?_ | refine WL.off rfl rfl rfl ?_ | refine WL.off0 rfl rfl ?_ | refine WC.exit ?_ | refine blk_hit ?_ | refine blk_miss rfl ?_ | refine WC.ret ?_)
    refine WC.cond rfl (fun hq => ?_) (fun hq => ?_)
    · repeat (first | refine WC.seq ?_ | refine WC.reg ?_ | refine WL.pure rfl rfl rfl ?_ | refine WL.nil ?_ | refine WC.skip ?_ | refine WC.block ?_ | refine WC.condT rfl ?_ | refine WC.condF rfl ?_ | refine WL.off rfl rfl rfl ?_ | refine WL.off0 rfl rfl ?_ | refine WC.exit ?_ | refine blk_hit ?_ | refine blk_miss rfl ?_ | refine WC.ret ?_)
      refine Res.one rfl rfl rfl ⟨hp2, ?_⟩
      rw [decide_eq_false]
      rintro rfl
      simp at hq
    · have hq : es[i] = fs[i] := by
        simp at hq
        exact Prod.ext hq.1 hq.2
      repeat (first | refine WC.seq ?_ | refine WC.reg ?_ | refine WL.pure rfl rfl rfl ?_ | refine WL.nil ?_ | refine WC.skip ?_ | refine WC.block ?_ | refine WC.condT rfl ?_ | refine WC.condF rfl ?_ | refine WL.off rfl rfl rfl ?_ | refine WL.off0 rfl rfl ?_ | refine WC.exit ?_ | refine blk_hit ?_ | refine blk_miss rfl ?_ | refine WC.ret ?_)
      refine ⟨i + 1, by show es.length - (i + 1) < es.length - i; omega, ⟨rfl, rfl, congrArg (fun z => some (Value.int .i64 z)) step, rfl⟩, hi, ?_, hp2⟩
      rw [List.take_succ_eq_append_getElem hi, List.take_succ_eq_append_getElem hi2, ht, hq]
  · have hi : es.length ≤ i := by have := of_decide_eq_false hc; omega
    rw [List.take_of_length_le hi, List.take_of_length_le (by omega)] at ht
    repeat (first | refine WC.seq ?_ | refine WC.reg ?_ | refine WL.pure rfl rfl rfl ?_ | refine WL.nil ?_ | refine WC.skip ?_ | refine WC.block ?_ | refine WC.condT rfl ?_ | refine WC.condF rfl ?_ | refine WL.off rfl rfl rfl ?_ | refine WL.off0 rfl rfl ?_ | refine WC.exit ?_ | refine blk_hit ?_ | refine blk_miss rfl ?_ | refine WC.ret ?_)
    exact Res.one rfl rfl rfl ⟨hp1, by rw [decide_eq_true ht]⟩

theorem ints_any (ea fa : Option Addr) (ce cf : Nat) (es fs : List Int) (w : World) (he : Sl w ea (zs es)) (hf : Sl w fa (zs fs)) (hlen : es.length ≤ 4611686018427387904) :
    Ret Tryd.prog 21 [.slice ea es.length ce, .slice fa fs.length cf] w fun v w' => Hp w w' [] ∧ v = .bool (decide (es = fs)) := by
  have zget : ∀ {xs : List Int} {i : Nat} (h : i < xs.length), (zs xs)[i]? = some (.int .i64 xs[i]) := by intro xs i h; simp [zs, h]
  refine enter Tryd.func21 rfl rfl ⟨rfl, rfl⟩ rfl ?_
  repeat (first | refine WC.seq ?_ | refine WC.reg ?_ | refine WL.pure rfl rfl rfl ?_ | refine WL.nil ?_ | refine WC.skip ?_ | refine WC.block ?_ | refine WC.condT rfl ?_ | refine WC.condF rfl ?_ | refine WL.off rfl rfl rfl ?_ | refine WL.off0 rfl rfl ?_ | refine WC.exit ?_ | refine blk_hit ?_ | refine blk_miss rfl ?_ | refine WC.ret ?_)
  refine WC.cond rfl (fun h0 => ?_) (fun h0 => ?_)
  · have h0 : es.length ≠ fs.length := by intro h; rw [h] at h0; simp at h0
    repeat (first | refine WC.seq ?_ | refine WC.reg ?_ | refine WL.pure rfl rfl rfl ?_ | refine WL.nil ?_ | refine WC.skip ?_ | refine WC.block ?_ | refine WC.condT rfl ?_ | refine WC.condF rfl ?_ | refine WL.off rfl rfl rfl ?_ | refine WL.off0 rfl rfl ?_ | refine WC.exit ?_ | refine blk_hit ?_ | refine blk_miss rfl ?_ | refine WC.ret ?_)
    exact Res.one rfl rfl rfl ⟨Hp.start w, by rw [decide_eq_false (fun h => h0 (by rw [h]))]⟩
  have h0 : es.length = fs.length := by simp at h0; omega
  repeat (first | refine WC.seq ?_ | refine WC.reg ?_ | refine WL.pure rfl rfl rfl ?_ | refine WL.nil ?_ | refine WC.skip ?_ | refine WC.block ?_ | refine WC.condT rfl ?_ | refine WC.condF rfl ?_ | refine WL.off rfl rfl rfl ?_ | refine WL.off0 rfl rfl ?_ | refine WC.exit ?_ | refine blk_hit ?_ | refine blk_miss rfl ?_ | refine WC.ret ?_)
  refine WC.loop Nat (fun i => [(0, .slice ea es.length ce), (1, .slice fa fs.length cf), (5, .int .i64 (i : Nat))]) (fun i w' => i ≤ es.length ∧ es.take i = fs.take i ∧ Hp w w' []) (fun i => es.length - i) 0 ⟨rfl, rfl, rfl, rfl⟩ ⟨Nat.zero_le _, rfl, Hp.start w⟩ ?_
  rintro i w1 ⟨hi, ht, hp1⟩
  repeat (first | refine WC.seq ?_ | refine WC.reg ?_ | refine WL.pure rfl rfl rfl ?_ | refine WL.nil ?_ | refine WC.skip ?_ | refine WC.block ?_ | refine WC.condT rfl ?_ | refine WC.condF rfl ?_ | refine WL.off rfl rfl rfl ?_ | refine WL.off0 rfl rfl ?_ | refine WC.exit ?_ | refine blk_hit ?_ | refine blk_miss rfl ?_ | refine WC.ret ?_)
  refine WC.cond rfl (fun hc => ?_) (fun hc => ?_)
  · have hi : i < es.length := by have := of_decide_eq_true hc; omega
    have hi2 : i < fs.length := by omega
    have step : IntKind.i64.wrap ((i : Int) + 1) = ((i + 1 : Nat) : Int) := by rw [wrap_i64_in (by omega) (by omega)]; omega
    obtain ⟨be, oe, rfl⟩ := Sl.some he (zget hi)
    obtain ⟨bf, of', rfl⟩ := Sl.some hf (zget hi2)
    repeat (first | refine WC.seq ?_ | refine WC.reg ?_ | refine WL.pure rfl rfl rfl ?_ | refine WL.nil ?_ | refine WC.skip ?_ | refine WC.block ?_ | refine WC.condT rfl ?_ | refine WC.condF rfl ?_ | refine WL.off rfl rfl rfl ?_ | refine WL.off0 rfl rfl ?_ | refine WC.exit ?_ | refine blk_hit ?_ | refine blk_miss rfl ?_ | refine WC.ret ?_)
    refine WC.regQ (fun w2 => Hp w w2 []) mixed (by kernel_rfl) (fun w2 hw2 => hp1.keep hw2) ?_
    repeat (first | refine WQ.pure rfl rfl rfl ?_ | refine WQ.off rfl rfl rfl ?_ | refine WQ.nil ?_)
    refine WQ.ixload rfl (fun _ => rfl) rfl rfl rfl rfl rfl rfl rfl hi rfl rfl (fun w2 h2 => Sl.cell (he.hp h2) (zget hi)) ?_
    repeat (first | refine WQ.pure rfl rfl rfl ?_ | refine WQ.off rfl rfl rfl ?_ | refine WQ.nil ?_)
    refine WQ.ixload rfl (fun _ => rfl) rfl rfl rfl rfl rfl rfl rfl hi2 rfl rfl (fun w2 h2 => Sl.cell (hf.hp h2) (zget hi2)) ?_
    repeat (first | refine WQ.pure rfl rfl rfl ?_ | refine WQ.off rfl rfl rfl ?_ | refine WQ.nil ?_)
    intro w2 hp2
    repeat (first | refine WC.seq ?_ | refine WC.reg ?_ | refine WL.pure rfl rfl rfl ?_ | refine WL.nil ?_ | refine WC.skip ?_ | refine WC.block ?_ | refine WC.condT rfl ?_ | refine WC.condF rfl ?_ | refine WL.off rfl rfl rfl ?_ | refine WL.off0 rfl rfl ?_ | refine WC.exit ?_ | refine blk_hit ?_ | refine blk_miss rfl ?_ | refine WC.ret ?_)
    refine WC.cond rfl (fun hq => ?_) (fun hq => ?_)
    · repeat (first | refine WC.seq ?_ | refine WC.reg ?_ | refine WL.pure rfl rfl rfl ?_ | refine WL.nil ?_ | refine WC.skip ?_ | refine WC.block ?_ | refine WC.condT rfl ?_ | refine WC.condF rfl ?_ | refine WL.off rfl rfl rfl ?_ | refine WL.off0 rfl rfl ?_ | refine WC.exit ?_ | refine blk_hit ?_ | refine blk_miss rfl ?_ | refine WC.ret ?_)
      refine Res.one rfl rfl rfl ⟨hp2, ?_⟩
      rw [decide_eq_false]
      rintro rfl
      simp at hq
    · have hq : es[i] = fs[i] := by simpa using hq
      repeat (first | refine WC.seq ?_ | refine WC.reg ?_ | refine WL.pure rfl rfl rfl ?_ | refine WL.nil ?_ | refine WC.skip ?_ | refine WC.block ?_ | refine WC.condT rfl ?_ | refine WC.condF rfl ?_ | refine WL.off rfl rfl rfl ?_ | refine WL.off0 rfl rfl ?_ | refine WC.exit ?_ | refine blk_hit ?_ | refine blk_miss rfl ?_ | refine WC.ret ?_)
      refine ⟨i + 1, by show es.length - (i + 1) < es.length - i; omega, ⟨rfl, rfl, congrArg (fun z => some (Value.int .i64 z)) step, rfl⟩, hi, ?_, hp2⟩
      rw [List.take_succ_eq_append_getElem hi, List.take_succ_eq_append_getElem hi2, ht, hq]
  · have hi : es.length ≤ i := by have := of_decide_eq_false hc; omega
    rw [List.take_of_length_le hi, List.take_of_length_le (by omega)] at ht
    repeat (first | refine WC.seq ?_ | refine WC.reg ?_ | refine WL.pure rfl rfl rfl ?_ | refine WL.nil ?_ | refine WC.skip ?_ | refine WC.block ?_ | refine WC.condT rfl ?_ | refine WC.condF rfl ?_ | refine WL.off rfl rfl rfl ?_ | refine WL.off0 rfl rfl ?_ | refine WC.exit ?_ | refine blk_hit ?_ | refine blk_miss rfl ?_ | refine WC.ret ?_)
    exact Res.one rfl rfl rfl ⟨hp1, by rw [decide_eq_true ht]⟩

theorem bit_any (v : Nat) (hv : v < 63) : Pur Tryd.prog 52 [.int .i64 v] (.int .i64 (2 ^ v : Nat)) := by
  intro w
  refine enter Tryd.func52 rfl rfl ⟨rfl, rfl⟩ rfl ?_
  repeat (first | refine WC.seq ?_ | refine WC.reg ?_ | refine WL.pure rfl rfl rfl ?_ | refine WL.nil ?_ | refine WC.skip ?_ | refine WC.block ?_ | refine WC.condT rfl ?_ | refine WC.condF rfl ?_ | refine WL.off rfl rfl rfl ?_ | refine WL.off0 rfl rfl ?_ | refine WC.exit ?_ | refine blk_hit ?_ | refine blk_miss rfl ?_ | refine WC.ret ?_)
  exact Res.one rfl rfl rfl ⟨by rw [shl_one hv], rfl⟩
theorem Has_any (s v : Nat) (hs : s < 9223372036854775808) : Pur Tryd.prog 51 [.int .i64 s, .int .i64 v] (.bool (Nat.testBit s v)) := by
  intro w
  refine enter Tryd.func51 rfl rfl ⟨rfl, rfl⟩ rfl ?_
  repeat (first | refine WC.seq ?_ | refine WC.reg ?_ | refine WL.pure rfl rfl rfl ?_ | refine WL.nil ?_ | refine WC.skip ?_ | refine WC.block ?_ | refine WC.condT rfl ?_ | refine WC.condF rfl ?_ | refine WL.off rfl rfl rfl ?_ | refine WL.off0 rfl rfl ?_ | refine WC.exit ?_ | refine blk_hit ?_ | refine blk_miss rfl ?_ | refine WC.ret ?_)
  refine Res.one rfl rfl rfl ⟨?_, rfl⟩
  rw [shr_i64 hs, testBit_div]
  congr 1
  have h2 : ((s / 2 ^ v : Nat) : Int).tmod 2 = ((s / 2 ^ v % 2 : Nat) : Int) := (Int.ofNat_tmod (s / 2 ^ v) 2).symm
  show (((s / 2 ^ v : Nat) : Int).tmod 2 == 1) = _
  rw [h2]
  generalize s / 2 ^ v % 2 = k
  by_cases h : k = 1
  · simp [h]
  · have h3 : ((k : Int) == 1) = false := by simp; omega
    rw [h3, decide_eq_false h]
end Go.Proofs.YtdnkkflpgebfbaaDoor

/- The walks of the reference's graph. -/
namespace Go.Proofs.YtdnkkflpgebfbaaDoor
open Go.W Go.Tree
set_option maxRecDepth 100000
attribute [local irreducible] WC WL WQ WS WH

theorem Graph3_any (ea : Option Addr) (cap : Nat) (n : Int) (es : List Ed) (w : World) (hs : Sl w ea (prs es)) (hlen : es.length ≤ 4611686018427387904) :
    Ret Tryd.prog 47 [.int .i64 n, .slice ea es.length cap, .int .i64 14] w fun v w' => Hp w w' [] ∧ v = .bool (mkG n es).isSome := by
  refine enter Tryd.func47 rfl rfl ⟨rfl, rfl⟩ rfl ?_
  repeat (first | refine WC.seq ?_ | refine WC.reg ?_ | refine WL.pure rfl rfl rfl ?_ | refine WL.nil ?_ | refine WC.skip ?_ | refine WC.block ?_ | refine WC.condT rfl ?_ | refine WC.condF rfl ?_ | refine WL.off rfl rfl rfl ?_ | refine WL.off0 rfl rfl ?_ | refine WC.exit ?_ | refine blk_hit ?_ | refine blk_miss rfl ?_ | refine WC.ret ?_)
  refine WL.split 13 rfl (fun h1 => ?_) (fun h1 => ?_)
  · have h1 : n < 0 := of_decide_eq_true h1
    repeat (first | refine WC.seq ?_ | refine WC.reg ?_ | refine WL.pure rfl rfl rfl ?_ | refine WL.nil ?_ | refine WC.skip ?_ | refine WC.block ?_ | refine WC.condT rfl ?_ | refine WC.condF rfl ?_ | refine WL.off rfl rfl rfl ?_ | refine WL.off0 rfl rfl ?_ | refine WC.exit ?_ | refine blk_hit ?_ | refine blk_miss rfl ?_ | refine WC.ret ?_)
    exact Res.one rfl rfl rfl ⟨Hp.start w, by rw [mkG, if_pos (.inl h1)]; rfl⟩
  have h1 : ¬ n < 0 := of_decide_eq_false h1
  repeat (first | refine WC.seq ?_ | refine WC.reg ?_ | refine WL.pure rfl rfl rfl ?_ | refine WL.nil ?_ | refine WC.skip ?_ | refine WC.block ?_ | refine WC.condT rfl ?_ | refine WC.condF rfl ?_ | refine WL.off rfl rfl rfl ?_ | refine WL.off0 rfl rfl ?_ | refine WC.exit ?_ | refine blk_hit ?_ | refine blk_miss rfl ?_ | refine WC.ret ?_)
  refine WL.split 18 rfl (fun h2 => ?_) (fun h2 => ?_)
  · have h2 : 14 < n := of_decide_eq_true h2
    repeat (first | refine WC.seq ?_ | refine WC.reg ?_ | refine WL.pure rfl rfl rfl ?_ | refine WL.nil ?_ | refine WC.skip ?_ | refine WC.block ?_ | refine WC.condT rfl ?_ | refine WC.condF rfl ?_ | refine WL.off rfl rfl rfl ?_ | refine WL.off0 rfl rfl ?_ | refine WC.exit ?_ | refine blk_hit ?_ | refine blk_miss rfl ?_ | refine WC.ret ?_)
    exact Res.one rfl rfl rfl ⟨Hp.start w, by rw [mkG, if_pos (.inr (.inl h2))]; rfl⟩
  have h2 : ¬ 14 < n := of_decide_eq_false h2
  repeat (first | refine WC.seq ?_ | refine WC.reg ?_ | refine WL.pure rfl rfl rfl ?_ | refine WL.nil ?_ | refine WC.skip ?_ | refine WC.block ?_ | refine WC.condT rfl ?_ | refine WC.condF rfl ?_ | refine WL.off rfl rfl rfl ?_ | refine WL.off0 rfl rfl ?_ | refine WC.exit ?_ | refine blk_hit ?_ | refine blk_miss rfl ?_ | refine WC.ret ?_)
  refine WC.cond rfl (fun h3 => ?_) (fun h3 => ?_)
  · have h3 : 100 < es.length := by have := of_decide_eq_true h3; omega
    repeat (first | refine WC.seq ?_ | refine WC.reg ?_ | refine WL.pure rfl rfl rfl ?_ | refine WL.nil ?_ | refine WC.skip ?_ | refine WC.block ?_ | refine WC.condT rfl ?_ | refine WC.condF rfl ?_ | refine WL.off rfl rfl rfl ?_ | refine WL.off0 rfl rfl ?_ | refine WC.exit ?_ | refine blk_hit ?_ | refine blk_miss rfl ?_ | refine WC.ret ?_)
    exact Res.one rfl rfl rfl ⟨Hp.start w, by rw [mkG, if_pos (.inr (.inr h3))]; rfl⟩
  have h3 : ¬ 100 < es.length := by have := of_decide_eq_false h3; omega
  obtain ⟨m, rfl⟩ := Int.eq_ofNat_of_zero_le (show 0 ≤ n by omega)
  have hm : m ≤ 14 := by omega
  have hmk : mkG (m : Nat) es = addEs m (List.replicate m 0) es := by rw [mkG, if_neg (by omega)]; rfl
  rw [hmk]
  repeat (first | refine WC.seq ?_ | refine WC.reg ?_ | refine WL.pure rfl rfl rfl ?_ | refine WL.nil ?_ | refine WC.skip ?_ | refine WC.block ?_ | refine WC.condT rfl ?_ | refine WC.condF rfl ?_ | refine WL.off rfl rfl rfl ?_ | refine WL.off0 rfl rfl ?_ | refine WC.exit ?_ | refine blk_hit ?_ | refine blk_miss rfl ?_ | refine WC.ret ?_)
  refine WC.loop Nat (fun i => [(0, .int .i64 (m : Nat)), (1, .slice ea es.length cap), (7, .int .i64 (i : Nat))]) (fun i w' => i ≤ es.length ∧ (∃ g, addEs m (List.replicate m 0) (es.take i) = some g) ∧ Hp w w' []) (fun i => es.length - i) 0
    ⟨rfl, rfl, rfl, rfl⟩ ⟨Nat.zero_le _, ⟨_, by rw [List.take_zero, addEs]⟩, Hp.start w⟩ ?_
  rintro i w1 ⟨hi, ⟨g, hg⟩, hp1⟩
  repeat (first | refine WC.seq ?_ | refine WC.reg ?_ | refine WL.pure rfl rfl rfl ?_ | refine WL.nil ?_ | refine WC.skip ?_ | refine WC.block ?_ | refine WC.condT rfl ?_ | refine WC.condF rfl ?_ | refine WL.off rfl rfl rfl ?_ | refine WL.off0 rfl rfl ?_ | refine WC.exit ?_ | refine blk_hit ?_ | refine blk_miss rfl ?_ | refine WC.ret ?_)
  refine WC.cond rfl (fun hc => ?_) (fun hc => ?_)
  · have hi : i < es.length := by have := of_decide_eq_true hc; omega
    have step : IntKind.i64.wrap ((i : Int) + 1) = ((i + 1 : Nat) : Int) := by rw [wrap_i64_in (by omega) (by omega)]; omega
    obtain ⟨be, oe, rfl⟩ := Sl.some hs (prs_get hi).1
    obtain ⟨hgg, hgl⟩ := addEs_gr _ _ _ (zero_gr hm) (by simp) hg
    have hbits := addEs_bits hm _ _ hg
    have hgood := take_good hg hi
    have hbad := take_bad hg hi
    have lod : ∀ (k : Nat) (hk : k < es.length) (w2 : World), Hp w w2 [] → ∀ j v, (pr es[k])[j]? = some v → w2.cell? ⟨be, oe + k * 2 + j, none⟩ = some v := by
      intro k hk w2 h2 j v hj
      rw [Nat.add_assoc]
      exact Sl.cell (hs.hp h2) (prs_at es k hk j v hj)
    have lod0 : ∀ (k : Nat) (hk : k < es.length) (w2 : World), Hp w w2 [] → w2.cell? ⟨be, oe + k * 2 + 0 * 1, none⟩ = some (.int .i64 (es[k]).1) := fun k hk w2 h2 => lod k hk w2 h2 0 _ rfl
    have lod1 : ∀ (k : Nat) (hk : k < es.length) (w2 : World), Hp w w2 [] → w2.cell? ⟨be, oe + k * 2 + 1 * 1, none⟩ = some (.int .i64 (es[k]).2) := fun k hk w2 h2 => lod k hk w2 h2 1 _ rfl
    have hdup : (∃ k, ∃ hk : k < es.length, k < i ∧ (es[k] = es[i] ∨ (es[k].1 = es[i].2 ∧ es[k].2 = es[i].1))) → hasE (es.take i) (es[i]).1 (es[i]).2 := by
      rintro ⟨k, hk, hki, h⟩
      refine ⟨es[k], ?_, h.imp (fun h => by rw [h]) (fun h => Prod.ext h.1 h.2)⟩
      rw [List.mem_take_iff_getElem]
      exact ⟨k, by omega, rfl⟩
    have hnodup : hasE (es.take i) (es[i]).1 (es[i]).2 → ∃ k, ∃ hk : k < es.length, k < i ∧ (es[k] = es[i] ∨ (es[k].1 = es[i].2 ∧ es[k].2 = es[i].1)) := by
      rintro ⟨e, he, h⟩
      rw [List.mem_take_iff_getElem] at he
      obtain ⟨k, hk, rfl⟩ := he
      exact ⟨k, by omega, by omega, h.imp id (fun h => by rw [h]; exact ⟨rfl, rfl⟩)⟩
    repeat (first | refine WC.seq ?_ | refine WC.reg ?_ | refine WL.pure rfl rfl rfl ?_ | refine WL.nil ?_ | refine WC.skip ?_ | refine WC.block ?_ | refine WC.condT rfl ?_ | refine WC.condF rfl ?_ | refine WL.off rfl rfl rfl ?_ | refine WL.off0 rfl rfl ?_ | refine WC.exit ?_ | refine blk_hit ?_ | refine blk_miss rfl ?_ | refine WC.ret ?_)
    refine WC.regQ (fun w2 => Hp w w2 []) mixed (by kernel_rfl) (fun w2 hw2 => hp1.keep hw2) ?_
    repeat (first | refine WQ.pure rfl rfl rfl ?_ | refine WQ.off rfl rfl rfl ?_ | refine WQ.nil ?_)
    refine WQ.ix rfl rfl rfl rfl rfl rfl hi ?_
    repeat (first | refine WQ.pure rfl rfl rfl ?_ | refine WQ.off rfl rfl rfl ?_ | refine WQ.nil ?_)
    refine WQ.load rfl rfl rfl rfl rfl (fun w2 h2 => lod0 i hi w2 h2) ?_
    repeat (first | refine WQ.pure rfl rfl rfl ?_ | refine WQ.off rfl rfl rfl ?_ | refine WQ.nil ?_)
    refine WQ.ix rfl rfl rfl rfl rfl rfl hi ?_
    repeat (first | refine WQ.pure rfl rfl rfl ?_ | refine WQ.off rfl rfl rfl ?_ | refine WQ.nil ?_)
    refine WQ.load rfl rfl rfl rfl rfl (fun w2 h2 => lod1 i hi w2 h2) ?_
    repeat (first | refine WQ.pure rfl rfl rfl ?_ | refine WQ.off rfl rfl rfl ?_ | refine WQ.nil ?_)
    intro w2 hp2
    generalize hee : es[i] = ee at *
    obtain ⟨a, b⟩ := ee
    simp only at *
    have K : ∀ w3, Hp w w3 [] → Bad m g (a, b) → Hp w w3 [] ∧ Value.bool false = Value.bool (addEs m (List.replicate m 0) es).isSome := fun w3 h3 hb => ⟨h3, by rw [hbad hb]; rfl⟩
    repeat (first | refine WC.seq ?_ | refine WC.reg ?_ | refine WL.pure rfl rfl rfl ?_ | refine WL.nil ?_ | refine WC.skip ?_ | refine WC.block ?_ | refine WC.condT rfl ?_ | refine WC.condF rfl ?_ | refine WL.off rfl rfl rfl ?_ | refine WL.off0 rfl rfl ?_ | refine WC.exit ?_ | refine blk_hit ?_ | refine blk_miss rfl ?_ | refine WC.ret ?_)
    refine WL.split 41 rfl (fun q1 => ?_) (fun q1 => ?_)
    · repeat (first | refine WC.seq ?_ | refine WC.reg ?_ | refine WL.pure rfl rfl rfl ?_ | refine WL.nil ?_ | refine WC.skip ?_ | refine WC.block ?_ | refine WC.condT rfl ?_ | refine WC.condF rfl ?_ | refine WL.off rfl rfl rfl ?_ | refine WL.off0 rfl rfl ?_ | refine WC.exit ?_ | refine blk_hit ?_ | refine blk_miss rfl ?_ | refine WC.ret ?_)
      exact Res.one rfl rfl rfl (K _ hp2 (.inl (of_decide_eq_true q1)))
    have r1 : ¬ a < 0 := of_decide_eq_false q1
    repeat (first | refine WC.seq ?_ | refine WC.reg ?_ | refine WL.pure rfl rfl rfl ?_ | refine WL.nil ?_ | refine WC.skip ?_ | refine WC.block ?_ | refine WC.condT rfl ?_ | refine WC.condF rfl ?_ | refine WL.off rfl rfl rfl ?_ | refine WL.off0 rfl rfl ?_ | refine WC.exit ?_ | refine blk_hit ?_ | refine blk_miss rfl ?_ | refine WC.ret ?_)
    refine WL.split 46 rfl (fun q2 => ?_) (fun q2 => ?_)
    · repeat (first | refine WC.seq ?_ | refine WC.reg ?_ | refine WL.pure rfl rfl rfl ?_ | refine WL.nil ?_ | refine WC.skip ?_ | refine WC.block ?_ | refine WC.condT rfl ?_ | refine WC.condF rfl ?_ | refine WL.off rfl rfl rfl ?_ | refine WL.off0 rfl rfl ?_ | refine WC.exit ?_ | refine blk_hit ?_ | refine blk_miss rfl ?_ | refine WC.ret ?_)
      exact Res.one rfl rfl rfl (K _ hp2 (.inr (.inl (of_decide_eq_true q2))))
    have r2 : ¬ (m : Int) ≤ a := of_decide_eq_false q2
    repeat (first | refine WC.seq ?_ | refine WC.reg ?_ | refine WL.pure rfl rfl rfl ?_ | refine WL.nil ?_ | refine WC.skip ?_ | refine WC.block ?_ | refine WC.condT rfl ?_ | refine WC.condF rfl ?_ | refine WL.off rfl rfl rfl ?_ | refine WL.off0 rfl rfl ?_ | refine WC.exit ?_ | refine blk_hit ?_ | refine blk_miss rfl ?_ | refine WC.ret ?_)
    refine WL.split 50 rfl (fun q3 => ?_) (fun q3 => ?_)
    · repeat (first | refine WC.seq ?_ | refine WC.reg ?_ | refine WL.pure rfl rfl rfl ?_ | refine WL.nil ?_ | refine WC.skip ?_ | refine WC.block ?_ | refine WC.condT rfl ?_ | refine WC.condF rfl ?_ | refine WL.off rfl rfl rfl ?_ | refine WL.off0 rfl rfl ?_ | refine WC.exit ?_ | refine blk_hit ?_ | refine blk_miss rfl ?_ | refine WC.ret ?_)
      exact Res.one rfl rfl rfl (K _ hp2 (.inr (.inr (.inl (of_decide_eq_true q3)))))
    have r3 : ¬ b < 0 := of_decide_eq_false q3
    repeat (first | refine WC.seq ?_ | refine WC.reg ?_ | refine WL.pure rfl rfl rfl ?_ | refine WL.nil ?_ | refine WC.skip ?_ | refine WC.block ?_ | refine WC.condT rfl ?_ | refine WC.condF rfl ?_ | refine WL.off rfl rfl rfl ?_ | refine WL.off0 rfl rfl ?_ | refine WC.exit ?_ | refine blk_hit ?_ | refine blk_miss rfl ?_ | refine WC.ret ?_)
    refine WL.split 55 rfl (fun q4 => ?_) (fun q4 => ?_)
    · repeat (first | refine WC.seq ?_ | refine WC.reg ?_ | refine WL.pure rfl rfl rfl ?_ | refine WL.nil ?_ | refine WC.skip ?_ | refine WC.block ?_ | refine WC.condT rfl ?_ | refine WC.condF rfl ?_ | refine WL.off rfl rfl rfl ?_ | refine WL.off0 rfl rfl ?_ | refine WC.exit ?_ | refine blk_hit ?_ | refine blk_miss rfl ?_ | refine WC.ret ?_)
      exact Res.one rfl rfl rfl (K _ hp2 (.inr (.inr (.inr (.inl (of_decide_eq_true q4))))))
    have r4 : ¬ (m : Int) ≤ b := of_decide_eq_false q4
    repeat (first | refine WC.seq ?_ | refine WC.reg ?_ | refine WL.pure rfl rfl rfl ?_ | refine WL.nil ?_ | refine WC.skip ?_ | refine WC.block ?_ | refine WC.condT rfl ?_ | refine WC.condF rfl ?_ | refine WL.off rfl rfl rfl ?_ | refine WL.off0 rfl rfl ?_ | refine WC.exit ?_ | refine blk_hit ?_ | refine blk_miss rfl ?_ | refine WC.ret ?_)
    refine WC.cond rfl (fun q5 => ?_) (fun q5 => ?_)
    · repeat (first | refine WC.seq ?_ | refine WC.reg ?_ | refine WL.pure rfl rfl rfl ?_ | refine WL.nil ?_ | refine WC.skip ?_ | refine WC.block ?_ | refine WC.condT rfl ?_ | refine WC.condF rfl ?_ | refine WL.off rfl rfl rfl ?_ | refine WL.off0 rfl rfl ?_ | refine WC.exit ?_ | refine blk_hit ?_ | refine blk_miss rfl ?_ | refine WC.ret ?_)
      exact Res.one rfl rfl rfl (K _ hp2 (.inr (.inr (.inr (.inr (.inl (by simpa using q5)))))))
    have r5 : a ≠ b := by simpa using q5
    obtain ⟨a, rfl⟩ := Int.eq_ofNat_of_zero_le (show 0 ≤ a by omega)
    obtain ⟨b, rfl⟩ := Int.eq_ofNat_of_zero_le (show 0 ≤ b by omega)
    have hb1 := hbits a b (by omega) (by omega)
    have Bdup : (∃ k, ∃ hk : k < es.length, k < i ∧ (es[k] = ((a : Int), (b : Int)) ∨ (es[k].1 = (b : Int) ∧ es[k].2 = (a : Int)))) → Bad m g ((a : Int), (b : Int)) := fun h =>
      .inr (.inr (.inr (.inr (.inr (by simp only [Int.toNat_natCast]; exact hb1.2 (hdup h))))))
    have Bno : (∀ k, ∀ hk : k < es.length, k < i → ¬ (es[k] = ((a : Int), (b : Int)) ∨ (es[k].1 = (b : Int) ∧ es[k].2 = (a : Int)))) → ¬ Bad m g ((a : Int), (b : Int)) := by
      intro hA hB
      unfold Bad at hB
      simp only [Int.toNat_natCast] at hB
      rcases hB with h | h | h | h | h | h
      · exact r1 h
      · exact r2 h
      · exact r3 h
      · exact r4 h
      · exact r5 h
      · obtain ⟨k, hk, hki, hd⟩ := hnodup (hb1.1 h)
        exact absurd hd (hA k hk hki)
    repeat (first | refine WC.seq ?_ | refine WC.reg ?_ | refine WL.pure rfl rfl rfl ?_ | refine WL.nil ?_ | refine WC.skip ?_ | refine WC.block ?_ | refine WC.condT rfl ?_ | refine WC.condF rfl ?_ | refine WL.off rfl rfl rfl ?_ | refine WL.off0 rfl rfl ?_ | refine WC.exit ?_ | refine blk_hit ?_ | refine blk_miss rfl ?_ | refine WC.ret ?_)
    refine WC.loop Nat (fun k => [(0, .int .i64 (m : Nat)), (1, .slice (some ⟨be, oe, none⟩) es.length cap), (7, .int .i64 (i : Nat)), (8, .int .i64 (a : Nat)), (9, .int .i64 (b : Nat)), (10, .int .i64 (k : Nat))])
      (fun k w' => k ≤ i ∧ (∀ k', ∀ hk : k' < es.length, k' < k → ¬ (es[k'] = ((a : Int), (b : Int)) ∨ (es[k'].1 = (b : Int) ∧ es[k'].2 = (a : Int)))) ∧ Hp w w' []) (fun k => i - k) 0 ⟨rfl, rfl, rfl, rfl, rfl, rfl, rfl⟩ ⟨Nat.zero_le _, (fun k hk h => by omega), hp2⟩ ?_
    rintro k w3 ⟨hk, hno, hp3⟩
    repeat (first | refine WC.seq ?_ | refine WC.reg ?_ | refine WL.pure rfl rfl rfl ?_ | refine WL.nil ?_ | refine WC.skip ?_ | refine WC.block ?_ | refine WC.condT rfl ?_ | refine WC.condF rfl ?_ | refine WL.off rfl rfl rfl ?_ | refine WL.off0 rfl rfl ?_ | refine WC.exit ?_ | refine blk_hit ?_ | refine blk_miss rfl ?_ | refine WC.ret ?_)
    refine WC.cond rfl (fun hc2 => ?_) (fun hc2 => ?_)
    · have hk : k < i := by have := of_decide_eq_true hc2; omega
      have hkl : k < es.length := by omega
      have step2 : IntKind.i64.wrap ((k : Int) + 1) = ((k + 1 : Nat) : Int) := by rw [wrap_i64_in (by omega) (by omega)]; omega
      have loi : ∀ (w2 : World), Hp w w2 [] → ∀ j v, (pr ((a : Int), (b : Int)))[j]? = some v → w2.cell? ⟨be, oe + i * 2 + j, none⟩ = some v := fun w2 h2 j v hj => lod i hi w2 h2 j v (by rw [hee]; exact hj)
      have no : ¬ (es[k] = ((a : Int), (b : Int)) ∨ (es[k].1 = (b : Int) ∧ es[k].2 = (a : Int))) → ∀ k', ∀ hk : k' < es.length, k' < k + 1 → ¬ (es[k'] = ((a : Int), (b : Int)) ∨ (es[k'].1 = (b : Int) ∧ es[k'].2 = (a : Int))) := by
        intro h k' hk' hlt
        rcases Nat.lt_or_ge k' k with h4 | h4
        · exact hno k' hk' h4
        · have : k' = k := by omega
          subst this; exact h
      repeat (first | refine WC.seq ?_ | refine WC.reg ?_ | refine WL.pure rfl rfl rfl ?_ | refine WL.nil ?_ | refine WC.skip ?_ | refine WC.block ?_ | refine WC.condT rfl ?_ | refine WC.condF rfl ?_ | refine WL.off rfl rfl rfl ?_ | refine WL.off0 rfl rfl ?_ | refine WC.exit ?_ | refine blk_hit ?_ | refine blk_miss rfl ?_ | refine WC.ret ?_)
      refine WC.regQ (fun w2 => Hp w w2 []) mixed (by kernel_rfl) (fun w2 hw2 => hp3.keep hw2) ?_
      repeat (first | refine WQ.pure rfl rfl rfl ?_ | refine WQ.off rfl rfl rfl ?_ | refine WQ.nil ?_)
      refine WQ.ix rfl rfl rfl rfl rfl rfl hkl ?_
      refine WQ.loadN (cs := pr es[k]) rfl rfl rfl rfl rfl rfl (fun w2 h2 => lod k hkl w2 h2) ?_
      repeat (first | refine WQ.pure rfl rfl rfl ?_ | refine WQ.off rfl rfl rfl ?_ | refine WQ.nil ?_)
      refine WQ.ix rfl rfl rfl rfl rfl rfl hi ?_
      refine WQ.loadN (cs := pr ((a : Int), (b : Int))) rfl rfl rfl rfl rfl rfl loi ?_
      refine WQ.cmp2 rfl rfl rfl rfl (by kernel_rfl) rfl rfl (.inl ⟨rfl, rfl⟩) ?_
      refine WQ.pure rfl rfl rfl ?_
      refine WQ.split 74 rfl (fun s1 => ?_) (fun s1 => ?_)
      · repeat (first | refine WQ.pure rfl rfl rfl ?_ | refine WQ.off rfl rfl rfl ?_ | refine WQ.nil ?_)
        intro w4 hp4
        repeat (first | refine WC.seq ?_ | refine WC.reg ?_ | refine WL.pure rfl rfl rfl ?_ | refine WL.nil ?_ | refine WC.skip ?_ | refine WC.block ?_ | refine WC.condT rfl ?_ | refine WC.condF rfl ?_ | refine WL.off rfl rfl rfl ?_ | refine WL.off0 rfl rfl ?_ | refine WC.exit ?_ | refine blk_hit ?_ | refine blk_miss rfl ?_ | refine WC.ret ?_)
        refine Res.one rfl rfl rfl (K _ hp4 (Bdup ⟨k, hkl, hk, .inl ?_⟩))
        simp at s1
        exact Prod.ext s1.1 s1.2
      have s1' : es[k] ≠ ((a : Int), (b : Int)) := by intro h; rw [h] at s1; simp at s1
      repeat (first | refine WQ.pure rfl rfl rfl ?_ | refine WQ.off rfl rfl rfl ?_ | refine WQ.nil ?_)
      refine WQ.ix rfl rfl rfl rfl rfl rfl hkl ?_
      repeat (first | refine WQ.pure rfl rfl rfl ?_ | refine WQ.off rfl rfl rfl ?_ | refine WQ.nil ?_)
      refine WQ.load rfl rfl rfl rfl rfl (fun w2 h2 => lod0 k hkl w2 h2) ?_
      repeat (first | refine WQ.pure rfl rfl rfl ?_ | refine WQ.off rfl rfl rfl ?_ | refine WQ.nil ?_)
      refine WQ.split 82 rfl (fun s2 => ?_) (fun s2 => ?_)
      · have s2 : es[k].1 = (b : Int) := by simpa using s2
        repeat (first | refine WQ.pure rfl rfl rfl ?_ | refine WQ.off rfl rfl rfl ?_ | refine WQ.nil ?_)
        refine WQ.ix rfl rfl rfl rfl rfl rfl hkl ?_
        repeat (first | refine WQ.pure rfl rfl rfl ?_ | refine WQ.off rfl rfl rfl ?_ | refine WQ.nil ?_)
        refine WQ.load rfl rfl rfl rfl rfl (fun w2 h2 => lod1 k hkl w2 h2) ?_
        repeat (first | refine WQ.pure rfl rfl rfl ?_ | refine WQ.off rfl rfl rfl ?_ | refine WQ.nil ?_)
        intro w4 hp4
        repeat (first | refine WC.seq ?_ | refine WC.reg ?_ | refine WL.pure rfl rfl rfl ?_ | refine WL.nil ?_ | refine WC.skip ?_ | refine WC.block ?_ | refine WC.condT rfl ?_ | refine WC.condF rfl ?_ | refine WL.off rfl rfl rfl ?_ | refine WL.off0 rfl rfl ?_ | refine WC.exit ?_ | refine blk_hit ?_ | refine blk_miss rfl ?_ | refine WC.ret ?_)
        refine WC.cond rfl (fun s3 => ?_) (fun s3 => ?_)
        · have s3 : es[k].2 = (a : Int) := by simpa using s3
          repeat (first | refine WC.seq ?_ | refine WC.reg ?_ | refine WL.pure rfl rfl rfl ?_ | refine WL.nil ?_ | refine WC.skip ?_ | refine WC.block ?_ | refine WC.condT rfl ?_ | refine WC.condF rfl ?_ | refine WL.off rfl rfl rfl ?_ | refine WL.off0 rfl rfl ?_ | refine WC.exit ?_ | refine blk_hit ?_ | refine blk_miss rfl ?_ | refine WC.ret ?_)
          exact Res.one rfl rfl rfl (K _ hp4 (Bdup ⟨k, hkl, hk, .inr ⟨s2, s3⟩⟩))
        · have s3 : ¬ es[k].2 = (a : Int) := by simpa using s3
          repeat (first | refine WC.seq ?_ | refine WC.reg ?_ | refine WL.pure rfl rfl rfl ?_ | refine WL.nil ?_ | refine WC.skip ?_ | refine WC.block ?_ | refine WC.condT rfl ?_ | refine WC.condF rfl ?_ | refine WL.off rfl rfl rfl ?_ | refine WL.off0 rfl rfl ?_ | refine WC.exit ?_ | refine blk_hit ?_ | refine blk_miss rfl ?_ | refine WC.ret ?_)
          exact ⟨k + 1, by show i - (k + 1) < i - k; omega, ⟨rfl, rfl, rfl, rfl, rfl, congrArg (fun z => some (Value.int .i64 z)) step2, rfl⟩, hk, no (fun h => h.elim s1' (fun h => s3 h.2)), hp4⟩
      · have s2 : ¬ es[k].1 = (b : Int) := by simpa using s2
        repeat (first | refine WQ.pure rfl rfl rfl ?_ | refine WQ.off rfl rfl rfl ?_ | refine WQ.nil ?_)
        intro w4 hp4
        repeat (first | refine WC.seq ?_ | refine WC.reg ?_ | refine WL.pure rfl rfl rfl ?_ | refine WL.nil ?_ | refine WC.skip ?_ | refine WC.block ?_ | refine WC.condT rfl ?_ | refine WC.condF rfl ?_ | refine WL.off rfl rfl rfl ?_ | refine WL.off0 rfl rfl ?_ | refine WC.exit ?_ | refine blk_hit ?_ | refine blk_miss rfl ?_ | refine WC.ret ?_)
        exact ⟨k + 1, by show i - (k + 1) < i - k; omega, ⟨rfl, rfl, rfl, rfl, rfl, congrArg (fun z => some (Value.int .i64 z)) step2, rfl⟩, hk, no (fun h => h.elim s1' (fun h => s2 h.1)), hp4⟩
    · have hk : k = i := by have := of_decide_eq_false hc2; omega
      subst hk
      repeat (first | refine WC.seq ?_ | refine WC.reg ?_ | refine WL.pure rfl rfl rfl ?_ | refine WL.nil ?_ | refine WC.skip ?_ | refine WC.block ?_ | refine WC.condT rfl ?_ | refine WC.condF rfl ?_ | refine WL.off rfl rfl rfl ?_ | refine WL.off0 rfl rfl ?_ | refine WC.exit ?_ | refine blk_hit ?_ | refine blk_miss rfl ?_ | refine WC.ret ?_)
      exact ⟨k + 1, by show es.length - (k + 1) < es.length - k; omega, ⟨rfl, rfl, congrArg (fun z => some (Value.int .i64 z)) step, rfl⟩, hi, ⟨_, hgood (Bno hno)⟩, hp3⟩
  · have hi : es.length ≤ i := by have := of_decide_eq_false hc; omega
    rw [List.take_of_length_le hi] at hg
    repeat (first | refine WC.seq ?_ | refine WC.reg ?_ | refine WL.pure rfl rfl rfl ?_ | refine WL.nil ?_ | refine WC.skip ?_ | refine WC.block ?_ | refine WC.condT rfl ?_ | refine WC.condF rfl ?_ | refine WL.off rfl rfl rfl ?_ | refine WL.off0 rfl rfl ?_ | refine WC.exit ?_ | refine blk_hit ?_ | refine blk_miss rfl ?_ | refine WC.ret ?_)
    exact Res.one rfl rfl rfl ⟨hp1, by rw [hg]; rfl⟩

theorem Graph_any (ea : Option Addr) (cap : Nat) (n : Int) (es : List Ed) (w : World) (hs : Sl w ea (prs es)) (hlen : es.length ≤ 4611686018427387904) :
    Ret Tryd.prog 18 [.int .i64 n, .slice ea es.length cap] w fun v w' => Hp w w' [] ∧ v = .bool (mkG n es).isSome := by
  refine enter Tryd.func18 rfl rfl ⟨rfl, rfl⟩ rfl ?_
  repeat (first | refine WC.seq ?_ | refine WC.reg ?_ | refine WL.pure rfl rfl rfl ?_ | refine WL.nil ?_ | refine WC.skip ?_ | refine WC.block ?_ | refine WC.condT rfl ?_ | refine WC.condF rfl ?_ | refine WL.off rfl rfl rfl ?_ | refine WL.off0 rfl rfl ?_ | refine WC.exit ?_ | refine blk_hit ?_ | refine blk_miss rfl ?_ | refine WC.ret ?_)
  refine WL.call rfl rfl rfl rfl rfl ent47 (Graph3_any ea cap n es w hs hlen) ?_
  rintro _ w1 ⟨hp1, rfl⟩
  repeat (first | refine WC.seq ?_ | refine WC.reg ?_ | refine WL.pure rfl rfl rfl ?_ | refine WL.nil ?_ | refine WC.skip ?_ | refine WC.block ?_ | refine WC.condT rfl ?_ | refine WC.condF rfl ?_ | refine WL.off rfl rfl rfl ?_ | refine WL.off0 rfl rfl ?_ | refine WC.exit ?_ | refine blk_hit ?_ | refine blk_miss rfl ?_ | refine WC.ret ?_)
  exact Res.one rfl rfl rfl ⟨hp1, rfl⟩
end Go.Proofs.YtdnkkflpgebfbaaDoor

/- The walks of the reference's widths. -/
namespace Go.Proofs.YtdnkkflpgebfbaaDoor
open Go.W Go.Tree
set_option maxRecDepth 100000
attribute [local irreducible] WC WL WQ WS WH

theorem rlater_any (ga : Option Addr) (cap : Nat) (g : List Nat) (S v : Nat) (w : World) (hs : Sl w ga (ints g)) (hg : Gr g) (hv : v < g.length) (hS : S < 16384) :
    Ret Tryd.prog 59 [.slice ga g.length cap, .int .i64 S, .int .i64 v] w fun u w' => u = .int .i64 (pc (lat g S v)) ∧ Hp w w' [] := by
  have hn := hg.len
  have hp14 : 2 ^ g.length ≤ 2 ^ 14 := Nat.pow_le_pow_right (by decide) hn
  have hpow : ∀ u, u < g.length → 2 ^ u < 2 ^ g.length := fun u hu => Nat.pow_lt_pow_right (by decide) hu
  obtain ⟨b, o, rfl⟩ := Sl.some hs (ints_at hv)
  refine enter Tryd.func59 rfl rfl ⟨rfl, rfl⟩ rfl ?_
  repeat (first | refine WC.seq ?_ | refine WC.reg ?_ | refine WL.pure rfl rfl rfl ?_ | refine WL.nil ?_ | refine WC.skip ?_ | refine WC.block ?_ | refine WC.condT rfl ?_ | refine WC.condF rfl ?_ | refine WL.off rfl rfl rfl ?_ | refine WL.off0 rfl rfl ?_ | refine WC.exit ?_ | refine blk_hit ?_ | refine blk_miss rfl ?_ | refine WC.ret ?_)
  refine WC.regQ (fun w2 => Hp w w2 []) mixed (by kernel_rfl) (fun w2 hw2 => (Hp.start w).keep hw2) ?_
  repeat (first | refine WQ.pure rfl rfl rfl ?_ | refine WQ.off rfl rfl rfl ?_ | refine WQ.nil ?_)
  refine WQ.call rfl rfl rfl rfl rfl ent52 (fun w4 h4 => (bit_any v (by omega) w4).mono fun u w5 ⟨h5, h6⟩ => ⟨h5, by rw [h6]; exact h4⟩) ?_
  repeat (first | refine WQ.pure rfl rfl rfl ?_ | refine WQ.off rfl rfl rfl ?_ | refine WQ.nil ?_)
  refine WQ.ixload rfl (fun _ => rfl) rfl rfl rfl rfl rfl rfl rfl hv rfl rfl (fun w2 h2 => Sl.cell (hs.hp h2) (ints_at hv)) ?_
  repeat (first | refine WQ.pure rfl rfl rfl ?_ | refine WQ.off rfl rfl rfl ?_ | refine WQ.nil ?_)
  intro w1 hp1
  repeat (first | refine WC.seq ?_ | refine WC.reg ?_ | refine WL.pure rfl rfl rfl ?_ | refine WL.nil ?_ | refine WC.skip ?_ | refine WC.block ?_ | refine WC.condT rfl ?_ | refine WC.condF rfl ?_ | refine WL.off rfl rfl rfl ?_ | refine WL.off0 rfl rfl ?_ | refine WC.exit ?_ | refine blk_hit ?_ | refine blk_miss rfl ?_ | refine WC.ret ?_)
  refine WC.loop (Nat × Nat × Nat) (fun (seen, queue, out) => [(0, .slice (some ⟨b, o, none⟩) g.length cap), (1, .int .i64 (S : Nat)), (7, .int .i64 (seen : Nat)), (8, .int .i64 (queue : Nat)), (9, .int .i64 (out : Nat))])
    (fun (seen, queue, out) w' => seen < 2 ^ g.length ∧ queue < 2 ^ g.length ∧ RJ g S v seen queue out ∧ Hp w w' []) (fun (seen, queue, out) => 16 * card (bd (full g.length) seen) + card queue) (2 ^ v, g.getD v 0, 0)
    ⟨rfl, rfl, rfl, rfl, rfl, rfl⟩ ⟨hpow v hv, hg.lt v, RJ.init g S v, hp1⟩ ?_
  rintro ⟨seen, queue, out⟩ w2 ⟨hseen, hqueue, hR, hp2⟩
  repeat (first | refine WC.seq ?_ | refine WC.reg ?_ | refine WL.pure rfl rfl rfl ?_ | refine WL.nil ?_ | refine WC.skip ?_ | refine WC.block ?_ | refine WC.condT rfl ?_ | refine WC.condF rfl ?_ | refine WL.off rfl rfl rfl ?_ | refine WL.off0 rfl rfl ?_ | refine WC.exit ?_ | refine blk_hit ?_ | refine blk_miss rfl ?_ | refine WC.ret ?_)
  refine WC.cond rfl (fun hc => ?_) (fun hc => ?_)
  · have hq0 : queue ≠ 0 := by intro h; rw [h] at hc; simp at hc
    obtain ⟨i0, hi0⟩ := pos_testBit hq0
    have hi0n := lt_of_testBit hqueue hi0
    repeat (first | refine WC.seq ?_ | refine WC.reg ?_ | refine WL.pure rfl rfl rfl ?_ | refine WL.nil ?_ | refine WC.skip ?_ | refine WC.block ?_ | refine WC.condT rfl ?_ | refine WC.condF rfl ?_ | refine WL.off rfl rfl rfl ?_ | refine WL.off0 rfl rfl ?_ | refine WC.exit ?_ | refine blk_hit ?_ | refine blk_miss rfl ?_ | refine WC.ret ?_)
    refine WC.loop Nat (fun u => [(0, .slice (some ⟨b, o, none⟩) g.length cap), (1, .int .i64 (S : Nat)), (7, .int .i64 (seen : Nat)), (8, .int .i64 (queue : Nat)), (9, .int .i64 (out : Nat)), (10, .int .i64 (u : Nat))])
      (fun u w' => u ≤ i0 ∧ (∀ j, j < u → queue.testBit j = false) ∧ Hp w w' []) (fun u => i0 - u) 0 ⟨rfl, rfl, rfl, rfl, rfl, rfl, rfl⟩ ⟨Nat.zero_le _, (fun j hj => by omega), hp2⟩ ?_
    rintro u w3 ⟨hu, hno, hp3⟩
    repeat (first | refine WC.seq ?_ | refine WC.reg ?_ | refine WL.pure rfl rfl rfl ?_ | refine WL.nil ?_ | refine WC.skip ?_ | refine WC.block ?_ | refine WC.condT rfl ?_ | refine WC.condF rfl ?_ | refine WL.off rfl rfl rfl ?_ | refine WL.off0 rfl rfl ?_ | refine WC.exit ?_ | refine blk_hit ?_ | refine blk_miss rfl ?_ | refine WC.ret ?_)
    refine WL.callP rfl rfl rfl rfl rfl ent51 (Has_any queue u (by omega) _) ?_
    repeat (first | refine WC.seq ?_ | refine WC.reg ?_ | refine WL.pure rfl rfl rfl ?_ | refine WL.nil ?_ | refine WC.skip ?_ | refine WC.block ?_ | refine WC.condT rfl ?_ | refine WC.condF rfl ?_ | refine WL.off rfl rfl rfl ?_ | refine WL.off0 rfl rfl ?_ | refine WC.exit ?_ | refine blk_hit ?_ | refine blk_miss rfl ?_ | refine WC.ret ?_)
    refine WC.cond rfl (fun hb => ?_) (fun hb => ?_)
    · have hb : queue.testBit u = false := by simpa using hb
      have hne : u ≠ i0 := fun h => by rw [h, hi0] at hb; cases hb
      have step : IntKind.i64.wrap ((u : Int) + 1) = ((u + 1 : Nat) : Int) := by rw [wrap_i64_in (by omega) (by omega)]; omega
      repeat (first | refine WC.seq ?_ | refine WC.reg ?_ | refine WL.pure rfl rfl rfl ?_ | refine WL.nil ?_ | refine WC.skip ?_ | refine WC.block ?_ | refine WC.condT rfl ?_ | refine WC.condF rfl ?_ | refine WL.off rfl rfl rfl ?_ | refine WL.off0 rfl rfl ?_ | refine WC.exit ?_ | refine blk_hit ?_ | refine blk_miss rfl ?_ | refine WC.ret ?_)
      refine ⟨u + 1, by show i0 - (u + 1) < i0 - u; omega, ⟨rfl, rfl, rfl, rfl, rfl, congrArg (fun z => some (Value.int .i64 z)) step, rfl⟩, by omega, ?_, hp3⟩
      intro j hj
      rcases Nat.lt_or_ge j u with h | h
      · exact hno j h
      · rw [show j = u by omega]; exact hb
    · have hb : queue.testBit u = true := by simpa using hb
      have hun := lt_of_testBit hqueue hb
      have hpu := hpow u hun
      have e1 : bits .andNot .i64 (queue : Int) ((2 ^ u : Nat) : Int) = ((bd queue (2 ^ u) : Nat) : Int) := andNot_i64 (by omega) (by omega)
      have hq1 : bd queue (2 ^ u) < 2 ^ g.length := bd_lt hqueue
      have hcq : card (bd queue (2 ^ u)) + 1 = card queue := by
        have h1 := card_bd (a := queue) (b := 2 ^ u) (fun i hi => by
          rw [Nat.testBit_two_pow] at hi
          have : u = i := by simpa using hi
          rw [← this]; exact hb)
        have h2 : card (2 ^ u) = 1 := card_pow (by omega)
        omega
      repeat (first | refine WC.seq ?_ | refine WC.reg ?_ | refine WL.pure rfl rfl rfl ?_ | refine WL.nil ?_ | refine WC.skip ?_ | refine WC.block ?_ | refine WC.condT rfl ?_ | refine WC.condF rfl ?_ | refine WL.off rfl rfl rfl ?_ | refine WL.off0 rfl rfl ?_ | refine WC.exit ?_ | refine blk_hit ?_ | refine blk_miss rfl ?_ | refine WC.ret ?_)
      refine WL.callP rfl rfl rfl rfl rfl ent52 (bit_any u (by omega) _) ?_
      repeat (first | refine WC.seq ?_ | refine WC.reg ?_ | refine WL.pure rfl rfl rfl ?_ | refine WL.nil ?_ | refine WC.skip ?_ | refine WC.block ?_ | refine WC.condT rfl ?_ | refine WC.condF rfl ?_ | refine WL.off rfl rfl rfl ?_ | refine WL.off0 rfl rfl ?_ | refine WC.exit ?_ | refine blk_hit ?_ | refine blk_miss rfl ?_ | refine WC.ret ?_)
      refine WL.callP rfl rfl rfl rfl rfl ent51 (Has_any seen u (by omega) _) ?_
      repeat (first | refine WC.seq ?_ | refine WC.reg ?_ | refine WL.pure rfl rfl rfl ?_ | refine WL.nil ?_ | refine WC.skip ?_ | refine WC.block ?_ | refine WC.condT rfl ?_ | refine WC.condF rfl ?_ | refine WL.off rfl rfl rfl ?_ | refine WL.off0 rfl rfl ?_ | refine WC.exit ?_ | refine blk_hit ?_ | refine blk_miss rfl ?_ | refine WC.ret ?_)
      refine WC.cond rfl (fun hs1 => ?_) (fun hs1 => ?_)
      · repeat (first | refine WC.seq ?_ | refine WC.reg ?_ | refine WL.pure rfl rfl rfl ?_ | refine WL.nil ?_ | refine WC.skip ?_ | refine WC.block ?_ | refine WC.condT rfl ?_ | refine WC.condF rfl ?_ | refine WL.off rfl rfl rfl ?_ | refine WL.off0 rfl rfl ?_ | refine WC.exit ?_ | refine blk_hit ?_ | refine blk_miss rfl ?_ | refine WC.ret ?_)
        exact ⟨(seen, bd queue (2 ^ u), out), by show 16 * card (bd (full g.length) seen) + card (bd queue (2 ^ u)) < 16 * card (bd (full g.length) seen) + card queue; omega, ⟨rfl, rfl, rfl, congrArg (fun z => some (Value.int .i64 z)) e1, rfl, rfl⟩, hseen, hq1, hR.skip hs1, hp3⟩
      · have hs1 : seen.testBit u = false := by simpa using hs1
        have e2 : bits .or .i64 (seen : Int) ((2 ^ u : Nat) : Int) = ((seen ||| 2 ^ u : Nat) : Int) := or_i64 (by omega) (by omega)
        have hs2 : seen ||| 2 ^ u < 2 ^ g.length := or_pow_lt hseen hun
        have hcm := card_more hn hun hs1
        repeat (first | refine WC.seq ?_ | refine WC.reg ?_ | refine WL.pure rfl rfl rfl ?_ | refine WL.nil ?_ | refine WC.skip ?_ | refine WC.block ?_ | refine WC.condT rfl ?_ | refine WC.condF rfl ?_ | refine WL.off rfl rfl rfl ?_ | refine WL.off0 rfl rfl ?_ | refine WC.exit ?_ | refine blk_hit ?_ | refine blk_miss rfl ?_ | refine WC.ret ?_)
        refine WL.callP rfl rfl rfl rfl rfl ent52 (bit_any u (by omega) _) ?_
        repeat (first | refine WC.seq ?_ | refine WC.reg ?_ | refine WL.pure rfl rfl rfl ?_ | refine WL.nil ?_ | refine WC.skip ?_ | refine WC.block ?_ | refine WC.condT rfl ?_ | refine WC.condF rfl ?_ | refine WL.off rfl rfl rfl ?_ | refine WL.off0 rfl rfl ?_ | refine WC.exit ?_ | refine blk_hit ?_ | refine blk_miss rfl ?_ | refine WC.ret ?_)
        refine WL.callP rfl rfl rfl rfl rfl ent51 (Has_any S u (by omega) _) ?_
        repeat (first | refine WC.seq ?_ | refine WC.reg ?_ | refine WL.pure rfl rfl rfl ?_ | refine WL.nil ?_ | refine WC.skip ?_ | refine WC.block ?_ | refine WC.condT rfl ?_ | refine WC.condF rfl ?_ | refine WL.off rfl rfl rfl ?_ | refine WL.off0 rfl rfl ?_ | refine WC.exit ?_ | refine blk_hit ?_ | refine blk_miss rfl ?_ | refine WC.ret ?_)
        refine WC.cond rfl (fun hS1 => ?_) (fun hS1 => ?_)
        · have hgu := hg.lt u
          have e3 : bits .or .i64 (bits .andNot .i64 (queue : Int) ((2 ^ u : Nat) : Int)) (bits .andNot .i64 ((g.getD u 0 : Nat) : Int) (bits .or .i64 (seen : Int) ((2 ^ u : Nat) : Int))) = ((bd queue (2 ^ u) ||| bd (g.getD u 0) (seen ||| 2 ^ u) : Nat) : Int) := by
            rw [e1, e2, andNot_i64 (by omega) (by omega), or_i64 (by omega) (by have := bd_le (g.getD u 0) (seen ||| 2 ^ u); omega)]
          have hq2 : bd queue (2 ^ u) ||| bd (g.getD u 0) (seen ||| 2 ^ u) < 2 ^ g.length := or_lt hq1 (bd_lt hgu)
          have hcard := card_le (by omega) hq2
          repeat (first | refine WC.seq ?_ | refine WC.reg ?_ | refine WL.pure rfl rfl rfl ?_ | refine WL.nil ?_ | refine WC.skip ?_ | refine WC.block ?_ | refine WC.condT rfl ?_ | refine WC.condF rfl ?_ | refine WL.off rfl rfl rfl ?_ | refine WL.off0 rfl rfl ?_ | refine WC.exit ?_ | refine blk_hit ?_ | refine blk_miss rfl ?_ | refine WC.ret ?_)
          refine WL.ixload rfl (fun _ => rfl) rfl rfl rfl rfl rfl rfl rfl hun rfl rfl (hs.hp hp3) (ints_at hun) ?_
          intro p
          repeat (first | refine WC.seq ?_ | refine WC.reg ?_ | refine WL.pure rfl rfl rfl ?_ | refine WL.nil ?_ | refine WC.skip ?_ | refine WC.block ?_ | refine WC.condT rfl ?_ | refine WC.condF rfl ?_ | refine WL.off rfl rfl rfl ?_ | refine WL.off0 rfl rfl ?_ | refine WC.exit ?_ | refine blk_hit ?_ | refine blk_miss rfl ?_ | refine WC.ret ?_)
          exact ⟨(seen ||| 2 ^ u, bd queue (2 ^ u) ||| bd (g.getD u 0) (seen ||| 2 ^ u), out), by show 16 * card (bd (full g.length) (seen ||| 2 ^ u)) + card (bd queue (2 ^ u) ||| bd (g.getD u 0) (seen ||| 2 ^ u)) < 16 * card (bd (full g.length) seen) + card queue; omega,
            ⟨rfl, rfl, congrArg (fun z => some (Value.int .i64 z)) e2, congrArg (fun z => some (Value.int .i64 z)) e3, rfl, rfl⟩, hs2, hq2, hR.grow hb hs1 hS1, hp3⟩
        · have hS1 : S.testBit u = false := by simpa using hS1
          have ho : out ≤ 16 := by
            rw [hR.out]; exact card_le (Nat.le_refl 16) (bd_lt (bd_lt (show seen < 2 ^ 16 by omega)))
          have e4 : IntKind.i64.wrap ((out : Int) + 1) = ((out + 1 : Nat) : Int) := by rw [wrap_i64_in (by omega) (by omega)]; omega
          have hcard := card_le (by omega) hq1
          repeat (first | refine WC.seq ?_ | refine WC.reg ?_ | refine WL.pure rfl rfl rfl ?_ | refine WL.nil ?_ | refine WC.skip ?_ | refine WC.block ?_ | refine WC.condT rfl ?_ | refine WC.condF rfl ?_ | refine WL.off rfl rfl rfl ?_ | refine WL.off0 rfl rfl ?_ | refine WC.exit ?_ | refine blk_hit ?_ | refine blk_miss rfl ?_ | refine WC.ret ?_)
          exact ⟨(seen ||| 2 ^ u, bd queue (2 ^ u), out + 1), by show 16 * card (bd (full g.length) (seen ||| 2 ^ u)) + card (bd queue (2 ^ u)) < 16 * card (bd (full g.length) seen) + card queue; omega,
            ⟨rfl, rfl, congrArg (fun z => some (Value.int .i64 z)) e2, congrArg (fun z => some (Value.int .i64 z)) e1, congrArg (fun z => some (Value.int .i64 z)) e4, rfl⟩, hs2, hq1, hR.take hb hs1 (by omega) hS1, hp3⟩
  · have hq0 : queue = 0 := by have := of_decide_eq_false hc; omega
    subst hq0
    repeat (first | refine WC.seq ?_ | refine WC.reg ?_ | refine WL.pure rfl rfl rfl ?_ | refine WL.nil ?_ | refine WC.skip ?_ | refine WC.block ?_ | refine WC.condT rfl ?_ | refine WC.condF rfl ?_ | refine WL.off rfl rfl rfl ?_ | refine WL.off0 rfl rfl ?_ | refine WC.exit ?_ | refine blk_hit ?_ | refine blk_miss rfl ?_ | refine WC.ret ?_)
    exact Res.one rfl rfl rfl ⟨by rw [hR.final hg hv], hp2⟩

theorem Neighbors_any (ea : Option Addr) (cap : Nat) (g : List Nat) (es : List Ed) (w : World) (hs : Sl w ea (prs es)) (hlen : es.length ≤ 4611686018427387904) (hmk : mkG (g.length : Nat) es = some g) :
    Ret Tryd.prog 50 [.int .i64 (g.length : Nat), .slice ea es.length cap] w fun v w' => ∃ b, Hp w w' [.blk b (.cells (ints g).toArray 3 (0, 0))] ∧ v = .slice (some ⟨b, 0, none⟩) g.length g.length := by
  obtain ⟨hg, _, _, _, hl100⟩ := mkG_gr hmk
  have hn := hg.len
  have hadd : addEs g.length (List.replicate g.length 0) es = some g := by
    rw [mkG, if_neg (by omega)] at hmk; exact hmk
  refine enter Tryd.func50 rfl rfl ⟨rfl, rfl⟩ rfl ?_
  repeat (first | refine WC.seq ?_ | refine WC.reg ?_ | refine WL.pure rfl rfl rfl ?_ | refine WL.nil ?_ | refine WC.skip ?_ | refine WC.block ?_ | refine WC.condT rfl ?_ | refine WC.condF rfl ?_ | refine WL.off rfl rfl rfl ?_ | refine WL.off0 rfl rfl ?_ | refine WC.exit ?_ | refine blk_hit ?_ | refine blk_miss rfl ?_ | refine WC.ret ?_)
  refine WL.make (m := g.length) rfl rfl rfl rfl rfl rfl rfl rfl ?_ ?_ ?_
  · show 8 * g.length ≤ _; omega
  · unfold maxLen; omega
  intro b w1 hb
  have hz : (List.replicate g.length ti3.zero) = ints (List.replicate g.length 0) := by simp only [ints, List.map_replicate]; rfl
  rw [hz] at hb
  have hp1 := (Hp.start w).new hb
  generalize hnn : g.length = n at *
  repeat (first | refine WC.seq ?_ | refine WC.reg ?_ | refine WL.pure rfl rfl rfl ?_ | refine WL.nil ?_ | refine WC.skip ?_ | refine WC.block ?_ | refine WC.condT rfl ?_ | refine WC.condF rfl ?_ | refine WL.off rfl rfl rfl ?_ | refine WL.off0 rfl rfl ?_ | refine WC.exit ?_ | refine blk_hit ?_ | refine blk_miss rfl ?_ | refine WC.ret ?_)
  refine WC.loop (Nat × List Nat) (fun (i, _) => [(0, .int .i64 (n : Nat)), (1, .slice ea es.length cap), (5, .slice (some ⟨b, 0, none⟩) n n), (6, .int .i64 (i : Nat))])
    (fun (i, h) w' => i ≤ es.length ∧ addEs n (List.replicate n 0) (es.take i) = some h ∧ Hp w w' [.blk b (.cells (ints h).toArray 3 (0, 0))]) (fun (i, _) => es.length - i) (0, List.replicate n 0)
    ⟨rfl, rfl, rfl, rfl, rfl⟩ ⟨Nat.zero_le _, by rw [List.take_zero, addEs], hp1⟩ ?_
  rintro ⟨i, h⟩ w2 ⟨hi, hh, hp2⟩
  repeat (first | refine WC.seq ?_ | refine WC.reg ?_ | refine WL.pure rfl rfl rfl ?_ | refine WL.nil ?_ | refine WC.skip ?_ | refine WC.block ?_ | refine WC.condT rfl ?_ | refine WC.condF rfl ?_ | refine WL.off rfl rfl rfl ?_ | refine WL.off0 rfl rfl ?_ | refine WC.exit ?_ | refine blk_hit ?_ | refine blk_miss rfl ?_ | refine WC.ret ?_)
  refine WC.cond rfl (fun hc => ?_) (fun hc => ?_)
  · have hi : i < es.length := by have := of_decide_eq_true hc; omega
    have step : IntKind.i64.wrap ((i : Int) + 1) = ((i + 1 : Nat) : Int) := by rw [wrap_i64_in (by omega) (by omega)]; omega
    have hbad : ¬ Bad n h es[i] := fun hb => by rw [take_bad hh hi hb] at hadd; cases hadd
    have hgood := take_good hh hi hbad
    obtain ⟨hgh, hgl⟩ := addEs_gr _ _ _ (zero_gr hn) (by simp) hh
    obtain ⟨be, oe, rfl⟩ := Sl.some hs (prs_get hi).1
    have lod : ∀ (w2 : World), Hp w w2 [.blk b (.cells (ints h).toArray 3 (0, 0))] → ∀ j v, (pr es[i])[j]? = some v → w2.cell? ⟨be, oe + i * 2 + j, none⟩ = some v := by
      intro w2 h2 j v hj
      rw [Nat.add_assoc]
      exact Sl.cell (hs.hp h2) (prs_at es i hi j v hj)
    generalize hee : es[i] = ee at *
    obtain ⟨u, v⟩ := ee
    have hb2 := hbad
    unfold Bad at hb2
    simp only [not_or] at hb2
    obtain ⟨h1, h2, h3, h4, h5, h6⟩ := hb2
    obtain ⟨u, rfl⟩ := Int.eq_ofNat_of_zero_le (show 0 ≤ u by omega)
    obtain ⟨v, rfl⟩ := Int.eq_ofNat_of_zero_le (show 0 ≤ v by omega)
    have hu : u < h.length := by omega
    have hv : v < h.length := by omega
    simp only [Int.toNat_natCast] at hgood
    have hgu := lt_pow16 hgh.len (hgh.lt u)
    have hpv : 2 ^ v < 16384 := lt_pow16 hgh.len (Nat.pow_lt_pow_right (by decide) hv)
    have hpu : 2 ^ u < 16384 := lt_pow16 hgh.len (Nat.pow_lt_pow_right (by decide) hu)
    repeat (first | refine WC.seq ?_ | refine WC.reg ?_ | refine WL.pure rfl rfl rfl ?_ | refine WL.nil ?_ | refine WC.skip ?_ | refine WC.block ?_ | refine WC.condT rfl ?_ | refine WC.condF rfl ?_ | refine WL.off rfl rfl rfl ?_ | refine WL.off0 rfl rfl ?_ | refine WC.exit ?_ | refine blk_hit ?_ | refine blk_miss rfl ?_ | refine WC.ret ?_)
    refine WC.regQ (fun w2 => Hp w w2 [.blk b (.cells (ints h).toArray 3 (0, 0))]) mixed (by kernel_rfl) (fun w3 hw3 => hp2.keep hw3) ?_
    repeat (first | refine WQ.pure rfl rfl rfl ?_ | refine WQ.off rfl rfl rfl ?_ | refine WQ.nil ?_)
    refine WQ.ix rfl rfl rfl rfl rfl rfl hi ?_
    repeat (first | refine WQ.pure rfl rfl rfl ?_ | refine WQ.off rfl rfl rfl ?_ | refine WQ.nil ?_)
    refine WQ.load rfl rfl rfl rfl rfl (fun w2 h2 => lod w2 h2 0 _ rfl) ?_
    repeat (first | refine WQ.pure rfl rfl rfl ?_ | refine WQ.off rfl rfl rfl ?_ | refine WQ.nil ?_)
    refine WQ.ix rfl rfl rfl rfl rfl rfl hi ?_
    repeat (first | refine WQ.pure rfl rfl rfl ?_ | refine WQ.off rfl rfl rfl ?_ | refine WQ.nil ?_)
    refine WQ.load rfl rfl rfl rfl rfl (fun w2 h2 => lod w2 h2 1 _ rfl) ?_
    repeat (first | refine WQ.pure rfl rfl rfl ?_ | refine WQ.off rfl rfl rfl ?_ | refine WQ.nil ?_)
    intro w3 hp3
    repeat (first | refine WC.seq ?_ | refine WC.reg ?_ | refine WL.pure rfl rfl rfl ?_ | refine WL.nil ?_ | refine WC.skip ?_ | refine WC.block ?_ | refine WC.condT rfl ?_ | refine WC.condF rfl ?_ | refine WL.off rfl rfl rfl ?_ | refine WL.off0 rfl rfl ?_ | refine WC.exit ?_ | refine blk_hit ?_ | refine blk_miss rfl ?_ | refine WC.ret ?_)
    refine WC.regS 10 mixed (by kernel_rfl) rfl rfl (fun w4 hw4 hh4 => ?_)
    have hp4 := hp3.keep hw4
    repeat (first | refine WS.pure rfl rfl rfl ?_ | refine WS.off rfl rfl rfl ?_ | refine WS.nil ?_)
    refine WS.ix1 rfl rfl rfl rfl rfl rfl rfl (j := u) (by omega) ?_
    refine WS.loadB rfl rfl rfl rfl rfl (hp4.obj 0 rfl) (j := 0 + u) (by rw [nth_eq, Nat.zero_add]; exact ints_at hu) ?_
    repeat (first | refine WS.pure rfl rfl rfl ?_ | refine WS.off rfl rfl rfl ?_ | refine WS.nil ?_)
    refine WS.call rfl rfl rfl rfl rfl ent52 (bit_any v (by omega) w4) ?_
    repeat (first | refine WS.pure rfl rfl rfl ?_ | refine WS.off rfl rfl rfl ?_ | refine WS.nil ?_)
    refine WS.ix1 rfl rfl rfl rfl rfl rfl rfl (j := u) (by omega) ?_
    repeat (first | refine WS.pure rfl rfl rfl ?_ | refine WS.off rfl rfl rfl ?_ | refine WS.nil ?_)
    refine WL.store rfl rfl rfl rfl rfl rfl (hp4.obj 0 rfl) (by simp [ints]; omega) (fun w5 hw5 => ?_)
    rw [Nat.zero_add, or_i64 (by omega) (by omega), ints_set] at hw5
    have hp5 := hp4.set 0 rfl rfl hw5
    change Hp w w5 [.blk b (.cells (ints (put1 h u v)).toArray 3 (0, 0))] at hp5
    have hg1 : Gr (put1 h u v) := put1_gr hgh hu hv
    have hl1 := put1_len h u v
    have hgv1 := lt_pow16 hg1.len (hg1.lt v)
    repeat (first | refine WC.seq ?_ | refine WC.reg ?_ | refine WL.pure rfl rfl rfl ?_ | refine WL.nil ?_ | refine WC.skip ?_ | refine WC.block ?_ | refine WC.condT rfl ?_ | refine WC.condF rfl ?_ | refine WL.off rfl rfl rfl ?_ | refine WL.off0 rfl rfl ?_ | refine WC.exit ?_ | refine blk_hit ?_ | refine blk_miss rfl ?_ | refine WC.ret ?_)
    refine WC.regS 10 mixed (by kernel_rfl) rfl rfl (fun w6 hw6 hh6 => ?_)
    have hp6 := hp5.keep hw6
    repeat (first | refine WS.pure rfl rfl rfl ?_ | refine WS.off rfl rfl rfl ?_ | refine WS.nil ?_)
    refine WS.ix1 rfl rfl rfl rfl rfl rfl rfl (j := v) (by omega) ?_
    refine WS.loadB rfl rfl rfl rfl rfl (hp6.obj 0 rfl) (j := 0 + v) (by rw [nth_eq, Nat.zero_add]; exact ints_at (by omega)) ?_
    repeat (first | refine WS.pure rfl rfl rfl ?_ | refine WS.off rfl rfl rfl ?_ | refine WS.nil ?_)
    refine WS.call rfl rfl rfl rfl rfl ent52 (bit_any u (by omega) w6) ?_
    repeat (first | refine WS.pure rfl rfl rfl ?_ | refine WS.off rfl rfl rfl ?_ | refine WS.nil ?_)
    refine WS.ix1 rfl rfl rfl rfl rfl rfl rfl (j := v) (by omega) ?_
    repeat (first | refine WS.pure rfl rfl rfl ?_ | refine WS.off rfl rfl rfl ?_ | refine WS.nil ?_)
    refine WL.store rfl rfl rfl rfl rfl rfl (hp6.obj 0 rfl) (by simp [ints]; omega) (fun w7 hw7 => ?_)
    rw [Nat.zero_add, or_i64 (by omega) (by omega), ints_set] at hw7
    have hp7 := hp6.set 0 rfl rfl hw7
    change Hp w w7 [.blk b (.cells (ints (put1 (put1 h u v) v u)).toArray 3 (0, 0))] at hp7
    repeat (first | refine WC.seq ?_ | refine WC.reg ?_ | refine WL.pure rfl rfl rfl ?_ | refine WL.nil ?_ | refine WC.skip ?_ | refine WC.block ?_ | refine WC.condT rfl ?_ | refine WC.condF rfl ?_ | refine WL.off rfl rfl rfl ?_ | refine WL.off0 rfl rfl ?_ | refine WC.exit ?_ | refine blk_hit ?_ | refine blk_miss rfl ?_ | refine WC.ret ?_)
    exact ⟨(i + 1, put1 (put1 h u v) v u), by show es.length - (i + 1) < es.length - i; omega, ⟨rfl, rfl, rfl, congrArg (fun z => some (Value.int .i64 z)) step, rfl⟩, hi, hgood, hp7⟩
  · have hi : es.length ≤ i := by have := of_decide_eq_false hc; omega
    rw [List.take_of_length_le hi, hadd] at hh
    simp only [Option.some.injEq] at hh
    subst hh
    repeat (first | refine WC.seq ?_ | refine WC.reg ?_ | refine WL.pure rfl rfl rfl ?_ | refine WL.nil ?_ | refine WC.skip ?_ | refine WC.block ?_ | refine WC.condT rfl ?_ | refine WC.condF rfl ?_ | refine WL.off rfl rfl rfl ?_ | refine WL.off0 rfl rfl ?_ | refine WC.exit ?_ | refine blk_hit ?_ | refine blk_miss rfl ?_ | refine WC.ret ?_)
    exact Res.one rfl rfl rfl ⟨b, hp2, rfl⟩
end Go.Proofs.YtdnkkflpgebfbaaDoor

/- The walks of the reference's widths, best order and order. -/
namespace Go.Proofs.YtdnkkflpgebfbaaDoor
open Go.W Go.Tree
set_option maxRecDepth 100000
attribute [local irreducible] WC WL WQ WS WH

theorem fulli {n : Nat} (hn : n ≤ 14) : IntKind.i64.wrap (shl .i64 1 n - 1) = (full n : Nat) := by
  have h1 := shl_one (v := n) (by omega)
  have h2 : 2 ^ n ≤ 2 ^ 14 := Nat.pow_le_pow_right (by decide) hn
  have h3 := Nat.two_pow_pos n
  rw [h1, wrap_i64_in (by omega) (by omega)]
  unfold full; omega

theorem Widths_any (ea : Option Addr) (cap : Nat) (g : List Nat) (es : List Ed) (w : World) (hs : Sl w ea (prs es)) (hlen : es.length ≤ 4611686018427387904) (hmk : mkG (g.length : Nat) es = some g) :
    Ret Tryd.prog 58 [.int .i64 (g.length : Nat), .slice ea es.length cap] w fun v w' => ∃ b, Hp w w' [.blk b (.cells (zs (wdRow g 0)).toArray 3 (0, 0))] ∧ v = .slice (some ⟨b, 0, none⟩) (2 ^ g.length) (2 ^ g.length) := by
  obtain ⟨hg, _, _, _, _⟩ := mkG_gr hmk
  have hn := hg.len
  have hp14 : 2 ^ g.length ≤ 2 ^ 14 := Nat.pow_le_pow_right (by decide) hn
  have hpos := Nat.two_pow_pos g.length
  have hfull : full g.length + 1 = 2 ^ g.length := by unfold full; omega
  refine enter Tryd.func58 rfl rfl ⟨rfl, rfl⟩ rfl ?_
  repeat (first | refine WC.seq ?_ | refine WC.reg ?_ | refine WL.pure rfl rfl rfl ?_ | refine WL.nil ?_ | refine WC.skip ?_ | refine WC.block ?_ | refine WC.condT rfl ?_ | refine WC.condF rfl ?_ | refine WL.off rfl rfl rfl ?_ | refine WL.off0 rfl rfl ?_ | refine WC.exit ?_ | refine blk_hit ?_ | refine blk_miss rfl ?_ | refine WC.ret ?_)
  refine WL.call rfl rfl rfl rfl rfl ent50 (Neighbors_any ea cap g es w hs hlen hmk) ?_
  rintro _ w1 ⟨bn, hp1, rfl⟩
  repeat (first | refine WC.seq ?_ | refine WC.reg ?_ | refine WL.pure rfl rfl rfl ?_ | refine WL.nil ?_ | refine WC.skip ?_ | refine WC.block ?_ | refine WC.condT rfl ?_ | refine WC.condF rfl ?_ | refine WL.off rfl rfl rfl ?_ | refine WL.off0 rfl rfl ?_ | refine WC.exit ?_ | refine blk_hit ?_ | refine blk_miss rfl ?_ | refine WC.ret ?_)
  refine WL.known (d := 15) (congrArg (fun z => some (Value.int .i64 z)) (shl_one (v := g.length) (by omega))) ?_
  refine WL.make (m := 2 ^ g.length) rfl rfl rfl rfl rfl rfl rfl rfl ?_ ?_ ?_
  · show 8 * 2 ^ g.length ≤ _; omega
  · unfold maxLen; omega
  intro b w2 hb
  have hz : (List.replicate (2 ^ g.length) ti3.zero) = zs (List.replicate (2 ^ g.length) 0) := by simp only [zs, List.map_replicate]; rfl
  rw [hz] at hb
  have hp2 := hp1.new hb
  have hfl : full g.length < 2 ^ g.length := full_lt _
  repeat (first | refine WC.seq ?_ | refine WC.reg ?_ | refine WL.pure rfl rfl rfl ?_ | refine WL.nil ?_ | refine WC.skip ?_ | refine WC.block ?_ | refine WC.condT rfl ?_ | refine WC.condF rfl ?_ | refine WL.off rfl rfl rfl ?_ | refine WL.off0 rfl rfl ?_ | refine WC.exit ?_ | refine blk_hit ?_ | refine blk_miss rfl ?_ | refine WC.ret ?_)
  refine WL.known (d := 7) (congrArg (fun z => some (Value.int .i64 z)) (fulli hn)) ?_
  refine WL.known (d := 21) (congrArg (fun z => some (Value.int .i64 z)) (fulli hn)) ?_
  refine WL.ix1 rfl rfl rfl rfl rfl rfl rfl hfl ?_
  refine WL.store rfl rfl rfl rfl rfl rfl (hp2.obj 0 rfl) (by simp [zs]; omega) (fun w3 hw3 => ?_)
  rw [Nat.zero_add, zs_set, wdRow_start] at hw3
  have hp3 := hp2.set 0 rfl rfl hw3
  have e24 : IntKind.i64.wrap (((full g.length : Nat) : Int) - 1) = ((full g.length : Nat) : Int) - 1 := by rw [IntKind.wrap_i64]; omega
  repeat (first | refine WC.seq ?_ | refine WC.reg ?_ | refine WL.pure rfl rfl rfl ?_ | refine WL.nil ?_ | refine WC.skip ?_ | refine WC.block ?_ | refine WC.condT rfl ?_ | refine WC.condF rfl ?_ | refine WL.off rfl rfl rfl ?_ | refine WL.off0 rfl rfl ?_ | refine WC.exit ?_ | refine blk_hit ?_ | refine blk_miss rfl ?_ | refine WC.ret ?_)
  refine WC.loop Int (fun G => [(0, .int .i64 (g.length : Nat)), (5, .slice (some ⟨bn, 0, none⟩) g.length g.length), (6, .slice (some ⟨b, 0, none⟩) (2 ^ g.length) (2 ^ g.length)), (8, .int .i64 G)])
    (fun G w' => -1 ≤ G ∧ G < full g.length ∧ Hp w w' [.blk b (.cells (zs (wdRow g (G + 1).toNat)).toArray 3 (0, 0)), .blk bn (.cells (ints g).toArray 3 (0, 0))]) (fun G => (G + 1).toNat) ((full g.length : Nat) - 1)
    ⟨rfl, rfl, rfl, congrArg (fun z => some (Value.int .i64 z)) e24, rfl⟩ ⟨by omega, by omega, by rw [show (((full g.length : Nat) : Int) - 1 + 1).toNat = full g.length by omega]; exact hp3⟩ ?_
  rintro G w4 ⟨hG1, hG2, hp4⟩
  repeat (first | refine WC.seq ?_ | refine WC.reg ?_ | refine WL.pure rfl rfl rfl ?_ | refine WL.nil ?_ | refine WC.skip ?_ | refine WC.block ?_ | refine WC.condT rfl ?_ | refine WC.condF rfl ?_ | refine WL.off rfl rfl rfl ?_ | refine WL.off0 rfl rfl ?_ | refine WC.exit ?_ | refine blk_hit ?_ | refine blk_miss rfl ?_ | refine WC.ret ?_)
  refine WC.cond rfl (fun hc => ?_) (fun hc => ?_)
  · have hG0 : 0 ≤ G := of_decide_eq_true hc
    obtain ⟨S, rfl⟩ := Int.eq_ofNat_of_zero_le hG0
    have hS : S < full g.length := by omega
    rw [show ((S : Int) + 1).toNat = S + 1 by omega] at hp4
    have hcl : bd (full g.length) S < 2 ^ g.length := bd_lt hfl
    have hcb : ∀ v, v < g.length → ((bd (full g.length) S).testBit v = !S.testBit v) := fun v hv => by rw [testBit_bd, full_testBit]; simp [hv]
    generalize hcc : bd (full g.length) S = c at *
    repeat (first | refine WC.seq ?_ | refine WC.reg ?_ | refine WL.pure rfl rfl rfl ?_ | refine WL.nil ?_ | refine WC.skip ?_ | refine WC.block ?_ | refine WC.condT rfl ?_ | refine WC.condF rfl ?_ | refine WL.off rfl rfl rfl ?_ | refine WL.off0 rfl rfl ?_ | refine WC.exit ?_ | refine blk_hit ?_ | refine blk_miss rfl ?_ | refine WC.ret ?_)
    refine WC.loop (Nat × Int) (fun (v, best) => [(0, .int .i64 (g.length : Nat)), (5, .slice (some ⟨bn, 0, none⟩) g.length g.length), (6, .slice (some ⟨b, 0, none⟩) (2 ^ g.length) (2 ^ g.length)), (8, .int .i64 (S : Nat)), (9, .int .i64 best), (10, .int .i64 (v : Nat))])
      (fun (v, best) w' => v ≤ g.length ∧ best = (elsTo c v).foldl (wdStep g S (wd g)) g.length ∧ Hp w w' [.blk b (.cells (zs (wdRow g (S + 1))).toArray 3 (0, 0)), .blk bn (.cells (ints g).toArray 3 (0, 0))]) (fun (v, _) => g.length - v) (0, (g.length : Nat))
      ⟨rfl, rfl, rfl, rfl, rfl, rfl, rfl⟩ ⟨Nat.zero_le _, rfl, hp4⟩ ?_
    rintro ⟨v, best⟩ w5 ⟨hv, hbest, hp5⟩
    repeat (first | refine WC.seq ?_ | refine WC.reg ?_ | refine WL.pure rfl rfl rfl ?_ | refine WL.nil ?_ | refine WC.skip ?_ | refine WC.block ?_ | refine WC.condT rfl ?_ | refine WC.condF rfl ?_ | refine WL.off rfl rfl rfl ?_ | refine WL.off0 rfl rfl ?_ | refine WC.exit ?_ | refine blk_hit ?_ | refine blk_miss rfl ?_ | refine WC.ret ?_)
    refine WC.cond rfl (fun hc2 => ?_) (fun hc2 => ?_)
    · have hv : v < g.length := by have := of_decide_eq_true hc2; omega
      have step : IntKind.i64.wrap ((v : Int) + 1) = ((v + 1 : Nat) : Int) := by rw [wrap_i64_in (by omega) (by omega)]; omega
      repeat (first | refine WC.seq ?_ | refine WC.reg ?_ | refine WL.pure rfl rfl rfl ?_ | refine WL.nil ?_ | refine WC.skip ?_ | refine WC.block ?_ | refine WC.condT rfl ?_ | refine WC.condF rfl ?_ | refine WL.off rfl rfl rfl ?_ | refine WL.off0 rfl rfl ?_ | refine WC.exit ?_ | refine blk_hit ?_ | refine blk_miss rfl ?_ | refine WC.ret ?_)
      refine WL.callP rfl rfl rfl rfl rfl ent51 (Has_any S v (by omega) _) ?_
      repeat (first | refine WC.seq ?_ | refine WC.reg ?_ | refine WL.pure rfl rfl rfl ?_ | refine WL.nil ?_ | refine WC.skip ?_ | refine WC.block ?_ | refine WC.condT rfl ?_ | refine WC.condF rfl ?_ | refine WL.off rfl rfl rfl ?_ | refine WL.off0 rfl rfl ?_ | refine WC.exit ?_ | refine blk_hit ?_ | refine blk_miss rfl ?_ | refine WC.ret ?_)
      refine WC.cond rfl (fun hb1 => ?_) (fun hb1 => ?_)
      · have hb1 : S.testBit v = false := by simpa using hb1
        have hor : S ||| 2 ^ v < 2 ^ g.length := or_pow_lt (by omega) hv
        have hpv := Nat.pow_lt_pow_right (a := 2) (by decide) hv
        have hgt : S + 1 ≤ S ||| 2 ^ v := by
          rcases Nat.lt_or_ge S (S ||| 2 ^ v) with h | h
          · exact h
          · have h1 : S ||| 2 ^ v = S := Nat.le_antisymm h Nat.left_le_or
            have h2 : (S ||| 2 ^ v).testBit v = true := by simp
            rw [h1, hb1] at h2; cases h2
        repeat (first | refine WC.seq ?_ | refine WC.reg ?_ | refine WL.pure rfl rfl rfl ?_ | refine WL.nil ?_ | refine WC.skip ?_ | refine WC.block ?_ | refine WC.condT rfl ?_ | refine WC.condF rfl ?_ | refine WL.off rfl rfl rfl ?_ | refine WL.off0 rfl rfl ?_ | refine WC.exit ?_ | refine blk_hit ?_ | refine blk_miss rfl ?_ | refine WC.ret ?_)
        refine WL.call rfl rfl rfl rfl rfl ent59 (rlater_any _ _ g S v w5 (Sl.of_obj (hp5.obj 1 rfl) (fun i u h => by simpa using h)) hg hv (by omega)) ?_
        rintro _ w6 ⟨rfl, hp6⟩
        have hp6 := hp5.call hp6.below
        repeat (first | refine WC.seq ?_ | refine WC.reg ?_ | refine WL.pure rfl rfl rfl ?_ | refine WL.nil ?_ | refine WC.skip ?_ | refine WC.block ?_ | refine WC.condT rfl ?_ | refine WC.condF rfl ?_ | refine WL.off rfl rfl rfl ?_ | refine WL.off0 rfl rfl ?_ | refine WC.exit ?_ | refine blk_hit ?_ | refine blk_miss rfl ?_ | refine WC.ret ?_)
        refine WL.callP rfl rfl rfl rfl rfl ent52 (bit_any v (by omega) _) ?_
        refine WL.pure rfl rfl rfl ?_
        refine WL.known (d := 48) (congrArg (fun z => some (Value.int .i64 z)) (or_i64 (a := S) (b := 2 ^ v) (by omega) (by omega))) ?_
        refine WL.ixload rfl (fun _ => rfl) rfl rfl rfl rfl rfl rfl rfl hor rfl rfl (Sl.of_obj (hp6.obj 0 rfl) (cs := zs (wdRow g (S + 1))) (fun i u h => by simpa using h)) (wdRow_at hor hgt) ?_
        intro p
        repeat (first | refine WC.seq ?_ | refine WC.reg ?_ | refine WL.pure rfl rfl rfl ?_ | refine WL.nil ?_ | refine WC.skip ?_ | refine WC.block ?_ | refine WC.condT rfl ?_ | refine WC.condF rfl ?_ | refine WL.off rfl rfl rfl ?_ | refine WL.off0 rfl rfl ?_ | refine WC.exit ?_ | refine blk_hit ?_ | refine blk_miss rfl ?_ | refine WC.ret ?_)
        refine ⟨(v + 1, wdStep g S (wd g) best v), by show g.length - (v + 1) < g.length - v; omega, ⟨rfl, rfl, rfl, rfl, rfl, congrArg (fun z => some (Value.int .i64 z)) step, rfl⟩, hv, ?_, hp6⟩
        rw [elsTo_succ, hcb v hv, hb1, List.foldl_append, ← hbest]
        rfl
      · have hb1 : S.testBit v = true := by simpa using hb1
        repeat (first | refine WC.seq ?_ | refine WC.reg ?_ | refine WL.pure rfl rfl rfl ?_ | refine WL.nil ?_ | refine WC.skip ?_ | refine WC.block ?_ | refine WC.condT rfl ?_ | refine WC.condF rfl ?_ | refine WL.off rfl rfl rfl ?_ | refine WL.off0 rfl rfl ?_ | refine WC.exit ?_ | refine blk_hit ?_ | refine blk_miss rfl ?_ | refine WC.ret ?_)
        refine ⟨(v + 1, best), by show g.length - (v + 1) < g.length - v; omega, ⟨rfl, rfl, rfl, rfl, rfl, congrArg (fun z => some (Value.int .i64 z)) step, rfl⟩, hv, ?_, hp5⟩
        rw [elsTo_succ, hcb v hv, hb1, hbest]
        simp
    · have hv : v = g.length := by have := of_decide_eq_false hc2; omega
      subst hv
      have hbest : best = wd g S := by rw [wd_eq hn (by omega), hcc, hbest, elsTo_all (by omega) hcl]
      subst hbest
      repeat (first | refine WC.seq ?_ | refine WC.reg ?_ | refine WL.pure rfl rfl rfl ?_ | refine WL.nil ?_ | refine WC.skip ?_ | refine WC.block ?_ | refine WC.condT rfl ?_ | refine WC.condF rfl ?_ | refine WL.off rfl rfl rfl ?_ | refine WL.off0 rfl rfl ?_ | refine WC.exit ?_ | refine blk_hit ?_ | refine blk_miss rfl ?_ | refine WC.ret ?_)
      refine WL.ix1 rfl rfl rfl rfl rfl rfl rfl (j := S) (by omega) ?_
      refine WL.store rfl rfl rfl rfl rfl rfl (hp5.obj 0 rfl) (by simp [zs, wdRow]; omega) (fun w6 hw6 => ?_)
      rw [Nat.zero_add, zs_set, wdRow_next (by omega)] at hw6
      have hp6 := hp5.set 0 rfl rfl hw6
      repeat (first | refine WC.seq ?_ | refine WC.reg ?_ | refine WL.pure rfl rfl rfl ?_ | refine WL.nil ?_ | refine WC.skip ?_ | refine WC.block ?_ | refine WC.condT rfl ?_ | refine WC.condF rfl ?_ | refine WL.off rfl rfl rfl ?_ | refine WL.off0 rfl rfl ?_ | refine WC.exit ?_ | refine blk_hit ?_ | refine blk_miss rfl ?_ | refine WC.ret ?_)
      refine ⟨(S : Int) - 1, by show ((S : Int) - 1 + 1).toNat < ((S : Int) + 1).toNat; omega, ⟨rfl, rfl, rfl, congrArg (fun z => some (Value.int .i64 z)) (show IntKind.i64.wrap ((S : Int) - 1) = (S : Int) - 1 by rw [IntKind.wrap_i64]; omega), rfl⟩, by omega, by omega, ?_⟩
      rw [show ((S : Int) - 1 + 1).toNat = S by omega]
      exact hp6
  · have hG0 : G = -1 := by have := of_decide_eq_false hc; omega
    subst hG0
    repeat (first | refine WC.seq ?_ | refine WC.reg ?_ | refine WL.pure rfl rfl rfl ?_ | refine WL.nil ?_ | refine WC.skip ?_ | refine WC.block ?_ | refine WC.condT rfl ?_ | refine WC.condF rfl ?_ | refine WL.off rfl rfl rfl ?_ | refine WL.off0 rfl rfl ?_ | refine WC.exit ?_ | refine blk_hit ?_ | refine blk_miss rfl ?_ | refine WC.ret ?_)
    exact Res.one rfl rfl rfl ⟨b, hp4.pick [0] (by decide), rfl⟩

theorem RBest_any (ea : Option Addr) (cap : Nat) (g : List Nat) (es : List Ed) (w : World) (hs : Sl w ea (prs es)) (hlen : es.length ≤ 4611686018427387904) (hmk : mkG (g.length : Nat) es = some g) :
    Ret Tryd.prog 30 [.int .i64 (g.length : Nat), .slice ea es.length cap] w fun v w' => ∃ a c, Hp w w' [.row 3 1 (.slice a g.length c) g.length (ints (bestO g))] ∧ v = .slice a g.length c := by
  obtain ⟨hg, _, _, _, _⟩ := mkG_gr hmk
  have hn := hg.len
  have hp14 : 2 ^ g.length ≤ 2 ^ 14 := Nat.pow_le_pow_right (by decide) hn
  have hpos := Nat.two_pow_pos g.length
  refine enter Tryd.func30 rfl rfl ⟨rfl, rfl⟩ rfl ?_
  repeat (first | refine WC.seq ?_ | refine WC.reg ?_ | refine WL.pure rfl rfl rfl ?_ | refine WL.nil ?_ | refine WC.skip ?_ | refine WC.block ?_ | refine WC.condT rfl ?_ | refine WC.condF rfl ?_ | refine WL.off rfl rfl rfl ?_ | refine WL.off0 rfl rfl ?_ | refine WC.exit ?_ | refine blk_hit ?_ | refine blk_miss rfl ?_ | refine WC.ret ?_)
  refine WL.call rfl rfl rfl rfl rfl ent50 (Neighbors_any ea cap g es w hs hlen hmk) ?_
  rintro _ w1 ⟨bn, hp1, rfl⟩
  repeat (first | refine WC.seq ?_ | refine WC.reg ?_ | refine WL.pure rfl rfl rfl ?_ | refine WL.nil ?_ | refine WC.skip ?_ | refine WC.block ?_ | refine WC.condT rfl ?_ | refine WC.condF rfl ?_ | refine WL.off rfl rfl rfl ?_ | refine WL.off0 rfl rfl ?_ | refine WC.exit ?_ | refine blk_hit ?_ | refine blk_miss rfl ?_ | refine WC.ret ?_)
  refine WL.call rfl rfl rfl rfl rfl ent58 (Widths_any ea cap g es w1 (hs.hp hp1) hlen hmk) ?_
  rintro _ w2 ⟨b, hp2, rfl⟩
  have hp2 := (hp1.comb hp2).nilrow 3 1
  have hat : ∀ (S : Nat), S < 2 ^ g.length → ∀ w' L, Hp w w' L → nth L 1 = some (.blk b (.cells (zs (wdRow g 0)).toArray 3 (0, 0))) → w'.cell? ⟨b, 0 + S, none⟩ = some (.int .i64 (wd g S)) := by
    intro S hS w' L hp h1
    refine cell_of_obj (hp.obj 1 h1) ?_
    have := wdRow_at (g := g) hS (Nat.zero_le S)
    simpa using this
  repeat (first | refine WC.seq ?_ | refine WC.reg ?_ | refine WL.pure rfl rfl rfl ?_ | refine WL.nil ?_ | refine WC.skip ?_ | refine WC.block ?_ | refine WC.condT rfl ?_ | refine WC.condF rfl ?_ | refine WL.off rfl rfl rfl ?_ | refine WL.off0 rfl rfl ?_ | refine WC.exit ?_ | refine blk_hit ?_ | refine blk_miss rfl ?_ | refine WC.ret ?_)
  refine WC.loop (Nat × List Nat × Option Addr × Nat) (fun (S, ord, a, c) => [(0, .int .i64 (g.length : Nat)), (5, .slice (some ⟨bn, 0, none⟩) g.length g.length), (6, .slice (some ⟨b, 0, none⟩) (2 ^ g.length) (2 ^ g.length)), (7, .slice a ord.length c), (8, .int .i64 (S : Nat))])
    (fun (S, ord, a, c) w' => S < 2 ^ g.length ∧ ord.length = card S ∧ wd g S ≤ wd g 0 ∧ ord ++ bestF g (g.length - ord.length) S = bestO g ∧
      Hp w w' [.row 3 1 (.slice a ord.length c) ord.length (ints ord), .blk b (.cells (zs (wdRow g 0)).toArray 3 (0, 0)), .blk bn (.cells (ints g).toArray 3 (0, 0))]) (fun (S, ord, a, c) => g.length - ord.length) (0, [], none, 0)
    ⟨rfl, rfl, rfl, rfl, rfl, rfl⟩ ⟨hpos, by rw [card_zero]; rfl, Int.le_refl _, rfl, hp2⟩ ?_
  rintro ⟨S, ord, a, c⟩ w2 ⟨hS, hcard, hwS, hord, hp⟩
  repeat (first | refine WC.seq ?_ | refine WC.reg ?_ | refine WL.pure rfl rfl rfl ?_ | refine WL.nil ?_ | refine WC.skip ?_ | refine WC.block ?_ | refine WC.condT rfl ?_ | refine WC.condF rfl ?_ | refine WL.off rfl rfl rfl ?_ | refine WL.off0 rfl rfl ?_ | refine WC.exit ?_ | refine blk_hit ?_ | refine blk_miss rfl ?_ | refine WC.ret ?_)
  refine WC.cond rfl (fun hc => ?_) (fun hc => ?_)
  · have hlt : ord.length < g.length := by have := of_decide_eq_true hc; omega
    have hne : S ≠ full g.length := by
      intro e
      have := card_full (n := g.length) (by omega)
      rw [e] at hcard
      unfold full at hcard
      omega
    obtain ⟨v0, hv0, h01, h02, h03⟩ := exists_best hg hS hne hwS
    have hf0 : fine g S v0 = true := fine_iff.2 ⟨h01, h02, h03⟩
    repeat (first | refine WC.seq ?_ | refine WC.reg ?_ | refine WL.pure rfl rfl rfl ?_ | refine WL.nil ?_ | refine WC.skip ?_ | refine WC.block ?_ | refine WC.condT rfl ?_ | refine WC.condF rfl ?_ | refine WL.off rfl rfl rfl ?_ | refine WL.off0 rfl rfl ?_ | refine WC.exit ?_ | refine blk_hit ?_ | refine blk_miss rfl ?_ | refine WC.ret ?_)
    refine WC.loop Nat (fun v => [(0, .int .i64 (g.length : Nat)), (5, .slice (some ⟨bn, 0, none⟩) g.length g.length), (6, .slice (some ⟨b, 0, none⟩) (2 ^ g.length) (2 ^ g.length)), (7, .slice a ord.length c), (8, .int .i64 (S : Nat)), (9, .int .i64 (v : Nat))])
      (fun v w' => v ≤ v0 ∧ (∀ u, u < v → fine g S u = false) ∧ Hp w w' [.row 3 1 (.slice a ord.length c) ord.length (ints ord), .blk b (.cells (zs (wdRow g 0)).toArray 3 (0, 0)), .blk bn (.cells (ints g).toArray 3 (0, 0))]) (fun v => v0 - v) 0
      ⟨rfl, rfl, rfl, rfl, rfl, rfl, rfl⟩ ⟨Nat.zero_le _, (fun u hu => by omega), hp⟩ ?_
    rintro v w3 ⟨hvv, hno, hp3⟩
    have hv : v < g.length := by omega
    have hor : S ||| 2 ^ v < 2 ^ g.length := or_pow_lt hS hv
    have hpv : 2 ^ v < 16384 := lt_pow16 hn (Nat.pow_lt_pow_right (by decide) hv)
    have e3 : bits .or .i64 (S : Int) ((2 ^ v : Nat) : Int) = ((S ||| 2 ^ v : Nat) : Int) := or_i64 (by omega) (by omega)
    have step : IntKind.i64.wrap ((v : Int) + 1) = ((v + 1 : Nat) : Int) := by rw [wrap_i64_in (by omega) (by omega)]; omega
    have no : fine g S v = false → v + 1 ≤ v0 ∧ ∀ u, u < v + 1 → fine g S u = false := fun h => by
      refine ⟨?_, fun u hu => ?_⟩
      · have : v ≠ v0 := fun e => by rw [e, hf0] at h; cases h
        omega
      · rcases Nat.lt_or_ge u v with h1 | h1
        · exact hno u h1
        · rw [show u = v by omega]; exact h
    repeat (first | refine WC.seq ?_ | refine WC.reg ?_ | refine WL.pure rfl rfl rfl ?_ | refine WL.nil ?_ | refine WC.skip ?_ | refine WC.block ?_ | refine WC.condT rfl ?_ | refine WC.condF rfl ?_ | refine WL.off rfl rfl rfl ?_ | refine WL.off0 rfl rfl ?_ | refine WC.exit ?_ | refine blk_hit ?_ | refine blk_miss rfl ?_ | refine WC.ret ?_)
    refine WC.regQ (fun w4 => Hp w w4 [.row 3 1 (.slice a ord.length c) ord.length (ints ord), .blk b (.cells (zs (wdRow g 0)).toArray 3 (0, 0)), .blk bn (.cells (ints g).toArray 3 (0, 0))]) mixed (by kernel_rfl) (fun w4 hw4 => hp3.keep hw4) ?_
    repeat (first | refine WQ.pure rfl rfl rfl ?_ | refine WQ.off rfl rfl rfl ?_ | refine WQ.nil ?_)
    refine WQ.call rfl rfl rfl rfl rfl ent51 (fun w4 h4 => (Has_any S v (by omega) w4).mono fun u w5 ⟨h5, h6⟩ => ⟨h5, by rw [h6]; exact h4⟩) ?_
    refine WQ.pure rfl rfl rfl ?_
    refine WQ.split 23 rfl (fun hb => ?_) (fun hb => ?_)
    · repeat (first | refine WQ.pure rfl rfl rfl ?_ | refine WQ.off rfl rfl rfl ?_ | refine WQ.nil ?_)
      intro w4 hp4
      repeat (first | refine WC.seq ?_ | refine WC.reg ?_ | refine WL.pure rfl rfl rfl ?_ | refine WL.nil ?_ | refine WC.skip ?_ | refine WC.block ?_ | refine WC.condT rfl ?_ | refine WC.condF rfl ?_ | refine WL.off rfl rfl rfl ?_ | refine WL.off0 rfl rfl ?_ | refine WC.exit ?_ | refine blk_hit ?_ | refine blk_miss rfl ?_ | refine WC.ret ?_)
      obtain ⟨n1, n2⟩ := no (by simp [fine, hb])
      exact ⟨v + 1, by show v0 - (v + 1) < v0 - v; omega, ⟨rfl, rfl, rfl, rfl, rfl, congrArg (fun z => some (Value.int .i64 z)) step, rfl⟩, n1, n2, hp4⟩
    repeat (first | refine WQ.pure rfl rfl rfl ?_ | refine WQ.off rfl rfl rfl ?_ | refine WQ.nil ?_)
    refine WQ.call rfl rfl rfl rfl rfl ent59 (fun w4 h4 => (rlater_any _ _ g S v w4 (Sl.of_obj (h4.obj 2 rfl) (fun i u h => by simpa using h)) hg hv (by omega)).mono fun u w5 ⟨h5, h6⟩ => ⟨h5, h4.call h6.below⟩) ?_
    repeat (first | refine WQ.pure rfl rfl rfl ?_ | refine WQ.off rfl rfl rfl ?_ | refine WQ.nil ?_)
    refine WQ.call rfl rfl rfl rfl rfl ent52 (fun w4 h4 => (bit_any v (by omega) w4).mono fun u w5 ⟨h5, h6⟩ => ⟨h5, by rw [h6]; exact h4⟩) ?_
    refine WQ.pure rfl rfl rfl ?_
    refine WQ.known (d := 32) (congrArg (fun z => some (Value.int .i64 z)) e3) ?_
    refine WQ.ixload rfl (fun _ => rfl) rfl rfl rfl rfl rfl rfl rfl hor rfl rfl (fun w4 h4 => hat _ hor w4 _ h4 rfl) ?_
    repeat (first | refine WQ.pure rfl rfl rfl ?_ | refine WQ.off rfl rfl rfl ?_ | refine WQ.nil ?_)
    refine WQ.ixload (j := 0) rfl (fun _ => rfl) rfl rfl rfl rfl rfl rfl rfl hpos rfl rfl (fun w4 h4 => hat 0 hpos w4 _ h4 rfl) ?_
    repeat (first | refine WQ.pure rfl rfl rfl ?_ | refine WQ.off rfl rfl rfl ?_ | refine WQ.nil ?_)
    intro w4 hp4
    repeat (first | refine WC.seq ?_ | refine WC.reg ?_ | refine WL.pure rfl rfl rfl ?_ | refine WL.nil ?_ | refine WC.skip ?_ | refine WC.block ?_ | refine WC.condT rfl ?_ | refine WC.condF rfl ?_ | refine WL.off rfl rfl rfl ?_ | refine WL.off0 rfl rfl ?_ | refine WC.exit ?_ | refine blk_hit ?_ | refine blk_miss rfl ?_ | refine WC.ret ?_)
    refine WC.cond rfl (fun hb2 => ?_) (fun hb2 => ?_)
    · have hb2 : wd g 0 < max (pc (lat g S v) : Int) (wd g (S ||| 2 ^ v)) := of_decide_eq_true hb2
      repeat (first | refine WC.seq ?_ | refine WC.reg ?_ | refine WL.pure rfl rfl rfl ?_ | refine WL.nil ?_ | refine WC.skip ?_ | refine WC.block ?_ | refine WC.condT rfl ?_ | refine WC.condF rfl ?_ | refine WL.off rfl rfl rfl ?_ | refine WL.off0 rfl rfl ?_ | refine WC.exit ?_ | refine blk_hit ?_ | refine blk_miss rfl ?_ | refine WC.ret ?_)
      obtain ⟨n1, n2⟩ := no (by
        cases hf : fine g S v with
        | false => rfl
        | true => obtain ⟨_, h1, h2⟩ := fine_iff.1 hf; omega)
      exact ⟨v + 1, by show v0 - (v + 1) < v0 - v; omega, ⟨rfl, rfl, rfl, rfl, rfl, congrArg (fun z => some (Value.int .i64 z)) step, rfl⟩, n1, n2, hp4⟩
    · have hb2 : ¬ wd g 0 < max (pc (lat g S v) : Int) (wd g (S ||| 2 ^ v)) := of_decide_eq_false hb2
      have hf : fine g S v = true := fine_iff.2 ⟨hb, by omega, by omega⟩
      repeat (first | refine WC.seq ?_ | refine WC.reg ?_ | refine WL.pure rfl rfl rfl ?_ | refine WL.nil ?_ | refine WC.skip ?_ | refine WC.block ?_ | refine WC.condT rfl ?_ | refine WC.condF rfl ?_ | refine WL.off rfl rfl rfl ?_ | refine WL.off0 rfl rfl ?_ | refine WC.exit ?_ | refine blk_hit ?_ | refine blk_miss rfl ?_ | refine WC.ret ?_)
      refine WL.buildS (cs := [.int .i64 v]) rfl rfl rfl rfl rfl rfl rfl rfl rfl ?_
      intro b2 w5 hb2'
      have hp5 := hp4.new hb2'
      refine WL.append 1 hp5 rfl rfl rfl rfl rfl Nat.zero_lt_one rfl rfl rfl (news := [.int .i64 v]) ?_ rfl ?_ ?_ ?_ ?_
      · exact Sl.of_obj (hp5.obj 0 rfl) (fun q u hq => by simpa using hq)
      · exact Cells.cons rfl Cells.nil
      · unfold maxLen; omega
      · show (ord.length + 1) * 8 ≤ _; omega
      intro a' cap' w6 hp6 hg6
      repeat (first | refine WC.seq ?_ | refine WC.reg ?_ | refine WL.pure rfl rfl rfl ?_ | refine WL.nil ?_ | refine WC.skip ?_ | refine WC.block ?_ | refine WC.condT rfl ?_ | refine WC.condF rfl ?_ | refine WL.off rfl rfl rfl ?_ | refine WL.off0 rfl rfl ?_ | refine WC.exit ?_ | refine blk_hit ?_ | refine blk_miss rfl ?_ | refine WC.ret ?_)
      refine WL.callP rfl rfl rfl rfl rfl ent52 (bit_any v (by omega) _) ?_
      repeat (first | refine WC.seq ?_ | refine WC.reg ?_ | refine WL.pure rfl rfl rfl ?_ | refine WL.nil ?_ | refine WC.skip ?_ | refine WC.block ?_ | refine WC.condT rfl ?_ | refine WC.condF rfl ?_ | refine WL.off rfl rfl rfl ?_ | refine WL.off0 rfl rfl ?_ | refine WC.exit ?_ | refine blk_hit ?_ | refine blk_miss rfl ?_ | refine WC.ret ?_)
      have hF := find_at hv hf hno
      refine ⟨(S ||| 2 ^ v, ord ++ [v], a', cap'), ?_, ⟨rfl, rfl, rfl, ?_, congrArg (fun z => some (Value.int .i64 z)) e3, rfl⟩, hor, ?_, (fine_iff.1 hf).2.2, ?_, ?_⟩
      · show g.length - (ord ++ [v]).length < g.length - ord.length
        rw [List.length_append, List.length_singleton]; omega
      · rw [List.length_append, List.length_singleton]; rfl
      · rw [List.length_append, List.length_singleton, hcard, card_add hn hS hv hb]
      · rw [List.length_append, List.length_singleton, ← hord, List.append_assoc]
        congr 1
        rw [show g.length - ord.length = (g.length - (ord.length + 1)) + 1 by omega, bestF, hF]
        rfl
      · have := hp6.tail
        rw [List.length_append, List.length_singleton, show ints (ord ++ [v]) = ints ord ++ ints [v] by simp [ints]]
        exact this
  · have hle := card_le (s := S) (n := g.length) (by omega) hS
    have hlen' : ord.length = g.length := by have := of_decide_eq_false hc; omega
    have hO : ord = bestO g := by
      rw [hlen', Nat.sub_self] at hord
      simpa [bestF] using hord
    repeat (first | refine WC.seq ?_ | refine WC.reg ?_ | refine WL.pure rfl rfl rfl ?_ | refine WL.nil ?_ | refine WC.skip ?_ | refine WC.block ?_ | refine WC.condT rfl ?_ | refine WC.condF rfl ?_ | refine WL.off rfl rfl rfl ?_ | refine WL.off0 rfl rfl ?_ | refine WC.exit ?_ | refine blk_hit ?_ | refine blk_miss rfl ?_ | refine WC.ret ?_)
    refine Res.one rfl rfl rfl ⟨a, c, ?_, ?_⟩
    · rw [← hO, ← hlen']; exact hp.pick [0] (by decide)
    · rw [hlen']
end Go.Proofs.YtdnkkflpgebfbaaDoor

/- The walk of the reference's order. -/
namespace Go.Proofs.YtdnkkflpgebfbaaDoor
open Go.W Go.Tree
set_option maxRecDepth 100000
attribute [local irreducible] WC WL WQ WS WH

def rordV (g : List Nat) (o : List Int) : Value := if o.length ≠ g.length then .tuple #[.int .i64 0, .bool false] else match ordL g o 0 (-1) with
  | none => .tuple #[.int .i64 0, .bool false]
  | some k => .tuple #[.int .i64 k, .bool true]

theorem ROrder_any (ea oa : Option Addr) (cap oc : Nat) (g : List Nat) (es : List Ed) (o : List Int) (w : World) (hs : Sl w ea (prs es)) (hlen : es.length ≤ 4611686018427387904) (ho : Sl w oa (zs o)) (hmk : mkG (g.length : Nat) es = some g) :
    Ret Tryd.prog 32 [.int .i64 (g.length : Nat), .slice ea es.length cap, .slice oa o.length oc] w fun v w' => Hp w w' [] ∧ v = rordV g o := by
  obtain ⟨hg, _, _, _, _⟩ := mkG_gr hmk
  have hn := hg.len
  have hp14 : 2 ^ g.length ≤ 2 ^ 14 := Nat.pow_le_pow_right (by decide) hn
  refine enter Tryd.func32 rfl rfl ⟨rfl, rfl⟩ rfl ?_
  repeat (first | refine WC.seq ?_ | refine WC.reg ?_ | refine WL.pure rfl rfl rfl ?_ | refine WL.nil ?_ | refine WC.skip ?_ | refine WC.block ?_ | refine WC.condT rfl ?_ | refine WC.condF rfl ?_ | refine WL.off rfl rfl rfl ?_ | refine WL.off0 rfl rfl ?_ | refine WC.exit ?_ | refine blk_hit ?_ | refine blk_miss rfl ?_ | refine WC.ret ?_)
  refine WC.cond rfl (fun h0 => ?_) (fun h0 => ?_)
  · have h0 : o.length ≠ g.length := by intro h; rw [h] at h0; simp at h0
    repeat (first | refine WC.seq ?_ | refine WC.reg ?_ | refine WL.pure rfl rfl rfl ?_ | refine WL.nil ?_ | refine WC.skip ?_ | refine WC.block ?_ | refine WC.condT rfl ?_ | refine WC.condF rfl ?_ | refine WL.off rfl rfl rfl ?_ | refine WL.off0 rfl rfl ?_ | refine WC.exit ?_ | refine blk_hit ?_ | refine blk_miss rfl ?_ | refine WC.ret ?_)
    exact Res.two rfl rfl rfl rfl ⟨Hp.start w, by rw [rordV, if_pos h0]⟩
  have h0 : o.length = g.length := by simp at h0; omega
  have hval : rordV g o = match ordL g o 0 (-1) with
      | none => .tuple #[.int .i64 0, .bool false]
      | some k => .tuple #[.int .i64 k, .bool true] := by rw [rordV, if_neg (fun h => h h0)]
  have hbadv : vl g.length o 0 = false → rordV g o = .tuple #[.int .i64 0, .bool false] := by
    intro h
    rw [hval]
    have := ordL_some (g := g) o 0 (-1)
    rw [h] at this
    cases hx : ordL g o 0 (-1) with
    | none => rfl
    | some k => rw [hx] at this; cases this
  repeat (first | refine WC.seq ?_ | refine WC.reg ?_ | refine WL.pure rfl rfl rfl ?_ | refine WL.nil ?_ | refine WC.skip ?_ | refine WC.block ?_ | refine WC.condT rfl ?_ | refine WC.condF rfl ?_ | refine WL.off rfl rfl rfl ?_ | refine WL.off0 rfl rfl ?_ | refine WC.exit ?_ | refine blk_hit ?_ | refine blk_miss rfl ?_ | refine WC.ret ?_)
  refine WC.loop (Nat × Nat) (fun (i, S) => [(0, .int .i64 (g.length : Nat)), (1, .slice ea es.length cap), (2, .slice oa o.length oc), (8, .int .i64 (S : Nat)), (9, .int .i64 (i : Nat))])
    (fun (i, S) w' => w' = w ∧ i ≤ g.length ∧ S < 2 ^ g.length ∧ vl g.length o 0 = vl g.length (o.drop i) S) (fun (i, _) => g.length - i) (0, 0) ⟨rfl, rfl, rfl, rfl, rfl, rfl⟩ ⟨rfl, Nat.zero_le _, Nat.two_pow_pos _, rfl⟩ ?_
  rintro ⟨i, S⟩ w1 ⟨rfl, hi, hS, hvl⟩
  repeat (first | refine WC.seq ?_ | refine WC.reg ?_ | refine WL.pure rfl rfl rfl ?_ | refine WL.nil ?_ | refine WC.skip ?_ | refine WC.block ?_ | refine WC.condT rfl ?_ | refine WC.condF rfl ?_ | refine WL.off rfl rfl rfl ?_ | refine WL.off0 rfl rfl ?_ | refine WC.exit ?_ | refine blk_hit ?_ | refine blk_miss rfl ?_ | refine WC.ret ?_)
  refine WC.cond rfl (fun hc => ?_) (fun hc => ?_)
  · have hi : i < g.length := by have := of_decide_eq_true hc; omega
    have hio : i < o.length := by omega
    have step : IntKind.i64.wrap ((i : Int) + 1) = ((i + 1 : Nat) : Int) := by rw [wrap_i64_in (by omega) (by omega)]; omega
    have hdrop : o.drop i = o.getD i 0 :: o.drop (i + 1) := by rw [List.drop_eq_getElem_cons hio]; simp [hio]
    have hget := zs_get hio
    rw [hdrop, vl] at hvl
    generalize o.getD i 0 = v at *
    have bad : (v < 0 ∨ (g.length : Int) ≤ v ∨ S.testBit v.toNat = true) → rordV g o = .tuple #[.int .i64 0, .bool false] := fun h => by
      rw [if_pos h] at hvl; exact hbadv hvl
    repeat (first | refine WC.seq ?_ | refine WC.reg ?_ | refine WL.pure rfl rfl rfl ?_ | refine WL.nil ?_ | refine WC.skip ?_ | refine WC.block ?_ | refine WC.condT rfl ?_ | refine WC.condF rfl ?_ | refine WL.off rfl rfl rfl ?_ | refine WL.off0 rfl rfl ?_ | refine WC.exit ?_ | refine blk_hit ?_ | refine blk_miss rfl ?_ | refine WC.ret ?_)
    refine WL.ixload rfl (fun _ => rfl) rfl rfl rfl rfl rfl rfl rfl hio rfl rfl ho hget ?_
    intro p
    repeat (first | refine WC.seq ?_ | refine WC.reg ?_ | refine WL.pure rfl rfl rfl ?_ | refine WL.nil ?_ | refine WC.skip ?_ | refine WC.block ?_ | refine WC.condT rfl ?_ | refine WC.condF rfl ?_ | refine WL.off rfl rfl rfl ?_ | refine WL.off0 rfl rfl ?_ | refine WC.exit ?_ | refine blk_hit ?_ | refine blk_miss rfl ?_ | refine WC.ret ?_)
    refine WL.split 27 rfl (fun q1 => ?_) (fun q1 => ?_)
    · repeat (first | refine WC.seq ?_ | refine WC.reg ?_ | refine WL.pure rfl rfl rfl ?_ | refine WL.nil ?_ | refine WC.skip ?_ | refine WC.block ?_ | refine WC.condT rfl ?_ | refine WC.condF rfl ?_ | refine WL.off rfl rfl rfl ?_ | refine WL.off0 rfl rfl ?_ | refine WC.exit ?_ | refine blk_hit ?_ | refine blk_miss rfl ?_ | refine WC.ret ?_)
      exact Res.two rfl rfl rfl rfl ⟨Hp.start _, (bad (.inl (of_decide_eq_true q1))).symm⟩
    have q1 : ¬ v < 0 := of_decide_eq_false q1
    repeat (first | refine WC.seq ?_ | refine WC.reg ?_ | refine WL.pure rfl rfl rfl ?_ | refine WL.nil ?_ | refine WC.skip ?_ | refine WC.block ?_ | refine WC.condT rfl ?_ | refine WC.condF rfl ?_ | refine WL.off rfl rfl rfl ?_ | refine WL.off0 rfl rfl ?_ | refine WC.exit ?_ | refine blk_hit ?_ | refine blk_miss rfl ?_ | refine WC.ret ?_)
    refine WL.ixload rfl (fun _ => rfl) rfl rfl rfl rfl rfl rfl rfl hio rfl rfl ho hget ?_
    intro p2
    repeat (first | refine WC.seq ?_ | refine WC.reg ?_ | refine WL.pure rfl rfl rfl ?_ | refine WL.nil ?_ | refine WC.skip ?_ | refine WC.block ?_ | refine WC.condT rfl ?_ | refine WC.condF rfl ?_ | refine WL.off rfl rfl rfl ?_ | refine WL.off0 rfl rfl ?_ | refine WC.exit ?_ | refine blk_hit ?_ | refine blk_miss rfl ?_ | refine WC.ret ?_)
    refine WL.split 35 rfl (fun q2 => ?_) (fun q2 => ?_)
    · repeat (first | refine WC.seq ?_ | refine WC.reg ?_ | refine WL.pure rfl rfl rfl ?_ | refine WL.nil ?_ | refine WC.skip ?_ | refine WC.block ?_ | refine WC.condT rfl ?_ | refine WC.condF rfl ?_ | refine WL.off rfl rfl rfl ?_ | refine WL.off0 rfl rfl ?_ | refine WC.exit ?_ | refine blk_hit ?_ | refine blk_miss rfl ?_ | refine WC.ret ?_)
      exact Res.two rfl rfl rfl rfl ⟨Hp.start _, (bad (.inr (.inl (of_decide_eq_true q2)))).symm⟩
    have q2 : ¬ (g.length : Int) ≤ v := of_decide_eq_false q2
    obtain ⟨v, rfl⟩ := Int.eq_ofNat_of_zero_le (show 0 ≤ v by omega)
    have hv : v < g.length := by omega
    simp only [Int.toNat_natCast] at bad hvl
    repeat (first | refine WC.seq ?_ | refine WC.reg ?_ | refine WL.pure rfl rfl rfl ?_ | refine WL.nil ?_ | refine WC.skip ?_ | refine WC.block ?_ | refine WC.condT rfl ?_ | refine WC.condF rfl ?_ | refine WL.off rfl rfl rfl ?_ | refine WL.off0 rfl rfl ?_ | refine WC.exit ?_ | refine blk_hit ?_ | refine blk_miss rfl ?_ | refine WC.ret ?_)
    refine WL.ixload rfl (fun _ => rfl) rfl rfl rfl rfl rfl rfl rfl hio rfl rfl ho hget ?_
    intro p3
    refine WL.callP rfl rfl rfl rfl rfl ent51 (Has_any S v (by omega) _) ?_
    repeat (first | refine WC.seq ?_ | refine WC.reg ?_ | refine WL.pure rfl rfl rfl ?_ | refine WL.nil ?_ | refine WC.skip ?_ | refine WC.block ?_ | refine WC.condT rfl ?_ | refine WC.condF rfl ?_ | refine WL.off rfl rfl rfl ?_ | refine WL.off0 rfl rfl ?_ | refine WC.exit ?_ | refine blk_hit ?_ | refine blk_miss rfl ?_ | refine WC.ret ?_)
    refine WC.cond rfl (fun q3 => ?_) (fun q3 => ?_)
    · repeat (first | refine WC.seq ?_ | refine WC.reg ?_ | refine WL.pure rfl rfl rfl ?_ | refine WL.nil ?_ | refine WC.skip ?_ | refine WC.block ?_ | refine WC.condT rfl ?_ | refine WC.condF rfl ?_ | refine WL.off rfl rfl rfl ?_ | refine WL.off0 rfl rfl ?_ | refine WC.exit ?_ | refine blk_hit ?_ | refine blk_miss rfl ?_ | refine WC.ret ?_)
      exact Res.two rfl rfl rfl rfl ⟨Hp.start _, (bad (.inr (.inr q3))).symm⟩
    rw [if_neg (fun h => h.elim q1 (fun h => h.elim q2 (fun h => by rw [q3] at h; cases h)))] at hvl
    repeat (first | refine WC.seq ?_ | refine WC.reg ?_ | refine WL.pure rfl rfl rfl ?_ | refine WL.nil ?_ | refine WC.skip ?_ | refine WC.block ?_ | refine WC.condT rfl ?_ | refine WC.condF rfl ?_ | refine WL.off rfl rfl rfl ?_ | refine WL.off0 rfl rfl ?_ | refine WC.exit ?_ | refine blk_hit ?_ | refine blk_miss rfl ?_ | refine WC.ret ?_)
    refine WL.ixload rfl (fun _ => rfl) rfl rfl rfl rfl rfl rfl rfl hio rfl rfl ho hget ?_
    intro p4
    refine WL.callP rfl rfl rfl rfl rfl ent52 (bit_any v (by omega) _) ?_
    repeat (first | refine WC.seq ?_ | refine WC.reg ?_ | refine WL.pure rfl rfl rfl ?_ | refine WL.nil ?_ | refine WC.skip ?_ | refine WC.block ?_ | refine WC.condT rfl ?_ | refine WC.condF rfl ?_ | refine WL.off rfl rfl rfl ?_ | refine WL.off0 rfl rfl ?_ | refine WC.exit ?_ | refine blk_hit ?_ | refine blk_miss rfl ?_ | refine WC.ret ?_)
    have hpv := Nat.pow_lt_pow_right (a := 2) (by decide) hv
    exact ⟨(i + 1, S ||| 2 ^ v), by show g.length - (i + 1) < g.length - i; omega, ⟨rfl, rfl, rfl, congrArg (fun z => some (Value.int .i64 z)) (or_i64 (a := S) (b := 2 ^ v) (by omega) (by omega)), congrArg (fun z => some (Value.int .i64 z)) step, rfl⟩, rfl, hi, or_pow_lt hS hv, hvl⟩
  · have hi : i = g.length := by have := of_decide_eq_false hc; omega
    rw [List.drop_eq_nil_of_le (by omega), vl] at hvl
    obtain ⟨K, hK⟩ : ∃ K, ordL g o 0 (-1) = some K := by
      have := ordL_some (g := g) o 0 (-1)
      rw [hvl] at this
      exact Option.isSome_iff_exists.1 this
    rw [hK] at hval
    clear hbadv hvl hS
    repeat (first | refine WC.seq ?_ | refine WC.reg ?_ | refine WL.pure rfl rfl rfl ?_ | refine WL.nil ?_ | refine WC.skip ?_ | refine WC.block ?_ | refine WC.condT rfl ?_ | refine WC.condF rfl ?_ | refine WL.off rfl rfl rfl ?_ | refine WL.off0 rfl rfl ?_ | refine WC.exit ?_ | refine blk_hit ?_ | refine blk_miss rfl ?_ | refine WC.ret ?_)
    refine WL.call rfl rfl rfl rfl rfl ent50 (Neighbors_any ea cap g es w1 hs hlen hmk) ?_
    rintro _ w2 ⟨bn, hp2, rfl⟩
    repeat (first | refine WC.seq ?_ | refine WC.reg ?_ | refine WL.pure rfl rfl rfl ?_ | refine WL.nil ?_ | refine WC.skip ?_ | refine WC.block ?_ | refine WC.condT rfl ?_ | refine WC.condF rfl ?_ | refine WL.off rfl rfl rfl ?_ | refine WL.off0 rfl rfl ?_ | refine WC.exit ?_ | refine blk_hit ?_ | refine blk_miss rfl ?_ | refine WC.ret ?_)
    refine WC.loop (Nat × Nat × Int) (fun (i, S, k) => [(0, .int .i64 (g.length : Nat)), (2, .slice oa o.length oc), (8, .int .i64 (S : Nat)), (10, .slice (some ⟨bn, 0, none⟩) g.length g.length), (11, .int .i64 k), (12, .int .i64 (i : Nat))])
      (fun (i, S, k) w' => i ≤ g.length ∧ S < 2 ^ g.length ∧ ordL g (o.drop i) S k = some K ∧ Hp w1 w' [.blk bn (.cells (ints g).toArray 3 (0, 0))]) (fun (i, _) => g.length - i) (0, 0, -1) ⟨rfl, rfl, rfl, rfl, rfl, rfl, rfl⟩ ⟨Nat.zero_le _, Nat.two_pow_pos _, hK, hp2⟩ ?_
    rintro ⟨i, S, k⟩ w3 ⟨hi, hS, hr, hp3⟩
    repeat (first | refine WC.seq ?_ | refine WC.reg ?_ | refine WL.pure rfl rfl rfl ?_ | refine WL.nil ?_ | refine WC.skip ?_ | refine WC.block ?_ | refine WC.condT rfl ?_ | refine WC.condF rfl ?_ | refine WL.off rfl rfl rfl ?_ | refine WL.off0 rfl rfl ?_ | refine WC.exit ?_ | refine blk_hit ?_ | refine blk_miss rfl ?_ | refine WC.ret ?_)
    refine WC.cond rfl (fun hc => ?_) (fun hc => ?_)
    · have hi : i < g.length := by have := of_decide_eq_true hc; omega
      have hio : i < o.length := by omega
      have step : IntKind.i64.wrap ((i : Int) + 1) = ((i + 1 : Nat) : Int) := by rw [wrap_i64_in (by omega) (by omega)]; omega
      have hdrop : o.drop i = o.getD i 0 :: o.drop (i + 1) := by rw [List.drop_eq_getElem_cons hio]; simp [hio]
      have hget := zs_get hio
      rw [hdrop, ordL] at hr
      generalize o.getD i 0 = v at *
      split at hr
      · cases hr
      rename_i hv3
      simp only [not_or] at hv3
      obtain ⟨q1, q2, q3⟩ := hv3
      obtain ⟨v, rfl⟩ := Int.eq_ofNat_of_zero_le (show 0 ≤ v by omega)
      have hv : v < g.length := by omega
      have hpv := Nat.pow_lt_pow_right (a := 2) (by decide) hv
      simp only [Int.toNat_natCast] at hr
      repeat (first | refine WC.seq ?_ | refine WC.reg ?_ | refine WL.pure rfl rfl rfl ?_ | refine WL.nil ?_ | refine WC.skip ?_ | refine WC.block ?_ | refine WC.condT rfl ?_ | refine WC.condF rfl ?_ | refine WL.off rfl rfl rfl ?_ | refine WL.off0 rfl rfl ?_ | refine WC.exit ?_ | refine blk_hit ?_ | refine blk_miss rfl ?_ | refine WC.ret ?_)
      refine WL.ixload rfl (fun _ => rfl) rfl rfl rfl rfl rfl rfl rfl hio rfl rfl (ho.hp hp3) hget ?_
      intro p
      refine WL.call rfl rfl rfl rfl rfl ent59 (rlater_any _ _ g S v w3 (Sl.of_obj (hp3.obj 0 rfl) (fun i u h => by simpa using h)) hg hv (by omega)) ?_
      rintro _ w4 ⟨rfl, hp4⟩
      have hp4 := hp3.call hp4.below
      repeat (first | refine WC.seq ?_ | refine WC.reg ?_ | refine WL.pure rfl rfl rfl ?_ | refine WL.nil ?_ | refine WC.skip ?_ | refine WC.block ?_ | refine WC.condT rfl ?_ | refine WC.condF rfl ?_ | refine WL.off rfl rfl rfl ?_ | refine WL.off0 rfl rfl ?_ | refine WC.exit ?_ | refine blk_hit ?_ | refine blk_miss rfl ?_ | refine WC.ret ?_)
      refine WL.ixload rfl (fun _ => rfl) rfl rfl rfl rfl rfl rfl rfl hio rfl rfl (ho.hp hp4) hget ?_
      intro p2
      refine WL.callP rfl rfl rfl rfl rfl ent52 (bit_any v (by omega) _) ?_
      repeat (first | refine WC.seq ?_ | refine WC.reg ?_ | refine WL.pure rfl rfl rfl ?_ | refine WL.nil ?_ | refine WC.skip ?_ | refine WC.block ?_ | refine WC.condT rfl ?_ | refine WC.condF rfl ?_ | refine WL.off rfl rfl rfl ?_ | refine WL.off0 rfl rfl ?_ | refine WC.exit ?_ | refine blk_hit ?_ | refine blk_miss rfl ?_ | refine WC.ret ?_)
      exact ⟨(i + 1, S ||| 2 ^ v, max k (pc (lat g S v) : Nat)), by show g.length - (i + 1) < g.length - i; omega, ⟨rfl, rfl, congrArg (fun z => some (Value.int .i64 z)) (or_i64 (a := S) (b := 2 ^ v) (by omega) (by omega)), rfl, rfl, congrArg (fun z => some (Value.int .i64 z)) step, rfl⟩, hi, or_pow_lt hS hv, hr, hp4⟩
    · have hi : i = g.length := by have := of_decide_eq_false hc; omega
      rw [List.drop_eq_nil_of_le (by omega), ordL] at hr
      simp only [Option.some.injEq] at hr
      subst hr
      repeat (first | refine WC.seq ?_ | refine WC.reg ?_ | refine WL.pure rfl rfl rfl ?_ | refine WL.nil ?_ | refine WC.skip ?_ | refine WC.block ?_ | refine WC.condT rfl ?_ | refine WC.condF rfl ?_ | refine WL.off rfl rfl rfl ?_ | refine WL.off0 rfl rfl ?_ | refine WC.exit ?_ | refine blk_hit ?_ | refine blk_miss rfl ?_ | refine WC.ret ?_)
      exact Res.two rfl rfl rfl rfl ⟨hp3.nil', hval.symm⟩
end Go.Proofs.YtdnkkflpgebfbaaDoor

/- The walk of 'awake'. -/
namespace Go.Proofs.YtdnkkflpgebfbaaDoor
open Go.W Go.Tree
set_option maxRecDepth 100000
attribute [local irreducible] WC WL WQ WS WH

theorem awake_any (w : World) (hT : Tb w) : Ret Tryd.prog 19 [] w fun v w' => v = .bool true ∧ Hp w w' [] := by
  refine enter Tryd.func19 rfl rfl ⟨rfl, rfl⟩ rfl ?_
  repeat (first | refine WC.seq ?_ | refine WC.reg ?_ | refine WL.pure rfl rfl rfl ?_ | refine WL.nil ?_ | refine WC.skip ?_ | refine WC.block ?_ | refine WC.condT rfl ?_ | refine WC.condF rfl ?_ | refine WL.off rfl rfl rfl ?_ | refine WL.off0 rfl rfl ?_ | refine WC.exit ?_ | refine blk_hit ?_ | refine blk_miss rfl ?_ | refine WC.ret ?_)
  refine WL.buildA (cs := pr (0, 1)) rfl rfl rfl rfl rfl rfl ?_
  refine WL.buildA (cs := pr (1, 2)) rfl rfl rfl rfl rfl rfl ?_
  refine WL.buildA (cs := pr (2, 3)) rfl rfl rfl rfl rfl rfl ?_
  refine WL.buildA (cs := pr (3, 4)) rfl rfl rfl rfl rfl rfl ?_
  refine WL.buildA (cs := pr (4, 0)) rfl rfl rfl rfl rfl rfl ?_
  refine WL.buildS (cs := prs five) rfl rfl rfl rfl rfl rfl rfl rfl rfl ?_
  intro b1 w1 hb1
  have hp1 := (Hp.start w).new hb1
  have hsl : ∀ w' L i, Hp w w' L → nth L i = some (.blk b1 (.cells (prs five).toArray 50 (0, 0))) → Sl w' (some ⟨b1, 0, none⟩) (prs five) := fun w' L i hp hi => Sl.of_obj (hp.obj i hi) (fun i u h => by simpa using h)
  have h5 : five.length ≤ 4611686018427387904 := by decide
  repeat (first | refine WC.seq ?_ | refine WC.reg ?_ | refine WL.pure rfl rfl rfl ?_ | refine WL.nil ?_ | refine WC.skip ?_ | refine WC.block ?_ | refine WC.condT rfl ?_ | refine WC.condF rfl ?_ | refine WL.off rfl rfl rfl ?_ | refine WL.off0 rfl rfl ?_ | refine WC.exit ?_ | refine blk_hit ?_ | refine blk_miss rfl ?_ | refine WC.ret ?_)
  refine WL.call rfl rfl rfl rfl rfl ent25 (Decompose_any _ 5 5 five w1 (hsl _ _ 0 hp1 rfl) h5 (hT.below hp1.below)) ?_
  intro v2 w2 hD
  unfold DecIs at hD
  rw [five_g] at hD
  obtain ⟨bl, ab, cb, al, cl, hbags, hp2, rfl⟩ := hD
  have hbl : bl.length = 5 := by have := five_bags; rw [← hbags, List.length_map] at this; exact this
  rw [hbl, five_links, five_wd]
  have hp2 := hp1.call hp2.below
  repeat (first | refine WC.seq ?_ | refine WC.reg ?_ | refine WL.pure rfl rfl rfl ?_ | refine WL.nil ?_ | refine WC.skip ?_ | refine WC.block ?_ | refine WC.condT rfl ?_ | refine WC.condF rfl ?_ | refine WL.off rfl rfl rfl ?_ | refine WL.off0 rfl rfl ?_ | refine WC.exit ?_ | refine blk_hit ?_ | refine blk_miss rfl ?_ | refine WC.ret ?_)
  refine WL.var rfl rfl rfl (fun _ => rfl) rfl rfl (show ∀ u ∈ [Value.slice ab 5 cb, Value.slice al 4 cl], u.oneCell' = true from Cells.cons rfl (Cells.cons rfl Cells.nil)) ?_
  intro b2 w3 hb2
  have hp3 := hp2.new hb2
  repeat (first | refine WC.seq ?_ | refine WC.reg ?_ | refine WL.pure rfl rfl rfl ?_ | refine WL.nil ?_ | refine WC.skip ?_ | refine WC.block ?_ | refine WC.condT rfl ?_ | refine WC.condF rfl ?_ | refine WL.off rfl rfl rfl ?_ | refine WL.off0 rfl rfl ?_ | refine WC.exit ?_ | refine blk_hit ?_ | refine blk_miss rfl ?_ | refine WC.ret ?_)
  refine WL.call rfl rfl rfl rfl rfl ent14 (Colour_any _ 5 5 five 3 w3 (hsl _ _ 1 hp3 rfl) h5 (hT.below hp3.below)) ?_
  rintro _ w4 ⟨hp4, rfl⟩
  have hp4 := hp3.call hp4.below
  have hcol : colV 5 five 3 = .tuple #[.int .i64 30, .int .i64 0] := by
    simp only [colV, five_g]
    rw [if_neg (by omega), five_col]
  rw [hcol]
  repeat (first | refine WC.seq ?_ | refine WC.reg ?_ | refine WL.pure rfl rfl rfl ?_ | refine WL.nil ?_ | refine WC.skip ?_ | refine WC.block ?_ | refine WC.condT rfl ?_ | refine WC.condF rfl ?_ | refine WL.off rfl rfl rfl ?_ | refine WL.off0 rfl rfl ?_ | refine WC.exit ?_ | refine blk_hit ?_ | refine blk_miss rfl ?_ | refine WC.ret ?_)
  refine WL.call rfl rfl rfl rfl rfl ent16 (Apart_any _ 5 5 five w4 (hsl _ _ 1 hp4 rfl) h5 (hT.below hp4.below)) ?_
  rintro _ w5 ⟨hp5, rfl⟩
  have hp5 := hp4.call hp5.below
  have hap : apV 5 five = .tuple #[.int .i64 11, .int .i64 2, .int .i64 0] := by
    simp only [apV, five_g]
    rw [five_ap]
    rfl
  rw [hap]
  repeat (first | refine WC.seq ?_ | refine WC.reg ?_ | refine WL.pure rfl rfl rfl ?_ | refine WL.nil ?_ | refine WC.skip ?_ | refine WC.block ?_ | refine WC.condT rfl ?_ | refine WC.condF rfl ?_ | refine WL.off rfl rfl rfl ?_ | refine WL.off0 rfl rfl ?_ | refine WC.exit ?_ | refine blk_hit ?_ | refine blk_miss rfl ?_ | refine WC.ret ?_)
  refine WL.call rfl rfl rfl rfl rfl ent17 (Clique_any _ 5 5 five w5 (hsl _ _ 1 hp5 rfl) h5 (hT.below hp5.below)) ?_
  intro v6 w6 hC
  unfold ClIs at hC
  simp only [five_g] at hC
  rw [five_cl] at hC
  obtain ⟨a6, c6, hp6, rfl⟩ := hC
  have hp6 := hp5.comb hp6
  repeat (first | refine WC.seq ?_ | refine WC.reg ?_ | refine WL.pure rfl rfl rfl ?_ | refine WL.nil ?_ | refine WC.skip ?_ | refine WC.block ?_ | refine WC.condT rfl ?_ | refine WC.condF rfl ?_ | refine WL.off rfl rfl rfl ?_ | refine WL.off0 rfl rfl ?_ | refine WC.exit ?_ | refine blk_hit ?_ | refine blk_miss rfl ?_ | refine WC.ret ?_)
  refine WL.loadB rfl rfl rfl rfl rfl (hp6.obj 1 rfl) rfl ?_
  repeat (first | refine WC.seq ?_ | refine WC.reg ?_ | refine WL.pure rfl rfl rfl ?_ | refine WL.nil ?_ | refine WC.skip ?_ | refine WC.block ?_ | refine WC.condT rfl ?_ | refine WC.condF rfl ?_ | refine WL.off rfl rfl rfl ?_ | refine WL.off0 rfl rfl ?_ | refine WC.exit ?_ | refine blk_hit ?_ | refine blk_miss rfl ?_ | refine WC.ret ?_)
  refine WL.buildS (cs := zs [0, 1]) rfl rfl rfl rfl rfl rfl rfl rfl rfl ?_
  intro b7 w7 hb7
  have hp7 := hp6.new hb7
  refine WL.call rfl rfl rfl rfl rfl ent21 (ints_any a6 (some ⟨b7, 0, none⟩) c6 2 [0, 1] [0, 1] w7 (Sl.of_row (hp7.at 1 rfl)) (Sl.of_obj (hp7.obj 0 rfl) (fun i u h => by simpa using h)) (by decide)) ?_
  rintro _ w8 ⟨hp8, rfl⟩
  have hp8 := hp7.call hp8.below
  repeat (first | refine WC.seq ?_ | refine WC.reg ?_ | refine WL.pure rfl rfl rfl ?_ | refine WL.nil ?_ | refine WC.skip ?_ | refine WC.block ?_ | refine WC.condT rfl ?_ | refine WC.condF rfl ?_ | refine WL.off rfl rfl rfl ?_ | refine WL.off0 rfl rfl ?_ | refine WC.exit ?_ | refine blk_hit ?_ | refine blk_miss rfl ?_ | refine WC.ret ?_)
  exact Res.one rfl rfl rfl ⟨rfl, hp8.nil'⟩
end Go.Proofs.YtdnkkflpgebfbaaDoor
