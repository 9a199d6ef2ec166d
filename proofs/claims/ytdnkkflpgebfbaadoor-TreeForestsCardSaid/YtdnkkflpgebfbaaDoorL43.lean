/- The walks of 'equal' and 'TreeChecks'. -/
import Derived.Test.YtdnkkflpgebfbaaDoorL42
namespace Go.Proofs.YtdnkkflpgebfbaaDoor
open Go.W Go.Tree
set_option maxRecDepth 100000
attribute [local irreducible] WC WL WQ WS WH

theorem Hp.front {w0 w : World} {A B C : List Ent} (h : Hp w0 w ((A ++ B) ++ C)) : Hp w0 w B := by
  have hs : B.Sublist ((A ++ B) ++ C) := (List.sublist_append_right A B).trans (List.sublist_append_left _ C)
  exact ⟨h.below, fun z hz => h.sat z (hs.subset hz), h.dist.sublist hs⟩
/-- The entries of a decomposition's memory. -/
def TL (bl : List BagI) (ab : Option Addr) (cb : Nat) (ls : List Ed) (al : Option Addr) (cl : Nat) : List Ent :=
  .row 32 1 (.slice ab bl.length cb) bl.length (bl.map bagVI) :: .row 50 2 (.slice al ls.length cl) ls.length (prs ls) :: bl.map bagEI
structure TLf (w : World) (bl : List BagI) (ab : Option Addr) (cb : Nat) (ls : List Ed) (al : Option Addr) (cl : Nat) : Prop where
  bags : BagsAt w ab bl
  links : Sl w al (prs ls)
  cap : ∀ b ∈ bl, b.2.2.length ≤ b.2.1
  lcap : ls.length ≤ cl
theorem TL_facts {B : Nat} {w : World} {bl : List BagI} {ab : Option Addr} {cb : Nat} {ls : List Ed} {al : Option Addr} {cl : Nat} (h : ∀ x ∈ TL bl ab cb ls al cl, x.sat B w) : TLf w bl ab cb ls al cl := by
  have hb : ∀ b ∈ bl, (bagEI b).sat B w := fun b hb => h _ (List.mem_cons_of_mem _ (List.mem_cons_of_mem _ (List.mem_map.2 ⟨b, hb, rfl⟩)))
  refine ⟨⟨Sl.of_row (h (.row 32 1 (.slice ab bl.length cb) bl.length (bl.map bagVI)) (List.mem_cons_self)), fun b hbm => Sl.of_row (hb b hbm)⟩, Sl.of_row (h (.row 50 2 (.slice al ls.length cl) ls.length (prs ls)) (List.mem_cons_of_mem _ List.mem_cons_self)), fun b hbm => row_cap (hb b hbm), row_cap (h (.row 50 2 (.slice al ls.length cl) ls.length (prs ls)) (List.mem_cons_of_mem _ List.mem_cons_self))⟩

theorem equal_any (a1 a2 l1 l2 : Option Addr) (c1 c2 d1 d2 : Nat) (bl1 bl2 : List BagI) (ls : List Ed) (hbs : bl1.map (·.2.2) = bl2.map (·.2.2)) (w : World) (hA1 : BagsAt w a1 bl1) (hA2 : BagsAt w a2 bl2) (hL1 : Sl w l1 (prs ls)) (hL2 : Sl w l2 (prs ls))
    (hsm : ∀ b ∈ bl1, b.2.2.length ≤ 4611686018427387904) (hbl : bl1.length ≤ 4611686018427387904) (hll : ls.length ≤ 4611686018427387904) :
    Ret Tryd.prog 37 [.agg #[.slice a1 bl1.length c1, .slice l1 ls.length d1], .agg #[.slice a2 bl2.length c2, .slice l2 ls.length d2]] w fun v w' => Hp w w' [] ∧ v = .bool true := by
  have hlen : bl1.length = bl2.length := by have := congrArg List.length hbs; simpa using this
  refine enter Tryd.func37 rfl rfl ⟨rfl, rfl⟩ rfl ?_
  repeat (first | refine WC.seq ?_ | refine WC.reg ?_ | refine WL.pure rfl rfl rfl ?_ | refine WL.nil ?_ | refine WC.skip ?_ | refine WC.block ?_ | refine WC.condT rfl ?_ | refine WC.condF rfl ?_ | refine WL.off rfl rfl rfl ?_ | refine WL.off0 rfl rfl ?_ | refine WC.exit ?_ | refine blk_hit ?_ | refine blk_miss rfl ?_ | refine WC.ret ?_)
  refine WL.box rfl rfl rfl ?_
  intro b2 w1 hb2
  have hp1 := (Hp.start w).new hb2
  refine WL.box rfl rfl rfl ?_
  intro b3 w2 hb3
  have hp2 := hp1.new hb3
  rw [← hlen] at hp2 ⊢
  have hp2 : Hp w w2 [.blk b3 (.cells #[.slice a2 bl1.length c2, .slice l2 ls.length d2] 46 (0, 0)), .blk b2 (.cells #[.slice a1 bl1.length c1, .slice l1 ls.length d1] 46 (0, 0))] := hp2
  repeat (first | refine WC.seq ?_ | refine WC.reg ?_ | refine WL.pure rfl rfl rfl ?_ | refine WL.nil ?_ | refine WC.skip ?_ | refine WC.block ?_ | refine WC.condT rfl ?_ | refine WC.condF rfl ?_ | refine WL.off rfl rfl rfl ?_ | refine WL.off0 rfl rfl ?_ | refine WC.exit ?_ | refine blk_hit ?_ | refine blk_miss rfl ?_ | refine WC.ret ?_)
  refine WL.loadB rfl rfl rfl rfl rfl (hp2.obj 1 rfl) rfl ?_
  repeat (first | refine WC.seq ?_ | refine WC.reg ?_ | refine WL.pure rfl rfl rfl ?_ | refine WL.nil ?_ | refine WC.skip ?_ | refine WC.block ?_ | refine WC.condT rfl ?_ | refine WC.condF rfl ?_ | refine WL.off rfl rfl rfl ?_ | refine WL.off0 rfl rfl ?_ | refine WC.exit ?_ | refine blk_hit ?_ | refine blk_miss rfl ?_ | refine WC.ret ?_)
  refine WL.loadB rfl rfl rfl rfl rfl (hp2.obj 0 rfl) rfl ?_
  repeat (first | refine WC.seq ?_ | refine WC.reg ?_ | refine WL.pure rfl rfl rfl ?_ | refine WL.nil ?_ | refine WC.skip ?_ | refine WC.block ?_ | refine WC.condT rfl ?_ | refine WC.condF rfl ?_ | refine WL.off rfl rfl rfl ?_ | refine WL.off0 rfl rfl ?_ | refine WC.exit ?_ | refine blk_hit ?_ | refine blk_miss rfl ?_ | refine WC.ret ?_)
  refine WL.split 13 (b := false) (by simp [W.look]) (fun h => by cases h) (fun _ => ?_)
  repeat (first | refine WC.seq ?_ | refine WC.reg ?_ | refine WL.pure rfl rfl rfl ?_ | refine WL.nil ?_ | refine WC.skip ?_ | refine WC.block ?_ | refine WC.condT rfl ?_ | refine WC.condF rfl ?_ | refine WL.off rfl rfl rfl ?_ | refine WL.off0 rfl rfl ?_ | refine WC.exit ?_ | refine blk_hit ?_ | refine blk_miss rfl ?_ | refine WC.ret ?_)
  refine WL.loadB rfl rfl rfl rfl rfl (hp2.obj 1 rfl) rfl ?_
  repeat (first | refine WC.seq ?_ | refine WC.reg ?_ | refine WL.pure rfl rfl rfl ?_ | refine WL.nil ?_ | refine WC.skip ?_ | refine WC.block ?_ | refine WC.condT rfl ?_ | refine WC.condF rfl ?_ | refine WL.off rfl rfl rfl ?_ | refine WL.off0 rfl rfl ?_ | refine WC.exit ?_ | refine blk_hit ?_ | refine blk_miss rfl ?_ | refine WC.ret ?_)
  refine WL.loadB rfl rfl rfl rfl rfl (hp2.obj 0 rfl) rfl ?_
  refine WL.call rfl rfl rfl rfl rfl ent15 (edges_any l1 l2 d1 d2 ls ls w2 (hL1.hp hp2) (hL2.hp hp2) hll) ?_
  rintro _ w3 ⟨hp3, rfl⟩
  rw [decide_eq_true rfl]
  have hp3 := hp2.call hp3.below
  repeat (first | refine WC.seq ?_ | refine WC.reg ?_ | refine WL.pure rfl rfl rfl ?_ | refine WL.nil ?_ | refine WC.skip ?_ | refine WC.block ?_ | refine WC.condT rfl ?_ | refine WC.condF rfl ?_ | refine WL.off rfl rfl rfl ?_ | refine WL.off0 rfl rfl ?_ | refine WC.exit ?_ | refine blk_hit ?_ | refine blk_miss rfl ?_ | refine WC.ret ?_)
  refine WC.loop Nat (fun i => [(2, .pointer (some ⟨b2, 0, none⟩)), (3, .pointer (some ⟨b3, 0, none⟩)), (5, .int .i64 (i : Nat))])
    (fun i w' => i ≤ bl1.length ∧ Hp w w' [.blk b3 (.cells #[.slice a2 bl1.length c2, .slice l2 ls.length d2] 46 (0, 0)), .blk b2 (.cells #[.slice a1 bl1.length c1, .slice l1 ls.length d1] 46 (0, 0))]) (fun i => bl1.length - i) 0
    ⟨rfl, rfl, rfl, rfl⟩ ⟨Nat.zero_le _, hp3⟩ ?_
  rintro i w4 ⟨hi, hp4⟩
  repeat (first | refine WC.seq ?_ | refine WC.reg ?_ | refine WL.pure rfl rfl rfl ?_ | refine WL.nil ?_ | refine WC.skip ?_ | refine WC.block ?_ | refine WC.condT rfl ?_ | refine WC.condF rfl ?_ | refine WL.off rfl rfl rfl ?_ | refine WL.off0 rfl rfl ?_ | refine WC.exit ?_ | refine blk_hit ?_ | refine blk_miss rfl ?_ | refine WC.ret ?_)
  refine WL.loadB rfl rfl rfl rfl rfl (hp4.obj 1 rfl) rfl ?_
  repeat (first | refine WC.seq ?_ | refine WC.reg ?_ | refine WL.pure rfl rfl rfl ?_ | refine WL.nil ?_ | refine WC.skip ?_ | refine WC.block ?_ | refine WC.condT rfl ?_ | refine WC.condF rfl ?_ | refine WL.off rfl rfl rfl ?_ | refine WL.off0 rfl rfl ?_ | refine WC.exit ?_ | refine blk_hit ?_ | refine blk_miss rfl ?_ | refine WC.ret ?_)
  refine WC.cond rfl (fun hq => ?_) (fun hq => ?_)
  · have hi : i < bl1.length := by have := of_decide_eq_true hq; omega
    have hi2 : i < bl2.length := by omega
    have step : IntKind.i64.wrap ((i : Int) + 1) = ((i + 1 : Nat) : Int) := by rw [wrap_i64_in (by omega) (by omega)]; omega
    have hm1 : bl1[i] ∈ bl1 := List.getElem_mem hi
    have hm2 : bl2[i] ∈ bl2 := List.getElem_mem hi2
    have hv1 := bagVI_at hi
    have hv2 := bagVI_at hi2
    have heq : bl1[i].2.2 = bl2[i].2.2 := by
      have := congrArg (fun l => l[i]?) hbs
      simpa [hi, hi2] using this
    generalize bl1[i] = x at *
    generalize bl2[i] = y at *
    obtain ⟨o1, p1, rfl⟩ := Sl.some hA1.1 hv1
    obtain ⟨o2, p2, rfl⟩ := Sl.some hA2.1 hv2
    have cE : ∀ w', Hp w w' [.blk b3 (.cells #[.slice (some ⟨o2, p2, none⟩) bl1.length c2, .slice l2 ls.length d2] 46 (0, 0)), .blk b2 (.cells #[.slice (some ⟨o1, p1, none⟩) bl1.length c1, .slice l1 ls.length d1] 46 (0, 0))] →
        w'.cell? ⟨b2, 0 + 0, none⟩ = some (.slice (some ⟨o1, p1, none⟩) bl1.length c1) ∧ w'.cell? ⟨b3, 0 + 0, none⟩ = some (.slice (some ⟨o2, p2, none⟩) bl1.length c2) ∧ w'.cell? ⟨o1, p1 + i, none⟩ = some (bagVI x) ∧ w'.cell? ⟨o2, p2 + i, none⟩ = some (bagVI y) := fun w' h =>
      ⟨cell_of_obj (h.obj 1 rfl) rfl, cell_of_obj (h.obj 0 rfl) rfl, Sl.cell (hA1.hp h).1 hv1, Sl.cell (hA2.hp h).1 hv2⟩
    repeat (first | refine WC.seq ?_ | refine WC.reg ?_ | refine WL.pure rfl rfl rfl ?_ | refine WL.nil ?_ | refine WC.skip ?_ | refine WC.block ?_ | refine WC.condT rfl ?_ | refine WC.condF rfl ?_ | refine WL.off rfl rfl rfl ?_ | refine WL.off0 rfl rfl ?_ | refine WC.exit ?_ | refine blk_hit ?_ | refine blk_miss rfl ?_ | refine WC.ret ?_)
    refine WC.mid Unit (fun _ => [(2, .pointer (some ⟨b2, 0, none⟩)), (3, .pointer (some ⟨b3, 0, none⟩)), (5, .int .i64 (i : Nat)), (39, .bool false)])
      (fun _ w' => Hp w w' [.blk b3 (.cells #[.slice (some ⟨o2, p2, none⟩) bl1.length c2, .slice l2 ls.length d2] 46 (0, 0)), .blk b2 (.cells #[.slice (some ⟨o1, p1, none⟩) bl1.length c1, .slice l1 ls.length d1] 46 (0, 0))]) ?_ ?_
    · refine WC.regQ (fun w' => Hp w w' _) mixed (by kernel_rfl) (fun w' hw' => hp4.keep hw') ?_
      repeat (first | refine WQ.pure rfl rfl rfl ?_ | refine WQ.off rfl rfl rfl ?_ | refine WQ.nil ?_)
      refine WQ.load rfl rfl rfl rfl rfl (fun w' h => (cE w' h).1) ?_
      repeat (first | refine WQ.pure rfl rfl rfl ?_ | refine WQ.off rfl rfl rfl ?_ | refine WQ.nil ?_)
      refine WQ.ixload rfl (fun _ => rfl) rfl rfl rfl rfl rfl rfl rfl hi rfl rfl (fun w' h => (cE w' h).2.2.1) ?_
      repeat (first | refine WQ.pure rfl rfl rfl ?_ | refine WQ.off rfl rfl rfl ?_ | refine WQ.nil ?_)
      refine WQ.load rfl rfl rfl rfl rfl (fun w' h => (cE w' h).2.1) ?_
      repeat (first | refine WQ.pure rfl rfl rfl ?_ | refine WQ.off rfl rfl rfl ?_ | refine WQ.nil ?_)
      refine WQ.ixload rfl (fun _ => rfl) rfl rfl rfl rfl rfl rfl rfl hi rfl rfl (fun w' h => (cE w' h).2.2.2) ?_
      refine WQ.call (v := .bool true) rfl rfl rfl rfl rfl ent21 (fun w' h => (ints_any x.1 y.1 x.2.1 y.2.1 x.2.2 y.2.2 w' ((hA1.hp h).2 x hm1) ((hA2.hp h).2 y hm2) (hsm x hm1)).mono fun u w'' ⟨h5, h6⟩ => ⟨by rw [h6, decide_eq_true heq], h.call h5.below⟩) ?_
      repeat (first | refine WQ.pure rfl rfl rfl ?_ | refine WQ.off rfl rfl rfl ?_ | refine WQ.nil ?_)
      intro w' h
      exact ⟨(), ⟨rfl, rfl, rfl, rfl, rfl⟩, h⟩
    rintro ⟨⟩ e6 w6 hsub hp6
    refine WC.sub hsub ?_
    clear hsub
    repeat (first | refine WC.seq ?_ | refine WC.reg ?_ | refine WL.pure rfl rfl rfl ?_ | refine WL.nil ?_ | refine WC.skip ?_ | refine WC.block ?_ | refine WC.condT rfl ?_ | refine WC.condF rfl ?_ | refine WL.off rfl rfl rfl ?_ | refine WL.off0 rfl rfl ?_ | refine WC.exit ?_ | refine blk_hit ?_ | refine blk_miss rfl ?_ | refine WC.ret ?_)
    exact ⟨i + 1, by show bl1.length - (i + 1) < bl1.length - i; omega, ⟨rfl, rfl, congrArg (fun z => some (Value.int .i64 z)) step, rfl⟩, hi, hp6⟩
  · repeat (first | refine WC.seq ?_ | refine WC.reg ?_ | refine WL.pure rfl rfl rfl ?_ | refine WL.nil ?_ | refine WC.skip ?_ | refine WC.block ?_ | refine WC.condT rfl ?_ | refine WC.condF rfl ?_ | refine WL.off rfl rfl rfl ?_ | refine WL.off0 rfl rfl ?_ | refine WC.exit ?_ | refine blk_hit ?_ | refine blk_miss rfl ?_ | refine WC.ret ?_)
    exact Res.one rfl rfl rfl ⟨hp4.nil', rfl⟩

theorem cut20_small (bs : List (List Int)) : ∀ b ∈ cut20 bs, b.length ≤ 20 := by
  intro b hb
  obtain ⟨c, _, rfl⟩ := List.mem_map.1 hb
  rw [List.length_take]; omega
theorem small_of {bl : List BagI} {bs : List (List Int)} (h : bl.map (·.2.2) = cut20 bs) : (∀ b ∈ bl, b.2.2.length ≤ 4611686018427387904) ∧ bl.length ≤ 65 := by
  refine ⟨fun b hb => ?_, ?_⟩
  · have := cut20_small bs b.2.2 (by rw [← h]; exact List.mem_map.2 ⟨b, hb, rfl⟩)
    omega
  · have := congrArg List.length h
    simp [cut20] at this
    omega

theorem TreeChecks_any (ea ba la : Option Addr) (ce bc lc : Nat) (n : Int) (es : List Ed) (bl : List BagI) (ls : List Ed) (w : World) (hs : Sl w ea (prs es)) (hce : es.length ≤ ce) (hA : BagsAt w ba bl) (hL : Sl w la (prs ls)) (hcap : ∀ b ∈ bl, b.2.2.length ≤ b.2.1) (hlc : ls.length ≤ lc) (hT : Tb w) :
    Ret Tryd.prog 12 [.agg #[.int .i64 n, .slice ea es.length ce], .agg #[.slice ba bl.length bc, .slice la ls.length lc]] w fun v w' => v = .bool true ∧ Hp w w' [] := by
  generalize hfs : es.take 101 = fs
  have hfl : fs.length ≤ 101 := by rw [← hfs, List.length_take]; omega
  have hf62 : fs.length ≤ 4611686018427387904 := by omega
  have hff : fs.take 101 = fs := List.take_of_length_le (by omega)
  generalize hcs : cut20 (bl.map (·.2.2)) = cs
  have hcc : cut20 cs = cs := by rw [← hcs, cut20_again]
  generalize hks : ls.take 65 = ks
  have hkl : ks.length ≤ 65 := by rw [← hks, List.length_take]; omega
  have hkk : ks.take 65 = ks := List.take_of_length_le hkl
  refine enter Tryd.func12 rfl rfl ⟨rfl, rfl⟩ rfl ?_
  repeat (first | refine WC.seq ?_ | refine WC.reg ?_ | refine WL.pure rfl rfl rfl ?_ | refine WL.nil ?_ | refine WC.skip ?_ | refine WC.block ?_ | refine WC.condT rfl ?_ | refine WC.condF rfl ?_ | refine WL.off rfl rfl rfl ?_ | refine WL.off0 rfl rfl ?_ | refine WC.exit ?_ | refine blk_hit ?_ | refine blk_miss rfl ?_ | refine WC.ret ?_)
  refine WL.box rfl rfl rfl ?_
  intro b2 w1 hb2
  have hp1 := (Hp.start w).new hb2
  refine WL.box rfl rfl rfl ?_
  intro b3 w2 hb3
  have hp2 : Hp w w2 [.blk b3 (.cells #[.slice ba bl.length bc, .slice la ls.length lc] 46 (0, 0)), .blk b2 (.cells #[.int .i64 n, .slice ea es.length ce] 24 (0, 0))] := hp1.new hb3
  repeat (first | refine WC.seq ?_ | refine WC.reg ?_ | refine WL.pure rfl rfl rfl ?_ | refine WL.nil ?_ | refine WC.skip ?_ | refine WC.block ?_ | refine WC.condT rfl ?_ | refine WC.condF rfl ?_ | refine WL.off rfl rfl rfl ?_ | refine WL.off0 rfl rfl ?_ | refine WC.exit ?_ | refine blk_hit ?_ | refine blk_miss rfl ?_ | refine WC.ret ?_)
  refine WC.mid ((Option Addr × Nat) × Nat × (List BagI × Option Addr × Nat × Option Addr × Nat)) (fun ((ao, ca), b6, bx, ax, cx, lx, dx) => [(2, .pointer (some ⟨b2, 0, none⟩)), (5, .slice ao fs.length ca), (6, .pointer (some ⟨b6, 0, none⟩))])
    (fun ((ao, ca), b6, bx, ax, cx, lx, dx) w' => bx.map (·.2.2) = cs ∧ Hp w w' ((.blk b6 (.cells #[.slice ax bx.length cx, .slice lx ks.length dx] 46 (0, 0)) :: .row 50 2 (.slice ao fs.length ca) fs.length (prs fs) :: [.blk b3 (.cells #[.slice ba bl.length bc, .slice la ls.length lc] 46 (0, 0)), .blk b2 (.cells #[.int .i64 n, .slice ea es.length ce] 24 (0, 0))]) ++ TL bx ax cx ks lx dx)) ?_ ?_
  · refine WC.regH (fun w' => Hp w w' [.blk b3 (.cells #[.slice ba bl.length bc, .slice la ls.length lc] 46 (0, 0)), .blk b2 (.cells #[.int .i64 n, .slice ea es.length ce] 24 (0, 0))]) mixed (by kernel_rfl) (fun w3 hw3 hh3 => ?_)
    have hp3 := hp2.keep hw3
    have ld3 : ∀ w', Hp w w' [.blk b3 (.cells #[.slice ba bl.length bc, .slice la ls.length lc] 46 (0, 0)), .blk b2 (.cells #[.int .i64 n, .slice ea es.length ce] 24 (0, 0))] → ∀ (j : Nat) (v : Value), ([.slice ba bl.length bc, .slice la ls.length lc] : List Value)[j]? = some v → w'.cell? ((⟨b3, 0, none⟩ : Addr).add j) = some v := fun w' h j v hj => by rw [Addr.add_lit]; exact cell_of_obj (h.obj 0 rfl) (by rw [Nat.zero_add]; simpa using hj)
    refine WH.pure 0 (by kernel_rfl) rfl (by kernel_rfl) rfl rfl rfl hp3 ?_
    refine WH.load 1 (by kernel_rfl) rfl (by kernel_rfl) rfl rfl rfl rfl rfl (fun w' h => cell_of_obj (h.obj 1 rfl) rfl) hp3 ?_
    refine WH.take (v := .agg #[.slice ba bl.length bc, .slice la ls.length lc]) 3 (by kernel_rfl) rfl (by kernel_rfl) rfl rfl (fun w' h => run_loadN (cs := [.slice ba bl.length bc, .slice la ls.length lc]) rfl rfl rfl rfl (ld3 w' h)) hp3 ?_
    refine WH.two 2 5 rfl rfl (by kernel_rfl) ?_ ?_
    · refine WL.call rfl rfl rfl rfl rfl ent13 (lines_any ea ce es w3 (hs.hp hp3) hce) ?_
      rintro _ w4 ⟨ao, ca, hp4, rfl⟩
      rw [hfs] at hp4 ⊢
      have hp4 : Hp w w4 (.row 50 2 (.slice ao fs.length ca) fs.length (prs fs) :: [.blk b3 (.cells #[.slice ba bl.length bc, .slice la ls.length lc] 46 (0, 0)), .blk b2 (.cells #[.int .i64 n, .slice ea es.length ce] 24 (0, 0))]) := hp3.comb hp4
      refine WL.nil ⟨hp4.tail, ?_⟩
      refine WH.two 4 5 rfl rfl (by kernel_rfl) ?_ ?_
      · refine WL.call rfl rfl rfl rfl rfl ent36 (copied_any ba la bc lc bl ls w4 (hA.hp hp4) (hL.hp hp4) hcap hlc) ?_
        rintro _ w5 ⟨bx, ax, cx, lx, dx, hbx, hp5, rfl⟩
        rw [hks] at hp5 ⊢
        rw [hcs] at hbx
        have hp5 : Hp w4 w5 (TL bx ax cx ks lx dx) := hp5
        refine WL.nil ⟨(hp4.call hp5.below).tail, ?_⟩
        have hp5 := hp4.comb hp5
        refine WH.one 5 rfl (by kernel_rfl) (WL.alloc rfl rfl rfl ?_)
        intro b6 w6 hb6
        have hp6 := hp5.new hb6
        have hp6 : Hp w w6 (.blk b6 (.cells #[.slice none 0 0, .slice none 0 0] 46 (0, 0)) :: (TL bx ax cx ks lx dx ++ (.row 50 2 (.slice ao fs.length ca) fs.length (prs fs) :: [.blk b3 (.cells #[.slice ba bl.length bc, .slice la ls.length lc] 46 (0, 0)), .blk b2 (.cells #[.int .i64 n, .slice ea es.length ce] 24 (0, 0))]))) := hp6
        have hp6 := Hp.permP hp6 (List.Perm.cons _ List.perm_append_comm)
        refine WL.nil ⟨hp6.pick [2, 3] (by decide), ?_⟩
        refine WH.one 6 rfl (by kernel_rfl) (WL.pure rfl rfl rfl (WL.nil ⟨hp6.pick [2, 3] (by decide), ?_⟩))
        refine WH.one 7 rfl (by kernel_rfl) ?_
        refine WL.storeN rfl rfl rfl rfl rfl (show ∀ u ∈ [Value.slice ax bx.length cx, .slice lx ks.length dx], u.oneCell' = true from Cells.cons rfl (Cells.cons rfl Cells.nil)) (hp6.obj 0 rfl) (Nat.le_refl 2) rfl (fun w7 hw => ?_)
        have hpZ := hp6.set 0 rfl rfl hw
        refine WL.nil ⟨hpZ.pick [2, 3] (by decide), WH.done (by kernel_rfl) ?_⟩
        exact ⟨((ao, ca), b6, bx, ax, cx, lx, dx), ⟨rfl, rfl, rfl, rfl⟩, hbx, hpZ⟩
      · refine WL.alloc rfl rfl rfl ?_
        intro b6 w5 hb6
        have hp5 : Hp w w5 (.blk b6 (.cells #[.slice none 0 0, .slice none 0 0] 46 (0, 0)) :: .row 50 2 (.slice ao fs.length ca) fs.length (prs fs) :: [.blk b3 (.cells #[.slice ba bl.length bc, .slice la ls.length lc] 46 (0, 0)), .blk b2 (.cells #[.int .i64 n, .slice ea es.length ce] 24 (0, 0))]) := hp4.new hb6
        refine WL.nil ⟨hp5.tail.tail, ?_⟩
        refine WH.one 4 rfl (by kernel_rfl) ?_
        refine WL.call rfl rfl rfl rfl rfl ent36 (copied_any ba la bc lc bl ls w5 (hA.hp hp5) (hL.hp hp5) hcap hlc) ?_
        rintro _ w6 ⟨bx, ax, cx, lx, dx, hbx, hp6, rfl⟩
        rw [hks] at hp6 ⊢
        rw [hcs] at hbx
        have hp6 : Hp w5 w6 (TL bx ax cx ks lx dx) := hp6
        have hp6 : Hp w w6 (TL bx ax cx ks lx dx ++ (.blk b6 (.cells #[.slice none 0 0, .slice none 0 0] 46 (0, 0)) :: .row 50 2 (.slice ao fs.length ca) fs.length (prs fs) :: [.blk b3 (.cells #[.slice ba bl.length bc, .slice la ls.length lc] 46 (0, 0)), .blk b2 (.cells #[.int .i64 n, .slice ea es.length ce] 24 (0, 0))])) := hp5.comb hp6
        have hp6 := Hp.permP hp6 List.perm_append_comm
        refine WL.nil ⟨hp6.pick [2, 3] (by decide), ?_⟩
        refine WH.one 6 rfl (by kernel_rfl) (WL.pure rfl rfl rfl (WL.nil ⟨hp6.pick [2, 3] (by decide), ?_⟩))
        refine WH.one 7 rfl (by kernel_rfl) ?_
        refine WL.storeN rfl rfl rfl rfl rfl (show ∀ u ∈ [Value.slice ax bx.length cx, .slice lx ks.length dx], u.oneCell' = true from Cells.cons rfl (Cells.cons rfl Cells.nil)) (hp6.obj 0 rfl) (Nat.le_refl 2) rfl (fun w7 hw => ?_)
        have hpZ := hp6.set 0 rfl rfl hw
        refine WL.nil ⟨hpZ.pick [2, 3] (by decide), WH.done (by kernel_rfl) ?_⟩
        exact ⟨((ao, ca), b6, bx, ax, cx, lx, dx), ⟨rfl, rfl, rfl, rfl⟩, hbx, hpZ⟩
    · refine WL.alloc rfl rfl rfl ?_
      intro b6 w4 hb6
      have hp4 : Hp w w4 (.blk b6 (.cells #[.slice none 0 0, .slice none 0 0] 46 (0, 0)) :: [.blk b3 (.cells #[.slice ba bl.length bc, .slice la ls.length lc] 46 (0, 0)), .blk b2 (.cells #[.int .i64 n, .slice ea es.length ce] 24 (0, 0))]) := hp3.new hb6
      refine WL.nil ⟨hp4.tail, ?_⟩
      refine WH.one 2 rfl (by kernel_rfl) ?_
      refine WL.call rfl rfl rfl rfl rfl ent13 (lines_any ea ce es w4 (hs.hp hp4) hce) ?_
      rintro _ w5 ⟨ao, ca, hp5, rfl⟩
      rw [hfs] at hp5 ⊢
      have hp5 : Hp w w5 (.blk b6 (.cells #[.slice none 0 0, .slice none 0 0] 46 (0, 0)) :: .row 50 2 (.slice ao fs.length ca) fs.length (prs fs) :: [.blk b3 (.cells #[.slice ba bl.length bc, .slice la ls.length lc] 46 (0, 0)), .blk b2 (.cells #[.int .i64 n, .slice ea es.length ce] 24 (0, 0))]) := (hp4.comb hp5).swap
      refine WL.nil ⟨hp5.tail.tail, ?_⟩
      refine WH.one 4 rfl (by kernel_rfl) ?_
      refine WL.call rfl rfl rfl rfl rfl ent36 (copied_any ba la bc lc bl ls w5 (hA.hp hp5) (hL.hp hp5) hcap hlc) ?_
      rintro _ w6 ⟨bx, ax, cx, lx, dx, hbx, hp6, rfl⟩
      rw [hks] at hp6 ⊢
      rw [hcs] at hbx
      have hp6 : Hp w5 w6 (TL bx ax cx ks lx dx) := hp6
      have hp6 : Hp w w6 (TL bx ax cx ks lx dx ++ (.blk b6 (.cells #[.slice none 0 0, .slice none 0 0] 46 (0, 0)) :: .row 50 2 (.slice ao fs.length ca) fs.length (prs fs) :: [.blk b3 (.cells #[.slice ba bl.length bc, .slice la ls.length lc] 46 (0, 0)), .blk b2 (.cells #[.int .i64 n, .slice ea es.length ce] 24 (0, 0))])) := hp5.comb hp6
      have hp6 := Hp.permP hp6 List.perm_append_comm
      refine WL.nil ⟨hp6.pick [2, 3] (by decide), ?_⟩
      refine WH.one 6 rfl (by kernel_rfl) (WL.pure rfl rfl rfl (WL.nil ⟨hp6.pick [2, 3] (by decide), ?_⟩))
      refine WH.one 7 rfl (by kernel_rfl) ?_
      refine WL.storeN rfl rfl rfl rfl rfl (show ∀ u ∈ [Value.slice ax bx.length cx, .slice lx ks.length dx], u.oneCell' = true from Cells.cons rfl (Cells.cons rfl Cells.nil)) (hp6.obj 0 rfl) (Nat.le_refl 2) rfl (fun w7 hw => ?_)
      have hpZ := hp6.set 0 rfl rfl hw
      refine WL.nil ⟨hpZ.pick [2, 3] (by decide), WH.done (by kernel_rfl) ?_⟩
      exact ⟨((ao, ca), b6, bx, ax, cx, lx, dx), ⟨rfl, rfl, rfl, rfl⟩, hbx, hpZ⟩
  rintro ⟨⟨ao, ca⟩, b6, bx, ax, cx, lx, dx⟩ e3 w3 hsub ⟨hbx, hp3⟩
  refine WC.sub hsub ?_
  clear hsub hp2
  obtain ⟨hsmx, hbxl⟩ := small_of (hbx.trans hcs.symm)
  have hbxlen : ∀ w', Hp w w' ((.blk b6 (.cells #[.slice ax bx.length cx, .slice lx ks.length dx] 46 (0, 0)) :: .row 50 2 (.slice ao fs.length ca) fs.length (prs fs) :: [.blk b3 (.cells #[.slice ba bl.length bc, .slice la ls.length lc] 46 (0, 0)), .blk b2 (.cells #[.int .i64 n, .slice ea es.length ce] 24 (0, 0))]) ++ TL bx ax cx ks lx dx) → TLf w' bx ax cx ks lx dx ∧ fs.length ≤ ca ∧ Sl w' ao (prs fs) := by
    intro w' h
    refine ⟨TL_facts fun x hx => h.sat x (List.mem_append_right _ hx), row_cap (h.at 1 rfl), Sl.of_row (h.at 1 rfl)⟩
  repeat (first | refine WC.seq ?_ | refine WC.reg ?_ | refine WL.pure rfl rfl rfl ?_ | refine WL.nil ?_ | refine WC.skip ?_ | refine WC.block ?_ | refine WC.condT rfl ?_ | refine WC.condF rfl ?_ | refine WL.off rfl rfl rfl ?_ | refine WL.off0 rfl rfl ?_ | refine WC.exit ?_ | refine blk_hit ?_ | refine blk_miss rfl ?_ | refine WC.ret ?_)
  refine WC.mid ((Option Addr × Nat) × Nat × (List BagI × Option Addr × Nat × Option Addr × Nat)) (fun ((ag, cg), b8, bY, ay, cy, ly, dy) => [(2, .pointer (some ⟨b2, 0, none⟩)), (5, .slice ao fs.length ca), (6, .pointer (some ⟨b6, 0, none⟩)), (7, .slice ag fs.length cg), (8, .pointer (some ⟨b8, 0, none⟩))])
    (fun ((ag, cg), b8, bY, ay, cy, ly, dy) w' => bY.map (·.2.2) = cs ∧ Hp w w' ((.blk b8 (.cells #[.slice ay bY.length cy, .slice ly ks.length dy] 46 (0, 0)) :: .row 50 2 (.slice ag fs.length cg) fs.length (prs fs) :: (.blk b6 (.cells #[.slice ax bx.length cx, .slice lx ks.length dx] 46 (0, 0)) :: .row 50 2 (.slice ao fs.length ca) fs.length (prs fs) :: [.blk b3 (.cells #[.slice ba bl.length bc, .slice la ls.length lc] 46 (0, 0)), .blk b2 (.cells #[.int .i64 n, .slice ea es.length ce] 24 (0, 0))] ++ TL bx ax cx ks lx dx)) ++ TL bY ay cy ks ly dy)) ?_ ?_
  · refine WC.regH (fun w' => Hp w w' ((.blk b6 (.cells #[.slice ax bx.length cx, .slice lx ks.length dx] 46 (0, 0)) :: .row 50 2 (.slice ao fs.length ca) fs.length (prs fs) :: [.blk b3 (.cells #[.slice ba bl.length bc, .slice la ls.length lc] 46 (0, 0)), .blk b2 (.cells #[.int .i64 n, .slice ea es.length ce] 24 (0, 0))]) ++ TL bx ax cx ks lx dx)) mixed (by kernel_rfl) (fun w4 hw4 hh4 => ?_)
    have hp4 := hp3.keep hw4
    have ld6 : ∀ w', Hp w w' ((.blk b6 (.cells #[.slice ax bx.length cx, .slice lx ks.length dx] 46 (0, 0)) :: .row 50 2 (.slice ao fs.length ca) fs.length (prs fs) :: [.blk b3 (.cells #[.slice ba bl.length bc, .slice la ls.length lc] 46 (0, 0)), .blk b2 (.cells #[.int .i64 n, .slice ea es.length ce] 24 (0, 0))]) ++ TL bx ax cx ks lx dx) → ∀ (j : Nat) (v : Value), ([.slice ax bx.length cx, .slice lx ks.length dx] : List Value)[j]? = some v → w'.cell? ((⟨b6, 0, none⟩ : Addr).add j) = some v := fun w' h j v hj => by rw [Addr.add_lit]; exact cell_of_obj (h.obj 0 rfl) (by rw [Nat.zero_add]; simpa using hj)
    refine WH.pure 0 (by kernel_rfl) rfl (by kernel_rfl) rfl rfl rfl hp4 ?_
    refine WH.take (v := .agg #[.slice ax bx.length cx, .slice lx ks.length dx]) 2 (by kernel_rfl) rfl (by kernel_rfl) rfl rfl (fun w' h => run_loadN (cs := [.slice ax bx.length cx, .slice lx ks.length dx]) rfl rfl rfl rfl (ld6 w' h)) hp4 ?_
    refine WH.two 1 4 rfl rfl (by kernel_rfl) ?_ ?_
    · obtain ⟨tf, hca, sO⟩ := hbxlen w4 hp4
      refine WL.call rfl rfl rfl rfl rfl ent13 (lines_any ao ca fs w4 sO hca) ?_
      rintro _ w5 ⟨ag, cg, hp5, rfl⟩
      rw [hff] at hp5 ⊢
      have hp5 : Hp w w5 (.row 50 2 (.slice ag fs.length cg) fs.length (prs fs) :: (.blk b6 (.cells #[.slice ax bx.length cx, .slice lx ks.length dx] 46 (0, 0)) :: .row 50 2 (.slice ao fs.length ca) fs.length (prs fs) :: [.blk b3 (.cells #[.slice ba bl.length bc, .slice la ls.length lc] 46 (0, 0)), .blk b2 (.cells #[.int .i64 n, .slice ea es.length ce] 24 (0, 0))] ++ TL bx ax cx ks lx dx)) := hp4.comb hp5
      refine WL.nil ⟨hp5.tail, ?_⟩
      refine WH.two 3 4 rfl rfl (by kernel_rfl) ?_ ?_
      · obtain ⟨tf, _, _⟩ := hbxlen w5 hp5.tail
        refine WL.call rfl rfl rfl rfl rfl ent36 (copied_any ax lx cx dx bx ks w5 tf.bags tf.links tf.cap tf.lcap) ?_
        rintro _ w6 ⟨bY, ay, cy, ly, dy, hbY, hp6, rfl⟩
        rw [hkk] at hp6 ⊢
        rw [hbx, hcc] at hbY
        have hp6 : Hp w5 w6 (TL bY ay cy ks ly dy) := hp6
        refine WL.nil ⟨(hp5.call hp6.below).tail, ?_⟩
        have hp6 := hp5.comb hp6
        refine WH.one 4 rfl (by kernel_rfl) (WL.alloc rfl rfl rfl ?_)
        intro b8 w7 hb8
        have hp7 : Hp w w7 (.blk b8 (.cells #[.slice none 0 0, .slice none 0 0] 46 (0, 0)) :: (TL bY ay cy ks ly dy ++ (.row 50 2 (.slice ag fs.length cg) fs.length (prs fs) :: (.blk b6 (.cells #[.slice ax bx.length cx, .slice lx ks.length dx] 46 (0, 0)) :: .row 50 2 (.slice ao fs.length ca) fs.length (prs fs) :: [.blk b3 (.cells #[.slice ba bl.length bc, .slice la ls.length lc] 46 (0, 0)), .blk b2 (.cells #[.int .i64 n, .slice ea es.length ce] 24 (0, 0))] ++ TL bx ax cx ks lx dx)))) := hp6.new hb8
        have hp7 := Hp.permP hp7 (List.Perm.cons _ List.perm_append_comm)
        refine WL.nil ⟨(Hp.front (A := _ :: _ :: []) hp7), ?_⟩
        refine WH.one 5 rfl (by kernel_rfl) (WL.pure rfl rfl rfl (WL.nil ⟨(Hp.front (A := _ :: _ :: []) hp7), ?_⟩))
        refine WH.one 6 rfl (by kernel_rfl) ?_
        refine WL.storeN rfl rfl rfl rfl rfl (show ∀ u ∈ [Value.slice ay bY.length cy, .slice ly ks.length dy], u.oneCell' = true from Cells.cons rfl (Cells.cons rfl Cells.nil)) (hp7.obj 0 rfl) (Nat.le_refl 2) rfl (fun w8 hw => ?_)
        have hpZ := hp7.set 0 rfl rfl hw
        refine WL.nil ⟨(Hp.front (A := _ :: _ :: []) hpZ), WH.done (by kernel_rfl) ?_⟩
        exact ⟨((ag, cg), b8, bY, ay, cy, ly, dy), ⟨rfl, rfl, rfl, rfl, rfl, rfl⟩, hbY, hpZ⟩
      · refine WL.alloc rfl rfl rfl ?_
        intro b8 w6 hb8
        have hp6 : Hp w w6 (.blk b8 (.cells #[.slice none 0 0, .slice none 0 0] 46 (0, 0)) :: .row 50 2 (.slice ag fs.length cg) fs.length (prs fs) :: (.blk b6 (.cells #[.slice ax bx.length cx, .slice lx ks.length dx] 46 (0, 0)) :: .row 50 2 (.slice ao fs.length ca) fs.length (prs fs) :: [.blk b3 (.cells #[.slice ba bl.length bc, .slice la ls.length lc] 46 (0, 0)), .blk b2 (.cells #[.int .i64 n, .slice ea es.length ce] 24 (0, 0))] ++ TL bx ax cx ks lx dx)) := hp5.new hb8
        refine WL.nil ⟨hp6.tail.tail, ?_⟩
        refine WH.one 3 rfl (by kernel_rfl) ?_
        obtain ⟨tf, _, _⟩ := hbxlen w6 hp6.tail.tail
        refine WL.call rfl rfl rfl rfl rfl ent36 (copied_any ax lx cx dx bx ks w6 tf.bags tf.links tf.cap tf.lcap) ?_
        rintro _ w7 ⟨bY, ay, cy, ly, dy, hbY, hp7, rfl⟩
        rw [hkk] at hp7 ⊢
        rw [hbx, hcc] at hbY
        have hp7 : Hp w6 w7 (TL bY ay cy ks ly dy) := hp7
        have hp7 : Hp w w7 (TL bY ay cy ks ly dy ++ (.blk b8 (.cells #[.slice none 0 0, .slice none 0 0] 46 (0, 0)) :: .row 50 2 (.slice ag fs.length cg) fs.length (prs fs) :: (.blk b6 (.cells #[.slice ax bx.length cx, .slice lx ks.length dx] 46 (0, 0)) :: .row 50 2 (.slice ao fs.length ca) fs.length (prs fs) :: [.blk b3 (.cells #[.slice ba bl.length bc, .slice la ls.length lc] 46 (0, 0)), .blk b2 (.cells #[.int .i64 n, .slice ea es.length ce] 24 (0, 0))] ++ TL bx ax cx ks lx dx))) := hp6.comb hp7
        have hp7 := Hp.permP hp7 List.perm_append_comm
        refine WL.nil ⟨(Hp.front (A := _ :: _ :: []) hp7), ?_⟩
        refine WH.one 5 rfl (by kernel_rfl) (WL.pure rfl rfl rfl (WL.nil ⟨(Hp.front (A := _ :: _ :: []) hp7), ?_⟩))
        refine WH.one 6 rfl (by kernel_rfl) ?_
        refine WL.storeN rfl rfl rfl rfl rfl (show ∀ u ∈ [Value.slice ay bY.length cy, .slice ly ks.length dy], u.oneCell' = true from Cells.cons rfl (Cells.cons rfl Cells.nil)) (hp7.obj 0 rfl) (Nat.le_refl 2) rfl (fun w8 hw => ?_)
        have hpZ := hp7.set 0 rfl rfl hw
        refine WL.nil ⟨(Hp.front (A := _ :: _ :: []) hpZ), WH.done (by kernel_rfl) ?_⟩
        exact ⟨((ag, cg), b8, bY, ay, cy, ly, dy), ⟨rfl, rfl, rfl, rfl, rfl, rfl⟩, hbY, hpZ⟩
    · refine WL.alloc rfl rfl rfl ?_
      intro b8 w5 hb8
      have hp5 : Hp w w5 (.blk b8 (.cells #[.slice none 0 0, .slice none 0 0] 46 (0, 0)) :: (.blk b6 (.cells #[.slice ax bx.length cx, .slice lx ks.length dx] 46 (0, 0)) :: .row 50 2 (.slice ao fs.length ca) fs.length (prs fs) :: [.blk b3 (.cells #[.slice ba bl.length bc, .slice la ls.length lc] 46 (0, 0)), .blk b2 (.cells #[.int .i64 n, .slice ea es.length ce] 24 (0, 0))] ++ TL bx ax cx ks lx dx)) := hp4.new hb8
      refine WL.nil ⟨hp5.tail, ?_⟩
      refine WH.one 1 rfl (by kernel_rfl) ?_
      obtain ⟨tf, hca, sO⟩ := hbxlen w5 hp5.tail
      refine WL.call rfl rfl rfl rfl rfl ent13 (lines_any ao ca fs w5 sO hca) ?_
      rintro _ w6 ⟨ag, cg, hp6, rfl⟩
      rw [hff] at hp6 ⊢
      have hp6 : Hp w w6 (.blk b8 (.cells #[.slice none 0 0, .slice none 0 0] 46 (0, 0)) :: .row 50 2 (.slice ag fs.length cg) fs.length (prs fs) :: (.blk b6 (.cells #[.slice ax bx.length cx, .slice lx ks.length dx] 46 (0, 0)) :: .row 50 2 (.slice ao fs.length ca) fs.length (prs fs) :: [.blk b3 (.cells #[.slice ba bl.length bc, .slice la ls.length lc] 46 (0, 0)), .blk b2 (.cells #[.int .i64 n, .slice ea es.length ce] 24 (0, 0))] ++ TL bx ax cx ks lx dx)) := (hp5.comb hp6).swap
      refine WL.nil ⟨hp6.tail.tail, ?_⟩
      refine WH.one 3 rfl (by kernel_rfl) ?_
      obtain ⟨tf, _, _⟩ := hbxlen w6 hp6.tail.tail
      refine WL.call rfl rfl rfl rfl rfl ent36 (copied_any ax lx cx dx bx ks w6 tf.bags tf.links tf.cap tf.lcap) ?_
      rintro _ w7 ⟨bY, ay, cy, ly, dy, hbY, hp7, rfl⟩
      rw [hkk] at hp7 ⊢
      rw [hbx, hcc] at hbY
      have hp7 : Hp w6 w7 (TL bY ay cy ks ly dy) := hp7
      have hp7 : Hp w w7 (TL bY ay cy ks ly dy ++ (.blk b8 (.cells #[.slice none 0 0, .slice none 0 0] 46 (0, 0)) :: .row 50 2 (.slice ag fs.length cg) fs.length (prs fs) :: (.blk b6 (.cells #[.slice ax bx.length cx, .slice lx ks.length dx] 46 (0, 0)) :: .row 50 2 (.slice ao fs.length ca) fs.length (prs fs) :: [.blk b3 (.cells #[.slice ba bl.length bc, .slice la ls.length lc] 46 (0, 0)), .blk b2 (.cells #[.int .i64 n, .slice ea es.length ce] 24 (0, 0))] ++ TL bx ax cx ks lx dx))) := hp6.comb hp7
      have hp7 := Hp.permP hp7 List.perm_append_comm
      refine WL.nil ⟨(Hp.front (A := _ :: _ :: []) hp7), ?_⟩
      refine WH.one 5 rfl (by kernel_rfl) (WL.pure rfl rfl rfl (WL.nil ⟨(Hp.front (A := _ :: _ :: []) hp7), ?_⟩))
      refine WH.one 6 rfl (by kernel_rfl) ?_
      refine WL.storeN rfl rfl rfl rfl rfl (show ∀ u ∈ [Value.slice ay bY.length cy, .slice ly ks.length dy], u.oneCell' = true from Cells.cons rfl (Cells.cons rfl Cells.nil)) (hp7.obj 0 rfl) (Nat.le_refl 2) rfl (fun w8 hw => ?_)
      have hpZ := hp7.set 0 rfl rfl hw
      refine WL.nil ⟨(Hp.front (A := _ :: _ :: []) hpZ), WH.done (by kernel_rfl) ?_⟩
      exact ⟨((ag, cg), b8, bY, ay, cy, ly, dy), ⟨rfl, rfl, rfl, rfl, rfl, rfl⟩, hbY, hpZ⟩
  rintro ⟨⟨ag, cg⟩, b8, bY, ay, cy, ly, dy⟩ e4 w4 hsub ⟨hbY, hp4⟩
  refine WC.sub hsub ?_
  clear hsub hp3
  obtain ⟨hsmy, hbYl⟩ := small_of (hbY.trans hcs.symm)
  obtain ⟨LL, hp4, L1⟩ : ∃ LL, Hp w w4 LL ∧ ∀ w', Hp w w' LL → (Sl w' ao (prs fs) ∧ Sl w' ag (prs fs) ∧ Tb w') ∧ w'.heap[b2]? = some (.cells #[.int .i64 n, .slice ea es.length ce] 24 (0, 0)) ∧
      w'.heap[b6]? = some (.cells #[.slice ax bx.length cx, .slice lx ks.length dx] 46 (0, 0)) ∧ w'.heap[b8]? = some (.cells #[.slice ay bY.length cy, .slice ly ks.length dy] 46 (0, 0)) ∧ TLf w' bx ax cx ks lx dx ∧ TLf w' bY ay cy ks ly dy := by
    refine ⟨_, hp4, fun w' h => ⟨⟨Sl.of_row (h.at 3 rfl), Sl.of_row (h.at 1 rfl), hT.below h.below⟩, h.obj 5 rfl, h.obj 2 rfl, h.obj 0 rfl, TL_facts fun x hx => h.sat x ?_, TL_facts fun x hx => h.sat x (List.mem_append_right _ hx)⟩⟩
    simp only [List.cons_append, List.mem_cons, List.mem_append]
    simp [hx]
  have fin : ∀ w', Tb w' → (∀ w'', Hp w' w'' [] → Hp w w'' []) → Ret Tryd.prog 19 [] w' fun v w'' => v = .bool true ∧ Hp w w'' [] := fun w' hTw hh => (awake_any w' hTw).mono fun v w'' ⟨h1, h2⟩ => ⟨h1, hh w'' h2⟩
  obtain ⟨⟨sO, sG, hT4⟩, hB2, hB6, hB8, tx, ty⟩ := L1 w4 hp4
  have hCh := Check_any ag ay ly cg cy dy n fs bY ks w4 sG hf62 ty.bags hsmy (by omega) ty.links
  rw [hbY] at hCh
  obtain ⟨k9, e9, hcv⟩ : ∃ k e, chkV n fs cs ks = .tuple #[.int .i64 k, .int .i64 e] := by
    unfold chkV
    split
    · exact ⟨_, _, rfl⟩
    · split
      · exact ⟨_, _, rfl⟩
      · exact ⟨_, _, rfl⟩
  rw [hcv] at hCh
  repeat (first | refine WC.seq ?_ | refine WC.reg ?_ | refine WL.pure rfl rfl rfl ?_ | refine WL.nil ?_ | refine WC.skip ?_ | refine WC.block ?_ | refine WC.condT rfl ?_ | refine WC.condF rfl ?_ | refine WL.off rfl rfl rfl ?_ | refine WL.off0 rfl rfl ?_ | refine WC.exit ?_ | refine blk_hit ?_ | refine blk_miss rfl ?_ | refine WC.ret ?_)
  refine WL.loadB rfl rfl rfl rfl rfl hB2 rfl ?_
  repeat (first | refine WC.seq ?_ | refine WC.reg ?_ | refine WL.pure rfl rfl rfl ?_ | refine WL.nil ?_ | refine WC.skip ?_ | refine WC.block ?_ | refine WC.condT rfl ?_ | refine WC.condF rfl ?_ | refine WL.off rfl rfl rfl ?_ | refine WL.off0 rfl rfl ?_ | refine WC.exit ?_ | refine blk_hit ?_ | refine blk_miss rfl ?_ | refine WC.ret ?_)
  refine WL.loadN (cs := [.slice ay bY.length cy, .slice ly ks.length dy]) rfl rfl rfl rfl rfl rfl (fun j v hj => cell_of_obj hB8 (by rw [Nat.zero_add]; simpa using hj)) ?_
  refine WL.call rfl rfl rfl rfl rfl ent34 hCh ?_
  rintro _ w5 ⟨hp5, rfl⟩
  have hp5 := hp4.call hp5.below
  obtain ⟨⟨sO, sG, hT5⟩, hB2, hB6, hB8, tx, ty⟩ := L1 w5 hp5
  repeat (first | refine WC.seq ?_ | refine WC.reg ?_ | refine WL.pure rfl rfl rfl ?_ | refine WL.nil ?_ | refine WC.skip ?_ | refine WC.block ?_ | refine WC.condT rfl ?_ | refine WC.condF rfl ?_ | refine WL.off rfl rfl rfl ?_ | refine WL.off0 rfl rfl ?_ | refine WC.exit ?_ | refine blk_hit ?_ | refine blk_miss rfl ?_ | refine WC.ret ?_)
  refine WL.call rfl rfl rfl rfl rfl ent15 (edges_any ag ao cg ca fs fs w5 sG sO hf62) ?_
  rintro _ w6 ⟨hp6, rfl⟩
  rw [decide_eq_true rfl]
  have hp6 := hp5.call hp6.below
  obtain ⟨⟨sO, sG, hT6⟩, hB2, hB6, hB8, tx, ty⟩ := L1 w6 hp6
  repeat (first | refine WC.seq ?_ | refine WC.reg ?_ | refine WL.pure rfl rfl rfl ?_ | refine WL.nil ?_ | refine WC.skip ?_ | refine WC.block ?_ | refine WC.condT rfl ?_ | refine WC.condF rfl ?_ | refine WL.off rfl rfl rfl ?_ | refine WL.off0 rfl rfl ?_ | refine WC.exit ?_ | refine blk_hit ?_ | refine blk_miss rfl ?_ | refine WC.ret ?_)
  refine WL.loadN (cs := [.slice ay bY.length cy, .slice ly ks.length dy]) rfl rfl rfl rfl rfl rfl (fun j v hj => cell_of_obj hB8 (by rw [Nat.zero_add]; simpa using hj)) ?_
  refine WL.loadN (cs := [.slice ax bx.length cx, .slice lx ks.length dx]) rfl rfl rfl rfl rfl rfl (fun j v hj => cell_of_obj hB6 (by rw [Nat.zero_add]; simpa using hj)) ?_
  refine WL.call rfl rfl rfl rfl rfl ent37 (equal_any ay ax ly lx cy cx dy dx bY bx ks (by rw [hbx, hbY]) w6 ty.bags tx.bags ty.links tx.links hsmy (by omega) (by omega)) ?_
  rintro _ w7 ⟨hp7, rfl⟩
  have hp7 := hp6.call hp7.below
  obtain ⟨⟨sO, sG, hT7⟩, hB2, hB6, hB8, tx, ty⟩ := L1 w7 hp7
  repeat (first | refine WC.seq ?_ | refine WC.reg ?_ | refine WL.pure rfl rfl rfl ?_ | refine WL.nil ?_ | refine WC.skip ?_ | refine WC.block ?_ | refine WC.condT rfl ?_ | refine WC.condF rfl ?_ | refine WL.off rfl rfl rfl ?_ | refine WL.off0 rfl rfl ?_ | refine WC.exit ?_ | refine blk_hit ?_ | refine blk_miss rfl ?_ | refine WC.ret ?_)
  refine WL.loadB rfl rfl rfl rfl rfl hB2 rfl ?_
  repeat (first | refine WC.seq ?_ | refine WC.reg ?_ | refine WL.pure rfl rfl rfl ?_ | refine WL.nil ?_ | refine WC.skip ?_ | refine WC.block ?_ | refine WC.condT rfl ?_ | refine WC.condF rfl ?_ | refine WL.off rfl rfl rfl ?_ | refine WL.off0 rfl rfl ?_ | refine WC.exit ?_ | refine blk_hit ?_ | refine blk_miss rfl ?_ | refine WC.ret ?_)
  refine WL.call rfl rfl rfl rfl rfl ent18 (Graph_any ao ca n fs w7 sO hf62) ?_
  rintro _ w8 ⟨hp8, rfl⟩
  have hp8 := hp7.call hp8.below
  obtain ⟨⟨sO, sG, hT8⟩, hB2, hB6, hB8, tx, ty⟩ := L1 w8 hp8
  cases hmk : mkG n fs with
  | none =>
    have he : k9 = 0 ∧ e9 = 2 := by
      simp only [chkV, hmk] at hcv
      simp at hcv
      exact ⟨hcv.1.symm, hcv.2.symm⟩
    obtain ⟨rfl, rfl⟩ := he
    repeat (first | refine WC.seq ?_ | refine WC.reg ?_ | refine WL.pure rfl rfl rfl ?_ | refine WL.nil ?_ | refine WC.skip ?_ | refine WC.block ?_ | refine WC.condT rfl ?_ | refine WC.condF rfl ?_ | refine WL.off rfl rfl rfl ?_ | refine WL.off0 rfl rfl ?_ | refine WC.exit ?_ | refine blk_hit ?_ | refine blk_miss rfl ?_ | refine WC.ret ?_)
    refine WL.call rfl rfl rfl rfl rfl ent19 (fin w8 hT8 (fun w'' h => (hp8.call h.below).nil')) ?_
    rintro _ w9 ⟨rfl, hp9⟩
    repeat (first | refine WC.seq ?_ | refine WC.reg ?_ | refine WL.pure rfl rfl rfl ?_ | refine WL.nil ?_ | refine WC.skip ?_ | refine WC.block ?_ | refine WC.condT rfl ?_ | refine WC.condF rfl ?_ | refine WL.off rfl rfl rfl ?_ | refine WL.off0 rfl rfl ?_ | refine WC.exit ?_ | refine blk_hit ?_ | refine blk_miss rfl ?_ | refine WC.ret ?_)
    exact Res.one rfl rfl rfl ⟨rfl, hp9⟩
  | some g =>
    obtain ⟨hg, hgn, hn0, _, _⟩ := mkG_gr hmk
    obtain ⟨m, rfl⟩ := Int.eq_ofNat_of_zero_le hn0
    have hgn : g.length = m := by simpa using hgn
    subst hgn
    have hRt := Right_any ao ax lx ca cx dx g fs hmk bx ks w8 sO tx.bags hsmx (by omega) tx.links
    rw [hbx] at hRt
    simp only [chkV, hmk, chk_rgt hmk] at hcv
    repeat (first | refine WC.seq ?_ | refine WC.reg ?_ | refine WL.pure rfl rfl rfl ?_ | refine WL.nil ?_ | refine WC.skip ?_ | refine WC.block ?_ | refine WC.condT rfl ?_ | refine WC.condF rfl ?_ | refine WL.off rfl rfl rfl ?_ | refine WL.off0 rfl rfl ?_ | refine WC.exit ?_ | refine blk_hit ?_ | refine blk_miss rfl ?_ | refine WC.ret ?_)
    refine WL.loadB rfl rfl rfl rfl rfl hB2 rfl ?_
    repeat (first | refine WC.seq ?_ | refine WC.reg ?_ | refine WL.pure rfl rfl rfl ?_ | refine WL.nil ?_ | refine WC.skip ?_ | refine WC.block ?_ | refine WC.condT rfl ?_ | refine WC.condF rfl ?_ | refine WL.off rfl rfl rfl ?_ | refine WL.off0 rfl rfl ?_ | refine WC.exit ?_ | refine blk_hit ?_ | refine blk_miss rfl ?_ | refine WC.ret ?_)
    refine WL.loadN (cs := [.slice ax bx.length cx, .slice lx ks.length dx]) rfl rfl rfl rfl rfl rfl (fun j v hj => cell_of_obj hB6 (by rw [Nat.zero_add]; simpa using hj)) ?_
    refine WL.call rfl rfl rfl rfl rfl ent29 hRt ?_
    rintro _ w9 ⟨hp9, rfl⟩
    have hp9 := hp8.call hp9.below
    obtain ⟨⟨sO, sG, hT9⟩, _⟩ := L1 w9 hp9
    cases hR : rgtB g.length fs cs ks with
    | true =>
      rw [rgtV, if_pos hR]
      rw [if_pos hR] at hcv
      simp at hcv
      obtain ⟨rfl, rfl⟩ := hcv
      repeat (first | refine WC.seq ?_ | refine WC.reg ?_ | refine WL.pure rfl rfl rfl ?_ | refine WL.nil ?_ | refine WC.skip ?_ | refine WC.block ?_ | refine WC.condT rfl ?_ | refine WC.condF rfl ?_ | refine WL.off rfl rfl rfl ?_ | refine WL.off0 rfl rfl ?_ | refine WC.exit ?_ | refine blk_hit ?_ | refine blk_miss rfl ?_ | refine WC.ret ?_)
      refine WL.split 76 (b := true) (by simp [W.look]) (fun _ => ?_) (fun h => by cases h)
      repeat (first | refine WC.seq ?_ | refine WC.reg ?_ | refine WL.pure rfl rfl rfl ?_ | refine WL.nil ?_ | refine WC.skip ?_ | refine WC.block ?_ | refine WC.condT rfl ?_ | refine WC.condF rfl ?_ | refine WL.off rfl rfl rfl ?_ | refine WL.off0 rfl rfl ?_ | refine WC.exit ?_ | refine blk_hit ?_ | refine blk_miss rfl ?_ | refine WC.ret ?_)
      refine WL.call rfl rfl rfl rfl rfl ent19 (fin w9 hT9 (fun w'' h => (hp9.call h.below).nil')) ?_
      rintro _ wA ⟨rfl, hpA⟩
      repeat (first | refine WC.seq ?_ | refine WC.reg ?_ | refine WL.pure rfl rfl rfl ?_ | refine WL.nil ?_ | refine WC.skip ?_ | refine WC.block ?_ | refine WC.condT rfl ?_ | refine WC.condF rfl ?_ | refine WL.off rfl rfl rfl ?_ | refine WL.off0 rfl rfl ?_ | refine WC.exit ?_ | refine blk_hit ?_ | refine blk_miss rfl ?_ | refine WC.ret ?_)
      exact Res.one rfl rfl rfl ⟨rfl, hpA⟩
    | false =>
      rw [rgtV, if_neg (by rw [hR]; decide)]
      rw [if_neg (by rw [hR]; decide)] at hcv
      simp at hcv
      obtain ⟨rfl, rfl⟩ := hcv
      repeat (first | refine WC.seq ?_ | refine WC.reg ?_ | refine WL.pure rfl rfl rfl ?_ | refine WL.nil ?_ | refine WC.skip ?_ | refine WC.block ?_ | refine WC.condT rfl ?_ | refine WC.condF rfl ?_ | refine WL.off rfl rfl rfl ?_ | refine WL.off0 rfl rfl ?_ | refine WC.exit ?_ | refine blk_hit ?_ | refine blk_miss rfl ?_ | refine WC.ret ?_)
      refine WL.call rfl rfl rfl rfl rfl ent19 (fin w9 hT9 (fun w'' h => (hp9.call h.below).nil')) ?_
      rintro _ wA ⟨rfl, hpA⟩
      repeat (first | refine WC.seq ?_ | refine WC.reg ?_ | refine WL.pure rfl rfl rfl ?_ | refine WL.nil ?_ | refine WC.skip ?_ | refine WC.block ?_ | refine WC.condT rfl ?_ | refine WC.condF rfl ?_ | refine WL.off rfl rfl rfl ?_ | refine WL.off0 rfl rfl ?_ | refine WC.exit ?_ | refine blk_hit ?_ | refine blk_miss rfl ?_ | refine WC.ret ?_)
      exact Res.one rfl rfl rfl ⟨rfl, hpA⟩
end Go.Proofs.YtdnkkflpgebfbaaDoor
