/- The walks of a factorization, and of what is irreducible. -/
import Derived.Test.YtagfpnnplgkkoaaR28
namespace Go.Poly
open Go.W Go.Tree
theorem mv3 {α : Type} (R a b c x : α) (B B' M : List α) : ((R :: B') ++ ((a :: b :: c :: B) ++ (x :: M))).Perm (a :: b :: c :: R :: ((x :: (B' ++ B)) ++ M)) := by
  have h1 : (B' ++ (a :: b :: c :: (B ++ x :: M))).Perm (a :: b :: c :: (B' ++ (B ++ x :: M))) :=
    (List.perm_middle).trans ((List.perm_middle.trans ((List.perm_middle).cons b)).cons a)
  have h2 : (B' ++ (B ++ x :: M)).Perm (x :: ((B' ++ B) ++ M)) := by rw [← List.append_assoc]; exact List.perm_middle
  have h3 : (B' ++ (a :: b :: c :: (B ++ x :: M))).Perm (a :: b :: c :: x :: ((B' ++ B) ++ M)) := h1.trans (((h2.cons c).cons b).cons a)
  exact (h3.cons R).trans (List.perm_middle (a := R) (l₁ := [a, b, c]) (l₂ := x :: ((B' ++ B) ++ M))).symm
end Go.Poly
namespace Go.Proofs.Ytagfpnnplgkkoaa
open Go.W Go.Poly Go.Tree Go.RowKit
set_option maxRecDepth 100000
attribute [local irreducible] WC WL WQ WS WH

abbrev FS := Option Addr × Nat × List FE × List (Value × List Nat)
/-- What a factorization keeps in memory while it goes on. -/
def LF (p bo bp : Nat) (_ : Yds) : FS → List Ent
  | (a, c, fs, bag) => Fr (.slice a fs.length c) fs :: .blk bo (.cells #[.slice a fs.length c] 55 (0, 0)) :: .blk bp (.cells #[.int .i64 (p : Nat)] 66 (0, 0)) :: bagE bag
def IV (p : Nat) (acc : Yds) : FS → Prop
  | (_, _, fs, bag) => fs.map prE = spl p acc ∧ (∀ e ∈ fs, e.1 ∈ bag ∧ GP p e.1.2) ∧ fs.length ≤ 400 * acc.length

theorem facC_any (p bo bp : Nat) (hpp : Pri p) (hp : p ≤ 1021) (w0 : World) (acc : Yds) (s : FS) (mine : List Ent) (v : Value) (g : List Nat) (t : Nat) (w : World) (hal : acc.length ≤ 50000) (hI : IV p acc s) (hL : Hp w0 w (LF p bo bp acc s ++ Rw v g :: mine)) (hg : GP p g) :
    Ret Try.prog 82 [v, .int .i64 (t : Nat), .pointer (some ⟨bp, 0, none⟩), .pointer (some ⟨bo, 0, none⟩)] w fun _ w'' => ∃ s', IV p (acc ++ [(g, t)]) s' ∧ Hp w0 w'' (LF p bo bp (acc ++ [(g, t)]) s' ++ mine) := by
  obtain ⟨a, c, fs, bag⟩ := s
  obtain ⟨hf, hb, hlen⟩ := hI
  have hL : Hp w0 w ((Fr (.slice a fs.length c) fs :: .blk bo (.cells #[.slice a fs.length c] 55 (0, 0)) :: .blk bp (.cells #[.int .i64 (p : Nat)] 66 (0, 0)) :: bagE bag) ++ Rw v g :: mine) := hL
  have sv : Pd w v g := Pd.row (hL.permP List.perm_middle) 0 rfl
  refine enter Try.func82 rfl rfl ⟨rfl, rfl⟩ rfl ?_
  repeat (first | refine WC.seq ?_ | refine WC.reg ?_ | refine WL.pure rfl rfl rfl ?_ | refine WL.nil ?_ | refine WC.skip ?_ | refine WC.block ?_ | refine WC.condT rfl ?_ | refine WC.condF rfl ?_ | refine WL.off rfl rfl rfl ?_ | refine WL.off0 rfl rfl ?_ | refine WC.exit ?_ | refine blk_hit ?_ | refine blk_miss rfl ?_ | refine WC.ret ?_)
  refine WL.loadB rfl rfl rfl rfl rfl (hL.obj 2 rfl) rfl ?_
  repeat (first | refine WC.seq ?_ | refine WC.reg ?_ | refine WL.pure rfl rfl rfl ?_ | refine WL.nil ?_ | refine WC.skip ?_ | refine WC.block ?_ | refine WC.condT rfl ?_ | refine WC.condF rfl ?_ | refine WL.off rfl rfl rfl ?_ | refine WL.off0 rfl rfl ?_ | refine WC.exit ?_ | refine blk_hit ?_ | refine blk_miss rfl ?_ | refine WC.ret ?_)
  refine WL.call rfl rfl rfl rfl rfl ent83 (split_pd p v g hpp hp hg w sv) ?_
  rintro vu w1 ⟨ps, bag2, hps, hpb, hpg, hpl, hp1⟩
  have hp2 := (hL.comb hp1).permP (mv3 _ _ _ _ _ _ _ _)
  have hbe : Rw v g :: (bagE bag2 ++ bagE bag) = bagE ((v, g) :: (bag2 ++ bag)) := by simp [bagE]
  rw [hbe] at hp2
  have hpb2 : ∀ e ∈ ps, e ∈ (v, g) :: (bag2 ++ bag) := fun e he => by
    rcases hpb e he with h | h
    · rw [h]; simp
    · simp [h]
  obtain ⟨pa, pc, rfl, -⟩ := Rs_shape hp1 0 rfl
  clear hp1 hL sv
  repeat (first | refine WC.seq ?_ | refine WC.reg ?_ | refine WL.pure rfl rfl rfl ?_ | refine WL.nil ?_ | refine WC.skip ?_ | refine WC.block ?_ | refine WC.condT rfl ?_ | refine WC.condF rfl ?_ | refine WL.off rfl rfl rfl ?_ | refine WL.off0 rfl rfl ?_ | refine WC.exit ?_ | refine blk_hit ?_ | refine blk_miss rfl ?_ | refine WC.ret ?_)
  refine WC.loop (Nat × Option Addr × Nat) (fun (k, _, _) => [(1, .int .i64 (t : Nat)), (3, .pointer (some ⟨bo, 0, none⟩)), (10, .slice pa ps.length pc), (11, .int .i64 (ps.length : Nat)), (12, .int .i64 (k : Nat))])
    (fun (k, a, c) w' => k ≤ ps.length ∧ Hp w0 w' (Fr (.slice a (fs ++ (ps.take k).map fun e => (e, t)).length c) (fs ++ (ps.take k).map fun e => (e, t)) :: .blk bo (.cells #[.slice a (fs ++ (ps.take k).map fun e => (e, t)).length c] 55 (0, 0)) :: .blk bp (.cells #[.int .i64 (p : Nat)] 66 (0, 0)) ::
      Rs (.slice pa ps.length pc) ps :: (bagE ((v, g) :: (bag2 ++ bag)) ++ mine))) (fun (k, _, _) => ps.length - k) (0, a, c) ⟨rfl, rfl, rfl, rfl, rfl, rfl⟩ ⟨Nat.zero_le _, by simp only [List.take_zero, List.map_nil, List.append_nil]; exact hp2⟩ ?_
  clear hp2
  rintro ⟨k, a, c⟩ w1 ⟨hk, hp1⟩
  repeat (first | refine WC.seq ?_ | refine WC.reg ?_ | refine WL.pure rfl rfl rfl ?_ | refine WL.nil ?_ | refine WC.skip ?_ | refine WC.block ?_ | refine WC.condT rfl ?_ | refine WC.condF rfl ?_ | refine WL.off rfl rfl rfl ?_ | refine WL.off0 rfl rfl ?_ | refine WC.exit ?_ | refine blk_hit ?_ | refine blk_miss rfl ?_ | refine WC.ret ?_)
  refine WC.cond rfl (fun hc => ?_) (fun hc => ?_)
  · have hk : k < ps.length := by have := of_decide_eq_true hc; omega
    have step : IntKind.i64.wrap ((k : Int) + 1) = ((k + 1 : Nat) : Int) := by rw [wrap_i64_in (by omega) (by omega)]; omega
    obtain ⟨x1, x2, he, hsp⟩ := Rs_shape hp1 3 rfl
    simp only [Value.slice.injEq, true_and] at he
    obtain ⟨rfl, rfl⟩ := he
    have htk : ps.take (k + 1) = ps.take k ++ [ps[k]] := List.take_succ_eq_append_getElem hk
    have hat := ps_at hk
    have hpd : Pd w1 ps[k].1 ps[k].2 := bag_pd (A := [_, _, _, _]) (hp1.subl (.cons_cons _ (.cons_cons _ (.cons_cons _ (.cons_cons _ (List.sublist_append_left _ _)))))) (hpb2 _ (List.getElem_mem hk))
    have hfs : fs ++ (ps.take (k + 1)).map (fun e => (e, t)) = (fs ++ (ps.take k).map fun e => (e, t)) ++ [(ps[k], t)] := by rw [htk, List.map_append, List.append_assoc]; rfl
    have hlk : (fs ++ (ps.take k).map fun e => (e, t)).length ≤ 30000000 := by
      rw [List.length_append, List.length_map, List.length_take]
      omega
    generalize ps[k] = ek at *
    obtain ⟨ev, h⟩ := ek
    have hpd : Pd w1 ev h := hpd
    obtain ⟨ea, ec, rfl, -⟩ := hpd
    generalize hF : (fs ++ (ps.take k).map fun e => (e, t)) = F at *
    repeat (first | refine WC.seq ?_ | refine WC.reg ?_ | refine WL.pure rfl rfl rfl ?_ | refine WL.nil ?_ | refine WC.skip ?_ | refine WC.block ?_ | refine WC.condT rfl ?_ | refine WC.condF rfl ?_ | refine WL.off rfl rfl rfl ?_ | refine WL.off0 rfl rfl ?_ | refine WC.exit ?_ | refine blk_hit ?_ | refine blk_miss rfl ?_ | refine WC.ret ?_)
    refine WL.ixload rfl (fun _ => rfl) rfl rfl rfl rfl rfl rfl rfl hk rfl rfl hsp hat ?_
    intro pb
    repeat (first | refine WC.seq ?_ | refine WC.reg ?_ | refine WL.pure rfl rfl rfl ?_ | refine WL.nil ?_ | refine WC.skip ?_ | refine WC.block ?_ | refine WC.condT rfl ?_ | refine WC.condF rfl ?_ | refine WL.off rfl rfl rfl ?_ | refine WL.off0 rfl rfl ?_ | refine WC.exit ?_ | refine blk_hit ?_ | refine blk_miss rfl ?_ | refine WC.ret ?_)
    refine WL.loadB rfl rfl rfl rfl rfl (hp1.obj 1 rfl) rfl ?_
    repeat (first | refine WC.seq ?_ | refine WC.reg ?_ | refine WL.pure rfl rfl rfl ?_ | refine WL.nil ?_ | refine WC.skip ?_ | refine WC.block ?_ | refine WC.condT rfl ?_ | refine WC.condF rfl ?_ | refine WL.off rfl rfl rfl ?_ | refine WL.off0 rfl rfl ?_ | refine WC.exit ?_ | refine blk_hit ?_ | refine blk_miss rfl ?_ | refine WC.ret ?_)
    refine WL.buildT (cs := [.slice ea h.length ec, .int .i64 (t : Nat)]) rfl rfl rfl rfl rfl rfl ?_
    refine WL.buildS (cs := [.slice ea h.length ec, .int .i64 (t : Nat)]) rfl rfl rfl rfl rfl rfl rfl rfl rfl ?_
    intro bs w2 hbs
    have hp2 := hp1.new hbs
    refine WL.append 1 hp2 rfl rfl rfl rfl rfl (by decide) rfl rfl rfl (news := [.slice ea h.length ec, .int .i64 (t : Nat)]) (Sl.of_obj (hp2.obj 0 rfl) (fun q u hq => by simpa using hq)) rfl (Cells.cons rfl (Cells.cons rfl Cells.nil)) (by unfold maxLen; omega) (by show (F.length + 1) * 32 ≤ _; omega) ?_
    intro a' c' w3 hp3 hg3
    refine WL.store rfl rfl rfl rfl rfl rfl (hp3.obj 2 rfl) (show 0 < 1 by decide) (fun w4 hw4 => ?_)
    have hp4 := (hp3.set 2 rfl rfl hw4).tail
    repeat (first | refine WC.seq ?_ | refine WC.reg ?_ | refine WL.pure rfl rfl rfl ?_ | refine WL.nil ?_ | refine WC.skip ?_ | refine WC.block ?_ | refine WC.condT rfl ?_ | refine WC.condF rfl ?_ | refine WL.off rfl rfl rfl ?_ | refine WL.off0 rfl rfl ?_ | refine WC.exit ?_ | refine blk_hit ?_ | refine blk_miss rfl ?_ | refine WC.ret ?_)
    refine ⟨(k + 1, a', c'), by show ps.length - (k + 1) < ps.length - k; omega, ⟨rfl, rfl, rfl, rfl, congrArg (fun z => some (Value.int .i64 z)) step, rfl⟩, hk, ?_⟩
    rw [hfs]
    have e1 : (F ++ [((Value.slice ea h.length ec, h), t)]).length = F.length + 1 := by simp
    have e2 : fcs (F ++ [((Value.slice ea h.length ec, h), t)]) = fcs F ++ [.slice ea h.length ec, .int .i64 (t : Nat)] := by simp [fcs, fc]
    show Hp w0 w4 (Ent.row _ 2 _ _ _ :: _)
    rw [e1, e2]
    exact hp4
  · have hk : k = ps.length := by have := of_decide_eq_false hc; omega
    subst hk
    simp only [List.take_length] at hp1
    repeat (first | refine WC.seq ?_ | refine WC.reg ?_ | refine WL.pure rfl rfl rfl ?_ | refine WL.nil ?_ | refine WC.skip ?_ | refine WC.block ?_ | refine WC.condT rfl ?_ | refine WC.condF rfl ?_ | refine WL.off rfl rfl rfl ?_ | refine WL.off0 rfl rfl ?_ | refine WC.exit ?_ | refine blk_hit ?_ | refine blk_miss rfl ?_ | refine WC.ret ?_)
    refine Res.zero rfl rfl ⟨(a, c, fs ++ ps.map fun e => (e, t), (v, g) :: (bag2 ++ bag)), ⟨?_, ?_, ?_⟩, ?_⟩
    · rw [List.map_append, hf]
      unfold spl
      rw [List.flatMap_append, List.flatMap_cons, List.flatMap_nil, List.append_nil, ← hps]
      congr 1
      rw [List.map_map, List.map_map]
      rfl
    · intro e he
      rcases List.mem_append.1 he with he | he
      · exact ⟨by simp [(hb e he).1], (hb e he).2⟩
      · obtain ⟨x, hx, rfl⟩ := List.mem_map.1 he
        exact ⟨hpb2 x hx, hpg x hx⟩
    · rw [List.length_append, List.length_append, List.length_map]
      simp only [List.length_cons, List.length_nil]
      omega
    · exact hp1.subl (.cons_cons _ (.cons_cons _ (.cons_cons _ (.cons _ (List.Sublist.refl _)))))

theorem factors_pd (p : Nat) (vf : Value) (f : List Nat) (ys : Yds) (hpp : Pri p) (hp : p ≤ 1021) (hlf : f.length ≤ 400) (hys : sqL p f = some ys) (hs12 : (spl p ys).length ≤ 12) (w : World) (sf : Pd w vf f) :
    Ret Try.prog 58 [.int .i64 (p : Nat), vf] w fun u w' => ∃ (fs : List FE) (bag : List (Value × List Nat)), fs.map prE = isrt ltQ ((spl p ys).length - 1) (spl p ys) ∧ (∀ e ∈ fs, e.1 ∈ bag ∧ GP p e.1.2) ∧ Hp w w' (Fr u fs :: bagE bag) := by
  refine enter Try.func58 rfl rfl ⟨rfl, rfl⟩ rfl ?_
  repeat (first | refine WC.seq ?_ | refine WC.reg ?_ | refine WL.pure rfl rfl rfl ?_ | refine WL.nil ?_ | refine WC.skip ?_ | refine WC.block ?_ | refine WC.condT rfl ?_ | refine WC.condF rfl ?_ | refine WL.off rfl rfl rfl ?_ | refine WL.off0 rfl rfl ?_ | refine WC.exit ?_ | refine blk_hit ?_ | refine blk_miss rfl ?_ | refine WC.ret ?_)
  refine WL.box rfl rfl rfl ?_
  intro bp w1 hbp
  have hp1 := (Hp.start w).new hbp
  repeat (first | refine WC.seq ?_ | refine WC.reg ?_ | refine WL.pure rfl rfl rfl ?_ | refine WL.nil ?_ | refine WC.skip ?_ | refine WC.block ?_ | refine WC.condT rfl ?_ | refine WC.condF rfl ?_ | refine WL.off rfl rfl rfl ?_ | refine WL.off0 rfl rfl ?_ | refine WC.exit ?_ | refine blk_hit ?_ | refine blk_miss rfl ?_ | refine WC.ret ?_)
  refine WL.alloc rfl rfl rfl ?_
  intro bo w2 hbo
  have hp2 := (hp1.new hbo).nilrow 59 2
  have hL : Hp w w2 (LF p bo bp [] (none, 0, [], []) ++ []) := hp2
  repeat (first | refine WC.seq ?_ | refine WC.reg ?_ | refine WL.pure rfl rfl rfl ?_ | refine WL.nil ?_ | refine WC.skip ?_ | refine WC.block ?_ | refine WC.condT rfl ?_ | refine WC.condF rfl ?_ | refine WL.off rfl rfl rfl ?_ | refine WL.off0 rfl rfl ?_ | refine WC.exit ?_ | refine blk_hit ?_ | refine blk_miss rfl ?_ | refine WC.ret ?_)
  refine WL.loadB rfl rfl rfl rfl rfl (hp2.obj 2 rfl) rfl ?_
  repeat (first | refine WC.seq ?_ | refine WC.reg ?_ | refine WL.pure rfl rfl rfl ?_ | refine WL.nil ?_ | refine WC.skip ?_ | refine WC.block ?_ | refine WC.condT rfl ?_ | refine WC.condF rfl ?_ | refine WL.off rfl rfl rfl ?_ | refine WL.off0 rfl rfl ?_ | refine WC.exit ?_ | refine blk_hit ?_ | refine blk_miss rfl ?_ | refine WC.ret ?_)
  refine WL.call rfl rfl rfl rfl rfl ent81 (square_any p hpp hp 82 #[.pointer (some ⟨bp, 0, none⟩), .pointer (some ⟨bo, 0, none⟩)] FS (LF p bo bp) (IV p) w ent82
    (fun acc s mine v g t w' h1 h2 h3 h4 h5 h6 _ => facC_any p bo bp hpp hp w acc s mine v g t w' h1 h2 h3 ⟨h4, h5, h6⟩) 34 f 1 [] (none, 0, [], []) [] ys vf w2 hlf (by omega) (by omega) (by simp) (sf.hp hp2) ⟨rfl, (fun e he => by cases he), Nat.zero_le _⟩ hL hys) ?_
  rintro _ w3 ⟨⟨a, c, fs, bag⟩, ⟨hf, hb, hlen⟩, hL3, -⟩
  rw [List.nil_append] at hf
  have hL3 : Hp w w3 ((Fr (.slice a fs.length c) fs :: .blk bo (.cells #[.slice a fs.length c] 55 (0, 0)) :: .blk bp (.cells #[.int .i64 (p : Nat)] 66 (0, 0)) :: bagE bag) ++ []) := hL3
  have hfl : fs.length = (spl p ys).length := by rw [← hf, List.length_map]
  repeat (first | refine WC.seq ?_ | refine WC.reg ?_ | refine WL.pure rfl rfl rfl ?_ | refine WL.nil ?_ | refine WC.skip ?_ | refine WC.block ?_ | refine WC.condT rfl ?_ | refine WC.condF rfl ?_ | refine WL.off rfl rfl rfl ?_ | refine WL.off0 rfl rfl ?_ | refine WC.exit ?_ | refine blk_hit ?_ | refine blk_miss rfl ?_ | refine WC.ret ?_)
  refine WL.loadB rfl rfl rfl rfl rfl (hL3.obj 1 rfl) rfl ?_
  repeat (first | refine WC.seq ?_ | refine WC.reg ?_ | refine WL.pure rfl rfl rfl ?_ | refine WL.nil ?_ | refine WC.skip ?_ | refine WC.block ?_ | refine WC.condT rfl ?_ | refine WC.condF rfl ?_ | refine WL.off rfl rfl rfl ?_ | refine WL.off0 rfl rfl ?_ | refine WC.exit ?_ | refine blk_hit ?_ | refine blk_miss rfl ?_ | refine WC.ret ?_)
  refine WL.call rfl rfl rfl rfl rfl ent84 (sort_any (.slice a fs.length c) fs bag [_, _] [] (by omega) (fun e he => ⟨(hb e he).1, by have := (hb e he).2.2.2; omega⟩) w w3 hL3) ?_
  rintro _ w4 hp4
  have hpm := isrt_perm ltE (fs.length - 1) fs
  repeat (first | refine WC.seq ?_ | refine WC.reg ?_ | refine WL.pure rfl rfl rfl ?_ | refine WL.nil ?_ | refine WC.skip ?_ | refine WC.block ?_ | refine WC.condT rfl ?_ | refine WC.condF rfl ?_ | refine WL.off rfl rfl rfl ?_ | refine WL.off0 rfl rfl ?_ | refine WC.exit ?_ | refine blk_hit ?_ | refine blk_miss rfl ?_ | refine WC.ret ?_)
  refine WL.loadB rfl rfl rfl rfl rfl (hp4.obj 1 rfl) rfl ?_
  repeat (first | refine WC.seq ?_ | refine WC.reg ?_ | refine WL.pure rfl rfl rfl ?_ | refine WL.nil ?_ | refine WC.skip ?_ | refine WC.block ?_ | refine WC.condT rfl ?_ | refine WC.condF rfl ?_ | refine WL.off rfl rfl rfl ?_ | refine WL.off0 rfl rfl ?_ | refine WC.exit ?_ | refine blk_hit ?_ | refine blk_miss rfl ?_ | refine WC.ret ?_)
  refine Res.one rfl rfl rfl ⟨isrt ltE (fs.length - 1) fs, bag, by rw [isrt_E, hf, hfl], fun e he => hb e (hpm.subset he), ?_⟩
  refine (hp4.subl ?_)
  exact .cons_cons _ (.cons _ (.cons _ (List.sublist_append_left _ _)))

theorem irreducible_pd (p : Nat) (vf : Value) (f : List Nat) (hpp : Pri p) (hp : p ≤ 1021) (hf : IsP p f) (hlf : f.length ≤ 400) (w : World) (sf : Pd w vf f) :
    Ret Try.prog 60 [.int .i64 (p : Nat), vf] w fun u w' => u = .bool (irrL p f) ∧ Hp w w' [] := by
  have sf' := sf
  obtain ⟨fa, fc, rfl, -⟩ := sf
  have hdi := slope_isP hpp.pos f
  have hdl := slope_len p f
  refine enter Try.func60 rfl rfl ⟨rfl, rfl⟩ rfl ?_
  repeat (first | refine WC.seq ?_ | refine WC.reg ?_ | refine WL.pure rfl rfl rfl ?_ | refine WL.nil ?_ | refine WC.skip ?_ | refine WC.block ?_ | refine WC.condT rfl ?_ | refine WC.condF rfl ?_ | refine WL.off rfl rfl rfl ?_ | refine WL.off0 rfl rfl ?_ | refine WC.exit ?_ | refine blk_hit ?_ | refine blk_miss rfl ?_ | refine WC.ret ?_)
  refine WL.split 8 rfl (fun h1 => ?_) (fun h1 => ?_)
  · have h1 : f.length < 2 := by have := of_decide_eq_true h1; omega
    repeat (first | refine WC.seq ?_ | refine WC.reg ?_ | refine WL.pure rfl rfl rfl ?_ | refine WL.nil ?_ | refine WC.skip ?_ | refine WC.block ?_ | refine WC.condT rfl ?_ | refine WC.condF rfl ?_ | refine WL.off rfl rfl rfl ?_ | refine WL.off0 rfl rfl ?_ | refine WC.exit ?_ | refine blk_hit ?_ | refine blk_miss rfl ?_ | refine WC.ret ?_)
    exact Res.one rfl rfl rfl ⟨by rw [irrL, decide_eq_false (by omega)]; rfl, Hp.start w⟩
  · have h1 : 2 ≤ f.length := by have := of_decide_eq_false h1; omega
    repeat (first | refine WC.seq ?_ | refine WC.reg ?_ | refine WL.pure rfl rfl rfl ?_ | refine WL.nil ?_ | refine WC.skip ?_ | refine WC.block ?_ | refine WC.condT rfl ?_ | refine WC.condF rfl ?_ | refine WL.off rfl rfl rfl ?_ | refine WL.off0 rfl rfl ?_ | refine WC.exit ?_ | refine blk_hit ?_ | refine blk_miss rfl ?_ | refine WC.ret ?_)
    refine WL.call rfl rfl rfl rfl rfl ent88 (slope_pd p _ f hpp hp hf (by omega) w sf') ?_
    rintro vd w1 hp1
    refine WL.call rfl rfl rfl rfl rfl ent87 (gcd_pd p _ vd f _ hpp hp hf hdi (by omega) (by omega) w1 (sf'.hp hp1) (Pd.row hp1 0 rfl)) ?_
    rintro vg w2 hp2
    obtain ⟨ga, gc, rfl, -⟩ := Pd.row hp2 0 rfl
    have hp2 := hp1.nil'.over hp2.nil'
    repeat (first | refine WC.seq ?_ | refine WC.reg ?_ | refine WL.pure rfl rfl rfl ?_ | refine WL.nil ?_ | refine WC.skip ?_ | refine WC.block ?_ | refine WC.condT rfl ?_ | refine WC.condF rfl ?_ | refine WL.off rfl rfl rfl ?_ | refine WL.off0 rfl rfl ?_ | refine WC.exit ?_ | refine blk_hit ?_ | refine blk_miss rfl ?_ | refine WC.ret ?_)
    refine WC.cond rfl (fun h2 => ?_) (fun h2 => ?_)
    · have h2 : (gcdL p f (slopeL p f)).length ≠ 1 := by
        have : ((gcdL p f (slopeL p f)).length : Int) ≠ 1 := by simpa using h2
        omega
      repeat (first | refine WC.seq ?_ | refine WC.reg ?_ | refine WL.pure rfl rfl rfl ?_ | refine WL.nil ?_ | refine WC.skip ?_ | refine WC.block ?_ | refine WC.condT rfl ?_ | refine WC.condF rfl ?_ | refine WL.off rfl rfl rfl ?_ | refine WL.off0 rfl rfl ?_ | refine WC.exit ?_ | refine blk_hit ?_ | refine blk_miss rfl ?_ | refine WC.ret ?_)
      refine Res.one rfl rfl rfl ⟨?_, hp2⟩
      rw [irrL, show ((gcdL p f (slopeL p f)).length == 1) = false by simpa using h2]
      simp
    · have h2 : (gcdL p f (slopeL p f)).length = 1 := by
        have : ((gcdL p f (slopeL p f)).length : Int) = 1 := by simpa using h2
        omega
      have mi := monic_isP hpp hf
      have ml := monic_len hpp hf
      repeat (first | refine WC.seq ?_ | refine WC.reg ?_ | refine WL.pure rfl rfl rfl ?_ | refine WL.nil ?_ | refine WC.skip ?_ | refine WC.block ?_ | refine WC.condT rfl ?_ | refine WC.condF rfl ?_ | refine WL.off rfl rfl rfl ?_ | refine WL.off0 rfl rfl ?_ | refine WC.exit ?_ | refine blk_hit ?_ | refine blk_miss rfl ?_ | refine WC.ret ?_)
      refine WL.call rfl rfl rfl rfl rfl ent59 (monic_pd p _ f hpp hp hf (by omega) w2 (sf'.hp hp2)) ?_
      rintro vm w3 hp3
      refine WL.call rfl rfl rfl rfl rfl ent89 (kernel_pd p vm (monicL p f) hpp hp mi (by omega) (by omega) w3 (Pd.row hp3 0 rfl)) ?_
      rintro vk w4 ⟨pool, hpk, hp4⟩
      have hp4' : Hp w3 w4 (Rs vk pool :: bagE pool) := hp4
      obtain ⟨ka, kc, rfl, -⟩ := Rs_shape hp4' 0 rfl
      have hl : pool.length = (kernL p (monicL p f)).length := by rw [← hpk, List.length_map]
      repeat (first | refine WC.seq ?_ | refine WC.reg ?_ | refine WL.pure rfl rfl rfl ?_ | refine WL.nil ?_ | refine WC.skip ?_ | refine WC.block ?_ | refine WC.condT rfl ?_ | refine WC.condF rfl ?_ | refine WL.off rfl rfl rfl ?_ | refine WL.off0 rfl rfl ?_ | refine WC.exit ?_ | refine blk_hit ?_ | refine blk_miss rfl ?_ | refine WC.ret ?_)
      refine Res.one rfl rfl rfl ⟨?_, (hp2.over hp3.nil').over hp4.nil'⟩
      congr 1
      rw [irrL, h2, decide_eq_true h1, ← hl]
      simp only [beq_self_eq_true, Bool.true_and]
      by_cases h3 : pool.length = 1
      · rw [h3]; rfl
      · rw [show (pool.length == 1) = false by simpa using h3]
        simp; omega

theorem Irreducible_pz (vf : Value) (p : Int) (f : List Int) (hlf : f.length ≤ 1000) (w : World) (sf : Pz w vf f) :
    Ret Try.prog 36 [.int .i64 p, vf] w fun u w' => Hp w w' [] ∧
      (okF p f = false → u = .tuple #[.bool false, .int .i64 2]) ∧ (∀ (q : Nat) (F : List Nat), okF p f = true → p = q → f = up F → u = .tuple #[.bool (irrL q F), .int .i64 0]) := by
  refine enter Try.func36 rfl rfl ⟨rfl, rfl⟩ rfl ?_
  repeat (first | refine WC.seq ?_ | refine WC.reg ?_ | refine WL.pure rfl rfl rfl ?_ | refine WL.nil ?_ | refine WC.skip ?_ | refine WC.block ?_ | refine WC.condT rfl ?_ | refine WC.condF rfl ?_ | refine WL.off rfl rfl rfl ?_ | refine WL.off0 rfl rfl ?_ | refine WC.exit ?_ | refine blk_hit ?_ | refine blk_miss rfl ?_ | refine WC.ret ?_)
  refine WL.buildS (cs := [vf]) rfl rfl rfl rfl rfl rfl rfl rfl (by obtain ⟨_, _, rfl, _⟩ := sf; rfl) ?_
  intro b w1 hb
  have hp1 := (Hp.start w).new hb
  refine WL.call rfl rfl rfl rfl rfl ent40 (check1 p _ f b w1 (sf.hp hp1) hlf hp1) ?_
  rintro _ w2 ⟨rfl, hp2⟩
  have hp2 := hp1.nil'.over hp2
  cases hb2 : okF p f with
  | false =>
    repeat (first | refine WC.seq ?_ | refine WC.reg ?_ | refine WL.pure rfl rfl rfl ?_ | refine WL.nil ?_ | refine WC.skip ?_ | refine WC.block ?_ | refine WC.condT rfl ?_ | refine WC.condF rfl ?_ | refine WL.off rfl rfl rfl ?_ | refine WL.off0 rfl rfl ?_ | refine WC.exit ?_ | refine blk_hit ?_ | refine blk_miss rfl ?_ | refine WC.ret ?_)
    exact Res.two rfl rfl rfl rfl ⟨hp2, fun _ => rfl, fun q F h => by cases h⟩
  | true =>
    obtain ⟨q, F, rfl, rfl, hq, hq2, hF, lF⟩ := okF_nat hb2
    repeat (first | refine WC.seq ?_ | refine WC.reg ?_ | refine WL.pure rfl rfl rfl ?_ | refine WL.nil ?_ | refine WC.skip ?_ | refine WC.block ?_ | refine WC.condT rfl ?_ | refine WC.condF rfl ?_ | refine WL.off rfl rfl rfl ?_ | refine WL.off0 rfl rfl ?_ | refine WC.exit ?_ | refine blk_hit ?_ | refine blk_miss rfl ?_ | refine WC.ret ?_)
    refine WL.call rfl rfl rfl rfl rfl ent60 (irreducible_pd q vf F hq hq2 hF (by omega) w2 (sf.nat.hp hp2)) ?_
    rintro _ w3 ⟨rfl, hp3⟩
    repeat (first | refine WC.seq ?_ | refine WC.reg ?_ | refine WL.pure rfl rfl rfl ?_ | refine WL.nil ?_ | refine WC.skip ?_ | refine WC.block ?_ | refine WC.condT rfl ?_ | refine WC.condF rfl ?_ | refine WL.off rfl rfl rfl ?_ | refine WL.off0 rfl rfl ?_ | refine WC.exit ?_ | refine blk_hit ?_ | refine blk_miss rfl ?_ | refine WC.ret ?_)
    refine Res.two rfl rfl rfl rfl ⟨hp2.over hp3, (fun h => by cases h), fun q' F' _ e1 e2 => ?_⟩
    have e1 : q = q' := by omega
    have e2 := up_inj e2
    subst e1 e2
    rfl

theorem Factor_pz (vf : Value) (p : Int) (f : List Int) (hlf : f.length ≤ 1000) (w : World) (sf : Pz w vf f) (hok : ∀ (q : Nat) (F : List Nat), okF p f = true → p = q → f = up F → F ≠ [] → ∃ ys, sqL q (monicL q F) = some ys ∧ (spl q ys).length ≤ 12) :
    Ret Try.prog 35 [.int .i64 p, vf] w fun u w' =>
      (okF p f = false → u = .tuple #[.int .i64 0, .slice none 0 0, .int .i64 2] ∧ Hp w w' []) ∧
      (okF p f = true → f = [] → u = .tuple #[.int .i64 0, .slice none 0 0, .int .i64 20] ∧ Hp w w' []) ∧
      (∀ (q : Nat) (F : List Nat) (ys : Yds), okF p f = true → p = q → f = up F → F ≠ [] → sqL q (monicL q F) = some ys → ∃ (v : Value) (fs : List FE) (bag : List (Value × List Nat)), u = .tuple #[.int .i64 (co F (F.length - 1) : Nat), v, .int .i64 0] ∧
        fs.map prE = isrt ltQ ((spl q ys).length - 1) (spl q ys) ∧ (∀ e ∈ fs, e.1 ∈ bag ∧ GP q e.1.2) ∧ Hp w w' (Fr v fs :: bagE bag)) := by
  have sf' := sf
  obtain ⟨fa, fc, rfl, sl, -⟩ := sf
  refine enter Try.func35 rfl rfl ⟨rfl, rfl⟩ rfl ?_
  repeat (first | refine WC.seq ?_ | refine WC.reg ?_ | refine WL.pure rfl rfl rfl ?_ | refine WL.nil ?_ | refine WC.skip ?_ | refine WC.block ?_ | refine WC.condT rfl ?_ | refine WC.condF rfl ?_ | refine WL.off rfl rfl rfl ?_ | refine WL.off0 rfl rfl ?_ | refine WC.exit ?_ | refine blk_hit ?_ | refine blk_miss rfl ?_ | refine WC.ret ?_)
  refine WL.buildS (cs := [.slice fa f.length fc]) rfl rfl rfl rfl rfl rfl rfl rfl rfl ?_
  intro b w1 hb
  have hp1 := (Hp.start w).new hb
  refine WL.call rfl rfl rfl rfl rfl ent40 (check1 p _ f b w1 (sf'.hp hp1) hlf hp1) ?_
  rintro _ w2 ⟨rfl, hp2⟩
  have hp2 := hp1.nil'.over hp2
  cases hb2 : okF p f with
  | false =>
    repeat (first | refine WC.seq ?_ | refine WC.reg ?_ | refine WL.pure rfl rfl rfl ?_ | refine WL.nil ?_ | refine WC.skip ?_ | refine WC.block ?_ | refine WC.condT rfl ?_ | refine WC.condF rfl ?_ | refine WL.off rfl rfl rfl ?_ | refine WL.off0 rfl rfl ?_ | refine WC.exit ?_ | refine blk_hit ?_ | refine blk_miss rfl ?_ | refine WC.ret ?_)
    exact Res.three rfl rfl rfl rfl rfl ⟨fun _ => ⟨rfl, hp2⟩, (fun h => by cases h), fun q F ys h => by cases h⟩
  | true =>
    obtain ⟨q, F, rfl, rfl, hq, hq2, hF, lF⟩ := okF_nat hb2
    rw [up_len] at sf'
    have sF := sf'.nat
    rw [zs_up] at sl
    have hok := hok q F hb2 rfl rfl
    rw [up_len]
    repeat (first | refine WC.seq ?_ | refine WC.reg ?_ | refine WL.pure rfl rfl rfl ?_ | refine WL.nil ?_ | refine WC.skip ?_ | refine WC.block ?_ | refine WC.condT rfl ?_ | refine WC.condF rfl ?_ | refine WL.off rfl rfl rfl ?_ | refine WL.off0 rfl rfl ?_ | refine WC.exit ?_ | refine blk_hit ?_ | refine blk_miss rfl ?_ | refine WC.ret ?_)
    refine WC.cond rfl (fun h => ?_) (fun h => ?_)
    · have h : F = [] := by
        have : (F.length : Int) = 0 := by simpa using h
        exact List.length_eq_zero_iff.1 (by omega)
      subst h
      repeat (first | refine WC.seq ?_ | refine WC.reg ?_ | refine WL.pure rfl rfl rfl ?_ | refine WL.nil ?_ | refine WC.skip ?_ | refine WC.block ?_ | refine WC.condT rfl ?_ | refine WC.condF rfl ?_ | refine WL.off rfl rfl rfl ?_ | refine WL.off0 rfl rfl ?_ | refine WC.exit ?_ | refine blk_hit ?_ | refine blk_miss rfl ?_ | refine WC.ret ?_)
      refine Res.three rfl rfl rfl rfl rfl ⟨(fun h => by cases h), fun _ _ => ⟨rfl, hp2⟩, fun q' F' ys _ _ e2 h => ?_⟩
      have := up_inj e2
      exact absurd this.symm h
    · have h : F ≠ [] := by rintro rfl; simp at h
      have h0 := List.length_pos_iff.2 h
      obtain ⟨ys, hys, h12⟩ := hok h
      have mi := monic_isP hq hF
      have ml := monic_len hq hF
      have e1 : IntKind.i64.wrap ((F.length : Int) - 1) = ((F.length - 1 : Nat) : Int) := by rw [wrap_mid (by omega) (by omega)]; omega
      obtain ⟨ab, ao, rfl⟩ := Sl.some sl (ints_at (show F.length - 1 < F.length by omega))
      repeat (first | refine WC.seq ?_ | refine WC.reg ?_ | refine WL.pure rfl rfl rfl ?_ | refine WL.nil ?_ | refine WC.skip ?_ | refine WC.block ?_ | refine WC.condT rfl ?_ | refine WC.condF rfl ?_ | refine WL.off rfl rfl rfl ?_ | refine WL.off0 rfl rfl ?_ | refine WC.exit ?_ | refine blk_hit ?_ | refine blk_miss rfl ?_ | refine WC.ret ?_)
      refine WC.mid (Value × List FE × List (Value × List Nat)) (fun (v, _) => [(4, .int .i64 (co F (F.length - 1) : Nat)), (5, v), (6, .int .i64 0)]) (fun (v, fs, bag) w' => fs.map prE = isrt ltQ ((spl q ys).length - 1) (spl q ys) ∧ (∀ e ∈ fs, e.1 ∈ bag ∧ GP q e.1.2) ∧ Hp w w' (Fr v fs :: bagE bag)) ?_ ?_
      · refine WC.regH (fun w' => Hp w w' []) mixed (by kernel_rfl) (fun w3 hw3 hh3 => ?_)
        have hp3 := hp2.keep hw3
        refine WH.pure 0 (by kernel_rfl) rfl (by kernel_rfl) rfl rfl rfl hp3 ?_
        refine WH.pure 1 (by kernel_rfl) rfl (by kernel_rfl) rfl rfl rfl hp3 ?_
        refine WH.pure 2 (by kernel_rfl) rfl (by kernel_rfl) rfl rfl rfl hp3 ?_
        refine WH.pure 3 (by kernel_rfl) rfl (by kernel_rfl) rfl rfl rfl hp3 ?_
        refine WH.known (d := 21) (congrArg (fun z => some (Value.int .i64 z)) e1) ?_
        refine WH.ix1 4 (by kernel_rfl) rfl (by kernel_rfl) rfl rfl rfl rfl rfl rfl rfl (show F.length - 1 < F.length by omega) hp3 ?_
        refine WH.load 5 (by kernel_rfl) rfl (by kernel_rfl) rfl rfl rfl rfl rfl (fun w' h => Sl.cell (sl.hp h) (ints_at (show F.length - 1 < F.length by omega))) hp3 ?_
        refine WH.pure 6 (by kernel_rfl) rfl (by kernel_rfl) rfl rfl rfl hp3 ?_
        refine WH.pure 7 (by kernel_rfl) rfl (by kernel_rfl) rfl rfl rfl hp3 ?_
        refine WH.pure 8 (by kernel_rfl) rfl (by kernel_rfl) rfl rfl rfl hp3 ?_
        refine WH.one 9 rfl (by kernel_rfl) ?_
        refine WL.call rfl rfl rfl rfl rfl ent59 (monic_pd q _ F hq hq2 hF (by omega) w3 (sF.hp hp3)) ?_
        rintro vm w4 hp4
        have hp34 := hp3.over hp4.nil'
        refine WL.nil ⟨hp34, ?_⟩
        refine WH.one 10 rfl (by kernel_rfl) ?_
        refine WL.call rfl rfl rfl rfl rfl ent58 (factors_pd q vm (monicL q F) ys hq hq2 (by omega) hys h12 w4 (Pd.row hp4 0 rfl)) ?_
        rintro vu w5 ⟨fs, bag, hf, hbg, hp5⟩
        have hp35 := hp34.over hp5
        refine WL.nil ⟨hp35.nil', ?_⟩
        refine WH.pure 11 (by kernel_rfl) rfl (by kernel_rfl) rfl rfl rfl hp35.nil' ?_
        refine WH.pure 12 (by kernel_rfl) rfl (by kernel_rfl) rfl rfl rfl hp35.nil' ?_
        refine WH.pure 13 (by kernel_rfl) rfl (by kernel_rfl) rfl rfl rfl hp35.nil' ?_
        refine WH.done (by kernel_rfl) ?_
        exact ⟨(vu, fs, bag), ⟨rfl, rfl, rfl, rfl⟩, hf, hbg, hp35⟩
      rintro ⟨vu, fs, bag⟩ e3 w3 hsub ⟨hf, hbg, hp3⟩
      refine WC.sub hsub ?_
      clear hsub
      repeat (first | refine WC.seq ?_ | refine WC.reg ?_ | refine WL.pure rfl rfl rfl ?_ | refine WL.nil ?_ | refine WC.skip ?_ | refine WC.block ?_ | refine WC.condT rfl ?_ | refine WC.condF rfl ?_ | refine WL.off rfl rfl rfl ?_ | refine WL.off0 rfl rfl ?_ | refine WC.exit ?_ | refine blk_hit ?_ | refine blk_miss rfl ?_ | refine WC.ret ?_)
      refine Res.three rfl rfl rfl rfl rfl ⟨(fun h => by cases h), fun _ h => ?_, fun q' F' ys' _ e1 e2 _ hys' => ?_⟩
      · have h4 : (up F).length = 0 := by rw [h]; rfl
        rw [up_len] at h4
        omega
      · have e1 : q = q' := by omega
        have e2 := up_inj e2
        subst e1 e2
        rw [hys] at hys'
        obtain rfl := Option.some.inj hys'
        exact ⟨vu, fs, bag, rfl, hf, hbg, hp3⟩
end Go.Proofs.Ytagfpnnplgkkoaa
