/- The walks of a number's factorization, and of what is a field. -/
import Derived.Test.YtagfpnnplgkkoaaR6
namespace Go.Poly
open Go.W Go.Tree
def upp (l : List (Nat × Nat)) : List Ed := l.map fun e => ((e.1 : Int), (e.2 : Int))
theorem upp_len (l : List (Nat × Nat)) : (upp l).length = l.length := by simp [upp]
def oneB : List (Nat × Nat) → Bool
  | [(_, e)] => e == 1
  | _ => false
def priB (p : Nat) : Bool := decide (2 ≤ p) && (List.range p).all fun d => decide (d < 2) || p % d != 0
theorem priB_spec {p : Nat} (h : priB p = true) : Pri p := by
  unfold priB at h
  simp only [Bool.and_eq_true, List.all_eq_true, List.mem_range, Bool.or_eq_true, decide_eq_true_eq, bne_iff_ne, ne_eq] at h
  refine ⟨h.1, fun d hd => ?_⟩
  have hle := Nat.le_of_dvd (by omega) hd
  have h0 : d ≠ 0 := by
    rintro rfl
    have := Nat.eq_zero_of_zero_dvd hd
    omega
  by_cases h1 : d = p
  · exact .inr h1
  · rcases h.2 d (by omega) with h2 | h2
    · left; omega
    · exact absurd (Nat.mod_eq_zero_of_dvd hd) h2
theorem field_all : ∀ p, p < 1022 → oneB (fac p) = priB p := by decide +kernel
end Go.Poly
namespace Go.Proofs.Ytagfpnnplgkkoaa
open Go.W Go.Poly Go.Tree
set_option maxRecDepth 100000
attribute [local irreducible] WC WL WQ WS WH

theorem factorC_any (b : Nat) (w0 w : World) (acc : List (Nat × Nat)) (q t : Nat) (a : Option Addr) (c : Nat) (hl : acc.length ≤ 100000)
    (hp : Hp w0 w [.row 84 2 (.slice a acc.length c) acc.length (prs (upp acc)), .blk b (.cells #[.slice a acc.length c] 80 (0, 0))]) :
    Ret Try.prog 113 [.int .i64 (q : Nat), .int .i64 (t : Nat), .pointer (some ⟨b, 0, none⟩)] w fun _ w' => ∃ a' c', Hp w0 w' [.row 84 2 (.slice a' (acc ++ [(q, t)]).length c') (acc ++ [(q, t)]).length (prs (upp (acc ++ [(q, t)]))), .blk b (.cells #[.slice a' (acc ++ [(q, t)]).length c'] 80 (0, 0))] := by
  refine enter Try.func113 rfl rfl ⟨rfl, rfl⟩ rfl ?_
  have hl1 : acc.length + 1 = (acc ++ [(q, t)]).length := by simp
  have hx1 : prs (upp acc) ++ pr ((q : Int), (t : Int)) = prs (upp (acc ++ [(q, t)])) := by simp [prs, upp]
  repeat (first | refine WC.seq ?_ | refine WC.reg ?_ | refine WL.pure rfl rfl rfl ?_ | refine WL.nil ?_ | refine WC.skip ?_ | refine WC.block ?_ | refine WC.condT rfl ?_ | refine WC.condF rfl ?_ | refine WL.off rfl rfl rfl ?_ | refine WL.off0 rfl rfl ?_ | refine WC.exit ?_ | refine blk_hit ?_ | refine blk_miss rfl ?_ | refine WC.ret ?_)
  refine WL.loadB rfl rfl rfl rfl rfl (hp.obj 1 rfl) rfl ?_
  repeat (first | refine WC.seq ?_ | refine WC.reg ?_ | refine WL.pure rfl rfl rfl ?_ | refine WL.nil ?_ | refine WC.skip ?_ | refine WC.block ?_ | refine WC.condT rfl ?_ | refine WC.condF rfl ?_ | refine WL.off rfl rfl rfl ?_ | refine WL.off0 rfl rfl ?_ | refine WC.exit ?_ | refine blk_hit ?_ | refine blk_miss rfl ?_ | refine WC.ret ?_)
  refine WL.buildT (cs := pr ((q : Int), (t : Int))) rfl rfl rfl rfl rfl rfl ?_
  refine WL.buildS (cs := pr ((q : Int), (t : Int))) rfl rfl rfl rfl rfl rfl rfl rfl rfl ?_
  intro bs w1 hbs
  have hp1 := hp.new hbs
  refine WL.append 1 hp1 rfl rfl rfl rfl rfl (by decide) rfl rfl rfl (news := pr ((q : Int), (t : Int))) (Sl.of_obj (hp1.obj 0 rfl) (fun q u hq => by simpa using hq)) rfl (Cells.cons rfl (Cells.cons rfl Cells.nil)) (by unfold maxLen; omega) (by show (acc.length + 1) * 16 ≤ _; omega) ?_
  intro a' c' w2 hp2 hg2
  rw [hl1, hx1] at hp2
  rw [hl1]
  refine WL.store rfl rfl rfl rfl rfl rfl (hp2.obj 2 rfl) (show 0 < 1 by decide) (fun w3 hw3 => ?_)
  have hp3 := (hp2.set 2 rfl rfl hw3).tail
  repeat (first | refine WC.seq ?_ | refine WC.reg ?_ | refine WL.pure rfl rfl rfl ?_ | refine WL.nil ?_ | refine WC.skip ?_ | refine WC.block ?_ | refine WC.condT rfl ?_ | refine WC.condF rfl ?_ | refine WL.off rfl rfl rfl ?_ | refine WL.off0 rfl rfl ?_ | refine WC.exit ?_ | refine blk_hit ?_ | refine blk_miss rfl ?_ | refine WC.ret ?_)
  exact Res.zero rfl rfl ⟨a', c', hp3⟩

theorem factor_any (n : Nat) (h1 : 1 ≤ n) (hn : n ≤ 2147483647) (w : World) :
    Ret Try.prog 99 [.int .i64 (n : Nat)] w fun u w' => ∃ a c, u = .slice a (fac n).length c ∧ Hp w w' [.row 84 2 (.slice a (fac n).length c) (fac n).length (prs (upp (fac n)))] := by
  refine enter Try.func99 rfl rfl ⟨rfl, rfl⟩ rfl ?_
  repeat (first | refine WC.seq ?_ | refine WC.reg ?_ | refine WL.pure rfl rfl rfl ?_ | refine WL.nil ?_ | refine WC.skip ?_ | refine WC.block ?_ | refine WC.condT rfl ?_ | refine WC.condF rfl ?_ | refine WL.off rfl rfl rfl ?_ | refine WL.off0 rfl rfl ?_ | refine WC.exit ?_ | refine blk_hit ?_ | refine blk_miss rfl ?_ | refine WC.ret ?_)
  refine WL.alloc rfl rfl rfl ?_
  intro b w1 hb
  have hp1 := ((Hp.start w).new hb).nilrow 84 2
  repeat (first | refine WC.seq ?_ | refine WC.reg ?_ | refine WL.pure rfl rfl rfl ?_ | refine WL.nil ?_ | refine WC.skip ?_ | refine WC.block ?_ | refine WC.condT rfl ?_ | refine WC.condF rfl ?_ | refine WL.off rfl rfl rfl ?_ | refine WL.off0 rfl rfl ?_ | refine WC.exit ?_ | refine blk_hit ?_ | refine blk_miss rfl ?_ | refine WC.ret ?_)
  refine WL.call rfl rfl rfl rfl rfl ent112 (divide_any 113 #[.pointer (some ⟨b, 0, none⟩)] (fun acc w' => ∃ a c, Hp w w' [.row 84 2 (.slice a acc.length c) acc.length (prs (upp acc)), .blk b (.cells #[.slice a acc.length c] 80 (0, 0))]) ent113 n h1 hn w1 ⟨none, 0, hp1⟩
    (fun acc q t w' ⟨a, c, h⟩ hl => factorC_any b w w' acc q t a c hl h)) ?_
  rintro _ w2 ⟨a, c, hp2⟩
  repeat (first | refine WC.seq ?_ | refine WC.reg ?_ | refine WL.pure rfl rfl rfl ?_ | refine WL.nil ?_ | refine WC.skip ?_ | refine WC.block ?_ | refine WC.condT rfl ?_ | refine WC.condF rfl ?_ | refine WL.off rfl rfl rfl ?_ | refine WL.off0 rfl rfl ?_ | refine WC.exit ?_ | refine blk_hit ?_ | refine blk_miss rfl ?_ | refine WC.ret ?_)
  refine WL.loadB rfl rfl rfl rfl rfl (hp2.obj 1 rfl) rfl ?_
  repeat (first | refine WC.seq ?_ | refine WC.reg ?_ | refine WL.pure rfl rfl rfl ?_ | refine WL.nil ?_ | refine WC.skip ?_ | refine WC.block ?_ | refine WC.condT rfl ?_ | refine WC.condF rfl ?_ | refine WL.off rfl rfl rfl ?_ | refine WL.off0 rfl rfl ?_ | refine WC.exit ?_ | refine blk_hit ?_ | refine blk_miss rfl ?_ | refine WC.ret ?_)
  exact Res.one rfl rfl rfl ⟨a, c, rfl, hp2.drop1⟩
end Go.Proofs.Ytagfpnnplgkkoaa
