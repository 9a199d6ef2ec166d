/- The walk of the reference's factorization of a small number. -/
import Derived.Test.YtlpcocjkffbpeaaR8
import Derived.Test.YtlpcocjkffbpeaaQe
namespace Go.Poly
open Go.W Go.Tree
def pws (d : Nat) : Nat → Nat → Nat → Nat × Nat
  | 0, n, e => (n, e)
  | k + 1, n, e => if n % d = 0 then pws d k (n / d) (e + 1) else (n, e)
def rfac : Nat → Nat → List Ed
  | 0, _ => []
  | k + 1, n => if 1 < n then (((dvr 48 2 n : Nat) : Int), (((pws (dvr 48 2 n) n n 0).2 : Nat) : Int)) :: rfac k (pws (dvr 48 2 n) n n 0).1 else []
theorem rf_ok : ∀ m : Fin 33, 2 ≤ m.val → 2 ≤ dvr 48 2 m ∧ dvr 48 2 m ≤ 32 ∧ (pws (dvr 48 2 m) m m 0).1 < m ∧ 1 ≤ (pws (dvr 48 2 m) m m 0).1 ∧ (pws (dvr 48 2 m) m m 0).2 ≤ 32 := by decide +kernel
end Go.Poly
namespace Go.Proofs.Ytlpcocjkffbpeaa
open Go.W Go.Poly Go.Tree Go.RowKit
set_option maxRecDepth 100000
attribute [local irreducible] WC WL WQ WS WH

theorem RFactor_any (n : Nat) (h1 : 1 ≤ n) (hn : n ≤ 32) (w : World) :
    Ret Try.prog 53 [.int .i64 (n : Nat)] w fun u w' => ∃ a c, u = .slice a (rfac 32 n).length c ∧ Hp w w' [.row 76 2 (.slice a (rfac 32 n).length c) (rfac 32 n).length (prs (rfac 32 n))] := by
  refine enter Try.func53 rfl rfl ⟨rfl, rfl⟩ rfl ?_
  repeat (first | refine WC.seq ?_ | refine WC.reg ?_ | refine WL.pure rfl rfl rfl ?_ | refine WL.nil ?_ | refine WC.skip ?_ | refine WC.block ?_ | refine WC.condT rfl ?_ | refine WC.condF rfl ?_ | refine WL.off rfl rfl rfl ?_ | refine WL.off0 rfl rfl ?_ | refine WC.exit ?_ | refine blk_hit ?_ | refine blk_miss rfl ?_ | refine WC.ret ?_)
  refine WC.loop (Nat × List Ed × Option Addr × Nat) (fun (m, fs, a, c) => [(0, .int .i64 (m : Nat)), (3, .slice a fs.length c)])
    (fun (m, fs, a, c) w' => 1 ≤ m ∧ fs.length + m ≤ n ∧ (∃ k, m ≤ k ∧ fs ++ rfac k m = rfac 32 n) ∧ Hp w w' [.row 76 2 (.slice a fs.length c) fs.length (prs fs)]) (fun (m, _, _, _) => m) (n, [], none, 0) ⟨rfl, rfl, rfl⟩ ⟨h1, by simp, ⟨32, hn, rfl⟩, (Hp.start w).nilrow _ _⟩ ?_
  rintro ⟨m, fs, a, c⟩ w1 ⟨hm, hfs, ⟨k, hk, hr⟩, hp1⟩
  repeat (first | refine WC.seq ?_ | refine WC.reg ?_ | refine WL.pure rfl rfl rfl ?_ | refine WL.nil ?_ | refine WC.skip ?_ | refine WC.block ?_ | refine WC.condT rfl ?_ | refine WC.condF rfl ?_ | refine WL.off rfl rfl rfl ?_ | refine WL.off0 rfl rfl ?_ | refine WC.exit ?_ | refine blk_hit ?_ | refine blk_miss rfl ?_ | refine WC.ret ?_)
  refine WC.cond rfl (fun h => ?_) (fun h => ?_)
  · have h2 : 1 < m := by have := of_decide_eq_true h; omega
    obtain ⟨d2, d32, n1, n2, n3⟩ := rf_ok ⟨m, by omega⟩ h2
    obtain ⟨k, rfl⟩ : ∃ k', k = k' + 1 := ⟨k - 1, by omega⟩
    rw [rfac, if_pos h2] at hr
    simp only at d2 d32 n1 n2 n3
    repeat (first | refine WC.seq ?_ | refine WC.reg ?_ | refine WL.pure rfl rfl rfl ?_ | refine WL.nil ?_ | refine WC.skip ?_ | refine WC.block ?_ | refine WC.condT rfl ?_ | refine WC.condF rfl ?_ | refine WL.off rfl rfl rfl ?_ | refine WL.off0 rfl rfl ?_ | refine WC.exit ?_ | refine blk_hit ?_ | refine blk_miss rfl ?_ | refine WC.ret ?_)
    refine WL.callP rfl rfl rfl rfl rfl ent50 (Divisor_any m h2 (by omega) _) ?_
    generalize dvr 48 2 m = d at *
    obtain ⟨R, hR⟩ : ∃ R, pws d m m 0 = R := ⟨_, rfl⟩
    rw [hR] at hr n1 n2 n3
    repeat (first | refine WC.seq ?_ | refine WC.reg ?_ | refine WL.pure rfl rfl rfl ?_ | refine WL.nil ?_ | refine WC.skip ?_ | refine WC.block ?_ | refine WC.condT rfl ?_ | refine WC.condF rfl ?_ | refine WL.off rfl rfl rfl ?_ | refine WL.off0 rfl rfl ?_ | refine WC.exit ?_ | refine blk_hit ?_ | refine blk_miss rfl ?_ | refine WC.ret ?_)
    refine WC.loop (Nat × Nat) (fun (x, e) => [(0, .int .i64 (x : Nat)), (3, .slice a fs.length c), (4, .int .i64 (d : Nat)), (5, .int .i64 (e : Nat))])
      (fun (x, e) w' => w' = w1 ∧ 1 ≤ x ∧ x + e ≤ m ∧ ∃ j, x ≤ j ∧ pws d j x e = R) (fun (x, _) => x) (m, 0) ⟨rfl, rfl, rfl, rfl, rfl⟩ ⟨rfl, hm, Nat.le_refl _, ⟨m, Nat.le_refl _, hR⟩⟩ ?_
    rintro ⟨x, e⟩ w2 ⟨rfl, hx, hxe, j, hj, hpw⟩
    obtain ⟨j, rfl⟩ : ∃ j', j = j' + 1 := ⟨j - 1, by omega⟩
    have er : ((x : Nat) : Int).tmod (d : Nat) = ((x % d : Nat) : Int) := (Int.ofNat_tmod x d).symm
    have eq_ : IntKind.i64.wrap (((x : Nat) : Int).tdiv (d : Nat)) = ((x / d : Nat) : Int) := by
      have h5 : x / d ≤ x := Nat.div_le_self _ _
      rw [← Int.ofNat_tdiv]
      exact wrap_i64_in (Int.natCast_nonneg _) (Int.lt_of_le_of_lt (Int.ofNat_le.2 h5) (by omega))
    repeat (first | refine WC.seq ?_ | refine WC.reg ?_ | refine WL.pure rfl rfl rfl ?_ | refine WL.nil ?_ | refine WC.skip ?_ | refine WC.block ?_ | refine WC.condT rfl ?_ | refine WC.condF rfl ?_ | refine WL.off rfl rfl rfl ?_ | refine WL.off0 rfl rfl ?_ | refine WC.exit ?_ | refine blk_hit ?_ | refine blk_miss rfl ?_ | refine WC.ret ?_)
    refine WL.rem rfl rfl rfl rfl (by omega) ?_
    refine WL.known (d := 12) (congrArg (fun z => some (Value.int .i64 z)) er) ?_
    repeat (first | refine WC.seq ?_ | refine WC.reg ?_ | refine WL.pure rfl rfl rfl ?_ | refine WL.nil ?_ | refine WC.skip ?_ | refine WC.block ?_ | refine WC.condT rfl ?_ | refine WC.condF rfl ?_ | refine WL.off rfl rfl rfl ?_ | refine WL.off0 rfl rfl ?_ | refine WC.exit ?_ | refine blk_hit ?_ | refine blk_miss rfl ?_ | refine WC.ret ?_)
    refine WC.cond rfl (fun h => ?_) (fun h => ?_)
    · have h : x % d = 0 := by simp at h; omega
      rw [pws, if_pos h] at hpw
      have hlt : x / d < x := Nat.div_lt_self (by omega) (by omega)
      have hpos : 0 < x / d := Nat.div_pos (Nat.le_of_dvd (by omega) (Nat.dvd_of_mod_eq_zero h)) (by omega)
      have step : IntKind.i64.wrap ((e : Int) + 1) = ((e + 1 : Nat) : Int) := by rw [wrap_i64_in (by omega) (by omega)]; omega
      repeat (first | refine WC.seq ?_ | refine WC.reg ?_ | refine WL.pure rfl rfl rfl ?_ | refine WL.nil ?_ | refine WC.skip ?_ | refine WC.block ?_ | refine WC.condT rfl ?_ | refine WC.condF rfl ?_ | refine WL.off rfl rfl rfl ?_ | refine WL.off0 rfl rfl ?_ | refine WC.exit ?_ | refine blk_hit ?_ | refine blk_miss rfl ?_ | refine WC.ret ?_)
      refine WL.quo rfl rfl rfl rfl (by omega) ?_
      refine WL.known (d := 16) (congrArg (fun z => some (Value.int .i64 z)) eq_) ?_
      repeat (first | refine WC.seq ?_ | refine WC.reg ?_ | refine WL.pure rfl rfl rfl ?_ | refine WL.nil ?_ | refine WC.skip ?_ | refine WC.block ?_ | refine WC.condT rfl ?_ | refine WC.condF rfl ?_ | refine WL.off rfl rfl rfl ?_ | refine WL.off0 rfl rfl ?_ | refine WC.exit ?_ | refine blk_hit ?_ | refine blk_miss rfl ?_ | refine WC.ret ?_)
      exact ⟨(x / d, e + 1), hlt, ⟨rfl, rfl, rfl, congrArg (fun z => some (Value.int .i64 z)) step, rfl⟩, rfl, hpos, by omega, ⟨j, by omega, hpw⟩⟩
    · have h : ¬ x % d = 0 := by simp at h; omega
      rw [pws, if_neg h] at hpw
      subst hpw
      simp only at n1 n2 n3 hr
      repeat (first | refine WC.seq ?_ | refine WC.reg ?_ | refine WL.pure rfl rfl rfl ?_ | refine WL.nil ?_ | refine WC.skip ?_ | refine WC.block ?_ | refine WC.condT rfl ?_ | refine WC.condF rfl ?_ | refine WL.off rfl rfl rfl ?_ | refine WL.off0 rfl rfl ?_ | refine WC.exit ?_ | refine blk_hit ?_ | refine blk_miss rfl ?_ | refine WC.ret ?_)
      refine WL.buildT (cs := pr ((d : Int), (e : Int))) rfl rfl rfl rfl rfl rfl ?_
      refine WL.buildS (cs := pr ((d : Int), (e : Int))) rfl rfl rfl rfl rfl rfl rfl rfl rfl ?_
      intro bs w3 hbs
      have hp3 := hp1.new hbs
      refine WL.append 1 hp3 rfl rfl rfl rfl rfl (by decide) rfl rfl rfl (news := pr ((d : Int), (e : Int))) (Sl.of_obj (hp3.obj 0 rfl) (fun q u hq => by simpa using hq)) rfl (Cells.cons rfl (Cells.cons rfl Cells.nil)) (by unfold maxLen; omega) (by show (fs.length + 1) * 16 ≤ _; omega) ?_
      intro a' c' w4 hp4 hg4
      repeat (first | refine WC.seq ?_ | refine WC.reg ?_ | refine WL.pure rfl rfl rfl ?_ | refine WL.nil ?_ | refine WC.skip ?_ | refine WC.block ?_ | refine WC.condT rfl ?_ | refine WC.condF rfl ?_ | refine WL.off rfl rfl rfl ?_ | refine WL.off0 rfl rfl ?_ | refine WC.exit ?_ | refine blk_hit ?_ | refine blk_miss rfl ?_ | refine WC.ret ?_)
      refine ⟨(x, fs ++ [((d : Int), (e : Int))], a', c'), n1, ⟨rfl, by simp only [List.length_append, List.length_singleton]; rfl, rfl⟩, hx, by simp only [List.length_append, List.length_singleton]; omega, ⟨k, by omega, by rw [← hr]; simp⟩, ?_⟩
      simp only [List.length_append, List.length_singleton]
      rw [show prs (fs ++ [((d : Int), (e : Int))]) = prs fs ++ pr ((d : Int), (e : Int)) by simp [prs]]
      exact hp4.tail
  · have h2 : ¬ 1 < m := by have := of_decide_eq_false h; omega
    obtain ⟨k, rfl⟩ : ∃ k', k = k' + 1 := ⟨k - 1, by omega⟩
    rw [rfac, if_neg h2, List.append_nil] at hr
    subst hr
    repeat (first | refine WC.seq ?_ | refine WC.reg ?_ | refine WL.pure rfl rfl rfl ?_ | refine WL.nil ?_ | refine WC.skip ?_ | refine WC.block ?_ | refine WC.condT rfl ?_ | refine WC.condF rfl ?_ | refine WL.off rfl rfl rfl ?_ | refine WL.off0 rfl rfl ?_ | refine WC.exit ?_ | refine blk_hit ?_ | refine blk_miss rfl ?_ | refine WC.ret ?_)
    exact Res.one rfl rfl rfl ⟨a, c, rfl, hp1⟩
end Go.Proofs.Ytlpcocjkffbpeaa
