/- ltl, thirty-first: LtlTurns. -/
import Derived.Test.YtpbbneclkhfgoaaDoorU30
namespace Go.Proofs.YtpbbneclkhfgoaaDoor
open Go.W Go.Ltl Go.RowKit
set_option maxRecDepth 100000
attribute [local irreducible] WC WL WQ WS WH

theorem last4 {w0 w : World} {a b c d d' : Ent} (h : Hp w0 w [a, b, c, d]) (e : d = d') : Hp w0 w [a, b, c, d'] := e ▸ h
theorem last5 {w0 w : World} {a b c d x x' : Ent} (h : Hp w0 w [a, b, c, d, x]) (e : x = x') : Hp w0 w [a, b, c, d, x'] := e ▸ h
theorem last6 {w0 w : World} {a b c d f x x' : Ent} (h : Hp w0 w [a, b, c, d, f, x]) (e : x = x') : Hp w0 w [a, b, c, d, f, x'] := e ▸ h
theorem last7 {w0 w : World} {a b c d f g x x' : Ent} (h : Hp w0 w [a, b, c, d, f, g, x]) (e : x = x') : Hp w0 w [a, b, c, d, f, g, x'] := e ▸ h
theorem Ri_eq (v : Value) (a b : List Int) : Ent.row 3 1 v (a.length + b.length) (zs a ++ zs b) = Ri v (a ++ b) := by unfold Ri; rw [List.length_append, zs_app]
theorem Ri_eq1 (v : Value) (a : List Int) (x : Int) : Ent.row 3 1 v (a.length + 1) (zs a ++ [.int .i64 x]) = Ri v (a ++ [x]) := by unfold Ri; rw [List.length_append, zs_app]; rfl
theorem LtlTurns_any (a1 a2 : Option Addr) (k1 k2 : Nat) (l1 l2 : List Int) (h1 : l1.length ≤ 9223372036854775807) (h2 : l2.length ≤ 9223372036854775807) (s : Str) (hsl : s.length ≤ 9223372036854775807) (mark : Int) (w : World) (hG : Gl w) (hs1 : Sl w a1 (zs l1)) (hs2 : Sl w a2 (zs l2)) :
    Ret Tryd.prog 7 [.agg #[.slice a1 l1.length k1, .slice a2 l2.length k2], st s, .int .i64 mark] w fun u w' => u = .bool true ∧ Hp w w' [] := by
  refine enter Tryd.func7 rfl rfl ⟨rfl, rfl⟩ rfl ?_
  repeat (first | refine WC.seq ?_ | refine WC.reg ?_ | refine WL.pure rfl rfl rfl ?_ | refine WL.nil ?_ | refine WC.skip ?_ | refine WC.block ?_ | refine WC.condT rfl ?_ | refine WC.condF rfl ?_ | refine WL.off rfl rfl rfl ?_ | refine WL.off0 rfl rfl ?_ | refine WC.exit ?_ | refine blk_hit ?_ | refine blk_miss rfl ?_ | refine WC.ret ?_)
  refine WL.box rfl rfl rfl (fun b1 w1 hb1 => ?_)
  have hp1 : Hp w w1 [Mkb b1 (.slice a1 l1.length k1) (.slice a2 l2.length k2)] := (Hp.start w).new hb1
  repeat (first | refine WC.seq ?_ | refine WC.reg ?_ | refine WL.pure rfl rfl rfl ?_ | refine WL.nil ?_ | refine WC.skip ?_ | refine WC.block ?_ | refine WC.condT rfl ?_ | refine WC.condF rfl ?_ | refine WL.off rfl rfl rfl ?_ | refine WL.off0 rfl rfl ?_ | refine WC.exit ?_ | refine blk_hit ?_ | refine blk_miss rfl ?_ | refine WC.ret ?_)
  refine WL.loadN rfl rfl rfl rfl rfl (cs := [.slice a1 l1.length k1, .slice a2 l2.length k2]) rfl (fun q v hq => cell_of_obj (hp1.obj 0 rfl) (by rw [Nat.zero_add]; simpa using hq)) ?_
  refine WL.call rfl rfl rfl rfl rfl ent25 (marks_any a1 a2 k1 k2 l1 l2 h1 h2 w1 (hs1.hp hp1) (hs2.hp hp1)) ?_
  rintro _ w2 ⟨p1, q1, p2, q2, rfl, hp2⟩
  have hp2 := hp1.comb hp2
  have hS := stemM_ok l1
  have hL := lopM_ok l2
  generalize stemM l1 = S at *
  generalize lopM l2 = Lo at *
  obtain ⟨x0, r, rfl⟩ : ∃ x0 r, Lo = x0 :: r := by
    cases Lo with
    | nil => exact absurd hL.1 (by decide)
    | cons x r => exact ⟨x, r, rfl⟩
  have hrl : r.length + 1 ≤ 20 := hL.2.1
  have hSl : S.length ≤ 20 := hS.1
  have hmS : ∀ m ∈ S, 0 ≤ m ∧ m ≤ 15 := hS.2
  have hmL : ∀ m ∈ x0 :: r, 0 ≤ m ∧ m ≤ 15 := hL.2.2
  refine WL.alloc rfl rfl rfl (fun b7 w3 hb7 => ?_)
  have hp3 := hp2.new hb7
  refine WL.storeN rfl rfl rfl rfl rfl (by simp [Value.oneCell']) (hp3.obj 0 rfl) (Nat.le_refl _) rfl (fun w4 h4 => ?_)
  have hp4 : Hp w w4 [Mkb b7 (.slice p1 S.length q1) (.slice p2 (x0 :: r).length q2), Ri (.slice p1 S.length q1) S, Ri (.slice p2 (x0 :: r).length q2) (x0 :: r)] := (hp3.set 0 rfl rfl h4).pick [0, 1, 2] (by decide)
  clear hp3 hp2 hp1
  repeat (first | refine WC.seq ?_ | refine WC.reg ?_ | refine WL.pure rfl rfl rfl ?_ | refine WL.nil ?_ | refine WC.skip ?_ | refine WC.block ?_ | refine WC.condT rfl ?_ | refine WC.condF rfl ?_ | refine WL.off rfl rfl rfl ?_ | refine WL.off0 rfl rfl ?_ | refine WC.exit ?_ | refine blk_hit ?_ | refine blk_miss rfl ?_ | refine WC.ret ?_)
  refine WL.call rfl rfl rfl rfl rfl ent16 (short_any s hsl w4) ?_
  rintro _ w5 ⟨rfl, hw5⟩
  obtain rfl := hw5.symm
  have hq := shortM_len s
  generalize shortM s = t at *
  repeat (first | refine WC.seq ?_ | refine WC.reg ?_ | refine WL.pure rfl rfl rfl ?_ | refine WL.nil ?_ | refine WC.skip ?_ | refine WC.block ?_ | refine WC.condT rfl ?_ | refine WC.condF rfl ?_ | refine WL.off rfl rfl rfl ?_ | refine WL.off0 rfl rfl ?_ | refine WC.exit ?_ | refine blk_hit ?_ | refine blk_miss rfl ?_ | refine WC.ret ?_)
  refine WL.loadB rfl rfl rfl rfl rfl (hp4.obj 0 rfl) (j := 0) rfl ?_
  repeat (first | refine WC.seq ?_ | refine WC.reg ?_ | refine WL.pure rfl rfl rfl ?_ | refine WL.nil ?_ | refine WC.skip ?_ | refine WC.block ?_ | refine WC.condT rfl ?_ | refine WC.condF rfl ?_ | refine WL.off rfl rfl rfl ?_ | refine WL.off0 rfl rfl ?_ | refine WC.exit ?_ | refine blk_hit ?_ | refine blk_miss rfl ?_ | refine WC.ret ?_)
  refine WL.loadB rfl rfl rfl rfl rfl (hp4.obj 0 rfl) (j := 1) rfl ?_
  repeat (first | refine WC.seq ?_ | refine WC.reg ?_ | refine WL.pure rfl rfl rfl ?_ | refine WL.nil ?_ | refine WC.skip ?_ | refine WC.block ?_ | refine WC.condT rfl ?_ | refine WC.condF rfl ?_ | refine WL.off rfl rfl rfl ?_ | refine WL.off0 rfl rfl ?_ | refine WC.exit ?_ | refine blk_hit ?_ | refine blk_miss rfl ?_ | refine WC.ret ?_)
  refine WL.call rfl rfl rfl rfl rfl ent17 (Value_any p1 p2 q1 q2 S (x0 :: r) t (by omega) (by rw [List.length_cons]; omega) w4 (hG.hp hp4) (hp4.sl 1 rfl) (hp4.sl 2 rfl)) ?_
  rintro _ w6 ⟨rfl, hp6⟩
  have hp6 := hp4.call hp6.below
  clear hp4
  have hmark : ∀ {A B : List Int}, (∀ m ∈ A, 0 ≤ m ∧ m ≤ 15) → (∀ m ∈ B, 0 ≤ m ∧ m ≤ 15) → ∀ m ∈ A ++ B, 0 ≤ m ∧ m ≤ 15 := fun hA hB m hm => by
    rcases List.mem_append.1 hm with h | h
    · exact hA m h
    · exact hB m h
  have hmr : ∀ m ∈ r, 0 ≤ m ∧ m ≤ 15 := fun m hm => hmL m (List.mem_cons_of_mem _ hm)
  have hm0 : ∀ m ∈ [x0], 0 ≤ m ∧ m ≤ 15 := fun m hm => by rw [List.mem_singleton.1 hm]; exact hmL x0 (by simp)
  cases hf : parseM t with
  | none =>
    rw [ValueM_none hf (by omega) hL.1 (by rw [List.length_cons]; omega) (hmark hmS hmL)]
    repeat (first | refine WC.seq ?_ | refine WC.reg ?_ | refine WL.pure rfl rfl rfl ?_ | refine WL.nil ?_ | refine WC.skip ?_ | refine WC.block ?_ | refine WC.condT rfl ?_ | refine WC.condF rfl ?_ | refine WL.off rfl rfl rfl ?_ | refine WL.off0 rfl rfl ?_ | refine WC.exit ?_ | refine blk_hit ?_ | refine blk_miss rfl ?_ | refine WC.ret ?_)
    refine WL.call rfl rfl rfl rfl rfl ent20 (awake_any w6 (hG.hp hp6)) ?_
    rintro _ w7 ⟨rfl, hp7⟩
    repeat (first | refine WC.seq ?_ | refine WC.reg ?_ | refine WL.pure rfl rfl rfl ?_ | refine WL.nil ?_ | refine WC.skip ?_ | refine WC.block ?_ | refine WC.condT rfl ?_ | refine WC.condF rfl ?_ | refine WL.off rfl rfl rfl ?_ | refine WL.off0 rfl rfl ?_ | refine WC.exit ?_ | refine blk_hit ?_ | refine blk_miss rfl ?_ | refine WC.ret ?_)
    exact Res.one rfl rfl rfl ⟨rfl, (hp6.call hp7.below).nil'⟩
  | some f =>
    obtain ⟨v, hv, hvs⟩ := ValueM_ok hf (by omega) hL.1 (by rw [List.length_cons]; omega) (hmark hmS hmL)
    rw [hv]
    clear hv
    repeat (first | refine WC.seq ?_ | refine WC.reg ?_ | refine WL.pure rfl rfl rfl ?_ | refine WL.nil ?_ | refine WC.skip ?_ | refine WC.block ?_ | refine WC.condT rfl ?_ | refine WC.condF rfl ?_ | refine WL.off rfl rfl rfl ?_ | refine WL.off0 rfl rfl ?_ | refine WC.exit ?_ | refine blk_hit ?_ | refine blk_miss rfl ?_ | refine WC.ret ?_)
    refine WC.mid (Option Addr × Nat) (fun (pa, pc) => [(1, st t), (2, .int .i64 mark), (7, ptr b7), (8, .bool v), (10, .slice pa (S ++ [x0]).length pc), (11, .slice none 0 0), (12, .slice none 0 0)])
      (fun (pa, pc) w' => Hp w w' [Mkb b7 (.slice p1 S.length q1) (.slice p2 (x0 :: r).length q2), Ri (.slice p1 S.length q1) S, Ri (.slice p2 (x0 :: r).length q2) (x0 :: r), Ri (.slice pa (S ++ [x0]).length pc) (S ++ [x0])]) ?_ ?_
    · obtain ⟨b2, o2, hae, hac⟩ := hp6.sl 2 rfl 0 (.int .i64 x0) rfl
      subst hae
      refine WC.regH (fun w' => Hp w w' [Mkb b7 (.slice p1 S.length q1) (.slice (some ⟨b2, o2, none⟩) (x0 :: r).length q2), Ri (.slice (some ⟨b2, o2, none⟩) (x0 :: r).length q2) (x0 :: r)]) mixed (by kernel_rfl) (fun w7 hw7 hh7 => ?_)
      have hp7 := hp6.keep hw7
      have hS7 := hp7.pick [0, 2] (by decide)
      refine WH.pure 0 (by kernel_rfl) rfl (by kernel_rfl) rfl rfl rfl (hS7) ?_
      refine WH.pure 1 (by kernel_rfl) rfl (by kernel_rfl) rfl rfl rfl (hS7) ?_
      refine WH.load 2 (by kernel_rfl) rfl (by kernel_rfl) rfl rfl rfl rfl rfl (fun w' h => cell_of_obj (h.obj 0 rfl) (j := 0) rfl) hS7 ?_
      refine WH.pure 4 (by kernel_rfl) rfl (by kernel_rfl) rfl rfl rfl (hS7) ?_
      refine WH.load 5 (by kernel_rfl) rfl (by kernel_rfl) rfl rfl rfl rfl rfl (fun w' h => cell_of_obj (h.obj 0 rfl) (j := 1) rfl) hS7 ?_
      refine WH.ix1 6 (j := 0) (by kernel_rfl) rfl (by kernel_rfl) rfl rfl rfl rfl rfl rfl rfl (Nat.succ_pos _) hS7 ?_
      refine WH.load 7 (by kernel_rfl) rfl (by kernel_rfl) rfl rfl rfl rfl rfl (fun w' h => Sl.cell (h.sl 1 rfl) (i := 0) rfl) hS7 ?_
      have hp8 : Hp w w7 (.row 3 1 (.slice none 0 0) 0 [] :: _) := hp7.nilrow _ _
      refine WH.two 3 8 rfl rfl (by kernel_rfl) ?_ ?_
      · refine WL.append 0 hp8 rfl rfl rfl rfl rfl (by decide) rfl rfl rfl (news := zs S) (hp8.sl 2 rfl) (by rw [zs_len]; exact (Nat.mul_one _).symm) (zs_cells _) (by unfold maxLen; omega) (by show (0 + S.length) * 8 ≤ _; omega) ?_
        intro pa pc w9 hp9 _
        rw [Nat.zero_add] at hp9 ⊢
        refine WL.nil ⟨hp9.pick [1, 3] (by decide), ?_⟩
        refine WH.one 8 rfl (by kernel_rfl) ?_
        refine WL.buildS (cs := [.int .i64 x0]) rfl rfl rfl rfl rfl rfl rfl rfl rfl (fun b10 w10 h10 => ?_)
        have hp10 := hp9.new h10
        refine WL.nil ⟨hp10.pick [2, 4] (by decide), ?_⟩
        refine WH.one 9 rfl (by kernel_rfl) ?_
        refine WL.append 1 hp10 rfl rfl rfl rfl rfl (by decide) rfl rfl rfl (news := [.int .i64 x0]) (Sl.of_obj (hp10.obj 0 rfl) (fun q u hq => by simpa using hq)) rfl (zs_cells [x0]) (by unfold maxLen; omega) (by show (S.length + 1) * 8 ≤ _; omega) ?_
        intro pb pd w11 hp11 _
        have hp11 := last4 (hp11.pick [2, 3, 4, 1] (by decide)) (show Ent.row 3 1 (.slice pb (S.length + 1) pd) (S.length + 1) (([] ++ zs S) ++ [.int .i64 x0]) = Ri (.slice pb (S ++ [x0]).length pd) (S ++ [x0]) from by rw [List.nil_append, Ri_eq1, List.length_append]; rfl)
        refine WL.nil ⟨hp11.pick [0, 2] (by decide), ?_⟩
        refine WH.pure 10 (by kernel_rfl) rfl (by kernel_rfl) rfl rfl rfl (hp11.pick [0, 2] (by decide)) ?_
        refine WH.done (by kernel_rfl) ?_
        exact ⟨(pb, pd), ⟨rfl, rfl, rfl, rfl, by rw [List.length_append]; rfl, rfl, rfl, rfl⟩, hp11⟩
      · refine WL.buildS (cs := [.int .i64 x0]) rfl rfl rfl rfl rfl rfl rfl rfl rfl (fun b9 w9 h9 => ?_)
        have hp9 := hp8.new h9
        refine WL.nil ⟨hp9.pick [2, 4] (by decide), ?_⟩
        refine WH.one 3 rfl (by kernel_rfl) ?_
        refine WL.append 1 hp9 rfl rfl rfl rfl rfl (by decide) rfl rfl rfl (news := zs S) (hp9.sl 3 rfl) (by rw [zs_len]; exact (Nat.mul_one _).symm) (zs_cells _) (by unfold maxLen; omega) (by show (0 + S.length) * 8 ≤ _; omega) ?_
        intro pa pc w10 hp10 _
        rw [Nat.zero_add] at hp10 ⊢
        refine WL.nil ⟨hp10.pick [2, 4] (by decide), ?_⟩
        refine WH.one 9 rfl (by kernel_rfl) ?_
        refine WL.append 1 hp10 rfl rfl rfl rfl rfl (by decide) rfl rfl rfl (news := [.int .i64 x0]) (Sl.of_obj (hp10.obj 0 rfl) (fun q u hq => by simpa using hq)) rfl (zs_cells [x0]) (by unfold maxLen; omega) (by show (S.length + 1) * 8 ≤ _; omega) ?_
        intro pb pd w11 hp11 _
        have hp11 := last4 (hp11.pick [2, 3, 4, 1] (by decide)) (show Ent.row 3 1 (.slice pb (S.length + 1) pd) (S.length + 1) (([] ++ zs S) ++ [.int .i64 x0]) = Ri (.slice pb (S ++ [x0]).length pd) (S ++ [x0]) from by rw [List.nil_append, Ri_eq1, List.length_append]; rfl)
        refine WL.nil ⟨hp11.pick [0, 2] (by decide), ?_⟩
        refine WH.pure 10 (by kernel_rfl) rfl (by kernel_rfl) rfl rfl rfl (hp11.pick [0, 2] (by decide)) ?_
        refine WH.done (by kernel_rfl) ?_
        exact ⟨(pb, pd), ⟨rfl, rfl, rfl, rfl, by rw [List.length_append]; rfl, rfl, rfl, rfl⟩, hp11⟩
    rintro ⟨pa, pc⟩ e7 w7 hsub hp7
    refine WC.sub hsub ?_
    clear hsub e7 hp6
    replace hp7 : Hp w w7 [Mkb b7 (.slice p1 S.length q1) (.slice p2 (x0 :: r).length q2), Ri (.slice p1 S.length q1) S, Ri (.slice p2 (x0 :: r).length q2) (x0 :: r), Ri (.slice pa (S ++ [x0]).length pc) (S ++ [x0])] := hp7
    repeat (first | refine WC.seq ?_ | refine WC.reg ?_ | refine WL.pure rfl rfl rfl ?_ | refine WL.nil ?_ | refine WC.skip ?_ | refine WC.block ?_ | refine WC.condT rfl ?_ | refine WC.condF rfl ?_ | refine WL.off rfl rfl rfl ?_ | refine WL.off0 rfl rfl ?_ | refine WC.exit ?_ | refine blk_hit ?_ | refine blk_miss rfl ?_ | refine WC.ret ?_)
    refine WC.mid (Option Addr × Nat) (fun (pe, pf) => [(1, st t), (2, .int .i64 mark), (7, ptr b7), (8, .bool v), (10, .slice pa (S ++ [x0]).length pc), (11, .slice pe (r ++ [x0]).length pf), (12, .slice none 0 0)])
      (fun (pe, pf) w' => Hp w w' [Mkb b7 (.slice p1 S.length q1) (.slice p2 (x0 :: r).length q2), Ri (.slice p1 S.length q1) S, Ri (.slice p2 (x0 :: r).length q2) (x0 :: r), Ri (.slice pa (S ++ [x0]).length pc) (S ++ [x0]), Ri (.slice pe (r ++ [x0]).length pf) (r ++ [x0])]) ?_ ?_
    · have hcap := hp7.capR 2 rfl
      obtain ⟨b2, o2, hae, hac⟩ := hp7.sl 2 rfl 0 (.int .i64 x0) rfl
      subst hae
      refine WC.regH (fun w' => Hp w w' [Mkb b7 (.slice p1 S.length q1) (.slice (some ⟨b2, o2, none⟩) (x0 :: r).length q2), Ri (.slice (some ⟨b2, o2, none⟩) (x0 :: r).length q2) (x0 :: r)]) mixed (by kernel_rfl) (fun w8 hw8 hh8 => ?_)
      have hp8 := hp7.keep hw8
      have hS8 := hp8.pick [0, 2] (by decide)
      have hofs : ∀ {w' : World} {L : List Ent} {i : Nat}, Hp w w' L → nth L i = some (Ri (.slice (some ⟨b2, o2, none⟩) (x0 :: r).length q2) (x0 :: r)) → Sl w' (Go.W.ofs (some ⟨b2, o2, none⟩) q2 1 1) (zs r) := by
        intro w' L i hp hi
        have := Sl.ofs (len := (x0 :: r).length) (cap := q2) (l := 1) (size := 1) (hp.sl i hi) (Nat.succ_pos _) hcap (by rw [zs_len, Nat.mul_one]; exact Nat.le_refl _)
        exact this
      refine WH.pure 0 (by kernel_rfl) rfl (by kernel_rfl) rfl rfl rfl (hS8) ?_
      refine WH.pure 1 (by kernel_rfl) rfl (by kernel_rfl) rfl rfl rfl (hS8) ?_
      refine WH.load 2 (by kernel_rfl) rfl (by kernel_rfl) rfl rfl rfl rfl rfl (fun w' h => cell_of_obj (h.obj 0 rfl) (j := 1) rfl) hS8 ?_
      refine WH.take 3 (by kernel_rfl) rfl (by kernel_rfl) rfl rfl (fun w' h => ySlLo (l := 1) rfl rfl rfl rfl (Nat.succ_pos _) hcap) hS8 ?_
      refine WH.pure 5 (by kernel_rfl) rfl (by kernel_rfl) rfl rfl rfl (hS8) ?_
      refine WH.load 6 (by kernel_rfl) rfl (by kernel_rfl) rfl rfl rfl rfl rfl (fun w' h => cell_of_obj (h.obj 0 rfl) (j := 1) rfl) hS8 ?_
      refine WH.ix1 7 (j := 0) (by kernel_rfl) rfl (by kernel_rfl) rfl rfl rfl rfl rfl rfl rfl (Nat.succ_pos _) hS8 ?_
      refine WH.load 8 (by kernel_rfl) rfl (by kernel_rfl) rfl rfl rfl rfl rfl (fun w' h => Sl.cell (h.sl 1 rfl) (i := 0) rfl) hS8 ?_
      have hp9 : Hp w w8 (.row 3 1 (.slice none 0 0) 0 [] :: _) := hp8.nilrow _ _
      refine WH.two 4 9 rfl rfl (by kernel_rfl) ?_ ?_
      · refine WL.append 0 hp9 rfl rfl rfl rfl rfl (by decide) rfl rfl rfl (news := zs r) (hofs hp9 (i := 3) rfl) (by rw [zs_len]; exact (Nat.mul_one _).symm) (zs_cells _) (by unfold maxLen; show 0 + r.length ≤ _; omega) (by show (0 + r.length) * 8 ≤ _; omega) ?_
        intro pe pf w9 hp10 _
        replace hp10 : Hp w w9 (.row 3 1 (.slice pe (0 + r.length) pf) (0 + r.length) ([] ++ zs r) :: _) := hp10
        rw [show (0 + ((x0 :: r).length - 1)) = r.length from Nat.zero_add _]
        rw [Nat.zero_add] at hp10
        refine WL.nil ⟨hp10.pick [1, 3] (by decide), ?_⟩
        refine WH.one 9 rfl (by kernel_rfl) ?_
        refine WL.buildS (cs := [.int .i64 x0]) rfl rfl rfl rfl rfl rfl rfl rfl rfl (fun b10 w10 h10 => ?_)
        have hp11 := hp10.new h10
        refine WL.nil ⟨hp11.pick [2, 4] (by decide), ?_⟩
        refine WH.one 10 rfl (by kernel_rfl) ?_
        refine WL.append 1 hp11 rfl rfl rfl rfl rfl (by decide) rfl rfl rfl (news := [.int .i64 x0]) (Sl.of_obj (hp11.obj 0 rfl) (fun q u hq => by simpa using hq)) rfl (zs_cells [x0]) (by unfold maxLen; omega) (by show (r.length + 1) * 8 ≤ _; omega) ?_
        intro pb pd w11 hp12 _
        have hp12 := last5 (hp12.pick [2, 3, 4, 5, 1] (by decide)) (show Ent.row 3 1 (.slice pb (r.length + 1) pd) (r.length + 1) (([] ++ zs r) ++ [.int .i64 x0]) = Ri (.slice pb (r ++ [x0]).length pd) (r ++ [x0]) from by rw [List.nil_append, Ri_eq1, List.length_append]; rfl)
        refine WL.nil ⟨hp12.pick [0, 2] (by decide), ?_⟩
        refine WH.pure 11 (by kernel_rfl) rfl (by kernel_rfl) rfl rfl rfl (hp12.pick [0, 2] (by decide)) ?_
        refine WH.done (by kernel_rfl) ?_
        exact ⟨(pb, pd), ⟨rfl, rfl, rfl, rfl, rfl, by rw [show (r ++ [x0]).length = r.length + 1 from List.length_append]; rfl, rfl, rfl⟩, hp12⟩
      · refine WL.buildS (cs := [.int .i64 x0]) rfl rfl rfl rfl rfl rfl rfl rfl rfl (fun b10 w10 h10 => ?_)
        have hp10 := hp9.new h10
        refine WL.nil ⟨hp10.pick [2, 4] (by decide), ?_⟩
        refine WH.one 4 rfl (by kernel_rfl) ?_
        refine WL.append 1 hp10 rfl rfl rfl rfl rfl (by decide) rfl rfl rfl (news := zs r) (hofs hp10 (i := 4) rfl) (by rw [zs_len]; exact (Nat.mul_one _).symm) (zs_cells _) (by unfold maxLen; show 0 + r.length ≤ _; omega) (by show (0 + r.length) * 8 ≤ _; omega) ?_
        intro pe pf w9 hp11 _
        replace hp11 : Hp w w9 (_ :: .row 3 1 (.slice pe (0 + r.length) pf) (0 + r.length) ([] ++ zs r) :: _) := hp11
        rw [show (0 + ((x0 :: r).length - 1)) = r.length from Nat.zero_add _]
        rw [Nat.zero_add] at hp11
        refine WL.nil ⟨hp11.pick [2, 4] (by decide), ?_⟩
        refine WH.one 10 rfl (by kernel_rfl) ?_
        refine WL.append 1 hp11 rfl rfl rfl rfl rfl (by decide) rfl rfl rfl (news := [.int .i64 x0]) (Sl.of_obj (hp11.obj 0 rfl) (fun q u hq => by simpa using hq)) rfl (zs_cells [x0]) (by unfold maxLen; omega) (by show (r.length + 1) * 8 ≤ _; omega) ?_
        intro pb pd w11 hp12 _
        have hp12 := last5 (hp12.pick [2, 3, 4, 5, 1] (by decide)) (show Ent.row 3 1 (.slice pb (r.length + 1) pd) (r.length + 1) (([] ++ zs r) ++ [.int .i64 x0]) = Ri (.slice pb (r ++ [x0]).length pd) (r ++ [x0]) from by rw [List.nil_append, Ri_eq1, List.length_append]; rfl)
        refine WL.nil ⟨hp12.pick [0, 2] (by decide), ?_⟩
        refine WH.pure 11 (by kernel_rfl) rfl (by kernel_rfl) rfl rfl rfl (hp12.pick [0, 2] (by decide)) ?_
        refine WH.done (by kernel_rfl) ?_
        exact ⟨(pb, pd), ⟨rfl, rfl, rfl, rfl, rfl, by rw [show (r ++ [x0]).length = r.length + 1 from List.length_append]; rfl, rfl, rfl⟩, hp12⟩
    rintro ⟨pe, pf⟩ e8 w8 hsub hp8
    refine WC.sub hsub ?_
    clear hsub e8 hp7
    replace hp8 : Hp w w8 [Mkb b7 (.slice p1 S.length q1) (.slice p2 (x0 :: r).length q2), Ri (.slice p1 S.length q1) S, Ri (.slice p2 (x0 :: r).length q2) (x0 :: r), Ri (.slice pa (S ++ [x0]).length pc) (S ++ [x0]), Ri (.slice pe (r ++ [x0]).length pf) (r ++ [x0])] := hp8
    obtain ⟨x1, hx1⟩ : ∃ x1, x1 = mod16 mark := ⟨_, rfl⟩
    have hx1m : 0 ≤ x1 ∧ x1 ≤ 15 := by rw [hx1]; exact mod16_ok mark
    repeat (first | refine WC.seq ?_ | refine WC.reg ?_ | refine WL.pure rfl rfl rfl ?_ | refine WL.nil ?_ | refine WC.skip ?_ | refine WC.block ?_ | refine WC.condT rfl ?_ | refine WC.condF rfl ?_ | refine WL.off rfl rfl rfl ?_ | refine WL.off0 rfl rfl ?_ | refine WC.exit ?_ | refine blk_hit ?_ | refine blk_miss rfl ?_ | refine WC.ret ?_)
    refine WC.mid (Option Addr × Nat) (fun (pg, ph) => [(1, st t), (7, ptr b7), (8, .bool v), (10, .slice pa (S ++ [x0]).length pc), (11, .slice pe (r ++ [x0]).length pf), (12, .slice pg (x1 :: S).length ph)])
      (fun (pg, ph) w' => Hp w w' [Mkb b7 (.slice p1 S.length q1) (.slice p2 (x0 :: r).length q2), Ri (.slice p1 S.length q1) S, Ri (.slice p2 (x0 :: r).length q2) (x0 :: r), Ri (.slice pa (S ++ [x0]).length pc) (S ++ [x0]), Ri (.slice pe (r ++ [x0]).length pf) (r ++ [x0]), Ri (.slice pg (x1 :: S).length ph) (x1 :: S)]) ?_ ?_
    · refine WC.regH (fun w' => Hp w w' [Mkb b7 (.slice p1 S.length q1) (.slice p2 (x0 :: r).length q2)]) mixed (by kernel_rfl) (fun w9 hw9 hh9 => ?_)
      have hp9 := hp8.keep hw9
      have hS9 := hp9.pick [0] (by decide)
      refine WH.pure 0 (by kernel_rfl) rfl (by kernel_rfl) rfl rfl rfl (hS9) ?_
      refine WH.pure 1 (by kernel_rfl) rfl (by kernel_rfl) rfl rfl rfl (hS9) ?_
      refine WH.pure 5 (by kernel_rfl) rfl (by kernel_rfl) rfl rfl rfl (hS9) ?_
      refine WH.load 6 (by kernel_rfl) rfl (by kernel_rfl) rfl rfl rfl rfl rfl (fun w' h => cell_of_obj (h.obj 0 rfl) (j := 0) rfl) hS9 ?_
      refine WH.one 2 rfl (by kernel_rfl) ?_
      refine WL.call rfl rfl rfl rfl rfl ent29 (mod_any mark 16 (by decide) (by decide) w9) ?_
      rintro _ w10 ⟨rfl, hw10⟩
      obtain rfl := hw10.symm
      rw [show (Value.int .i64 ((modN mark 16 : Nat) : Int)) = .int .i64 x1 from by rw [hx1]; rfl]
      refine WL.nil ⟨hS9, ?_⟩
      refine WH.one 3 rfl (by kernel_rfl) ?_
      refine WL.buildS (cs := [.int .i64 x1]) rfl rfl rfl rfl rfl rfl rfl rfl rfl (fun b11 w11 h11 => ?_)
      have hp11 := (hp9.new h11).nilrow 3 1
      refine WL.nil ⟨hp11.pick [2] (by decide), ?_⟩
      refine WH.one 4 rfl (by kernel_rfl) ?_
      refine WL.append 0 hp11 rfl rfl rfl rfl rfl (by decide) rfl rfl rfl (news := [.int .i64 x1]) (Sl.of_obj (hp11.obj 1 rfl) (fun q u hq => by simpa using hq)) rfl (zs_cells [x1]) (by decide) (by decide) ?_
      intro pg ph w12 hp12 _
      refine WL.nil ⟨hp12.pick [2] (by decide), ?_⟩
      refine WH.one 7 rfl (by kernel_rfl) ?_
      refine WL.append 0 hp12 rfl rfl rfl rfl rfl (by decide) rfl rfl rfl (news := zs S) (hp12.sl 3 rfl) (by rw [zs_len]; exact (Nat.mul_one _).symm) (zs_cells _) (by unfold maxLen; omega) (by show (0 + 1 + S.length) * 8 ≤ _; omega) ?_
      intro pi pj w13 hp13 _
      have hp13 := last6 (hp13.pick [2, 3, 4, 5, 6, 0] (by decide)) (show Ent.row 3 1 (.slice pi (0 + 1 + S.length) pj) (0 + 1 + S.length) (([] ++ [.int .i64 x1]) ++ zs S) = Ri (.slice pi (x1 :: S).length pj) (x1 :: S) from by rw [show 0 + 1 + S.length = (x1 :: S).length by rw [List.length_cons]; omega]; rfl)
      refine WL.nil ⟨hp13.pick [0] (by decide), ?_⟩
      refine WH.pure 8 (by kernel_rfl) rfl (by kernel_rfl) rfl rfl rfl (hp13.pick [0] (by decide)) ?_
      refine WH.done (by kernel_rfl) ?_
      exact ⟨(pi, pj), ⟨rfl, rfl, rfl, rfl, rfl, by rw [show (x1 :: S).length = 0 + 1 + S.length by rw [List.length_cons]; omega]; rfl, rfl⟩, hp13⟩
    rintro ⟨pg, ph⟩ e9 w9 hsub hp9
    refine WC.sub hsub ?_
    clear hsub e9 hp8
    replace hp9 : Hp w w9 [Mkb b7 (.slice p1 S.length q1) (.slice p2 (x0 :: r).length q2), Ri (.slice p1 S.length q1) S, Ri (.slice p2 (x0 :: r).length q2) (x0 :: r), Ri (.slice pa (S ++ [x0]).length pc) (S ++ [x0]), Ri (.slice pe (r ++ [x0]).length pf) (r ++ [x0]), Ri (.slice pg (x1 :: S).length ph) (x1 :: S)] := hp9
    have hli : listM (x0 :: r) = x0 :: r := List.take_of_length_le (by rw [List.length_cons]; omega)
    repeat (first | refine WC.seq ?_ | refine WC.reg ?_ | refine WL.pure rfl rfl rfl ?_ | refine WL.nil ?_ | refine WC.skip ?_ | refine WC.block ?_ | refine WC.condT rfl ?_ | refine WC.condF rfl ?_ | refine WL.off rfl rfl rfl ?_ | refine WL.off0 rfl rfl ?_ | refine WC.exit ?_ | refine blk_hit ?_ | refine blk_miss rfl ?_ | refine WC.ret ?_)
    refine WC.mid (Option Addr × Nat) (fun (pk, pl) => [(1, st t), (7, ptr b7), (8, .bool v), (10, .slice pa (S ++ [x0]).length pc), (11, .slice pe (r ++ [x0]).length pf), (12, .slice pg (x1 :: S).length ph), (13, .slice pk ((x0 :: r) ++ (x0 :: r)).length pl)])
      (fun (pk, pl) w' => Hp w w' [Mkb b7 (.slice p1 S.length q1) (.slice p2 (x0 :: r).length q2), Ri (.slice p1 S.length q1) S, Ri (.slice p2 (x0 :: r).length q2) (x0 :: r), Ri (.slice pa (S ++ [x0]).length pc) (S ++ [x0]), Ri (.slice pe (r ++ [x0]).length pf) (r ++ [x0]), Ri (.slice pg (x1 :: S).length ph) (x1 :: S), Ri (.slice pk ((x0 :: r) ++ (x0 :: r)).length pl) ((x0 :: r) ++ (x0 :: r))]) ?_ ?_
    · have hcap := hp9.capR 2 rfl
      refine WC.regH (fun w' => Hp w w' [Mkb b7 (.slice p1 S.length q1) (.slice p2 (x0 :: r).length q2)]) mixed (by kernel_rfl) (fun w10 hw10 hh10 => ?_)
      have hp10 := hp9.keep hw10
      have hS10 := hp10.pick [0] (by decide)
      refine WH.pure 0 (by kernel_rfl) rfl (by kernel_rfl) rfl rfl rfl (hS10) ?_
      refine WH.load 1 (by kernel_rfl) rfl (by kernel_rfl) rfl rfl rfl rfl rfl (fun w' h => cell_of_obj (h.obj 0 rfl) (j := 1) rfl) hS10 ?_
      refine WH.pure 3 (by kernel_rfl) rfl (by kernel_rfl) rfl rfl rfl (hS10) ?_
      refine WH.load 4 (by kernel_rfl) rfl (by kernel_rfl) rfl rfl rfl rfl rfl (fun w' h => cell_of_obj (h.obj 0 rfl) (j := 1) rfl) hS10 ?_
      refine WH.one 2 rfl (by kernel_rfl) ?_
      refine WL.call rfl rfl rfl rfl rfl ent15 (list_any p2 q2 (x0 :: r) (by rw [List.length_cons]; omega) hcap w10 (hp10.sl 2 rfl)) ?_
      rw [hli]
      rintro _ w11 ⟨pk, pl, rfl, hp11⟩
      have hp12 := hp10.comb hp11
      refine WL.nil ⟨hp12.pick [1] (by decide), ?_⟩
      refine WH.one 5 rfl (by kernel_rfl) ?_
      refine WL.append 0 hp12 rfl rfl rfl rfl rfl (by decide) rfl rfl rfl (news := zs (x0 :: r)) (hp12.sl 3 rfl) (by rw [zs_len]; exact (Nat.mul_one _).symm) (zs_cells _) (by unfold maxLen; rw [List.length_cons]; omega) (by show ((x0 :: r).length + (x0 :: r).length) * 8 ≤ _; rw [List.length_cons]; omega) ?_
      intro pm pn w13 hp13 _
      have hp13 := last7 (hp13.pick [1, 2, 3, 4, 5, 6, 0] (by decide)) (show Ent.row 3 1 (.slice pm ((x0 :: r).length + (x0 :: r).length) pn) ((x0 :: r).length + (x0 :: r).length) (zs (x0 :: r) ++ zs (x0 :: r)) = Ri (.slice pm ((x0 :: r) ++ (x0 :: r)).length pn) ((x0 :: r) ++ (x0 :: r)) from by exact Ri_eq _ (x0 :: r) (x0 :: r) |>.trans (by rw [List.length_append]))
      refine WL.nil ⟨hp13.pick [0] (by decide), ?_⟩
      refine WH.pure 6 (by kernel_rfl) rfl (by kernel_rfl) rfl rfl rfl (hp13.pick [0] (by decide)) ?_
      refine WH.done (by kernel_rfl) ?_
      exact ⟨(pm, pn), ⟨rfl, rfl, rfl, rfl, rfl, rfl, by rw [show ((x0 :: r) ++ (x0 :: r)).length = (x0 :: r).length + (x0 :: r).length from List.length_append]; rfl, rfl⟩, hp13⟩
    rintro ⟨pk, pl⟩ e10 w10 hsub hp10
    refine WC.sub hsub ?_
    clear hsub e10 hp9 hli
    replace hp10 : Hp w w10 [Mkb b7 (.slice p1 S.length q1) (.slice p2 (x0 :: r).length q2), Ri (.slice p1 S.length q1) S, Ri (.slice p2 (x0 :: r).length q2) (x0 :: r), Ri (.slice pa (S ++ [x0]).length pc) (S ++ [x0]), Ri (.slice pe (r ++ [x0]).length pf) (r ++ [x0]), Ri (.slice pg (x1 :: S).length ph) (x1 :: S), Ri (.slice pk ((x0 :: r) ++ (x0 :: r)).length pl) ((x0 :: r) ++ (x0 :: r))] := hp10
    have lA : (S ++ [x0]).length ≤ 21 ∧ (r ++ [x0]).length ≤ 20 ∧ 1 ≤ (r ++ [x0]).length ∧ (x1 :: S).length ≤ 21 ∧ ((x0 :: r) ++ (x0 :: r)).length ≤ 40 ∧ 1 ≤ ((x0 :: r) ++ (x0 :: r)).length := by
      simp only [List.length_append, List.length_cons, List.length_nil]; omega
    repeat (first | refine WC.seq ?_ | refine WC.reg ?_ | refine WL.pure rfl rfl rfl ?_ | refine WL.nil ?_ | refine WC.skip ?_ | refine WC.block ?_ | refine WC.condT rfl ?_ | refine WC.condF rfl ?_ | refine WL.off rfl rfl rfl ?_ | refine WL.off0 rfl rfl ?_ | refine WC.exit ?_ | refine blk_hit ?_ | refine blk_miss rfl ?_ | refine WC.ret ?_)
    refine WL.call rfl rfl rfl rfl rfl ent17 (Value_any pa pe pc pf (S ++ [x0]) (r ++ [x0]) t (by omega) (by omega) w10 (hG.hp hp10) (hp10.sl 3 rfl) (hp10.sl 4 rfl)) ?_
    rintro _ w11 ⟨rfl, hp11⟩
    have hp11 := hp10.call hp11.below
    obtain ⟨va, hva, hvas⟩ := ValueM_ok hf (l1 := S ++ [x0]) (l2 := r ++ [x0]) (by omega) lA.2.2.1 (by omega) (hmark (hmark hmS hm0) (hmark hmr hm0))
    have ea : va = v := bool_iff hvas (hvs.trans (by
      have := satS_congr (a := 0) (b := 0) (σ := seqL ((S ++ [x0]) ++ (r ++ [x0])) (S ++ [x0]).length) (τ := seqL (S ++ (x0 :: r)) S.length) (fun k => by rw [Nat.zero_add]; exact seq_move S r x0 k) f 0
      exact this.symm))
    rw [hva, ea]
    repeat (first | refine WC.seq ?_ | refine WC.reg ?_ | refine WL.pure rfl rfl rfl ?_ | refine WL.nil ?_ | refine WC.skip ?_ | refine WC.block ?_ | refine WC.condT rfl ?_ | refine WC.condF rfl ?_ | refine WL.off rfl rfl rfl ?_ | refine WL.off0 rfl rfl ?_ | refine WC.exit ?_ | refine blk_hit ?_ | refine blk_miss rfl ?_ | refine WC.ret ?_)
    refine WL.loadB rfl rfl rfl rfl rfl (hp11.obj 0 rfl) (j := 0) rfl ?_
    repeat (first | refine WC.seq ?_ | refine WC.reg ?_ | refine WL.pure rfl rfl rfl ?_ | refine WL.nil ?_ | refine WC.skip ?_ | refine WC.block ?_ | refine WC.condT rfl ?_ | refine WC.condF rfl ?_ | refine WL.off rfl rfl rfl ?_ | refine WL.off0 rfl rfl ?_ | refine WC.exit ?_ | refine blk_hit ?_ | refine blk_miss rfl ?_ | refine WC.ret ?_)
    refine WL.call rfl rfl rfl rfl rfl ent17 (Value_any p1 pk q1 pl S ((x0 :: r) ++ (x0 :: r)) t (by omega) (by omega) w11 (hG.hp hp11) (hp11.sl 1 rfl) (hp11.sl 6 rfl)) ?_
    rintro _ w12 ⟨rfl, hp12⟩
    have hp12 := hp11.call hp12.below
    obtain ⟨vb, hvb, hvbs⟩ := ValueM_ok hf (l1 := S) (l2 := (x0 :: r) ++ (x0 :: r)) (by omega) lA.2.2.2.2.2 (by omega) (hmark hmS (hmark hmL hmL))
    have eb : vb = v := bool_iff hvbs (hvs.trans (by
      have := satS_congr (a := 0) (b := 0) (σ := seqL (S ++ ((x0 :: r) ++ (x0 :: r))) S.length) (τ := seqL (S ++ (x0 :: r)) S.length) (fun k => by rw [Nat.zero_add]; exact seq_twice S (x0 :: r) (Nat.succ_pos _) k) f 0
      exact this.symm))
    rw [hvb, eb]
    repeat (first | refine WC.seq ?_ | refine WC.reg ?_ | refine WL.pure rfl rfl rfl ?_ | refine WL.nil ?_ | refine WC.skip ?_ | refine WC.block ?_ | refine WC.condT rfl ?_ | refine WC.condF rfl ?_ | refine WL.off rfl rfl rfl ?_ | refine WL.off0 rfl rfl ?_ | refine WC.exit ?_ | refine blk_hit ?_ | refine blk_miss rfl ?_ | refine WC.ret ?_)
    refine WL.loadB rfl rfl rfl rfl rfl (hp12.obj 0 rfl) (j := 1) rfl ?_
    refine WL.pure rfl rfl rfl ?_
    refine WL.sCat (a := [40, 110, 101, 120, 116, 32]) (b := t) rfl rfl rfl rfl (by show 6 + t.length ≤ _; omega) ?_
    refine WL.sCat (a := [40, 110, 101, 120, 116, 32] ++ t) (b := [41]) rfl rfl rfl rfl (by rw [List.length_append]; show 6 + t.length + 1 ≤ _; omega) ?_
    refine WL.call rfl rfl rfl rfl rfl ent17 (Value_any pg p2 ph q2 (x1 :: S) (x0 :: r) (nextS t) (by unfold nextS; simp only [List.length_append, List.length_cons, List.length_nil]; omega) (by simp only [List.length_cons]; omega) w12 (hG.hp hp12) (hp12.sl 5 rfl) (hp12.sl 2 rfl)) ?_
    rintro _ w13 ⟨rfl, hp13⟩
    have hp13 := hp12.call hp13.below
    have hmx : ∀ m ∈ x1 :: S, 0 ≤ m ∧ m ≤ 15 := fun m hm => by
      rcases List.mem_cons.1 hm with h | h
      · rw [h]; exact hx1m
      · exact hmS m h
    cases hg : parseM (nextS t) with
    | none =>
      rw [ValueM_none hg (by omega) hL.1 (by rw [List.length_cons]; omega) (hmark hmx hmL)]
      cases v <;>
      · repeat (first | refine WC.seq ?_ | refine WC.reg ?_ | refine WL.pure rfl rfl rfl ?_ | refine WL.nil ?_ | refine WC.skip ?_ | refine WC.block ?_ | refine WC.condT rfl ?_ | refine WC.condF rfl ?_ | refine WL.off rfl rfl rfl ?_ | refine WL.off0 rfl rfl ?_ | refine WC.exit ?_ | refine blk_hit ?_ | refine blk_miss rfl ?_ | refine WC.ret ?_)
        refine WL.call rfl rfl rfl rfl rfl ent20 (awake_any w13 (hG.hp hp13)) ?_
        rintro _ w14 ⟨rfl, hp14⟩
        repeat (first | refine WC.seq ?_ | refine WC.reg ?_ | refine WL.pure rfl rfl rfl ?_ | refine WL.nil ?_ | refine WC.skip ?_ | refine WC.block ?_ | refine WC.condT rfl ?_ | refine WC.condF rfl ?_ | refine WL.off rfl rfl rfl ?_ | refine WL.off0 rfl rfl ?_ | refine WC.exit ?_ | refine blk_hit ?_ | refine blk_miss rfl ?_ | refine WC.ret ?_)
        exact Res.one rfl rfl rfl ⟨rfl, (hp13.call hp14.below).nil'⟩
    | some g =>
      obtain rfl := parse_one (by decide) (tok_next t) hf hg
      obtain ⟨vc, hvc, hvcs⟩ := ValueM_ok hg (l1 := x1 :: S) (l2 := x0 :: r) (by omega) hL.1 (by rw [List.length_cons]; omega) (hmark hmx hmL)
      have ec : vc = v := bool_iff hvcs (hvs.trans (by
        have := satS_congr (a := 1) (b := 0) (σ := seqL ((x1 :: S) ++ (x0 :: r)) (x1 :: S).length) (τ := seqL (S ++ (x0 :: r)) S.length) (fun k => seq_longer S (x0 :: r) x1 (Nat.succ_pos _) k) f 0
        rw [show satS (seqL ((x1 :: S) ++ (x0 :: r)) (x1 :: S).length) (.on_ wNext f) 0 ↔ satS (seqL ((x1 :: S) ++ (x0 :: r)) (x1 :: S).length) f (1 + 0) from by
          show (if wNext = wNot then _ else if wNext = wNext then _ else _) ↔ _
          rw [if_neg (by decide), if_pos rfl]]
        exact this.symm))
      rw [hvc, ec]
      cases v <;>
      · repeat (first | refine WC.seq ?_ | refine WC.reg ?_ | refine WL.pure rfl rfl rfl ?_ | refine WL.nil ?_ | refine WC.skip ?_ | refine WC.block ?_ | refine WC.condT rfl ?_ | refine WC.condF rfl ?_ | refine WL.off rfl rfl rfl ?_ | refine WL.off0 rfl rfl ?_ | refine WC.exit ?_ | refine blk_hit ?_ | refine blk_miss rfl ?_ | refine WC.ret ?_)
        refine WL.call rfl rfl rfl rfl rfl ent20 (awake_any w13 (hG.hp hp13)) ?_
        rintro _ w14 ⟨rfl, hp14⟩
        repeat (first | refine WC.seq ?_ | refine WC.reg ?_ | refine WL.pure rfl rfl rfl ?_ | refine WL.nil ?_ | refine WC.skip ?_ | refine WC.block ?_ | refine WC.condT rfl ?_ | refine WC.condF rfl ?_ | refine WL.off rfl rfl rfl ?_ | refine WL.off0 rfl rfl ?_ | refine WC.exit ?_ | refine blk_hit ?_ | refine blk_miss rfl ?_ | refine WC.ret ?_)
        exact Res.one rfl rfl rfl ⟨rfl, (hp13.call hp14.below).nil'⟩
end Go.Proofs.YtpbbneclkhfgoaaDoor
