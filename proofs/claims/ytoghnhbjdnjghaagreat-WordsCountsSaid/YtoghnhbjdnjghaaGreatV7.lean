/- The walks of a list without an element, and of the binary search. -/
import Derived.Test.YtoghnhbjdnjghaaGreatV6
namespace Go.W
open Go.RowKit
/-- The address of a part of a slice. -/
def ofs (a : Option Addr) (cap l size : Nat) : Option Addr := if cap = l then a else a.map (·.add (l * size))
theorem Sl.ofs {w : World} {a : Option Addr} {cs : List Value} {len cap l size : Nat} (hs : Sl w a cs) (hl : l ≤ len) (hlc : len ≤ cap) (hcl : cs.length ≤ len * size) : Sl w (ofs a cap l size) (cs.drop (l * size)) := by
  intro q u hq
  rw [List.getElem?_drop] at hq
  obtain ⟨b, o, ha, hc⟩ := hs _ u hq
  have hlt : l * size + q < cs.length := (List.getElem?_eq_some_iff.1 hq).1
  have hne : cap ≠ l := by
    intro hcl2
    have h1 : len = l := by omega
    rw [h1] at hcl
    omega
  unfold Go.W.ofs
  rw [if_neg hne, ha]
  refine ⟨b, o + l * size, by simp [Addr.add_lit], ?_⟩
  rw [Nat.add_assoc]; exact hc
section
variable {P : Program} [T : TT P] {e : Env} {w : World} {ty : TypeId}
theorem ySlHi {t E : TypeId} {i : TI} {z : Value} {s0 b0 len cap h : Nat} {x y : Operand} {a : Option Addr} {k : IntKind} (ht : T.ti t = some ⟨.slice E, z, s0, b0⟩) (hi : T.ti E = some i)
    (hx : opv e x = some (.slice a len cap)) (hy : opv e y = some (.int k (h : Nat))) (hh : h ≤ cap) : Yv P e (.slice t x none (some y) none) ty w (.slice a h cap) w := by
  have hu : P.underlying t = some (.slice E) := (T.ok t _ ht).k
  have hel : P.elem t = E := by simp [Program.elem, hu]
  have hu' : P.underlying t = some (.slice (P.elem t)) := by rw [hel]; exact hu
  have hsz := (T.ok E i hi).sizeOf w
  have hr := run_slice_h (P := P) w t a len cap hu' k h (by omega) (by omega)
  rw [hel, hsz] at hr
  have hval : sliced a 0 (h : Int).toNat cap i.size = .slice a h cap := by
    simp only [sliced, Nat.zero_mul, Nat.sub_zero, Int.toNat_natCast]
    congr 1
    split
    · rfl
    · cases a with
      | none => rfl
      | some p => simp [Addr.add_zero']
  intro ρ hρ d' pos' aft' g'
  simp only [execOp, hρ _ _ hx, Option.map_none, Option.map_some, hρ _ _ hy, Sem.run_bind]
  rw [run_sliceAt_slice w t _ _ _ _ hu', hr, Result.andThen_ok, hval]
  rfl
theorem ySlLo {t E : TypeId} {i : TI} {z : Value} {s0 b0 len cap l : Nat} {x y : Operand} {a : Option Addr} {k : IntKind} (ht : T.ti t = some ⟨.slice E, z, s0, b0⟩) (hi : T.ti E = some i)
    (hx : opv e x = some (.slice a len cap)) (hy : opv e y = some (.int k (l : Nat))) (hh : l ≤ len) (hlc : len ≤ cap) : Yv P e (.slice t x (some y) none none) ty w (.slice (ofs a cap l i.size) (len - l) (cap - l)) w := by
  have hu : P.underlying t = some (.slice E) := (T.ok t _ ht).k
  have hel : P.elem t = E := by simp [Program.elem, hu]
  have hu' : P.underlying t = some (.slice (P.elem t)) := by rw [hel]; exact hu
  have hsz := (T.ok E i hi).sizeOf w
  have hr := run_slice_l (P := P) w t a len cap hu' k l (by omega) (by omega)
  rw [hel, hsz] at hr
  intro ρ hρ d' pos' aft' g'
  simp only [execOp, hρ _ _ hx, Option.map_none, Option.map_some, hρ _ _ hy, Sem.run_bind]
  rw [run_sliceAt_slice w t _ _ _ _ hu', hr]
  simp [sliced, Go.W.ofs]
end
end Go.W
namespace Go.Proofs.YtoghnhbjdnjghaaGreat
open Go.W Go.Words
set_option maxRecDepth 100000
attribute [local irreducible] WC WL WQ WS WH

/-- The tidier in memory. -/
abbrev Td (tb : Nat) (v m : Value) : Ent := .blk tb (.cells #[v, m] 103 (0, 0))
theorem without_any (tb : Nat) (pa : Option Addr) (pc : Nat) (l : List Rl) (m : Value) (i : Nat) (hi : i < l.length) (hl : l.length ≤ 1000000) (hc : l.length ≤ pc) (w : World)
    (ht : w.heap[tb]? = some (.cells #[.slice pa l.length pc, m] 103 (0, 0))) (hs : Sl w pa (rcs l)) :
    Ret Tryz.prog 77 [.pointer (some ⟨tb, 0, none⟩), .int .i64 (i : Nat)] w fun u w' => ∃ ra rc, u = .slice ra (l.eraseIdx i).length rc ∧ Hp w w' [Rt u (l.eraseIdx i)] := by
  refine enter Tryz.func77 rfl rfl ⟨rfl, rfl⟩ rfl ?_
  repeat (first | refine WC.seq ?_ | refine WC.skip ?_ | refine WC.block ?_)
  refine WC.reg ?_
  repeat (first | refine WC.seq ?_ | refine WC.reg ?_ | refine WL.pure rfl rfl rfl ?_ | refine WL.nil ?_ | refine WC.skip ?_ | refine WC.block ?_ | refine WC.condT rfl ?_ | refine WC.condF rfl ?_ | refine WL.off rfl rfl rfl ?_ | refine WL.off0 rfl rfl ?_ | refine WC.exit ?_ | refine blk_hit ?_ | refine blk_miss rfl ?_ | refine WC.ret ?_)
  refine WC.mid (Option Addr × Nat) (fun (ra, rc) => [(4, .slice ra (l.eraseIdx i).length rc)]) (fun (ra, rc) w' => Hp w w' [Rt (.slice ra (l.eraseIdx i).length rc) (l.eraseIdx i)]) ?_ ?_
  · refine WC.regS 13 mixed (by kernel_rfl) rfl rfl (fun w1 hw1 hh1 => ?_)
    have hp1 := (Hp.start w).keep hw1
    have step := wrap_succ hi (by omega)
    repeat (first | refine WS.pure rfl rfl rfl ?_ | refine WS.off rfl rfl rfl ?_ | refine WS.nil ?_)
    refine WS.val rfl rfl (yNil rfl) ?_
    repeat (first | refine WS.pure rfl rfl rfl ?_ | refine WS.off rfl rfl rfl ?_ | refine WS.nil ?_)
    refine WS.loadB rfl rfl rfl rfl rfl (by rw [hh1]; exact ht) (j := 0) rfl ?_
    repeat (first | refine WS.pure rfl rfl rfl ?_ | refine WS.off rfl rfl rfl ?_ | refine WS.nil ?_)
    refine WS.val rfl rfl (ySlHi rfl rfl rfl rfl (by omega)) ?_
    repeat (first | refine WS.pure rfl rfl rfl ?_ | refine WS.off rfl rfl rfl ?_ | refine WS.nil ?_)
    refine WS.val rfl rfl (yNil rfl) ?_
    repeat (first | refine WS.pure rfl rfl rfl ?_ | refine WS.off rfl rfl rfl ?_ | refine WS.nil ?_)
    refine WS.loadB rfl rfl rfl rfl rfl (by rw [hh1]; exact ht) (j := 0) rfl ?_
    repeat (first | refine WS.pure rfl rfl rfl ?_ | refine WS.off rfl rfl rfl ?_ | refine WS.nil ?_)
    refine WS.known (d := 16) (congrArg (fun z => some (Value.int .i64 z)) step) ?_
    refine WS.val rfl rfl (ySlLo (l := i + 1) rfl rfl rfl rfl (by omega) hc) ?_
    repeat (first | refine WS.pure rfl rfl rfl ?_ | refine WS.off rfl rfl rfl ?_ | refine WS.nil ?_)
    refine WL.buildS (cs := [.slice pa i pc, .slice (ofs pa pc (i + 1) 2) (l.length - (i + 1)) (pc - (i + 1))]) rfl rfl rfl rfl rfl rfl rfl rfl rfl ?_
    intro b2 w2 hb2
    have hp2 := hp1.new hb2
    have hvs : catV [(pa, pc, l.take i), (ofs pa pc (i + 1) 2, pc - (i + 1), l.drop (i + 1))] = [.slice pa i pc, .slice (ofs pa pc (i + 1) 2) (l.length - (i + 1)) (pc - (i + 1))] := by
      simp only [catV, List.map_cons, List.map_nil, List.length_take, List.length_drop, Nat.min_eq_left (Nat.le_of_lt hi)]
    have hvl : catL [(pa, pc, l.take i), (ofs pa pc (i + 1) 2, pc - (i + 1), l.drop (i + 1))] = l.eraseIdx i := by
      simp [catL, List.eraseIdx_eq_take_drop_succ]
    have hel : (l.eraseIdx i).length ≤ l.length := List.length_eraseIdx_le ..
    have hC := Concat_any (some ⟨b2, 0, none⟩) 2 [(pa, pc, l.take i), (ofs pa pc (i + 1) 2, pc - (i + 1), l.drop (i + 1))] (by show 2 ≤ 1000; omega) (by rw [hvl]; omega) w2
      (by rw [hvs]; exact Sl.of_obj (hp2.obj 0 rfl) (fun q u hq => by simpa using hq)) (by
        intro x hx
        have hs2 := hs.hp hp2
        simp only [List.mem_cons, List.not_mem_nil, or_false] at hx
        rcases hx with rfl | rfl
        · rw [← rcs_take]; exact hs2.take _
        · rw [← rcs_drop]; exact hs2.ofs (by omega) hc (by rw [rcs_len]; exact Nat.le_refl _))
    rw [hvl] at hC
    refine WL.call rfl rfl rfl rfl rfl ent94 hC ?_
    rintro _ w3 ⟨ra, rc, rfl, hp3⟩
    repeat (first | refine WC.seq ?_ | refine WC.reg ?_ | refine WL.pure rfl rfl rfl ?_ | refine WL.nil ?_ | refine WC.skip ?_ | refine WC.block ?_ | refine WC.condT rfl ?_ | refine WC.condF rfl ?_ | refine WL.off rfl rfl rfl ?_ | refine WL.off0 rfl rfl ?_ | refine WC.exit ?_ | refine blk_hit ?_ | refine blk_miss rfl ?_ | refine WC.ret ?_)
    exact ⟨(ra, rc), ⟨rfl, rfl⟩, hp2.nil'.over hp3⟩
  · rintro ⟨ra, rc⟩ e1 w1 hsub hp1
    refine WC.sub hsub ?_
    repeat (first | refine WC.seq ?_ | refine WC.reg ?_ | refine WL.pure rfl rfl rfl ?_ | refine WL.nil ?_ | refine WC.skip ?_ | refine WC.block ?_ | refine WC.condT rfl ?_ | refine WC.condF rfl ?_ | refine WL.off rfl rfl rfl ?_ | refine WL.off0 rfl rfl ?_ | refine WC.exit ?_ | refine blk_hit ?_ | refine blk_miss rfl ?_ | refine WC.ret ?_)
    exact Res.one rfl rfl rfl ⟨ra, rc, rfl, hp1⟩
end Go.Proofs.YtoghnhbjdnjghaaGreat
