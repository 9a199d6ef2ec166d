/- ltl, twenty-ninth: the small functions of the laws. -/
import Derived.Test.YtpbbneclkhfgoaaDoorU28
namespace Go.W
open Go.RowKit
/-- The address of a part of a slice. -/
def ofs (a : Option Addr) (cap l size : Nat) : Option Addr := if cap = l then a else a.map (·.add (l * size))
theorem Sl.ofs {w : World} {a : Option Addr} {cs : List Value} {len cap l size : Nat} (hs : Sl w a cs) (hl : l ≤ len) (hlc : len ≤ cap) (hcl : cs.length ≤ len * size) : Sl w (ofs a cap l size) (cs.drop (l * size)) := by
  intro q u hq
  rw [List.getElem?_drop] at hq
  obtain ⟨b, o, ha, hc⟩ := hs _ u hq
  have hlt : l * size + q < cs.length := (List.getElem?_eq_some_iff.1 hq).1
  have hne : cap ≠ l := by
    intro hcl2
    have h1 : len = l := by omega
    rw [h1] at hcl
    omega
  unfold Go.W.ofs
  rw [if_neg hne, ha]
  refine ⟨b, o + l * size, by simp [Addr.add_lit], ?_⟩
  rw [Nat.add_assoc]; exact hc
section
variable {P : Program} [T : TT P] {e : Env} {w : World} {ty : TypeId}
theorem ySlHi {t E : TypeId} {i : TI} {z : Value} {s0 b0 len cap h : Nat} {x y : Operand} {a : Option Addr} {k : IntKind} (ht : T.ti t = some ⟨.slice E, z, s0, b0⟩) (hi : T.ti E = some i)
    (hx : opv e x = some (.slice a len cap)) (hy : opv e y = some (.int k (h : Nat))) (hh : h ≤ cap) : Yv P e (.slice t x none (some y) none) ty w (.slice a h cap) w := by
  have hu : P.underlying t = some (.slice E) := (T.ok t _ ht).k
  have hel : P.elem t = E := by simp [Program.elem, hu]
  have hu' : P.underlying t = some (.slice (P.elem t)) := by rw [hel]; exact hu
  have hsz := (T.ok E i hi).sizeOf w
  have hr := run_slice_h (P := P) w t a len cap hu' k h (by omega) (by omega)
  rw [hel, hsz] at hr
  have hval : sliced a 0 (h : Int).toNat cap i.size = .slice a h cap := by
    simp only [sliced, Nat.zero_mul, Nat.sub_zero, Int.toNat_natCast]
    congr 1
    split
    · rfl
    · cases a with
      | none => rfl
      | some p => simp [Addr.add_zero']
  intro ρ hρ d' pos' aft' g'
  simp only [execOp, hρ _ _ hx, Option.map_none, Option.map_some, hρ _ _ hy, Sem.run_bind]
  rw [run_sliceAt_slice w t _ _ _ _ hu', hr, Result.andThen_ok, hval]
  rfl
theorem ySlLo {t E : TypeId} {i : TI} {z : Value} {s0 b0 len cap l : Nat} {x y : Operand} {a : Option Addr} {k : IntKind} (ht : T.ti t = some ⟨.slice E, z, s0, b0⟩) (hi : T.ti E = some i)
    (hx : opv e x = some (.slice a len cap)) (hy : opv e y = some (.int k (l : Nat))) (hh : l ≤ len) (hlc : len ≤ cap) : Yv P e (.slice t x (some y) none none) ty w (.slice (ofs a cap l i.size) (len - l) (cap - l)) w := by
  have hu : P.underlying t = some (.slice E) := (T.ok t _ ht).k
  have hel : P.elem t = E := by simp [Program.elem, hu]
  have hu' : P.underlying t = some (.slice (P.elem t)) := by rw [hel]; exact hu
  have hsz := (T.ok E i hi).sizeOf w
  have hr := run_slice_l (P := P) w t a len cap hu' k l (by omega) (by omega)
  rw [hel, hsz] at hr
  intro ρ hρ d' pos' aft' g'
  simp only [execOp, hρ _ _ hx, Option.map_none, Option.map_some, hρ _ _ hy, Sem.run_bind]
  rw [run_sliceAt_slice w t _ _ _ _ hu', hr]
  simp [sliced, Go.W.ofs]
end
theorem Hp.sl {w0 w : World} {L : List Ent} {E s n c : Nat} {a : Option Addr} {xs : List Value} (h : Hp w0 w L) (i : Nat) (hi : nth L i = some (.row E s (.slice a n c) n xs)) : Sl w a xs := Sl.of_row (h.at i hi)
end Go.W
namespace Go.Ltl
open Go.W
def modN (x : Int) (n : Nat) : Nat := (x % 18446744073709551616).toNat % n
theorem modN_lt {n : Nat} (h : 0 < n) (x : Int) : modN x n < n := Nat.mod_lt _ h
def shortM (s : Str) : Str := s.take 400
def listM (l : List Int) : List Int := l.take 200
def mod16 (x : Int) : Int := (modN x 16 : Nat)
def stemM (l : List Int) : List Int := (l.take 20).map mod16
def lopM (l : List Int) : List Int := if l = [] then [0] else (l.take 20).map mod16
end Go.Ltl
namespace Go.Proofs.YtpbbneclkhfgoaaDoor
open Go.W Go.Ltl Go.RowKit
set_option maxRecDepth 100000
attribute [local irreducible] WC WL WQ WS WH

theorem mod_any (x : Int) (n : Nat) (h0 : 0 < n) (hn : n < 1000) (w : World) : Ret Tryd.prog 29 [.int .i64 x, .int .i64 n] w fun u w' => u = .int .i64 (modN x n) ∧ w' = w := by
  refine enter Tryd.func29 rfl rfl ⟨rfl, rfl⟩ rfl ?_
  have e1 : IntKind.u64.wrap x = (((x % 18446744073709551616).toNat : Nat) : Int) := by rw [IntKind.wrap_u64]; omega
  have e2 : IntKind.u64.wrap (n : Int) = ((n : Nat) : Int) := by rw [IntKind.wrap_u64]; omega
  repeat (first | refine WC.seq ?_ | refine WC.reg ?_ | refine WL.pure rfl rfl rfl ?_ | refine WL.nil ?_ | refine WC.skip ?_ | refine WC.block ?_ | refine WC.condT rfl ?_ | refine WC.condF rfl ?_ | refine WL.off rfl rfl rfl ?_ | refine WL.off0 rfl rfl ?_ | refine WC.exit ?_ | refine blk_hit ?_ | refine blk_miss rfl ?_ | refine WC.ret ?_)
  refine WL.known (d := 6) (congrArg (fun z => some (Value.int .u64 z)) e1) ?_
  refine WL.known (d := 8) (congrArg (fun z => some (Value.int .u64 z)) e2) ?_
  refine WL.rem rfl rfl rfl rfl (by omega) ?_
  repeat (first | refine WC.seq ?_ | refine WC.reg ?_ | refine WL.pure rfl rfl rfl ?_ | refine WL.nil ?_ | refine WC.skip ?_ | refine WC.block ?_ | refine WC.condT rfl ?_ | refine WC.condF rfl ?_ | refine WL.off rfl rfl rfl ?_ | refine WL.off0 rfl rfl ?_ | refine WC.exit ?_ | refine blk_hit ?_ | refine blk_miss rfl ?_ | refine WC.ret ?_)
  refine Res.one rfl rfl rfl ⟨?_, rfl⟩
  have h1 : (((x % 18446744073709551616).toNat : Nat) : Int).tmod (n : Int) = ((modN x n : Nat) : Int) := (Int.ofNat_tmod _ _).symm
  have h2 := modN_lt h0 x
  rw [h1, wrap_i64_in (by omega) (by omega)]
theorem short_any (s : Str) (hl : s.length ≤ 9223372036854775807) (w : World) : Ret Tryd.prog 16 [st s] w fun u w' => u = st (shortM s) ∧ w' = w := by
  refine enter Tryd.func16 rfl rfl ⟨rfl, rfl⟩ rfl ?_
  have e1 : min (((sb s).size : Nat) : Int) 400 = ((min s.length 400 : Nat) : Int) := by rw [sb_size]; omega
  repeat (first | refine WC.seq ?_ | refine WC.reg ?_ | refine WL.pure rfl rfl rfl ?_ | refine WL.nil ?_ | refine WC.skip ?_ | refine WC.block ?_ | refine WC.condT rfl ?_ | refine WC.condF rfl ?_ | refine WL.off rfl rfl rfl ?_ | refine WL.off0 rfl rfl ?_ | refine WC.exit ?_ | refine blk_hit ?_ | refine blk_miss rfl ?_ | refine WC.ret ?_)
  refine WL.known (d := 6) (congrArg (fun z => some (Value.int .i64 z)) e1) ?_
  refine WL.sSl (a := 0) (b := min s.length 400) rfl rfl rfl rfl rfl rfl (Nat.zero_le _) (Nat.min_le_left _ _) ?_
  rw [List.drop_zero, Nat.sub_zero, show s.take (min s.length 400) = shortM s by unfold shortM; rw [Nat.min_comm]; exact (List.take_eq_take_min (l := s) (i := 400)).symm]
  repeat (first | refine WC.seq ?_ | refine WC.reg ?_ | refine WL.pure rfl rfl rfl ?_ | refine WL.nil ?_ | refine WC.skip ?_ | refine WC.block ?_ | refine WC.condT rfl ?_ | refine WC.condF rfl ?_ | refine WL.off rfl rfl rfl ?_ | refine WL.off0 rfl rfl ?_ | refine WC.exit ?_ | refine blk_hit ?_ | refine blk_miss rfl ?_ | refine WC.ret ?_)
  exact Res.one rfl rfl rfl ⟨rfl, rfl⟩
theorem shortM_len (s : Str) : (shortM s).length ≤ 400 := by unfold shortM; rw [List.length_take]; omega
theorem list_any (a : Option Addr) (c : Nat) (l : List Int) (hl : l.length ≤ 9223372036854775807) (hc : l.length ≤ c) (w : World) (hs : Sl w a (zs l)) : Ret Tryd.prog 15 [.slice a l.length c] w fun u w' => ∃ pa pc, u = .slice pa (listM l).length pc ∧ Hp w w' [Ri u (listM l)] := by
  have e1 : min ((l.length : Nat) : Int) 200 = ((min l.length 200 : Nat) : Int) := by omega
  have e2 : min l.length 200 = (listM l).length := by unfold listM; rw [List.length_take, Nat.min_comm]
  have e3 : zs (listM l) = (zs l).take 200 := by simp [zs, listM, List.map_take]
  have h200 : (listM l).length ≤ 200 := by rw [← e2]; omega
  refine enter Tryd.func15 rfl rfl ⟨rfl, rfl⟩ rfl ?_
  repeat (first | refine WC.seq ?_ | refine WC.reg ?_ | refine WL.pure rfl rfl rfl ?_ | refine WL.nil ?_ | refine WC.skip ?_ | refine WC.block ?_ | refine WC.condT rfl ?_ | refine WC.condF rfl ?_ | refine WL.off rfl rfl rfl ?_ | refine WL.off0 rfl rfl ?_ | refine WC.exit ?_ | refine blk_hit ?_ | refine blk_miss rfl ?_ | refine WC.ret ?_)
  refine WL.known (d := 8) (congrArg (fun z => some (Value.int .i64 z)) e1) ?_
  refine WL.sliceHi (h := min l.length 200) rfl rfl rfl rfl rfl rfl (by omega) ?_
  rw [e2]
  have hp0 : Hp w w [.row 3 1 (.slice none 0 0) 0 []] := (Hp.start w).nilrow _ _
  refine WL.append 0 hp0 rfl rfl rfl rfl rfl (by decide) rfl rfl rfl (news := zs (listM l)) (by rw [e3]; exact hs.take 200) (by rw [zs_len]; exact (Nat.mul_one _).symm) (zs_cells _) (by unfold maxLen; omega) (by show (0 + _) * 8 ≤ _; omega) ?_
  intro pa pc w1 hp1 _
  rw [Nat.zero_add] at hp1 ⊢
  repeat (first | refine WC.seq ?_ | refine WC.reg ?_ | refine WL.pure rfl rfl rfl ?_ | refine WL.nil ?_ | refine WC.skip ?_ | refine WC.block ?_ | refine WC.condT rfl ?_ | refine WC.condF rfl ?_ | refine WL.off rfl rfl rfl ?_ | refine WL.off0 rfl rfl ?_ | refine WC.exit ?_ | refine blk_hit ?_ | refine blk_miss rfl ?_ | refine WC.ret ?_)
  exact Res.one rfl rfl rfl ⟨pa, pc, rfl, hp1⟩
/-- Marks in memory. -/
abbrev Mkb (b : Nat) (v1 v2 : Value) : Ent := .blk b (.cells #[v1, v2] 24 (0, 0))
theorem marks_any (a1 a2 : Option Addr) (k1 k2 : Nat) (l1 l2 : List Int) (h1 : l1.length ≤ 9223372036854775807) (h2 : l2.length ≤ 9223372036854775807) (w : World) (hs1 : Sl w a1 (zs l1)) (hs2 : Sl w a2 (zs l2)) :
    Ret Tryd.prog 25 [.agg #[.slice a1 l1.length k1, .slice a2 l2.length k2]] w fun u w' => ∃ p1 q1 p2 q2, u = .agg #[.slice p1 (stemM l1).length q1, .slice p2 (lopM l2).length q2] ∧ Hp w w' [Ri (.slice p1 (stemM l1).length q1) (stemM l1), Ri (.slice p2 (lopM l2).length q2) (lopM l2)] := by
  refine enter Tryd.func25 rfl rfl ⟨rfl, rfl⟩ rfl ?_
  repeat (first | refine WC.seq ?_ | refine WC.reg ?_ | refine WL.pure rfl rfl rfl ?_ | refine WL.nil ?_ | refine WC.skip ?_ | refine WC.block ?_ | refine WC.condT rfl ?_ | refine WC.condF rfl ?_ | refine WL.off rfl rfl rfl ?_ | refine WL.off0 rfl rfl ?_ | refine WC.exit ?_ | refine blk_hit ?_ | refine blk_miss rfl ?_ | refine WC.ret ?_)
  refine WL.box rfl rfl rfl (fun b1 w1 hb1 => ?_)
  have hp1 : Hp w w1 [Mkb b1 (.slice a1 l1.length k1) (.slice a2 l2.length k2)] := (Hp.start w).new hb1
  refine WL.alloc rfl rfl rfl (fun b2 w2 hb2 => ?_)
  have hp2 : Hp w w2 [Mkb b2 (.slice none 0 0) (.slice none 0 0), Mkb b1 (.slice a1 l1.length k1) (.slice a2 l2.length k2)] := hp1.new hb2
  repeat (first | refine WC.seq ?_ | refine WC.reg ?_ | refine WL.pure rfl rfl rfl ?_ | refine WL.nil ?_ | refine WC.skip ?_ | refine WC.block ?_ | refine WC.condT rfl ?_ | refine WC.condF rfl ?_ | refine WL.off rfl rfl rfl ?_ | refine WL.off0 rfl rfl ?_ | refine WC.exit ?_ | refine blk_hit ?_ | refine blk_miss rfl ?_ | refine WC.ret ?_)
  refine WL.alloc rfl rfl rfl (fun b3 w3 hb3 => ?_)
  have hp3 : Hp w w3 [Mkb b3 (.slice none 0 0) (.slice none 0 0), Mkb b2 (.slice none 0 0) (.slice none 0 0), Mkb b1 (.slice a1 l1.length k1) (.slice a2 l2.length k2)] := hp2.new hb3
  have hp4 := ((hp3.nilrow 3 1).swap)
  clear hp1 hp2 hp3
  have htk : ∀ (l : List Int) (i : Nat) (h : i < l.length), zs ((l.take (i + 1)).map mod16) = zs ((l.take i).map mod16) ++ [.int .i64 (mod16 l[i])] := by
    intro l i h
    rw [List.take_succ_eq_append_getElem h, List.map_append, zs_app]; rfl
  have hln : ∀ (l : List Int) (i : Nat), i ≤ l.length → ((l.take i).map mod16).length = i := by
    intro l i h
    rw [List.length_map, List.length_take]; omega
  have hend : ∀ (l : List Int) (i : Nat), i ≤ l.length → i ≤ 20 → (¬ i < l.length ∨ ¬ i < 20) → (l.take i).map mod16 = (l.take 20).map mod16 := by
    intro l i h1 h2 h3
    rcases h3 with h | h
    · rw [List.take_of_length_le (by omega), List.take_of_length_le (by omega)]
    · rw [show i = 20 by omega]
  refine WL.nil ?_
  refine WC.seq ?_
  refine WC.mid (Option Addr × Nat) (fun _ => [(1, ptr b1), (2, ptr b2), (3, ptr b3)])
    (fun (pa, pc) w' => Hp w w' [Mkb b3 (.slice pa (stemM l1).length pc) (.slice none 0 0), Ri (.slice pa (stemM l1).length pc) (stemM l1), Mkb b2 (.slice none 0 0) (.slice none 0 0), Mkb b1 (.slice a1 l1.length k1) (.slice a2 l2.length k2)]) ?_ ?_
  · repeat (first | refine WC.seq ?_ | refine WC.reg ?_ | refine WL.pure rfl rfl rfl ?_ | refine WL.nil ?_ | refine WC.skip ?_ | refine WC.block ?_ | refine WC.condT rfl ?_ | refine WC.condF rfl ?_ | refine WL.off rfl rfl rfl ?_ | refine WL.off0 rfl rfl ?_ | refine WC.exit ?_ | refine blk_hit ?_ | refine blk_miss rfl ?_ | refine WC.ret ?_)
    refine WC.loop (Nat × Option Addr × Nat) (fun (i, _) => [(1, ptr b1), (2, ptr b2), (3, ptr b3), (4, .int .i64 (i : Nat))])
      (fun (i, pa, pc) w' => i ≤ l1.length ∧ i ≤ 20 ∧ Hp w w' [Mkb b3 (.slice pa i pc) (.slice none 0 0), .row 3 1 (.slice pa i pc) i (zs ((l1.take i).map mod16)), Mkb b2 (.slice none 0 0) (.slice none 0 0), Mkb b1 (.slice a1 l1.length k1) (.slice a2 l2.length k2)]) (fun (i, _) => 20 - i) (0, none, 0) ⟨rfl, rfl, rfl, rfl, rfl⟩ ⟨Nat.zero_le _, Nat.zero_le _, hp4⟩ ?_
    clear hp4
    rintro ⟨i, pa, pc⟩ w4 ⟨hi, hi20, hp4⟩
    replace hi : i ≤ l1.length := hi
    replace hi20 : i ≤ 20 := hi20
    replace hp4 : Hp w w4 [Mkb b3 (.slice pa i pc) (.slice none 0 0), .row 3 1 (.slice pa i pc) i (zs ((l1.take i).map mod16)), Mkb b2 (.slice none 0 0) (.slice none 0 0), Mkb b1 (.slice a1 l1.length k1) (.slice a2 l2.length k2)] := hp4
    have fin : (¬ i < l1.length ∨ ¬ i < 20) → Hp w w4 [Mkb b3 (.slice pa (stemM l1).length pc) (.slice none 0 0), Ri (.slice pa (stemM l1).length pc) (stemM l1), Mkb b2 (.slice none 0 0) (.slice none 0 0), Mkb b1 (.slice a1 l1.length k1) (.slice a2 l2.length k2)] := by
      intro h
      have e1 := hend l1 i hi hi20 h
      have e2 := hln l1 i hi
      rw [e1] at hp4 e2
      unfold stemM
      rw [e2]
      unfold Ri
      rw [e2]
      exact hp4
    repeat (first | refine WC.seq ?_ | refine WC.reg ?_ | refine WL.pure rfl rfl rfl ?_ | refine WL.nil ?_ | refine WC.skip ?_ | refine WC.block ?_ | refine WC.condT rfl ?_ | refine WC.condF rfl ?_ | refine WL.off rfl rfl rfl ?_ | refine WL.off0 rfl rfl ?_ | refine WC.exit ?_ | refine blk_hit ?_ | refine blk_miss rfl ?_ | refine WC.ret ?_)
    refine WL.loadB rfl rfl rfl rfl rfl (hp4.obj 3 rfl) (j := 0) rfl ?_
    repeat (first | refine WC.seq ?_ | refine WC.reg ?_ | refine WL.pure rfl rfl rfl ?_ | refine WL.nil ?_ | refine WC.skip ?_ | refine WC.block ?_ | refine WC.condT rfl ?_ | refine WC.condF rfl ?_ | refine WL.off rfl rfl rfl ?_ | refine WL.off0 rfl rfl ?_ | refine WC.exit ?_ | refine blk_hit ?_ | refine blk_miss rfl ?_ | refine WC.ret ?_)
    refine WL.split 11 rfl (fun c1 => ?_) (fun c1 => ?_)
    · have c1 : i < l1.length := by have h : ((i : Nat) : Int) < ((l1.length : Nat) : Int) := of_decide_eq_true c1; omega
      repeat (first | refine WC.seq ?_ | refine WC.reg ?_ | refine WL.pure rfl rfl rfl ?_ | refine WL.nil ?_ | refine WC.skip ?_ | refine WC.block ?_ | refine WC.condT rfl ?_ | refine WC.condF rfl ?_ | refine WL.off rfl rfl rfl ?_ | refine WL.off0 rfl rfl ?_ | refine WC.exit ?_ | refine blk_hit ?_ | refine blk_miss rfl ?_ | refine WC.ret ?_)
      refine WC.cond rfl (fun c2 => ?_) (fun c2 => ?_)
      · have c2 : i < 20 := by have h : ((i : Nat) : Int) < 20 := of_decide_eq_true c2; omega
        have step := wrap_succ (i := i) (n := i + 1) (by omega) (by omega)
        obtain ⟨ba, oa, hae, hac⟩ := hs1 _ _ (zs_at c1)
        subst hae
        repeat (first | refine WC.seq ?_ | refine WC.reg ?_ | refine WL.pure rfl rfl rfl ?_ | refine WL.nil ?_ | refine WC.skip ?_ | refine WC.block ?_ | refine WC.condT rfl ?_ | refine WC.condF rfl ?_ | refine WL.off rfl rfl rfl ?_ | refine WL.off0 rfl rfl ?_ | refine WC.exit ?_ | refine blk_hit ?_ | refine blk_miss rfl ?_ | refine WC.ret ?_)
        refine WC.mid (Option Addr × Nat) (fun _ => [(1, ptr b1), (2, ptr b2), (3, ptr b3), (4, .int .i64 (i : Nat))])
          (fun (pa, pc) w' => Hp w w' [Mkb b3 (.slice pa (i + 1) pc) (.slice none 0 0), .row 3 1 (.slice pa (i + 1) pc) (i + 1) (zs ((l1.take (i + 1)).map mod16)), Mkb b2 (.slice none 0 0) (.slice none 0 0), Mkb b1 (.slice (some ⟨ba, oa, none⟩) l1.length k1) (.slice a2 l2.length k2)]) ?_ ?_
        · refine WC.regH (fun w' => Hp w w' [Mkb b1 (.slice (some ⟨ba, oa, none⟩) l1.length k1) (.slice a2 l2.length k2)]) mixed (by kernel_rfl) (fun w5 hw5 hh5 => ?_)
          have hp5 := hp4.keep hw5
          have hS := hp5.pick [3] (by decide)
          refine WH.pure 0 (by kernel_rfl) rfl (by kernel_rfl) rfl rfl rfl (hS) ?_
          refine WH.pure 2 (by kernel_rfl) rfl (by kernel_rfl) rfl rfl rfl (hS) ?_
          refine WH.load 3 (by kernel_rfl) rfl (by kernel_rfl) rfl rfl rfl rfl rfl (fun w' h => cell_of_obj (h.obj 0 rfl) (j := 0) rfl) hS ?_
          refine WH.pure 4 (by kernel_rfl) rfl (by kernel_rfl) rfl rfl rfl (hS) ?_
          refine WH.ix1 5 (by kernel_rfl) rfl (by kernel_rfl) rfl rfl rfl rfl rfl rfl rfl c1 hS ?_
          refine WH.load 6 (by kernel_rfl) rfl (by kernel_rfl) rfl rfl rfl rfl rfl (fun w' h => cell_below h.below hac) hS ?_
          have cl : ∀ w9 pa2 pc2, Hp w w9 [Mkb b3 (.slice pa2 (i + 1) pc2) (.slice none 0 0), .row 3 1 (.slice pa2 (i + 1) pc2) (i + 1) (zs ((l1.take i).map mod16) ++ [.int .i64 (mod16 l1[i])]), Mkb b2 (.slice none 0 0) (.slice none 0 0), Mkb b1 (.slice (some ⟨ba, oa, none⟩) l1.length k1) (.slice a2 l2.length k2)] → Hp w w9 [Mkb b3 (.slice pa2 (i + 1) pc2) (.slice none 0 0), .row 3 1 (.slice pa2 (i + 1) pc2) (i + 1) (zs ((l1.take (i + 1)).map mod16)), Mkb b2 (.slice none 0 0) (.slice none 0 0), Mkb b1 (.slice (some ⟨ba, oa, none⟩) l1.length k1) (.slice a2 l2.length k2)] := fun w9 pa2 pc2 h => by rw [htk l1 i c1]; exact h
          refine WH.two 1 7 rfl rfl (by kernel_rfl) ?_ ?_
          · skip
            refine WL.loadB rfl rfl rfl rfl rfl (hp5.obj 0 rfl) (j := 0) rfl (WL.nil ⟨hp5.pick [3] (by decide), ?_⟩)
            refine WH.one 7 rfl (by kernel_rfl) ?_
            refine WL.call rfl rfl rfl rfl rfl ent29 (mod_any l1[i] 16 (by decide) (by decide) _) ?_
            rintro _ wz0 ⟨rfl, hwz0⟩
            obtain rfl := hwz0.symm
            refine WL.nil ⟨hp5.pick [3] (by decide), ?_⟩
            refine WH.one 8 rfl (by kernel_rfl) ?_
            refine WL.buildS (cs := [.int .i64 (mod16 l1[i])]) rfl rfl rfl rfl rfl rfl rfl rfl rfl (fun bq0 wq0 hq0 => ?_)
            have hz0 := hp5.new hq0
            refine WL.nil ⟨hz0.pick [4] (by decide), ?_⟩
            refine WH.one 9 rfl (by kernel_rfl) ?_
            refine WL.append 2 hz0 rfl rfl rfl rfl rfl (by decide) rfl rfl rfl (news := [.int .i64 (mod16 l1[i])]) (Sl.of_obj (hz0.obj 0 rfl) (fun q u hq => by simpa using hq)) rfl (zs_cells [mod16 l1[i]]) (by unfold maxLen; omega) (by show (i + 1) * 8 ≤ _; omega) ?_
            intro paN pcN wN hN _
            have hSN := hN.pick [4] (by decide)
            refine WL.nil ⟨hSN, ?_⟩
            refine WH.pure 10 (by kernel_rfl) rfl (by kernel_rfl) rfl rfl rfl (hSN) ?_
            refine WH.one 11 rfl (by kernel_rfl) ?_
            refine WL.store rfl rfl rfl rfl rfl rfl (hN.obj 1 rfl) (of_decide_eq_true rfl) (fun wM hMs => ?_)
            have hM := (hN.set 1 rfl rfl hMs).tail
            refine WL.nil ⟨hM.pick [3] (by decide), WH.done (by kernel_rfl) ?_⟩
            exact ⟨(paN, pcN), ⟨rfl, rfl, rfl, rfl, rfl⟩, cl _ _ _ hM⟩
          · skip
            refine WL.call rfl rfl rfl rfl rfl ent29 (mod_any l1[i] 16 (by decide) (by decide) _) ?_
            rintro _ wz0 ⟨rfl, hwz0⟩
            obtain rfl := hwz0.symm
            refine WL.nil ⟨hp5.pick [3] (by decide), ?_⟩
            refine WH.two 1 8 rfl rfl (by kernel_rfl) ?_ ?_
            · skip
              refine WL.loadB rfl rfl rfl rfl rfl (hp5.obj 0 rfl) (j := 0) rfl (WL.nil ⟨hp5.pick [3] (by decide), ?_⟩)
              refine WH.one 8 rfl (by kernel_rfl) ?_
              refine WL.buildS (cs := [.int .i64 (mod16 l1[i])]) rfl rfl rfl rfl rfl rfl rfl rfl rfl (fun bq0 wq0 hq0 => ?_)
              have hz0 := hp5.new hq0
              refine WL.nil ⟨hz0.pick [4] (by decide), ?_⟩
              refine WH.one 9 rfl (by kernel_rfl) ?_
              refine WL.append 2 hz0 rfl rfl rfl rfl rfl (by decide) rfl rfl rfl (news := [.int .i64 (mod16 l1[i])]) (Sl.of_obj (hz0.obj 0 rfl) (fun q u hq => by simpa using hq)) rfl (zs_cells [mod16 l1[i]]) (by unfold maxLen; omega) (by show (i + 1) * 8 ≤ _; omega) ?_
              intro paN pcN wN hN _
              have hSN := hN.pick [4] (by decide)
              refine WL.nil ⟨hSN, ?_⟩
              refine WH.pure 10 (by kernel_rfl) rfl (by kernel_rfl) rfl rfl rfl (hSN) ?_
              refine WH.one 11 rfl (by kernel_rfl) ?_
              refine WL.store rfl rfl rfl rfl rfl rfl (hN.obj 1 rfl) (of_decide_eq_true rfl) (fun wM hMs => ?_)
              have hM := (hN.set 1 rfl rfl hMs).tail
              refine WL.nil ⟨hM.pick [3] (by decide), WH.done (by kernel_rfl) ?_⟩
              exact ⟨(paN, pcN), ⟨rfl, rfl, rfl, rfl, rfl⟩, cl _ _ _ hM⟩
            · skip
              refine WL.buildS (cs := [.int .i64 (mod16 l1[i])]) rfl rfl rfl rfl rfl rfl rfl rfl rfl (fun bq0 wq0 hq0 => ?_)
              have hz0 := hp5.new hq0
              refine WL.nil ⟨hz0.pick [4] (by decide), ?_⟩
              refine WH.one 1 rfl (by kernel_rfl) ?_
              refine WL.loadB rfl rfl rfl rfl rfl (hz0.obj 1 rfl) (j := 0) rfl (WL.nil ⟨hz0.pick [4] (by decide), ?_⟩)
              refine WH.one 9 rfl (by kernel_rfl) ?_
              refine WL.append 2 hz0 rfl rfl rfl rfl rfl (by decide) rfl rfl rfl (news := [.int .i64 (mod16 l1[i])]) (Sl.of_obj (hz0.obj 0 rfl) (fun q u hq => by simpa using hq)) rfl (zs_cells [mod16 l1[i]]) (by unfold maxLen; omega) (by show (i + 1) * 8 ≤ _; omega) ?_
              intro paN pcN wN hN _
              have hSN := hN.pick [4] (by decide)
              refine WL.nil ⟨hSN, ?_⟩
              refine WH.pure 10 (by kernel_rfl) rfl (by kernel_rfl) rfl rfl rfl (hSN) ?_
              refine WH.one 11 rfl (by kernel_rfl) ?_
              refine WL.store rfl rfl rfl rfl rfl rfl (hN.obj 1 rfl) (of_decide_eq_true rfl) (fun wM hMs => ?_)
              have hM := (hN.set 1 rfl rfl hMs).tail
              refine WL.nil ⟨hM.pick [3] (by decide), WH.done (by kernel_rfl) ?_⟩
              exact ⟨(paN, pcN), ⟨rfl, rfl, rfl, rfl, rfl⟩, cl _ _ _ hM⟩
        · rintro ⟨pa2, pc2⟩ e5 w5 hsub hp5
          refine WC.sub hsub ?_
          repeat (first | refine WC.seq ?_ | refine WC.reg ?_ | refine WL.pure rfl rfl rfl ?_ | refine WL.nil ?_ | refine WC.skip ?_ | refine WC.block ?_ | refine WC.condT rfl ?_ | refine WC.condF rfl ?_ | refine WL.off rfl rfl rfl ?_ | refine WL.off0 rfl rfl ?_ | refine WC.exit ?_ | refine blk_hit ?_ | refine blk_miss rfl ?_ | refine WC.ret ?_)
          exact ⟨(i + 1, pa2, pc2), (by show 20 - (i + 1) < 20 - i; omega), ⟨rfl, rfl, rfl, congrArg (fun z => some (Value.int .i64 z)) step, rfl⟩, c1, c2, hp5⟩
      · have c2 : ¬ i < 20 := by have h : ¬ ((i : Nat) : Int) < 20 := of_decide_eq_false c2; omega
        repeat (first | refine WC.seq ?_ | refine WC.reg ?_ | refine WL.pure rfl rfl rfl ?_ | refine WL.nil ?_ | refine WC.skip ?_ | refine WC.block ?_ | refine WC.condT rfl ?_ | refine WC.condF rfl ?_ | refine WL.off rfl rfl rfl ?_ | refine WL.off0 rfl rfl ?_ | refine WC.exit ?_ | refine blk_hit ?_ | refine blk_miss rfl ?_ | refine WC.ret ?_)
        exact ⟨(pa, pc), ⟨rfl, rfl, rfl, rfl⟩, fin (.inr c2)⟩
    · have c1 : ¬ i < l1.length := by have h : ¬ ((i : Nat) : Int) < ((l1.length : Nat) : Int) := of_decide_eq_false c1; omega
      repeat (first | refine WC.seq ?_ | refine WC.reg ?_ | refine WL.pure rfl rfl rfl ?_ | refine WL.nil ?_ | refine WC.skip ?_ | refine WC.block ?_ | refine WC.condT rfl ?_ | refine WC.condF rfl ?_ | refine WL.off rfl rfl rfl ?_ | refine WL.off0 rfl rfl ?_ | refine WC.exit ?_ | refine blk_hit ?_ | refine blk_miss rfl ?_ | refine WC.ret ?_)
      exact ⟨(pa, pc), ⟨rfl, rfl, rfl, rfl⟩, fin (.inl c1)⟩
  rintro ⟨p1, q1⟩ e4 w4 hsub hp4
  refine WC.sub hsub ?_
  clear hsub e4
  replace hp4 : Hp w w4 [Mkb b3 (.slice p1 (stemM l1).length q1) (.slice none 0 0), Ri (.slice p1 (stemM l1).length q1) (stemM l1), Mkb b2 (.slice none 0 0) (.slice none 0 0), Mkb b1 (.slice a1 l1.length k1) (.slice a2 l2.length k2)] := hp4
  generalize hSt : stemM l1 = stm at *
  have hp4 := (hp4.nilrow 3 1).pick [1, 0, 2, 3, 4] (by decide)
  refine WC.seq ?_
  refine WC.mid (Option Addr × Nat) (fun _ => [(1, ptr b1), (2, ptr b2), (3, ptr b3)])
    (fun (pa, pc) w' => Hp w w' [Mkb b3 (.slice p1 stm.length q1) (.slice pa ((l2.take 20).map mod16).length pc), Ri (.slice pa ((l2.take 20).map mod16).length pc) ((l2.take 20).map mod16), Ri (.slice p1 stm.length q1) stm, Mkb b2 (.slice none 0 0) (.slice none 0 0), Mkb b1 (.slice a1 l1.length k1) (.slice a2 l2.length k2)]) ?_ ?_
  · repeat (first | refine WC.seq ?_ | refine WC.reg ?_ | refine WL.pure rfl rfl rfl ?_ | refine WL.nil ?_ | refine WC.skip ?_ | refine WC.block ?_ | refine WC.condT rfl ?_ | refine WC.condF rfl ?_ | refine WL.off rfl rfl rfl ?_ | refine WL.off0 rfl rfl ?_ | refine WC.exit ?_ | refine blk_hit ?_ | refine blk_miss rfl ?_ | refine WC.ret ?_)
    refine WC.loop (Nat × Option Addr × Nat) (fun (i, _) => [(1, ptr b1), (2, ptr b2), (3, ptr b3), (5, .int .i64 (i : Nat))])
      (fun (i, pa, pc) w' => i ≤ l2.length ∧ i ≤ 20 ∧ Hp w w' [Mkb b3 (.slice p1 stm.length q1) (.slice pa i pc), .row 3 1 (.slice pa i pc) i (zs ((l2.take i).map mod16)), Ri (.slice p1 stm.length q1) stm, Mkb b2 (.slice none 0 0) (.slice none 0 0), Mkb b1 (.slice a1 l1.length k1) (.slice a2 l2.length k2)]) (fun (i, _) => 20 - i) (0, none, 0) ⟨rfl, rfl, rfl, rfl, rfl⟩ ⟨Nat.zero_le _, Nat.zero_le _, hp4⟩ ?_
    clear hp4
    rintro ⟨i, pa, pc⟩ w4 ⟨hi, hi20, hp4⟩
    replace hi : i ≤ l2.length := hi
    replace hi20 : i ≤ 20 := hi20
    replace hp4 : Hp w w4 [Mkb b3 (.slice p1 stm.length q1) (.slice pa i pc), .row 3 1 (.slice pa i pc) i (zs ((l2.take i).map mod16)), Ri (.slice p1 stm.length q1) stm, Mkb b2 (.slice none 0 0) (.slice none 0 0), Mkb b1 (.slice a1 l1.length k1) (.slice a2 l2.length k2)] := hp4
    have fin : (¬ i < l2.length ∨ ¬ i < 20) → Hp w w4 [Mkb b3 (.slice p1 stm.length q1) (.slice pa ((l2.take 20).map mod16).length pc), Ri (.slice pa ((l2.take 20).map mod16).length pc) ((l2.take 20).map mod16), Ri (.slice p1 stm.length q1) stm, Mkb b2 (.slice none 0 0) (.slice none 0 0), Mkb b1 (.slice a1 l1.length k1) (.slice a2 l2.length k2)] := by
      intro h
      have e1 := hend l2 i hi hi20 h
      have e2 := hln l2 i hi
      rw [e1] at hp4 e2
      rw [e2]
      unfold Ri at hp4 ⊢
      rw [e2]
      exact hp4
    repeat (first | refine WC.seq ?_ | refine WC.reg ?_ | refine WL.pure rfl rfl rfl ?_ | refine WL.nil ?_ | refine WC.skip ?_ | refine WC.block ?_ | refine WC.condT rfl ?_ | refine WC.condF rfl ?_ | refine WL.off rfl rfl rfl ?_ | refine WL.off0 rfl rfl ?_ | refine WC.exit ?_ | refine blk_hit ?_ | refine blk_miss rfl ?_ | refine WC.ret ?_)
    refine WL.loadB rfl rfl rfl rfl rfl (hp4.obj 4 rfl) (j := 1) rfl ?_
    repeat (first | refine WC.seq ?_ | refine WC.reg ?_ | refine WL.pure rfl rfl rfl ?_ | refine WL.nil ?_ | refine WC.skip ?_ | refine WC.block ?_ | refine WC.condT rfl ?_ | refine WC.condF rfl ?_ | refine WL.off rfl rfl rfl ?_ | refine WL.off0 rfl rfl ?_ | refine WC.exit ?_ | refine blk_hit ?_ | refine blk_miss rfl ?_ | refine WC.ret ?_)
    refine WL.split 33 rfl (fun c1 => ?_) (fun c1 => ?_)
    · have c1 : i < l2.length := by have h : ((i : Nat) : Int) < ((l2.length : Nat) : Int) := of_decide_eq_true c1; omega
      repeat (first | refine WC.seq ?_ | refine WC.reg ?_ | refine WL.pure rfl rfl rfl ?_ | refine WL.nil ?_ | refine WC.skip ?_ | refine WC.block ?_ | refine WC.condT rfl ?_ | refine WC.condF rfl ?_ | refine WL.off rfl rfl rfl ?_ | refine WL.off0 rfl rfl ?_ | refine WC.exit ?_ | refine blk_hit ?_ | refine blk_miss rfl ?_ | refine WC.ret ?_)
      refine WC.cond rfl (fun c2 => ?_) (fun c2 => ?_)
      · have c2 : i < 20 := by have h : ((i : Nat) : Int) < 20 := of_decide_eq_true c2; omega
        have step := wrap_succ (i := i) (n := i + 1) (by omega) (by omega)
        obtain ⟨ba, oa, hae, hac⟩ := hs2 _ _ (zs_at c1)
        subst hae
        repeat (first | refine WC.seq ?_ | refine WC.reg ?_ | refine WL.pure rfl rfl rfl ?_ | refine WL.nil ?_ | refine WC.skip ?_ | refine WC.block ?_ | refine WC.condT rfl ?_ | refine WC.condF rfl ?_ | refine WL.off rfl rfl rfl ?_ | refine WL.off0 rfl rfl ?_ | refine WC.exit ?_ | refine blk_hit ?_ | refine blk_miss rfl ?_ | refine WC.ret ?_)
        refine WC.mid (Option Addr × Nat) (fun _ => [(1, ptr b1), (2, ptr b2), (3, ptr b3), (5, .int .i64 (i : Nat))])
          (fun (pa, pc) w' => Hp w w' [Mkb b3 (.slice p1 stm.length q1) (.slice pa (i + 1) pc), .row 3 1 (.slice pa (i + 1) pc) (i + 1) (zs ((l2.take (i + 1)).map mod16)), Ri (.slice p1 stm.length q1) stm, Mkb b2 (.slice none 0 0) (.slice none 0 0), Mkb b1 (.slice a1 l1.length k1) (.slice (some ⟨ba, oa, none⟩) l2.length k2)]) ?_ ?_
        · refine WC.regH (fun w' => Hp w w' [Mkb b1 (.slice a1 l1.length k1) (.slice (some ⟨ba, oa, none⟩) l2.length k2)]) mixed (by kernel_rfl) (fun w5 hw5 hh5 => ?_)
          have hp5 := hp4.keep hw5
          have hS := hp5.pick [4] (by decide)
          refine WH.pure 0 (by kernel_rfl) rfl (by kernel_rfl) rfl rfl rfl (hS) ?_
          refine WH.pure 2 (by kernel_rfl) rfl (by kernel_rfl) rfl rfl rfl (hS) ?_
          refine WH.load 3 (by kernel_rfl) rfl (by kernel_rfl) rfl rfl rfl rfl rfl (fun w' h => cell_of_obj (h.obj 0 rfl) (j := 1) rfl) hS ?_
          refine WH.pure 4 (by kernel_rfl) rfl (by kernel_rfl) rfl rfl rfl (hS) ?_
          refine WH.ix1 5 (by kernel_rfl) rfl (by kernel_rfl) rfl rfl rfl rfl rfl rfl rfl c1 hS ?_
          refine WH.load 6 (by kernel_rfl) rfl (by kernel_rfl) rfl rfl rfl rfl rfl (fun w' h => cell_below h.below hac) hS ?_
          have cl : ∀ w9 pa2 pc2, Hp w w9 [Mkb b3 (.slice p1 stm.length q1) (.slice pa2 (i + 1) pc2), .row 3 1 (.slice pa2 (i + 1) pc2) (i + 1) (zs ((l2.take i).map mod16) ++ [.int .i64 (mod16 l2[i])]), Ri (.slice p1 stm.length q1) stm, Mkb b2 (.slice none 0 0) (.slice none 0 0), Mkb b1 (.slice a1 l1.length k1) (.slice (some ⟨ba, oa, none⟩) l2.length k2)] → Hp w w9 [Mkb b3 (.slice p1 stm.length q1) (.slice pa2 (i + 1) pc2), .row 3 1 (.slice pa2 (i + 1) pc2) (i + 1) (zs ((l2.take (i + 1)).map mod16)), Ri (.slice p1 stm.length q1) stm, Mkb b2 (.slice none 0 0) (.slice none 0 0), Mkb b1 (.slice a1 l1.length k1) (.slice (some ⟨ba, oa, none⟩) l2.length k2)] := fun w9 pa2 pc2 h => by rw [htk l2 i c1]; exact h
          refine WH.two 1 7 rfl rfl (by kernel_rfl) ?_ ?_
          · skip
            refine WL.loadB rfl rfl rfl rfl rfl (hp5.obj 0 rfl) (j := 1) rfl (WL.nil ⟨hp5.pick [4] (by decide), ?_⟩)
            refine WH.one 7 rfl (by kernel_rfl) ?_
            refine WL.call rfl rfl rfl rfl rfl ent29 (mod_any l2[i] 16 (by decide) (by decide) _) ?_
            rintro _ wz0 ⟨rfl, hwz0⟩
            obtain rfl := hwz0.symm
            refine WL.nil ⟨hp5.pick [4] (by decide), ?_⟩
            refine WH.one 8 rfl (by kernel_rfl) ?_
            refine WL.buildS (cs := [.int .i64 (mod16 l2[i])]) rfl rfl rfl rfl rfl rfl rfl rfl rfl (fun bq0 wq0 hq0 => ?_)
            have hz0 := hp5.new hq0
            refine WL.nil ⟨hz0.pick [5] (by decide), ?_⟩
            refine WH.one 9 rfl (by kernel_rfl) ?_
            refine WL.append 2 hz0 rfl rfl rfl rfl rfl (by decide) rfl rfl rfl (news := [.int .i64 (mod16 l2[i])]) (Sl.of_obj (hz0.obj 0 rfl) (fun q u hq => by simpa using hq)) rfl (zs_cells [mod16 l2[i]]) (by unfold maxLen; omega) (by show (i + 1) * 8 ≤ _; omega) ?_
            intro paN pcN wN hN _
            have hSN := hN.pick [5] (by decide)
            refine WL.nil ⟨hSN, ?_⟩
            refine WH.pure 10 (by kernel_rfl) rfl (by kernel_rfl) rfl rfl rfl (hSN) ?_
            refine WH.one 11 rfl (by kernel_rfl) ?_
            refine WL.store rfl rfl rfl rfl rfl rfl (hN.obj 1 rfl) (of_decide_eq_true rfl) (fun wM hMs => ?_)
            have hM := (hN.set 1 rfl rfl hMs).tail
            refine WL.nil ⟨hM.pick [4] (by decide), WH.done (by kernel_rfl) ?_⟩
            exact ⟨(paN, pcN), ⟨rfl, rfl, rfl, rfl, rfl⟩, cl _ _ _ hM⟩
          · skip
            refine WL.call rfl rfl rfl rfl rfl ent29 (mod_any l2[i] 16 (by decide) (by decide) _) ?_
            rintro _ wz0 ⟨rfl, hwz0⟩
            obtain rfl := hwz0.symm
            refine WL.nil ⟨hp5.pick [4] (by decide), ?_⟩
            refine WH.two 1 8 rfl rfl (by kernel_rfl) ?_ ?_
            · skip
              refine WL.loadB rfl rfl rfl rfl rfl (hp5.obj 0 rfl) (j := 1) rfl (WL.nil ⟨hp5.pick [4] (by decide), ?_⟩)
              refine WH.one 8 rfl (by kernel_rfl) ?_
              refine WL.buildS (cs := [.int .i64 (mod16 l2[i])]) rfl rfl rfl rfl rfl rfl rfl rfl rfl (fun bq0 wq0 hq0 => ?_)
              have hz0 := hp5.new hq0
              refine WL.nil ⟨hz0.pick [5] (by decide), ?_⟩
              refine WH.one 9 rfl (by kernel_rfl) ?_
              refine WL.append 2 hz0 rfl rfl rfl rfl rfl (by decide) rfl rfl rfl (news := [.int .i64 (mod16 l2[i])]) (Sl.of_obj (hz0.obj 0 rfl) (fun q u hq => by simpa using hq)) rfl (zs_cells [mod16 l2[i]]) (by unfold maxLen; omega) (by show (i + 1) * 8 ≤ _; omega) ?_
              intro paN pcN wN hN _
              have hSN := hN.pick [5] (by decide)
              refine WL.nil ⟨hSN, ?_⟩
              refine WH.pure 10 (by kernel_rfl) rfl (by kernel_rfl) rfl rfl rfl (hSN) ?_
              refine WH.one 11 rfl (by kernel_rfl) ?_
              refine WL.store rfl rfl rfl rfl rfl rfl (hN.obj 1 rfl) (of_decide_eq_true rfl) (fun wM hMs => ?_)
              have hM := (hN.set 1 rfl rfl hMs).tail
              refine WL.nil ⟨hM.pick [4] (by decide), WH.done (by kernel_rfl) ?_⟩
              exact ⟨(paN, pcN), ⟨rfl, rfl, rfl, rfl, rfl⟩, cl _ _ _ hM⟩
            · skip
              refine WL.buildS (cs := [.int .i64 (mod16 l2[i])]) rfl rfl rfl rfl rfl rfl rfl rfl rfl (fun bq0 wq0 hq0 => ?_)
              have hz0 := hp5.new hq0
              refine WL.nil ⟨hz0.pick [5] (by decide), ?_⟩
              refine WH.one 1 rfl (by kernel_rfl) ?_
              refine WL.loadB rfl rfl rfl rfl rfl (hz0.obj 1 rfl) (j := 1) rfl (WL.nil ⟨hz0.pick [5] (by decide), ?_⟩)
              refine WH.one 9 rfl (by kernel_rfl) ?_
              refine WL.append 2 hz0 rfl rfl rfl rfl rfl (by decide) rfl rfl rfl (news := [.int .i64 (mod16 l2[i])]) (Sl.of_obj (hz0.obj 0 rfl) (fun q u hq => by simpa using hq)) rfl (zs_cells [mod16 l2[i]]) (by unfold maxLen; omega) (by show (i + 1) * 8 ≤ _; omega) ?_
              intro paN pcN wN hN _
              have hSN := hN.pick [5] (by decide)
              refine WL.nil ⟨hSN, ?_⟩
              refine WH.pure 10 (by kernel_rfl) rfl (by kernel_rfl) rfl rfl rfl (hSN) ?_
              refine WH.one 11 rfl (by kernel_rfl) ?_
              refine WL.store rfl rfl rfl rfl rfl rfl (hN.obj 1 rfl) (of_decide_eq_true rfl) (fun wM hMs => ?_)
              have hM := (hN.set 1 rfl rfl hMs).tail
              refine WL.nil ⟨hM.pick [4] (by decide), WH.done (by kernel_rfl) ?_⟩
              exact ⟨(paN, pcN), ⟨rfl, rfl, rfl, rfl, rfl⟩, cl _ _ _ hM⟩
        · rintro ⟨pa2, pc2⟩ e5 w5 hsub hp5
          refine WC.sub hsub ?_
          repeat (first | refine WC.seq ?_ | refine WC.reg ?_ | refine WL.pure rfl rfl rfl ?_ | refine WL.nil ?_ | refine WC.skip ?_ | refine WC.block ?_ | refine WC.condT rfl ?_ | refine WC.condF rfl ?_ | refine WL.off rfl rfl rfl ?_ | refine WL.off0 rfl rfl ?_ | refine WC.exit ?_ | refine blk_hit ?_ | refine blk_miss rfl ?_ | refine WC.ret ?_)
          exact ⟨(i + 1, pa2, pc2), (by show 20 - (i + 1) < 20 - i; omega), ⟨rfl, rfl, rfl, congrArg (fun z => some (Value.int .i64 z)) step, rfl⟩, c1, c2, hp5⟩
      · have c2 : ¬ i < 20 := by have h : ¬ ((i : Nat) : Int) < 20 := of_decide_eq_false c2; omega
        repeat (first | refine WC.seq ?_ | refine WC.reg ?_ | refine WL.pure rfl rfl rfl ?_ | refine WL.nil ?_ | refine WC.skip ?_ | refine WC.block ?_ | refine WC.condT rfl ?_ | refine WC.condF rfl ?_ | refine WL.off rfl rfl rfl ?_ | refine WL.off0 rfl rfl ?_ | refine WC.exit ?_ | refine blk_hit ?_ | refine blk_miss rfl ?_ | refine WC.ret ?_)
        exact ⟨(pa, pc), ⟨rfl, rfl, rfl, rfl⟩, fin (.inr c2)⟩
    · have c1 : ¬ i < l2.length := by have h : ¬ ((i : Nat) : Int) < ((l2.length : Nat) : Int) := of_decide_eq_false c1; omega
      repeat (first | refine WC.seq ?_ | refine WC.reg ?_ | refine WL.pure rfl rfl rfl ?_ | refine WL.nil ?_ | refine WC.skip ?_ | refine WC.block ?_ | refine WC.condT rfl ?_ | refine WC.condF rfl ?_ | refine WL.off rfl rfl rfl ?_ | refine WL.off0 rfl rfl ?_ | refine WC.exit ?_ | refine blk_hit ?_ | refine blk_miss rfl ?_ | refine WC.ret ?_)
      exact ⟨(pa, pc), ⟨rfl, rfl, rfl, rfl⟩, fin (.inl c1)⟩
  rintro ⟨pa, pc⟩ e5 w5 hsub hp5
  refine WC.sub hsub ?_
  clear hsub e5 hp4
  replace hp5 : Hp w w5 [Mkb b3 (.slice p1 stm.length q1) (.slice pa ((l2.take 20).map mod16).length pc), Ri (.slice pa ((l2.take 20).map mod16).length pc) ((l2.take 20).map mod16), Ri (.slice p1 stm.length q1) stm, Mkb b2 (.slice none 0 0) (.slice none 0 0), Mkb b1 (.slice a1 l1.length k1) (.slice a2 l2.length k2)] := hp5
  refine WC.seq ?_
  refine WC.mid (Option Addr × Nat) (fun _ => [(2, ptr b2), (3, ptr b3)])
    (fun (pa, pc) w' => Hp w w' [Mkb b3 (.slice p1 stm.length q1) (.slice pa (lopM l2).length pc), Ri (.slice pa (lopM l2).length pc) (lopM l2), Ri (.slice p1 stm.length q1) stm, Mkb b2 (.slice none 0 0) (.slice none 0 0)]) ?_ ?_
  · repeat (first | refine WC.seq ?_ | refine WC.reg ?_ | refine WL.pure rfl rfl rfl ?_ | refine WL.nil ?_ | refine WC.skip ?_ | refine WC.block ?_ | refine WC.condT rfl ?_ | refine WC.condF rfl ?_ | refine WL.off rfl rfl rfl ?_ | refine WL.off0 rfl rfl ?_ | refine WC.exit ?_ | refine blk_hit ?_ | refine blk_miss rfl ?_ | refine WC.ret ?_)
    refine WL.loadB rfl rfl rfl rfl rfl (hp5.obj 0 rfl) (j := 1) rfl ?_
    repeat (first | refine WC.seq ?_ | refine WC.reg ?_ | refine WL.pure rfl rfl rfl ?_ | refine WL.nil ?_ | refine WC.skip ?_ | refine WC.block ?_ | refine WC.condT rfl ?_ | refine WC.condF rfl ?_ | refine WL.off rfl rfl rfl ?_ | refine WL.off0 rfl rfl ?_ | refine WC.exit ?_ | refine blk_hit ?_ | refine blk_miss rfl ?_ | refine WC.ret ?_)
    have hlo : lopM l2 = if l2 = [] then [0] else (l2.take 20).map mod16 := rfl
    refine WC.cond rfl (fun c1 => ?_) (fun c1 => ?_)
    · have c1 : ((l2.take 20).map mod16).length = 0 := Int.ofNat_inj.1 (beq_iff_eq.1 c1)
      have c2 : l2 = [] := by
        cases l2 with
        | nil => rfl
        | cons x r => simp at c1
      rw [if_pos c2] at hlo
      have c3 : (l2.take 20).map mod16 = [] := List.eq_nil_of_length_eq_zero c1
      rw [c3] at hp5 ⊢
      repeat (first | refine WC.seq ?_ | refine WC.reg ?_ | refine WL.pure rfl rfl rfl ?_ | refine WL.nil ?_ | refine WC.skip ?_ | refine WC.block ?_ | refine WC.condT rfl ?_ | refine WC.condF rfl ?_ | refine WL.off rfl rfl rfl ?_ | refine WL.off0 rfl rfl ?_ | refine WC.exit ?_ | refine blk_hit ?_ | refine blk_miss rfl ?_ | refine WC.ret ?_)
      refine WL.loadB rfl rfl rfl rfl rfl (hp5.obj 0 rfl) (j := 1) rfl ?_
      refine WL.buildS (cs := [.int .i64 0]) rfl rfl rfl rfl rfl rfl rfl rfl rfl (fun b7 w7 h7 => ?_)
      have hp7 := hp5.new h7
      refine WL.append 2 hp7 rfl rfl rfl rfl rfl (by decide) rfl rfl rfl (news := [.int .i64 0]) (Sl.of_obj (hp7.obj 0 rfl) (fun q u hq => by simpa using hq)) rfl (zs_cells [0]) (by decide) (by decide) ?_
      intro pa2 pc2 w8 hp8 _
      repeat (first | refine WC.seq ?_ | refine WC.reg ?_ | refine WL.pure rfl rfl rfl ?_ | refine WL.nil ?_ | refine WC.skip ?_ | refine WC.block ?_ | refine WC.condT rfl ?_ | refine WC.condF rfl ?_ | refine WL.off rfl rfl rfl ?_ | refine WL.off0 rfl rfl ?_ | refine WC.exit ?_ | refine blk_hit ?_ | refine blk_miss rfl ?_ | refine WC.ret ?_)
      refine WL.store rfl rfl rfl rfl rfl rfl (hp8.obj 1 rfl) (of_decide_eq_true rfl) (fun w9 h9 => ?_)
      have hp9 := (hp8.set 1 rfl rfl h9).tail
      repeat (first | refine WC.seq ?_ | refine WC.reg ?_ | refine WL.pure rfl rfl rfl ?_ | refine WL.nil ?_ | refine WC.skip ?_ | refine WC.block ?_ | refine WC.condT rfl ?_ | refine WC.condF rfl ?_ | refine WL.off rfl rfl rfl ?_ | refine WL.off0 rfl rfl ?_ | refine WC.exit ?_ | refine blk_hit ?_ | refine blk_miss rfl ?_ | refine WC.ret ?_)
      refine ⟨(pa2, pc2), ⟨rfl, rfl, rfl⟩, ?_⟩
      rw [hlo]
      exact hp9.pick [0, 1, 2, 3] (by decide)
    · have c2 : l2 ≠ [] := fun h => by rw [h] at c1; simp at c1
      rw [if_neg c2] at hlo
      repeat (first | refine WC.seq ?_ | refine WC.reg ?_ | refine WL.pure rfl rfl rfl ?_ | refine WL.nil ?_ | refine WC.skip ?_ | refine WC.block ?_ | refine WC.condT rfl ?_ | refine WC.condF rfl ?_ | refine WL.off rfl rfl rfl ?_ | refine WL.off0 rfl rfl ?_ | refine WC.exit ?_ | refine blk_hit ?_ | refine blk_miss rfl ?_ | refine WC.ret ?_)
      refine ⟨(pa, pc), ⟨rfl, rfl, rfl⟩, ?_⟩
      rw [hlo]
      exact hp5.pick [0, 1, 2, 3] (by decide)
  rintro ⟨p2, q2⟩ e6 w6 hsub hp6
  refine WC.sub hsub ?_
  clear hsub e6 hp5
  replace hp6 : Hp w w6 [Mkb b3 (.slice p1 stm.length q1) (.slice p2 (lopM l2).length q2), Ri (.slice p2 (lopM l2).length q2) (lopM l2), Ri (.slice p1 stm.length q1) stm, Mkb b2 (.slice none 0 0) (.slice none 0 0)] := hp6
  repeat (first | refine WC.seq ?_ | refine WC.reg ?_ | refine WL.pure rfl rfl rfl ?_ | refine WL.nil ?_ | refine WC.skip ?_ | refine WC.block ?_ | refine WC.condT rfl ?_ | refine WC.condF rfl ?_ | refine WL.off rfl rfl rfl ?_ | refine WL.off0 rfl rfl ?_ | refine WC.exit ?_ | refine blk_hit ?_ | refine blk_miss rfl ?_ | refine WC.ret ?_)
  refine WL.loadN rfl rfl rfl rfl rfl (cs := [.slice p1 stm.length q1, .slice p2 (lopM l2).length q2]) rfl (fun q v hq => cell_of_obj (hp6.obj 0 rfl) (by rw [Nat.zero_add]; simpa using hq)) ?_
  refine WL.storeN rfl rfl rfl rfl rfl (by simp [Value.oneCell']) (hp6.obj 3 rfl) (Nat.le_refl _) rfl (fun w7 h7 => ?_)
  have hp7 := hp6.set 3 rfl rfl h7
  repeat (first | refine WC.seq ?_ | refine WC.reg ?_ | refine WL.pure rfl rfl rfl ?_ | refine WL.nil ?_ | refine WC.skip ?_ | refine WC.block ?_ | refine WC.condT rfl ?_ | refine WC.condF rfl ?_ | refine WL.off rfl rfl rfl ?_ | refine WL.off0 rfl rfl ?_ | refine WC.exit ?_ | refine blk_hit ?_ | refine blk_miss rfl ?_ | refine WC.ret ?_)
  exact Res.cell rfl rfl rfl rfl rfl rfl (hp7.obj 3 rfl) ⟨p1, q1, p2, q2, rfl, hp7.pick [2, 1] (by decide)⟩
end Go.Proofs.YtpbbneclkhfgoaaDoor
