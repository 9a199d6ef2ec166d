/- Texts on the way to LtlNegates, one behind the other: U29 U30 U42 U44 U45 U46 U47 U48 U49 U51 Yk. -/
import Derived.Test.YtpbbneclkhfgoaaDoorG6
section
/- ltl, twenty-ninth: the small functions of the laws. -/
namespace Go.W
open Go.RowKit
section
variable {P : Program} [T : TT P] {e : Env} {w : World} {ty : TypeId}
theorem ySlHi {t E : TypeId} {i : TI} {z : Value} {s0 b0 len cap h : Nat} {x y : Operand} {a : Option Addr} {k : IntKind} (ht : T.ti t = some ⟨.slice E, z, s0, b0⟩) (hi : T.ti E = some i)
    (hx : opv e x = some (.slice a len cap)) (hy : opv e y = some (.int k (h : Nat))) (hh : h ≤ cap) : Yv P e (.slice t x none (some y) none) ty w (.slice a h cap) w := by
  have hu : P.underlying t = some (.slice E) := (T.ok t _ ht).k
  have hel : P.elem t = E := by simp [Program.elem, hu]
  have hu' : P.underlying t = some (.slice (P.elem t)) := by rw [hel]; exact hu
  have hsz := (T.ok E i hi).sizeOf w
  have hr := run_slice_h (P := P) w t a len cap hu' k h (by omega) (by omega)
  rw [hel, hsz] at hr
  have hval : sliced a 0 (h : Int).toNat cap i.size = .slice a h cap := by
    simp only [sliced, Nat.zero_mul, Nat.sub_zero, Int.toNat_natCast]
    congr 1
    split
    · rfl
    · cases a with
      | none => rfl
      | some p => simp [Addr.add_zero']
  intro ρ hρ d' pos' aft' g'
  simp only [execOp, hρ _ _ hx, Option.map_none, Option.map_some, hρ _ _ hy, Sem.run_bind]
  rw [run_sliceAt_slice w t _ _ _ _ hu', hr, Result.andThen_ok, hval]
  rfl
end
theorem Hp.sl {w0 w : World} {L : List Ent} {E s n c : Nat} {a : Option Addr} {xs : List Value} (h : Hp w0 w L) (i : Nat) (hi : nth L i = some (.row E s (.slice a n c) n xs)) : Sl w a xs := Sl.of_row (h.at i hi)
end Go.W
namespace Go.Ltl
open Go.W
def modN (x : Int) (n : Nat) : Nat := (x % 18446744073709551616).toNat % n
theorem modN_lt {n : Nat} (h : 0 < n) (x : Int) : modN x n < n := Nat.mod_lt _ h
def shortM (s : Str) : Str := s.take 400
def mod16 (x : Int) : Int := (modN x 16 : Nat)
def stemM (l : List Int) : List Int := (l.take 20).map mod16
def lopM (l : List Int) : List Int := if l = [] then [0] else (l.take 20).map mod16
end Go.Ltl
namespace Go.Proofs.YtpbbneclkhfgoaaDoor
open Go.W Go.Ltl Go.RowKit
set_option maxRecDepth 100000
attribute [local irreducible] WC WL WQ WS WH

theorem mod_any (x : Int) (n : Nat) (h0 : 0 < n) (hn : n < 1000) (w : World) : Ret Tryd.prog 29 [.int .i64 x, .int .i64 n] w fun u w' => u = .int .i64 (modN x n) ∧ w' = w := by
  refine enter Tryd.func29 rfl rfl ⟨rfl, rfl⟩ rfl ?_
  have e1 : IntKind.u64.wrap x = (((x % 18446744073709551616).toNat : Nat) : Int) := by rw [IntKind.wrap_u64]; omega
  have e2 : IntKind.u64.wrap (n : Int) = ((n : Nat) : Int) := by rw [IntKind.wrap_u64]; omega
  repeat (first | refine zA ?_ | refine zB ?_ | refine zC rfl rfl rfl ?_ | refine zD ?_ | refine zE ?_ | refine zF ?_ | refine zG rfl ?_ | refine zH rfl ?_ | refine zI rfl rfl rfl ?_ | refine zJ rfl rfl ?_ | refine zK ?_ | refine zL ?_ | refine zM rfl ?_ | refine zN ?_)
  refine WL.known (d := 6) (congrArg (fun z => some (Value.int .u64 z)) e1) ?_
  refine WL.known (d := 8) (congrArg (fun z => some (Value.int .u64 z)) e2) ?_
  refine WL.rem rfl rfl rfl rfl (by omega) ?_
  repeat (first | refine zA ?_ | refine zB ?_ | refine zC rfl rfl rfl ?_ | refine zD ?_ | refine zE ?_ | refine zF ?_ | refine zG rfl ?_ | refine zH rfl ?_ | refine zI rfl rfl rfl ?_ | refine zJ rfl rfl ?_ | refine zK ?_ | refine zL ?_ | refine zM rfl ?_ | refine zN ?_)
  refine Res.one rfl rfl rfl ⟨?_, rfl⟩
  have h1 : (((x % 18446744073709551616).toNat : Nat) : Int).tmod (n : Int) = ((modN x n : Nat) : Int) := (Int.ofNat_tmod _ _).symm
  have h2 := modN_lt h0 x
  rw [h1, wrap_i64_in (by omega) (by omega)]
theorem short_any (s : Str) (hl : s.length ≤ 9223372036854775807) (w : World) : Ret Tryd.prog 16 [st s] w fun u w' => u = st (shortM s) ∧ w' = w := by
  refine enter Tryd.func16 rfl rfl ⟨rfl, rfl⟩ rfl ?_
  have e1 : min (((sb s).size : Nat) : Int) 400 = ((min s.length 400 : Nat) : Int) := by rw [sb_size]; omega
  repeat (first | refine zA ?_ | refine zB ?_ | refine zC rfl rfl rfl ?_ | refine zD ?_ | refine zE ?_ | refine zF ?_ | refine zG rfl ?_ | refine zH rfl ?_ | refine zI rfl rfl rfl ?_ | refine zJ rfl rfl ?_ | refine zK ?_ | refine zL ?_ | refine zM rfl ?_ | refine zN ?_)
  refine WL.known (d := 6) (congrArg (fun z => some (Value.int .i64 z)) e1) ?_
  refine WL.sSl (a := 0) (b := min s.length 400) rfl rfl rfl rfl rfl rfl (Nat.zero_le _) (Nat.min_le_left _ _) ?_
  rw [List.drop_zero, Nat.sub_zero, show s.take (min s.length 400) = shortM s by unfold shortM; rw [Nat.min_comm]; exact (List.take_eq_take_min (l := s) (i := 400)).symm]
  repeat (first | refine zA ?_ | refine zB ?_ | refine zC rfl rfl rfl ?_ | refine zD ?_ | refine zE ?_ | refine zF ?_ | refine zG rfl ?_ | refine zH rfl ?_ | refine zI rfl rfl rfl ?_ | refine zJ rfl rfl ?_ | refine zK ?_ | refine zL ?_ | refine zM rfl ?_ | refine zN ?_)
  exact Res.one rfl rfl rfl ⟨rfl, rfl⟩
theorem shortM_len (s : Str) : (shortM s).length ≤ 400 := by unfold shortM; rw [List.length_take]; omega
/-- Marks in memory. -/
abbrev Mkb (b : Nat) (v1 v2 : Value) : Ent := .blk b (.cells #[v1, v2] 24 (0, 0))
theorem marks_any (a1 a2 : Option Addr) (k1 k2 : Nat) (l1 l2 : List Int) (h1 : l1.length ≤ 9223372036854775807) (h2 : l2.length ≤ 9223372036854775807) (w : World) (hs1 : Sl w a1 (zs l1)) (hs2 : Sl w a2 (zs l2)) :
    Ret Tryd.prog 25 [.agg #[.slice a1 l1.length k1, .slice a2 l2.length k2]] w fun u w' => ∃ p1 q1 p2 q2, u = .agg #[.slice p1 (stemM l1).length q1, .slice p2 (lopM l2).length q2] ∧ Hp w w' [Ri (.slice p1 (stemM l1).length q1) (stemM l1), Ri (.slice p2 (lopM l2).length q2) (lopM l2)] := by
  refine enter Tryd.func25 rfl rfl ⟨rfl, rfl⟩ rfl ?_
  repeat (first | refine zA ?_ | refine zB ?_ | refine zC rfl rfl rfl ?_ | refine zD ?_ | refine zE ?_ | refine zF ?_ | refine zG rfl ?_ | refine zH rfl ?_ | refine zI rfl rfl rfl ?_ | refine zJ rfl rfl ?_ | refine zK ?_ | refine zL ?_ | refine zM rfl ?_ | refine zN ?_)
  refine WL.box rfl rfl rfl (fun b1 w1 hb1 => ?_)
  have hp1 : Hp w w1 [Mkb b1 (.slice a1 l1.length k1) (.slice a2 l2.length k2)] := (Hp.start w).new hb1
  refine WL.alloc rfl rfl rfl (fun b2 w2 hb2 => ?_)
  have hp2 : Hp w w2 [Mkb b2 (.slice none 0 0) (.slice none 0 0), Mkb b1 (.slice a1 l1.length k1) (.slice a2 l2.length k2)] := hp1.new hb2
  repeat (first | refine zA ?_ | refine zB ?_ | refine zC rfl rfl rfl ?_ | refine zD ?_ | refine zE ?_ | refine zF ?_ | refine zG rfl ?_ | refine zH rfl ?_ | refine zI rfl rfl rfl ?_ | refine zJ rfl rfl ?_ | refine zK ?_ | refine zL ?_ | refine zM rfl ?_ | refine zN ?_)
  refine WL.alloc rfl rfl rfl (fun b3 w3 hb3 => ?_)
  have hp3 : Hp w w3 [Mkb b3 (.slice none 0 0) (.slice none 0 0), Mkb b2 (.slice none 0 0) (.slice none 0 0), Mkb b1 (.slice a1 l1.length k1) (.slice a2 l2.length k2)] := hp2.new hb3
  have hp4 := ((hp3.nilrow 3 1).swap)
  clear hp1 hp2 hp3
  have htk : ∀ (l : List Int) (i : Nat) (h : i < l.length), zs ((l.take (i + 1)).map mod16) = zs ((l.take i).map mod16) ++ [.int .i64 (mod16 l[i])] := by
    intro l i h
    rw [List.take_succ_eq_append_getElem h, List.map_append, zs_app]; rfl
  have hln : ∀ (l : List Int) (i : Nat), i ≤ l.length → ((l.take i).map mod16).length = i := by
    intro l i h
    rw [List.length_map, List.length_take]; omega
  have hend : ∀ (l : List Int) (i : Nat), i ≤ l.length → i ≤ 20 → (¬ i < l.length ∨ ¬ i < 20) → (l.take i).map mod16 = (l.take 20).map mod16 := by
    intro l i h1 h2 h3
    rcases h3 with h | h
    · rw [List.take_of_length_le (by omega), List.take_of_length_le (by omega)]
    · rw [show i = 20 by omega]
  refine WL.nil ?_
  refine WC.seq ?_
  refine WC.mid (Option Addr × Nat) (fun _ => [(1, ptr b1), (2, ptr b2), (3, ptr b3)])
    (fun (pa, pc) w' => Hp w w' [Mkb b3 (.slice pa (stemM l1).length pc) (.slice none 0 0), Ri (.slice pa (stemM l1).length pc) (stemM l1), Mkb b2 (.slice none 0 0) (.slice none 0 0), Mkb b1 (.slice a1 l1.length k1) (.slice a2 l2.length k2)]) ?_ ?_
  · repeat (first | refine zA ?_ | refine zB ?_ | refine zC rfl rfl rfl ?_ | refine zD ?_ | refine zE ?_ | refine zF ?_ | refine zG rfl ?_ | refine zH rfl ?_ | refine zI rfl rfl rfl ?_ | refine zJ rfl rfl ?_ | refine zK ?_ | refine zL ?_ | refine zM rfl ?_ | refine zN ?_)
    refine WC.loop (Nat × Option Addr × Nat) (fun (i, _) => [(1, ptr b1), (2, ptr b2), (3, ptr b3), (4, .int .i64 (i : Nat))])
      (fun (i, pa, pc) w' => i ≤ l1.length ∧ i ≤ 20 ∧ Hp w w' [Mkb b3 (.slice pa i pc) (.slice none 0 0), .row 3 1 (.slice pa i pc) i (zs ((l1.take i).map mod16)), Mkb b2 (.slice none 0 0) (.slice none 0 0), Mkb b1 (.slice a1 l1.length k1) (.slice a2 l2.length k2)]) (fun (i, _) => 20 - i) (0, none, 0) ⟨rfl, rfl, rfl, rfl, rfl⟩ ⟨Nat.zero_le _, Nat.zero_le _, hp4⟩ ?_
    clear hp4
    rintro ⟨i, pa, pc⟩ w4 ⟨hi, hi20, hp4⟩
    replace hi : i ≤ l1.length := hi
    replace hi20 : i ≤ 20 := hi20
    replace hp4 : Hp w w4 [Mkb b3 (.slice pa i pc) (.slice none 0 0), .row 3 1 (.slice pa i pc) i (zs ((l1.take i).map mod16)), Mkb b2 (.slice none 0 0) (.slice none 0 0), Mkb b1 (.slice a1 l1.length k1) (.slice a2 l2.length k2)] := hp4
    have fin : (¬ i < l1.length ∨ ¬ i < 20) → Hp w w4 [Mkb b3 (.slice pa (stemM l1).length pc) (.slice none 0 0), Ri (.slice pa (stemM l1).length pc) (stemM l1), Mkb b2 (.slice none 0 0) (.slice none 0 0), Mkb b1 (.slice a1 l1.length k1) (.slice a2 l2.length k2)] := by
      intro h
      have e1 := hend l1 i hi hi20 h
      have e2 := hln l1 i hi
      rw [e1] at hp4 e2
      unfold stemM
      rw [e2]
      unfold Ri
      rw [e2]
      exact hp4
    repeat (first | refine zA ?_ | refine zB ?_ | refine zC rfl rfl rfl ?_ | refine zD ?_ | refine zE ?_ | refine zF ?_ | refine zG rfl ?_ | refine zH rfl ?_ | refine zI rfl rfl rfl ?_ | refine zJ rfl rfl ?_ | refine zK ?_ | refine zL ?_ | refine zM rfl ?_ | refine zN ?_)
    refine WL.loadB rfl rfl rfl rfl rfl (hp4.obj 3 rfl) (j := 0) rfl ?_
    repeat (first | refine zA ?_ | refine zB ?_ | refine zC rfl rfl rfl ?_ | refine zD ?_ | refine zE ?_ | refine zF ?_ | refine zG rfl ?_ | refine zH rfl ?_ | refine zI rfl rfl rfl ?_ | refine zJ rfl rfl ?_ | refine zK ?_ | refine zL ?_ | refine zM rfl ?_ | refine zN ?_)
    refine WL.split 11 rfl (fun c1 => ?_) (fun c1 => ?_)
    · have c1 : i < l1.length := by have h : ((i : Nat) : Int) < ((l1.length : Nat) : Int) := of_decide_eq_true c1; omega
      repeat (first | refine zA ?_ | refine zB ?_ | refine zC rfl rfl rfl ?_ | refine zD ?_ | refine zE ?_ | refine zF ?_ | refine zG rfl ?_ | refine zH rfl ?_ | refine zI rfl rfl rfl ?_ | refine zJ rfl rfl ?_ | refine zK ?_ | refine zL ?_ | refine zM rfl ?_ | refine zN ?_)
      refine WC.cond rfl (fun c2 => ?_) (fun c2 => ?_)
      · have c2 : i < 20 := by have h : ((i : Nat) : Int) < 20 := of_decide_eq_true c2; omega
        have step := wrap_succ (i := i) (n := i + 1) (by omega) (by omega)
        obtain ⟨ba, oa, hae, hac⟩ := hs1 _ _ (zs_at c1)
        subst hae
        repeat (first | refine zA ?_ | refine zB ?_ | refine zC rfl rfl rfl ?_ | refine zD ?_ | refine zE ?_ | refine zF ?_ | refine zG rfl ?_ | refine zH rfl ?_ | refine zI rfl rfl rfl ?_ | refine zJ rfl rfl ?_ | refine zK ?_ | refine zL ?_ | refine zM rfl ?_ | refine zN ?_)
        refine WC.mid (Option Addr × Nat) (fun _ => [(1, ptr b1), (2, ptr b2), (3, ptr b3), (4, .int .i64 (i : Nat))])
          (fun (pa, pc) w' => Hp w w' [Mkb b3 (.slice pa (i + 1) pc) (.slice none 0 0), .row 3 1 (.slice pa (i + 1) pc) (i + 1) (zs ((l1.take (i + 1)).map mod16)), Mkb b2 (.slice none 0 0) (.slice none 0 0), Mkb b1 (.slice (some ⟨ba, oa, none⟩) l1.length k1) (.slice a2 l2.length k2)]) ?_ ?_
        · refine WC.regH (fun w' => Hp w w' [Mkb b1 (.slice (some ⟨ba, oa, none⟩) l1.length k1) (.slice a2 l2.length k2)]) mixed (by kernel_rfl) (fun w5 hw5 hh5 => ?_)
          have hp5 := hp4.keep hw5
          have hS := hp5.pick [3] (by decide)
          refine WH.pure 0 (by kernel_rfl) rfl (by kernel_rfl) rfl rfl rfl (hS) ?_
          refine WH.pure 2 (by kernel_rfl) rfl (by kernel_rfl) rfl rfl rfl (hS) ?_
          refine WH.load 3 (by kernel_rfl) rfl (by kernel_rfl) rfl rfl rfl rfl rfl (fun w' h => cell_of_obj (h.obj 0 rfl) (j := 0) rfl) hS ?_
          refine WH.pure 4 (by kernel_rfl) rfl (by kernel_rfl) rfl rfl rfl (hS) ?_
          refine WH.ix1 5 (by kernel_rfl) rfl (by kernel_rfl) rfl rfl rfl rfl rfl rfl rfl c1 hS ?_
          refine WH.load 6 (by kernel_rfl) rfl (by kernel_rfl) rfl rfl rfl rfl rfl (fun w' h => cell_below h.below hac) hS ?_
          have cl : ∀ w9 pa2 pc2, Hp w w9 [Mkb b3 (.slice pa2 (i + 1) pc2) (.slice none 0 0), .row 3 1 (.slice pa2 (i + 1) pc2) (i + 1) (zs ((l1.take i).map mod16) ++ [.int .i64 (mod16 l1[i])]), Mkb b2 (.slice none 0 0) (.slice none 0 0), Mkb b1 (.slice (some ⟨ba, oa, none⟩) l1.length k1) (.slice a2 l2.length k2)] → Hp w w9 [Mkb b3 (.slice pa2 (i + 1) pc2) (.slice none 0 0), .row 3 1 (.slice pa2 (i + 1) pc2) (i + 1) (zs ((l1.take (i + 1)).map mod16)), Mkb b2 (.slice none 0 0) (.slice none 0 0), Mkb b1 (.slice (some ⟨ba, oa, none⟩) l1.length k1) (.slice a2 l2.length k2)] := fun w9 pa2 pc2 h => by rw [htk l1 i c1]; exact h
          refine WH.two 1 7 rfl rfl (by kernel_rfl) ?_ ?_
          · skip
            refine WL.loadB rfl rfl rfl rfl rfl (hp5.obj 0 rfl) (j := 0) rfl (WL.nil ⟨hp5.pick [3] (by decide), ?_⟩)
            refine WH.one 7 rfl (by kernel_rfl) ?_
            refine WL.call rfl rfl rfl rfl rfl ent29 (mod_any l1[i] 16 (by decide) (by decide) _) ?_
            rintro _ wz0 ⟨rfl, hwz0⟩
            obtain rfl := hwz0.symm
            refine WL.nil ⟨hp5.pick [3] (by decide), ?_⟩
            refine WH.one 8 rfl (by kernel_rfl) ?_
            refine WL.buildS (cs := [.int .i64 (mod16 l1[i])]) rfl rfl rfl rfl rfl rfl rfl rfl rfl (fun bq0 wq0 hq0 => ?_)
            have hz0 := hp5.new hq0
            refine WL.nil ⟨hz0.pick [4] (by decide), ?_⟩
            refine WH.one 9 rfl (by kernel_rfl) ?_
            refine WL.append 2 hz0 rfl rfl rfl rfl rfl (by decide) rfl rfl rfl (news := [.int .i64 (mod16 l1[i])]) (Sl.of_obj (hz0.obj 0 rfl) (fun q u hq => by simpa using hq)) rfl (zs_cells [mod16 l1[i]]) (by unfold maxLen; omega) (by show (i + 1) * 8 ≤ _; omega) ?_
            intro paN pcN wN hN _
            have hSN := hN.pick [4] (by decide)
            refine WL.nil ⟨hSN, ?_⟩
            refine WH.pure 10 (by kernel_rfl) rfl (by kernel_rfl) rfl rfl rfl (hSN) ?_
            refine WH.one 11 rfl (by kernel_rfl) ?_
            refine WL.store rfl rfl rfl rfl rfl rfl (hN.obj 1 rfl) (of_decide_eq_true rfl) (fun wM hMs => ?_)
            have hM := (hN.set 1 rfl rfl hMs).tail
            refine WL.nil ⟨hM.pick [3] (by decide), WH.done (by kernel_rfl) ?_⟩
            exact ⟨(paN, pcN), ⟨rfl, rfl, rfl, rfl, rfl⟩, cl _ _ _ hM⟩
          · skip
            refine WL.call rfl rfl rfl rfl rfl ent29 (mod_any l1[i] 16 (by decide) (by decide) _) ?_
            rintro _ wz0 ⟨rfl, hwz0⟩
            obtain rfl := hwz0.symm
            refine WL.nil ⟨hp5.pick [3] (by decide), ?_⟩
            refine WH.two 1 8 rfl rfl (by kernel_rfl) ?_ ?_
            · skip
              refine WL.loadB rfl rfl rfl rfl rfl (hp5.obj 0 rfl) (j := 0) rfl (WL.nil ⟨hp5.pick [3] (by decide), ?_⟩)
              refine WH.one 8 rfl (by kernel_rfl) ?_
              refine WL.buildS (cs := [.int .i64 (mod16 l1[i])]) rfl rfl rfl rfl rfl rfl rfl rfl rfl (fun bq0 wq0 hq0 => ?_)
              have hz0 := hp5.new hq0
              refine WL.nil ⟨hz0.pick [4] (by decide), ?_⟩
              refine WH.one 9 rfl (by kernel_rfl) ?_
              refine WL.append 2 hz0 rfl rfl rfl rfl rfl (by decide) rfl rfl rfl (news := [.int .i64 (mod16 l1[i])]) (Sl.of_obj (hz0.obj 0 rfl) (fun q u hq => by simpa using hq)) rfl (zs_cells [mod16 l1[i]]) (by unfold maxLen; omega) (by show (i + 1) * 8 ≤ _; omega) ?_
              intro paN pcN wN hN _
              have hSN := hN.pick [4] (by decide)
              refine WL.nil ⟨hSN, ?_⟩
              refine WH.pure 10 (by kernel_rfl) rfl (by kernel_rfl) rfl rfl rfl (hSN) ?_
              refine WH.one 11 rfl (by kernel_rfl) ?_
              refine WL.store rfl rfl rfl rfl rfl rfl (hN.obj 1 rfl) (of_decide_eq_true rfl) (fun wM hMs => ?_)
              have hM := (hN.set 1 rfl rfl hMs).tail
              refine WL.nil ⟨hM.pick [3] (by decide), WH.done (by kernel_rfl) ?_⟩
              exact ⟨(paN, pcN), ⟨rfl, rfl, rfl, rfl, rfl⟩, cl _ _ _ hM⟩
            · skip
              refine WL.buildS (cs := [.int .i64 (mod16 l1[i])]) rfl rfl rfl rfl rfl rfl rfl rfl rfl (fun bq0 wq0 hq0 => ?_)
              have hz0 := hp5.new hq0
              refine WL.nil ⟨hz0.pick [4] (by decide), ?_⟩
              refine WH.one 1 rfl (by kernel_rfl) ?_
              refine WL.loadB rfl rfl rfl rfl rfl (hz0.obj 1 rfl) (j := 0) rfl (WL.nil ⟨hz0.pick [4] (by decide), ?_⟩)
              refine WH.one 9 rfl (by kernel_rfl) ?_
              refine WL.append 2 hz0 rfl rfl rfl rfl rfl (by decide) rfl rfl rfl (news := [.int .i64 (mod16 l1[i])]) (Sl.of_obj (hz0.obj 0 rfl) (fun q u hq => by simpa using hq)) rfl (zs_cells [mod16 l1[i]]) (by unfold maxLen; omega) (by show (i + 1) * 8 ≤ _; omega) ?_
              intro paN pcN wN hN _
              have hSN := hN.pick [4] (by decide)
              refine WL.nil ⟨hSN, ?_⟩
              refine WH.pure 10 (by kernel_rfl) rfl (by kernel_rfl) rfl rfl rfl (hSN) ?_
              refine WH.one 11 rfl (by kernel_rfl) ?_
              refine WL.store rfl rfl rfl rfl rfl rfl (hN.obj 1 rfl) (of_decide_eq_true rfl) (fun wM hMs => ?_)
              have hM := (hN.set 1 rfl rfl hMs).tail
              refine WL.nil ⟨hM.pick [3] (by decide), WH.done (by kernel_rfl) ?_⟩
              exact ⟨(paN, pcN), ⟨rfl, rfl, rfl, rfl, rfl⟩, cl _ _ _ hM⟩
        · rintro ⟨pa2, pc2⟩ e5 w5 hsub hp5
          refine WC.sub hsub ?_
          repeat (first | refine zA ?_ | refine zB ?_ | refine zC rfl rfl rfl ?_ | refine zD ?_ | refine zE ?_ | refine zF ?_ | refine zG rfl ?_ | refine zH rfl ?_ | refine zI rfl rfl rfl ?_ | refine zJ rfl rfl ?_ | refine zK ?_ | refine zL ?_ | refine zM rfl ?_ | refine zN ?_)
          exact ⟨(i + 1, pa2, pc2), (by show 20 - (i + 1) < 20 - i; omega), ⟨rfl, rfl, rfl, congrArg (fun z => some (Value.int .i64 z)) step, rfl⟩, c1, c2, hp5⟩
      · have c2 : ¬ i < 20 := by have h : ¬ ((i : Nat) : Int) < 20 := of_decide_eq_false c2; omega
        repeat (first | refine zA ?_ | refine zB ?_ | refine zC rfl rfl rfl ?_ | refine zD ?_ | refine zE ?_ | refine zF ?_ | refine zG rfl ?_ | refine zH rfl ?_ | refine zI rfl rfl rfl ?_ | refine zJ rfl rfl ?_ | refine zK ?_ | refine zL ?_ | refine zM rfl ?_ | refine zN ?_)
        exact ⟨(pa, pc), ⟨rfl, rfl, rfl, rfl⟩, fin (.inr c2)⟩
    · have c1 : ¬ i < l1.length := by have h : ¬ ((i : Nat) : Int) < ((l1.length : Nat) : Int) := of_decide_eq_false c1; omega
      repeat (first | refine zA ?_ | refine zB ?_ | refine zC rfl rfl rfl ?_ | refine zD ?_ | refine zE ?_ | refine zF ?_ | refine zG rfl ?_ | refine zH rfl ?_ | refine zI rfl rfl rfl ?_ | refine zJ rfl rfl ?_ | refine zK ?_ | refine zL ?_ | refine zM rfl ?_ | refine zN ?_)
      exact ⟨(pa, pc), ⟨rfl, rfl, rfl, rfl⟩, fin (.inl c1)⟩
  rintro ⟨p1, q1⟩ e4 w4 hsub hp4
  refine WC.sub hsub ?_
  clear hsub e4
  replace hp4 : Hp w w4 [Mkb b3 (.slice p1 (stemM l1).length q1) (.slice none 0 0), Ri (.slice p1 (stemM l1).length q1) (stemM l1), Mkb b2 (.slice none 0 0) (.slice none 0 0), Mkb b1 (.slice a1 l1.length k1) (.slice a2 l2.length k2)] := hp4
  generalize hSt : stemM l1 = stm at *
  have hp4 := (hp4.nilrow 3 1).pick [1, 0, 2, 3, 4] (by decide)
  refine WC.seq ?_
  refine WC.mid (Option Addr × Nat) (fun _ => [(1, ptr b1), (2, ptr b2), (3, ptr b3)])
    (fun (pa, pc) w' => Hp w w' [Mkb b3 (.slice p1 stm.length q1) (.slice pa ((l2.take 20).map mod16).length pc), Ri (.slice pa ((l2.take 20).map mod16).length pc) ((l2.take 20).map mod16), Ri (.slice p1 stm.length q1) stm, Mkb b2 (.slice none 0 0) (.slice none 0 0), Mkb b1 (.slice a1 l1.length k1) (.slice a2 l2.length k2)]) ?_ ?_
  · repeat (first | refine zA ?_ | refine zB ?_ | refine zC rfl rfl rfl ?_ | refine zD ?_ | refine zE ?_ | refine zF ?_ | refine zG rfl ?_ | refine zH rfl ?_ | refine zI rfl rfl rfl ?_ | refine zJ rfl rfl ?_ | refine zK ?_ | refine zL ?_ | refine zM rfl ?_ | refine zN ?_)
    refine WC.loop (Nat × Option Addr × Nat) (fun (i, _) => [(1, ptr b1), (2, ptr b2), (3, ptr b3), (5, .int .i64 (i : Nat))])
      (fun (i, pa, pc) w' => i ≤ l2.length ∧ i ≤ 20 ∧ Hp w w' [Mkb b3 (.slice p1 stm.length q1) (.slice pa i pc), .row 3 1 (.slice pa i pc) i (zs ((l2.take i).map mod16)), Ri (.slice p1 stm.length q1) stm, Mkb b2 (.slice none 0 0) (.slice none 0 0), Mkb b1 (.slice a1 l1.length k1) (.slice a2 l2.length k2)]) (fun (i, _) => 20 - i) (0, none, 0) ⟨rfl, rfl, rfl, rfl, rfl⟩ ⟨Nat.zero_le _, Nat.zero_le _, hp4⟩ ?_
    clear hp4
    rintro ⟨i, pa, pc⟩ w4 ⟨hi, hi20, hp4⟩
    replace hi : i ≤ l2.length := hi
    replace hi20 : i ≤ 20 := hi20
    replace hp4 : Hp w w4 [Mkb b3 (.slice p1 stm.length q1) (.slice pa i pc), .row 3 1 (.slice pa i pc) i (zs ((l2.take i).map mod16)), Ri (.slice p1 stm.length q1) stm, Mkb b2 (.slice none 0 0) (.slice none 0 0), Mkb b1 (.slice a1 l1.length k1) (.slice a2 l2.length k2)] := hp4
    have fin : (¬ i < l2.length ∨ ¬ i < 20) → Hp w w4 [Mkb b3 (.slice p1 stm.length q1) (.slice pa ((l2.take 20).map mod16).length pc), Ri (.slice pa ((l2.take 20).map mod16).length pc) ((l2.take 20).map mod16), Ri (.slice p1 stm.length q1) stm, Mkb b2 (.slice none 0 0) (.slice none 0 0), Mkb b1 (.slice a1 l1.length k1) (.slice a2 l2.length k2)] := by
      intro h
      have e1 := hend l2 i hi hi20 h
      have e2 := hln l2 i hi
      rw [e1] at hp4 e2
      rw [e2]
      unfold Ri at hp4 ⊢
      rw [e2]
      exact hp4
    repeat (first | refine zA ?_ | refine zB ?_ | refine zC rfl rfl rfl ?_ | refine zD ?_ | refine zE ?_ | refine zF ?_ | refine zG rfl ?_ | refine zH rfl ?_ | refine zI rfl rfl rfl ?_ | refine zJ rfl rfl ?_ | refine zK ?_ | refine zL ?_ | refine zM rfl ?_ | refine zN ?_)
    refine WL.loadB rfl rfl rfl rfl rfl (hp4.obj 4 rfl) (j := 1) rfl ?_
    repeat (first | refine zA ?_ | refine zB ?_ | refine zC rfl rfl rfl ?_ | refine zD ?_ | refine zE ?_ | refine zF ?_ | refine zG rfl ?_ | refine zH rfl ?_ | refine zI rfl rfl rfl ?_ | refine zJ rfl rfl ?_ | refine zK ?_ | refine zL ?_ | refine zM rfl ?_ | refine zN ?_)
    refine WL.split 33 rfl (fun c1 => ?_) (fun c1 => ?_)
    · have c1 : i < l2.length := by have h : ((i : Nat) : Int) < ((l2.length : Nat) : Int) := of_decide_eq_true c1; omega
      repeat (first | refine zA ?_ | refine zB ?_ | refine zC rfl rfl rfl ?_ | refine zD ?_ | refine zE ?_ | refine zF ?_ | refine zG rfl ?_ | refine zH rfl ?_ | refine zI rfl rfl rfl ?_ | refine zJ rfl rfl ?_ | refine zK ?_ | refine zL ?_ | refine zM rfl ?_ | refine zN ?_)
      refine WC.cond rfl (fun c2 => ?_) (fun c2 => ?_)
      · have c2 : i < 20 := by have h : ((i : Nat) : Int) < 20 := of_decide_eq_true c2; omega
        have step := wrap_succ (i := i) (n := i + 1) (by omega) (by omega)
        obtain ⟨ba, oa, hae, hac⟩ := hs2 _ _ (zs_at c1)
        subst hae
        repeat (first | refine zA ?_ | refine zB ?_ | refine zC rfl rfl rfl ?_ | refine zD ?_ | refine zE ?_ | refine zF ?_ | refine zG rfl ?_ | refine zH rfl ?_ | refine zI rfl rfl rfl ?_ | refine zJ rfl rfl ?_ | refine zK ?_ | refine zL ?_ | refine zM rfl ?_ | refine zN ?_)
        refine WC.mid (Option Addr × Nat) (fun _ => [(1, ptr b1), (2, ptr b2), (3, ptr b3), (5, .int .i64 (i : Nat))])
          (fun (pa, pc) w' => Hp w w' [Mkb b3 (.slice p1 stm.length q1) (.slice pa (i + 1) pc), .row 3 1 (.slice pa (i + 1) pc) (i + 1) (zs ((l2.take (i + 1)).map mod16)), Ri (.slice p1 stm.length q1) stm, Mkb b2 (.slice none 0 0) (.slice none 0 0), Mkb b1 (.slice a1 l1.length k1) (.slice (some ⟨ba, oa, none⟩) l2.length k2)]) ?_ ?_
        · refine WC.regH (fun w' => Hp w w' [Mkb b1 (.slice a1 l1.length k1) (.slice (some ⟨ba, oa, none⟩) l2.length k2)]) mixed (by kernel_rfl) (fun w5 hw5 hh5 => ?_)
          have hp5 := hp4.keep hw5
          have hS := hp5.pick [4] (by decide)
          refine WH.pure 0 (by kernel_rfl) rfl (by kernel_rfl) rfl rfl rfl (hS) ?_
          refine WH.pure 2 (by kernel_rfl) rfl (by kernel_rfl) rfl rfl rfl (hS) ?_
          refine WH.load 3 (by kernel_rfl) rfl (by kernel_rfl) rfl rfl rfl rfl rfl (fun w' h => cell_of_obj (h.obj 0 rfl) (j := 1) rfl) hS ?_
          refine WH.pure 4 (by kernel_rfl) rfl (by kernel_rfl) rfl rfl rfl (hS) ?_
          refine WH.ix1 5 (by kernel_rfl) rfl (by kernel_rfl) rfl rfl rfl rfl rfl rfl rfl c1 hS ?_
          refine WH.load 6 (by kernel_rfl) rfl (by kernel_rfl) rfl rfl rfl rfl rfl (fun w' h => cell_below h.below hac) hS ?_
          have cl : ∀ w9 pa2 pc2, Hp w w9 [Mkb b3 (.slice p1 stm.length q1) (.slice pa2 (i + 1) pc2), .row 3 1 (.slice pa2 (i + 1) pc2) (i + 1) (zs ((l2.take i).map mod16) ++ [.int .i64 (mod16 l2[i])]), Ri (.slice p1 stm.length q1) stm, Mkb b2 (.slice none 0 0) (.slice none 0 0), Mkb b1 (.slice a1 l1.length k1) (.slice (some ⟨ba, oa, none⟩) l2.length k2)] → Hp w w9 [Mkb b3 (.slice p1 stm.length q1) (.slice pa2 (i + 1) pc2), .row 3 1 (.slice pa2 (i + 1) pc2) (i + 1) (zs ((l2.take (i + 1)).map mod16)), Ri (.slice p1 stm.length q1) stm, Mkb b2 (.slice none 0 0) (.slice none 0 0), Mkb b1 (.slice a1 l1.length k1) (.slice (some ⟨ba, oa, none⟩) l2.length k2)] := fun w9 pa2 pc2 h => by rw [htk l2 i c1]; exact h
          refine WH.two 1 7 rfl rfl (by kernel_rfl) ?_ ?_
          · skip
            refine WL.loadB rfl rfl rfl rfl rfl (hp5.obj 0 rfl) (j := 1) rfl (WL.nil ⟨hp5.pick [4] (by decide), ?_⟩)
            refine WH.one 7 rfl (by kernel_rfl) ?_
            refine WL.call rfl rfl rfl rfl rfl ent29 (mod_any l2[i] 16 (by decide) (by decide) _) ?_
            rintro _ wz0 ⟨rfl, hwz0⟩
            obtain rfl := hwz0.symm
            refine WL.nil ⟨hp5.pick [4] (by decide), ?_⟩
            refine WH.one 8 rfl (by kernel_rfl) ?_
            refine WL.buildS (cs := [.int .i64 (mod16 l2[i])]) rfl rfl rfl rfl rfl rfl rfl rfl rfl (fun bq0 wq0 hq0 => ?_)
            have hz0 := hp5.new hq0
            refine WL.nil ⟨hz0.pick [5] (by decide), ?_⟩
            refine WH.one 9 rfl (by kernel_rfl) ?_
            refine WL.append 2 hz0 rfl rfl rfl rfl rfl (by decide) rfl rfl rfl (news := [.int .i64 (mod16 l2[i])]) (Sl.of_obj (hz0.obj 0 rfl) (fun q u hq => by simpa using hq)) rfl (zs_cells [mod16 l2[i]]) (by unfold maxLen; omega) (by show (i + 1) * 8 ≤ _; omega) ?_
            intro paN pcN wN hN _
            have hSN := hN.pick [5] (by decide)
            refine WL.nil ⟨hSN, ?_⟩
            refine WH.pure 10 (by kernel_rfl) rfl (by kernel_rfl) rfl rfl rfl (hSN) ?_
            refine WH.one 11 rfl (by kernel_rfl) ?_
            refine WL.store rfl rfl rfl rfl rfl rfl (hN.obj 1 rfl) (of_decide_eq_true rfl) (fun wM hMs => ?_)
            have hM := (hN.set 1 rfl rfl hMs).tail
            refine WL.nil ⟨hM.pick [4] (by decide), WH.done (by kernel_rfl) ?_⟩
            exact ⟨(paN, pcN), ⟨rfl, rfl, rfl, rfl, rfl⟩, cl _ _ _ hM⟩
          · skip
            refine WL.call rfl rfl rfl rfl rfl ent29 (mod_any l2[i] 16 (by decide) (by decide) _) ?_
            rintro _ wz0 ⟨rfl, hwz0⟩
            obtain rfl := hwz0.symm
            refine WL.nil ⟨hp5.pick [4] (by decide), ?_⟩
            refine WH.two 1 8 rfl rfl (by kernel_rfl) ?_ ?_
            · skip
              refine WL.loadB rfl rfl rfl rfl rfl (hp5.obj 0 rfl) (j := 1) rfl (WL.nil ⟨hp5.pick [4] (by decide), ?_⟩)
              refine WH.one 8 rfl (by kernel_rfl) ?_
              refine WL.buildS (cs := [.int .i64 (mod16 l2[i])]) rfl rfl rfl rfl rfl rfl rfl rfl rfl (fun bq0 wq0 hq0 => ?_)
              have hz0 := hp5.new hq0
              refine WL.nil ⟨hz0.pick [5] (by decide), ?_⟩
              refine WH.one 9 rfl (by kernel_rfl) ?_
              refine WL.append 2 hz0 rfl rfl rfl rfl rfl (by decide) rfl rfl rfl (news := [.int .i64 (mod16 l2[i])]) (Sl.of_obj (hz0.obj 0 rfl) (fun q u hq => by simpa using hq)) rfl (zs_cells [mod16 l2[i]]) (by unfold maxLen; omega) (by show (i + 1) * 8 ≤ _; omega) ?_
              intro paN pcN wN hN _
              have hSN := hN.pick [5] (by decide)
              refine WL.nil ⟨hSN, ?_⟩
              refine WH.pure 10 (by kernel_rfl) rfl (by kernel_rfl) rfl rfl rfl (hSN) ?_
              refine WH.one 11 rfl (by kernel_rfl) ?_
              refine WL.store rfl rfl rfl rfl rfl rfl (hN.obj 1 rfl) (of_decide_eq_true rfl) (fun wM hMs => ?_)
              have hM := (hN.set 1 rfl rfl hMs).tail
              refine WL.nil ⟨hM.pick [4] (by decide), WH.done (by kernel_rfl) ?_⟩
              exact ⟨(paN, pcN), ⟨rfl, rfl, rfl, rfl, rfl⟩, cl _ _ _ hM⟩
            · skip
              refine WL.buildS (cs := [.int .i64 (mod16 l2[i])]) rfl rfl rfl rfl rfl rfl rfl rfl rfl (fun bq0 wq0 hq0 => ?_)
              have hz0 := hp5.new hq0
              refine WL.nil ⟨hz0.pick [5] (by decide), ?_⟩
              refine WH.one 1 rfl (by kernel_rfl) ?_
              refine WL.loadB rfl rfl rfl rfl rfl (hz0.obj 1 rfl) (j := 1) rfl (WL.nil ⟨hz0.pick [5] (by decide), ?_⟩)
              refine WH.one 9 rfl (by kernel_rfl) ?_
              refine WL.append 2 hz0 rfl rfl rfl rfl rfl (by decide) rfl rfl rfl (news := [.int .i64 (mod16 l2[i])]) (Sl.of_obj (hz0.obj 0 rfl) (fun q u hq => by simpa using hq)) rfl (zs_cells [mod16 l2[i]]) (by unfold maxLen; omega) (by show (i + 1) * 8 ≤ _; omega) ?_
              intro paN pcN wN hN _
              have hSN := hN.pick [5] (by decide)
              refine WL.nil ⟨hSN, ?_⟩
              refine WH.pure 10 (by kernel_rfl) rfl (by kernel_rfl) rfl rfl rfl (hSN) ?_
              refine WH.one 11 rfl (by kernel_rfl) ?_
              refine WL.store rfl rfl rfl rfl rfl rfl (hN.obj 1 rfl) (of_decide_eq_true rfl) (fun wM hMs => ?_)
              have hM := (hN.set 1 rfl rfl hMs).tail
              refine WL.nil ⟨hM.pick [4] (by decide), WH.done (by kernel_rfl) ?_⟩
              exact ⟨(paN, pcN), ⟨rfl, rfl, rfl, rfl, rfl⟩, cl _ _ _ hM⟩
        · rintro ⟨pa2, pc2⟩ e5 w5 hsub hp5
          refine WC.sub hsub ?_
          repeat (first | refine zA ?_ | refine zB ?_ | refine zC rfl rfl rfl ?_ | refine zD ?_ | refine zE ?_ | refine zF ?_ | refine zG rfl ?_ | refine zH rfl ?_ | refine zI rfl rfl rfl ?_ | refine zJ rfl rfl ?_ | refine zK ?_ | refine zL ?_ | refine zM rfl ?_ | refine zN ?_)
          exact ⟨(i + 1, pa2, pc2), (by show 20 - (i + 1) < 20 - i; omega), ⟨rfl, rfl, rfl, congrArg (fun z => some (Value.int .i64 z)) step, rfl⟩, c1, c2, hp5⟩
      · have c2 : ¬ i < 20 := by have h : ¬ ((i : Nat) : Int) < 20 := of_decide_eq_false c2; omega
        repeat (first | refine zA ?_ | refine zB ?_ | refine zC rfl rfl rfl ?_ | refine zD ?_ | refine zE ?_ | refine zF ?_ | refine zG rfl ?_ | refine zH rfl ?_ | refine zI rfl rfl rfl ?_ | refine zJ rfl rfl ?_ | refine zK ?_ | refine zL ?_ | refine zM rfl ?_ | refine zN ?_)
        exact ⟨(pa, pc), ⟨rfl, rfl, rfl, rfl⟩, fin (.inr c2)⟩
    · have c1 : ¬ i < l2.length := by have h : ¬ ((i : Nat) : Int) < ((l2.length : Nat) : Int) := of_decide_eq_false c1; omega
      repeat (first | refine zA ?_ | refine zB ?_ | refine zC rfl rfl rfl ?_ | refine zD ?_ | refine zE ?_ | refine zF ?_ | refine zG rfl ?_ | refine zH rfl ?_ | refine zI rfl rfl rfl ?_ | refine zJ rfl rfl ?_ | refine zK ?_ | refine zL ?_ | refine zM rfl ?_ | refine zN ?_)
      exact ⟨(pa, pc), ⟨rfl, rfl, rfl, rfl⟩, fin (.inl c1)⟩
  rintro ⟨pa, pc⟩ e5 w5 hsub hp5
  refine WC.sub hsub ?_
  clear hsub e5 hp4
  replace hp5 : Hp w w5 [Mkb b3 (.slice p1 stm.length q1) (.slice pa ((l2.take 20).map mod16).length pc), Ri (.slice pa ((l2.take 20).map mod16).length pc) ((l2.take 20).map mod16), Ri (.slice p1 stm.length q1) stm, Mkb b2 (.slice none 0 0) (.slice none 0 0), Mkb b1 (.slice a1 l1.length k1) (.slice a2 l2.length k2)] := hp5
  refine WC.seq ?_
  refine WC.mid (Option Addr × Nat) (fun _ => [(2, ptr b2), (3, ptr b3)])
    (fun (pa, pc) w' => Hp w w' [Mkb b3 (.slice p1 stm.length q1) (.slice pa (lopM l2).length pc), Ri (.slice pa (lopM l2).length pc) (lopM l2), Ri (.slice p1 stm.length q1) stm, Mkb b2 (.slice none 0 0) (.slice none 0 0)]) ?_ ?_
  · repeat (first | refine zA ?_ | refine zB ?_ | refine zC rfl rfl rfl ?_ | refine zD ?_ | refine zE ?_ | refine zF ?_ | refine zG rfl ?_ | refine zH rfl ?_ | refine zI rfl rfl rfl ?_ | refine zJ rfl rfl ?_ | refine zK ?_ | refine zL ?_ | refine zM rfl ?_ | refine zN ?_)
    refine WL.loadB rfl rfl rfl rfl rfl (hp5.obj 0 rfl) (j := 1) rfl ?_
    repeat (first | refine zA ?_ | refine zB ?_ | refine zC rfl rfl rfl ?_ | refine zD ?_ | refine zE ?_ | refine zF ?_ | refine zG rfl ?_ | refine zH rfl ?_ | refine zI rfl rfl rfl ?_ | refine zJ rfl rfl ?_ | refine zK ?_ | refine zL ?_ | refine zM rfl ?_ | refine zN ?_)
    have hlo : lopM l2 = if l2 = [] then [0] else (l2.take 20).map mod16 := rfl
    refine WC.cond rfl (fun c1 => ?_) (fun c1 => ?_)
    · have c1 : ((l2.take 20).map mod16).length = 0 := Int.ofNat_inj.1 (beq_iff_eq.1 c1)
      have c2 : l2 = [] := by
        cases l2 with
        | nil => rfl
        | cons x r => simp at c1
      rw [if_pos c2] at hlo
      have c3 : (l2.take 20).map mod16 = [] := List.eq_nil_of_length_eq_zero c1
      rw [c3] at hp5 ⊢
      repeat (first | refine zA ?_ | refine zB ?_ | refine zC rfl rfl rfl ?_ | refine zD ?_ | refine zE ?_ | refine zF ?_ | refine zG rfl ?_ | refine zH rfl ?_ | refine zI rfl rfl rfl ?_ | refine zJ rfl rfl ?_ | refine zK ?_ | refine zL ?_ | refine zM rfl ?_ | refine zN ?_)
      refine WL.loadB rfl rfl rfl rfl rfl (hp5.obj 0 rfl) (j := 1) rfl ?_
      refine WL.buildS (cs := [.int .i64 0]) rfl rfl rfl rfl rfl rfl rfl rfl rfl (fun b7 w7 h7 => ?_)
      have hp7 := hp5.new h7
      refine WL.append 2 hp7 rfl rfl rfl rfl rfl (by decide) rfl rfl rfl (news := [.int .i64 0]) (Sl.of_obj (hp7.obj 0 rfl) (fun q u hq => by simpa using hq)) rfl (zs_cells [0]) (by decide) (by decide) ?_
      intro pa2 pc2 w8 hp8 _
      repeat (first | refine zA ?_ | refine zB ?_ | refine zC rfl rfl rfl ?_ | refine zD ?_ | refine zE ?_ | refine zF ?_ | refine zG rfl ?_ | refine zH rfl ?_ | refine zI rfl rfl rfl ?_ | refine zJ rfl rfl ?_ | refine zK ?_ | refine zL ?_ | refine zM rfl ?_ | refine zN ?_)
      refine WL.store rfl rfl rfl rfl rfl rfl (hp8.obj 1 rfl) (of_decide_eq_true rfl) (fun w9 h9 => ?_)
      have hp9 := (hp8.set 1 rfl rfl h9).tail
      repeat (first | refine zA ?_ | refine zB ?_ | refine zC rfl rfl rfl ?_ | refine zD ?_ | refine zE ?_ | refine zF ?_ | refine zG rfl ?_ | refine zH rfl ?_ | refine zI rfl rfl rfl ?_ | refine zJ rfl rfl ?_ | refine zK ?_ | refine zL ?_ | refine zM rfl ?_ | refine zN ?_)
      refine ⟨(pa2, pc2), ⟨rfl, rfl, rfl⟩, ?_⟩
      rw [hlo]
      exact hp9.pick [0, 1, 2, 3] (by decide)
    · have c2 : l2 ≠ [] := fun h => by rw [h] at c1; simp at c1
      rw [if_neg c2] at hlo
      repeat (first | refine zA ?_ | refine zB ?_ | refine zC rfl rfl rfl ?_ | refine zD ?_ | refine zE ?_ | refine zF ?_ | refine zG rfl ?_ | refine zH rfl ?_ | refine zI rfl rfl rfl ?_ | refine zJ rfl rfl ?_ | refine zK ?_ | refine zL ?_ | refine zM rfl ?_ | refine zN ?_)
      refine ⟨(pa, pc), ⟨rfl, rfl, rfl⟩, ?_⟩
      rw [hlo]
      exact hp5.pick [0, 1, 2, 3] (by decide)
  rintro ⟨p2, q2⟩ e6 w6 hsub hp6
  refine WC.sub hsub ?_
  clear hsub e6 hp5
  replace hp6 : Hp w w6 [Mkb b3 (.slice p1 stm.length q1) (.slice p2 (lopM l2).length q2), Ri (.slice p2 (lopM l2).length q2) (lopM l2), Ri (.slice p1 stm.length q1) stm, Mkb b2 (.slice none 0 0) (.slice none 0 0)] := hp6
  repeat (first | refine zA ?_ | refine zB ?_ | refine zC rfl rfl rfl ?_ | refine zD ?_ | refine zE ?_ | refine zF ?_ | refine zG rfl ?_ | refine zH rfl ?_ | refine zI rfl rfl rfl ?_ | refine zJ rfl rfl ?_ | refine zK ?_ | refine zL ?_ | refine zM rfl ?_ | refine zN ?_)
  refine WL.loadN rfl rfl rfl rfl rfl (cs := [.slice p1 stm.length q1, .slice p2 (lopM l2).length q2]) rfl (fun q v hq => cell_of_obj (hp6.obj 0 rfl) (by rw [Nat.zero_add]; simpa using hq)) ?_
  refine WL.storeN rfl rfl rfl rfl rfl (by simp [Value.oneCell']) (hp6.obj 3 rfl) (Nat.le_refl _) rfl (fun w7 h7 => ?_)
  have hp7 := hp6.set 3 rfl rfl h7
  repeat (first | refine zA ?_ | refine zB ?_ | refine zC rfl rfl rfl ?_ | refine zD ?_ | refine zE ?_ | refine zF ?_ | refine zG rfl ?_ | refine zH rfl ?_ | refine zI rfl rfl rfl ?_ | refine zJ rfl rfl ?_ | refine zK ?_ | refine zL ?_ | refine zM rfl ?_ | refine zN ?_)
  exact Res.cell rfl rfl rfl rfl rfl rfl (hp7.obj 3 rfl) ⟨p1, q1, p2, q2, rfl, hp7.pick [2, 1] (by decide)⟩
end Go.Proofs.YtpbbneclkhfgoaaDoor
end
section
/- ltl, thirtieth: what Value says, and LtlTurns in plain words. -/
namespace Go.Ltl
open Go.W
theorem finF_inv {x f : Fm} {k k' : Nat} {l l' : List Str} (h : finF x k l = some (f, l', k')) : l = [41] :: l' ∧ x = f ∧ k = k' := by
  unfold finF at h
  split at h
  · simp only [Option.some.injEq, Prod.mk.injEq] at h
    obtain ⟨rfl, rfl, rfl⟩ := h
    exact ⟨rfl, rfl, rfl⟩
  · cases h
/-- What is parsed hangs on the words of the formula alone. -/
theorem prsN_ext : ∀ (n : Nat) (l : List Str) (k : Nat) (f : Fm) (l' : List Str) (k' : Nat), prsN n l k = some (f, l', k') → ∀ (m : Nat) (r : List Str) (k2 : Nat), n ≤ m → k2 + sizeF f ≤ 12 → prsN m (l ++ r) k2 = some (f, l' ++ r, k2 + sizeF f) := by
  intro n
  induction n with
  | zero => intro l k f l' k' h; cases h
  | succ n ih =>
    intro l k f l' k' h m r k2 hm hk
    obtain ⟨m, rfl⟩ : ∃ m0, m = m0 + 1 := ⟨m - 1, by omega⟩
    have hnm : n ≤ m := by omega
    cases l with
    | nil => rw [prsN_nil] at h; cases h
    | cons s l =>
      by_cases hs : s = [40]
      · subst hs
        cases l with
        | nil => rw [prsN_p0] at h; cases h
        | cons s l =>
          by_cases hb : 12 < k + 1
          · rw [prsN_pb _ _ _ _ hb] at h; cases h
          have hb : k + 1 ≤ 12 := by omega
          by_cases h1 : s ∈ onesL
          · rw [prsN_on _ _ _ _ hb h1] at h
            cases hp : prsN n l (k + 1) with
            | none => rw [hp] at h; cases h
            | some q =>
              obtain ⟨f1, l3, k3⟩ := q
              rw [hp] at h
              obtain ⟨rfl, rfl, rfl⟩ := finF_inv h
              unfold sizeF at hk
              have := ih l (k + 1) f1 _ _ hp m r (k2 + 1) hnm (by omega)
              show prsN (m + 1) ([40] :: s :: (l ++ r)) k2 = _
              rw [prsN_on _ _ _ _ (by omega) h1, this]
              show finF (.on_ s f1) (k2 + 1 + sizeF f1) ([41] :: (l' ++ r)) = _
              show finF (.on_ s f1) (k2 + 1 + sizeF f1) ([41] :: (l' ++ r)) = some (.on_ s f1, l' ++ r, k2 + (1 + sizeF f1))
              rw [show k2 + (1 + sizeF f1) = k2 + 1 + sizeF f1 by omega]; rfl
          by_cases h2 : s ∈ twosL
          · rw [prsN_tw _ _ _ _ hb h1 h2] at h
            cases hp : prsN n l (k + 1) with
            | none => rw [hp] at h; cases h
            | some q =>
              obtain ⟨f1, l3, k3⟩ := q
              rw [hp] at h
              simp only at h
              cases hq : prsN n l3 k3 with
              | none => rw [hq] at h; cases h
              | some q2 =>
                obtain ⟨f2, l4, k4⟩ := q2
                rw [hq] at h
                obtain ⟨rfl, rfl, rfl⟩ := finF_inv h
                unfold sizeF at hk
                have e1 := ih l (k + 1) f1 _ _ hp m r (k2 + 1) hnm (by omega)
                have e2 := ih l3 k3 f2 _ _ hq m r (k2 + 1 + sizeF f1) hnm (by omega)
                show prsN (m + 1) ([40] :: s :: (l ++ r)) k2 = _
                rw [prsN_tw _ _ _ _ (by omega) h1 h2, e1]
                simp only
                rw [e2]
                show finF (.tw_ s f1 f2) (k2 + 1 + sizeF f1 + sizeF f2) ([41] :: (l' ++ r)) = _
                show finF (.tw_ s f1 f2) (k2 + 1 + sizeF f1 + sizeF f2) ([41] :: (l' ++ r)) = some (.tw_ s f1 f2, l' ++ r, k2 + (1 + sizeF f1 + sizeF f2))
                rw [show k2 + (1 + sizeF f1 + sizeF f2) = k2 + 1 + sizeF f1 + sizeF f2 by omega]; rfl
          · rw [prsN_un _ _ _ _ h1 h2] at h; cases h
      · by_cases hb : 12 < k + 1
        · rw [prsN_big _ _ _ _ hs hb] at h; cases h
        rw [prsN_at _ _ _ _ hs (by omega)] at h
        split at h
        · rename_i ha
          simp only [Option.some.injEq, Prod.mk.injEq] at h
          obtain ⟨rfl, rfl, rfl⟩ := h
          show prsN (m + 1) (s :: (l ++ r)) k2 = _
          rw [prsN_at _ _ _ _ hs (by unfold sizeF at hk; omega), if_pos ha]
          rfl
        · cases h
theorem tokN_close : ∀ (s cur : Str), tokN (s ++ [41]) cur = tokN s cur ++ [[41]] := by
  intro s
  induction s with
  | nil => intro cur; show tokN [41] cur = _; unfold tokN; rw [if_neg (by decide), if_pos (by decide)]; rfl
  | cons c s ih =>
    intro cur
    show tokN (c :: (s ++ [41])) cur = _
    unfold tokN
    split
    · rw [ih, List.append_assoc]
    · split
      · rw [ih, List.append_assoc]; rfl
      · rw [ih]
def notS (s : Str) : Str := [40, 110, 111, 116, 32] ++ s ++ [41]
theorem tok_not (s : Str) : tokM (notS s) = [40] :: wNot :: (tokM s ++ [[41]]) := by
  unfold tokM notS
  rw [List.append_assoc]
  show tokN (40 :: 110 :: 111 :: 116 :: 32 :: (s ++ [41])) [] = _
  simp only [tokN, tokN_close]
  rfl
theorem parseM_inv {s : Str} {f : Fm} (h : parseM s = some f) : ∃ k, prsN ((tokM s).length + 1) (tokM s) 0 = some (f, [], k) := by
  unfold parseM at h
  split at h
  · rename_i f' k hq
    simp only [Option.some.injEq] at h
    subst h
    exact ⟨k, hq⟩
  · cases h
/-- An operation of one formula ahead of a formula. -/
theorem parse_one {s t : Str} {w : Str} {f g : Fm} (hw : w ∈ onesL) (ht : tokM t = [40] :: w :: (tokM s ++ [[41]])) (hs : parseM s = some f) (hg : parseM t = some g) : g = .on_ w f := by
  obtain ⟨k, hk⟩ := parseM_inv hs
  obtain ⟨k2, hk2⟩ := parseM_inv hg
  rw [ht, show ([40] :: w :: (tokM s ++ [[41]]) : List Str).length = (tokM s).length + 3 by simp] at hk2
  rw [prsN_on _ _ _ _ (by decide) hw] at hk2
  cases hp : prsN ((tokM s).length + 3) (tokM s ++ [[41]]) (0 + 1) with
  | none => rw [hp] at hk2; cases hk2
  | some q =>
    obtain ⟨f1, l3, k3⟩ := q
    rw [hp] at hk2
    obtain ⟨rfl, rfl, rfl⟩ := finF_inv hk2
    have h1 := prsN_sz _ _ _ _ _ _ hp
    have h2 := (parseM_sz hs).2
    have e1 := prsN_ext _ _ _ _ _ _ hp ((tokM s).length + 3) [] 0 (Nat.le_refl _) (by omega)
    have e2 := prsN_ext _ _ _ _ _ _ hk ((tokM s).length + 3) [[41]] 0 (by omega) (by omega)
    rw [List.append_nil] at e1
    rw [e1] at e2
    simp only [Option.some.injEq, Prod.mk.injEq] at e2
    rw [e2.1]
end Go.Ltl
namespace Go.Proofs.YtpbbneclkhfgoaaDoor
open Go.W Go.Ltl Go.RowKit
set_option maxRecDepth 100000
attribute [local irreducible] WC WL WQ WS WH

theorem any_mark {l : List Int} (h : ∀ m ∈ l, 0 ≤ m ∧ m ≤ 15) : l.any (fun z => !markB z) = false := by
  rw [List.any_eq_false]
  intro m hm
  have := h m hm
  simp [markB, this.1, this.2]
/-- Value says the truth of the sequence. -/
theorem ValueM_ok {l1 l2 : List Int} {s : Str} {f : Fm} (hf : parseM s = some f) (h1 : l1.length ≤ 65536) (h2 : 1 ≤ l2.length) (h3 : l2.length ≤ 65536) (hm : ∀ m ∈ l1 ++ l2, 0 ≤ m ∧ m ≤ 15) :
    ∃ b, ValueM l1 l2 s = (b, 0) ∧ (b = true ↔ satS (seqL (l1 ++ l2) l1.length) f 0) := by
  refine ⟨(valsM (l1 ++ l2) l1.length f).getD 0 false, ?_, ?_⟩
  · unfold ValueM
    rw [if_pos ⟨by simp [lassoB, h1, h2, h3], any_mark hm⟩, hf]
  · have := vals_sat (l1 ++ l2) l1.length (by rw [List.length_append]; omega) f (parseM_wf hf) 0
    exact this
theorem ValueM_none {l1 l2 : List Int} {s : Str} (hf : parseM s = none) (h1 : l1.length ≤ 65536) (h2 : 1 ≤ l2.length) (h3 : l2.length ≤ 65536) (hm : ∀ m ∈ l1 ++ l2, 0 ≤ m ∧ m ≤ 15) : ValueM l1 l2 s = (false, 4) := by
  unfold ValueM
  rw [if_pos ⟨by simp [lassoB, h1, h2, h3], any_mark hm⟩, hf]
theorem mod16_ok (x : Int) : 0 ≤ mod16 x ∧ mod16 x ≤ 15 := by
  have := modN_lt (n := 16) (by decide) x
  unfold mod16
  omega
theorem stemM_ok (l : List Int) : (stemM l).length ≤ 20 ∧ ∀ m ∈ stemM l, 0 ≤ m ∧ m ≤ 15 := by
  refine ⟨by unfold stemM; rw [List.length_map, List.length_take]; omega, fun m hm => ?_⟩
  obtain ⟨x, _, rfl⟩ := List.mem_map.1 hm
  exact mod16_ok x
theorem lopM_ok (l : List Int) : 1 ≤ (lopM l).length ∧ (lopM l).length ≤ 20 ∧ ∀ m ∈ lopM l, 0 ≤ m ∧ m ≤ 15 := by
  unfold lopM
  split
  · exact ⟨by decide, by decide, fun m hm => by rw [List.mem_singleton.1 hm]; decide⟩
  · rename_i h
    have := List.length_pos_iff.2 h
    refine ⟨by rw [List.length_map, List.length_take]; omega, by rw [List.length_map, List.length_take]; omega, fun m hm => ?_⟩
    obtain ⟨x, _, rfl⟩ := List.mem_map.1 hm
    exact mod16_ok x
theorem bool_iff {a b : Bool} {P : Prop} (h1 : a = true ↔ P) (h2 : b = true ↔ P) : a = b := by
  rw [Bool.eq_iff_iff, h1, h2]
end Go.Proofs.YtpbbneclkhfgoaaDoor
end
section
/- ltl, forty-second: structures that a function makes itself. -/
namespace Go.Proofs.YtpbbneclkhfgoaaDoor
open Go.W Go.Ltl Go.RowKit
set_option maxRecDepth 100000
set_option linter.unusedSectionVars false
attribute [local irreducible] WC WL WQ WS WH

theorem permE {w0 w : World} {L L' : List Ent} (h : Hp w0 w L) (p : L.Perm L') : Hp w0 w L' :=
  ⟨h.below, fun x hx => h.sat x (p.mem_iff.2 hx), (p.pairwise_iff (fun {_a _b} h => Apart.symm h)).1 h.dist⟩
/-- Rows of bools in their own blocks. -/
theorem pick_mem {L : List Ent} {x : Ent} : ∀ {ps : List Nat}, x ∈ pick L ps → x ∈ L := by
  intro ps
  induction ps with
  | nil => intro h; cases h
  | cons p ps ih =>
    intro h
    unfold pick at h
    split at h
    · rename_i y hy
      rcases List.mem_cons.1 h with rfl | h
      · rw [nth_eq] at hy; exact List.mem_of_getElem? hy
      · exact ih h
    · exact ih h
/-- What is known of the front may be put in another order, or left out. -/
theorem Hp.pickT {w0 w : World} {T : List Ent} (L : List Ent) (ps : List Nat) (h : Hp w0 w (L ++ T)) (hn : (ps.Pairwise (· ≠ ·))) : Hp w0 w (pick L ps ++ T) := by
  have hd := List.pairwise_append.1 h.dist
  have h1 : Hp w0 w (pick L ps) := Hp.pick ⟨h.below, fun x hx => h.sat x (List.mem_append_left _ hx), hd.1⟩ ps hn
  refine ⟨h.below, fun x hx => ?_, List.pairwise_append.2 ⟨h1.dist, hd.2.1, fun x hx y hy => hd.2.2 x (pick_mem hx) y hy⟩⟩
  rcases List.mem_append.1 hx with hx | hx
  · exact h.sat x (List.mem_append_left _ (pick_mem hx))
  · exact h.sat x (List.mem_append_right _ hx)
theorem zs_getD {xs : List Int} {i : Nat} (h : i < xs.length) : (zs xs)[i]? = some (.int .i64 (xs.getD i 0)) := by simp [zs, h]
theorem Hp.frontT {w0 w : World} {T L : List Ent} (h : Hp w0 w (L ++ T)) : Hp w0 w L := ⟨h.below, fun x hx => h.sat x (List.mem_append_left _ hx), (List.pairwise_append.1 h.dist).1⟩
abbrev Stb (b : Nat) (na : Option Addr) (n nc : Nat) (ma : Option Addr) (m mc : Nat) : Ent := .blk b (.cells #[.slice na n nc, .slice ma m mc] 44 (0, 0))
/-- The rows of a structure. -/
def vsE (vs : Vs) : List Ent := vs.map fun x => Ri (.slice x.1 x.2.2.length x.2.1) x.2.2
abbrev Rvs (v : Value) (vs : Vs) : Ent := .row 22 1 v vs.length (catV vs)
theorem catV_snoc (vs : Vs) (x : Option Addr × Nat × List Int) : catV (vs ++ [x]) = catV vs ++ [.slice x.1 x.2.2.length x.2.1] := by unfold catV; rw [List.map_append]; rfl
theorem vsE_snoc (vs : Vs) (x : Option Addr × Nat × List Int) : vsE (vs ++ [x]) = vsE vs ++ [Ri (.slice x.1 x.2.2.length x.2.1) x.2.2] := by unfold vsE; rw [List.map_append]; rfl
/-- What is owned is read. -/
theorem Stc.own {w0 w : World} {L : List Ent} {na ma : Option Addr} {nc n m mc : Nat} {vs : Vs} {ms : List Int} (hp : Hp w0 w L) (h1 : .row 22 1 (.slice na n nc) n (catV vs) ∈ L) (h2 : .row 3 1 (.slice ma m mc) m (zs ms) ∈ L) (h3 : ∀ x ∈ vsE vs, x ∈ L) : Stc w na ma vs ms := by
  refine ⟨Sl.of_row (hp.sat _ h1), fun x hx => ?_, Sl.of_row (hp.sat _ h2)⟩
  have h4 := hp.sat _ (h3 _ (List.mem_map_of_mem (f := fun x : Option Addr × Nat × List Int => Ri (.slice x.1 x.2.2.length x.2.1) x.2.2) hx))
  exact Sl.of_row h4
/-- A new row is behind the older ones. -/
theorem Hp.rowIn {w0 w : World} {X : List Ent} {na : Option Addr} {nc : Nat} {vs : Vs} {x : Option Addr × Nat × List Int} (h : Hp w0 w (.row 22 1 (.slice na (vs.length + 1) nc) (vs.length + 1) (catV vs ++ [.slice x.1 x.2.2.length x.2.1]) :: Ri (.slice x.1 x.2.2.length x.2.1) x.2.2 :: (X ++ vsE vs))) :
    Hp w0 w (Rvs (.slice na (vs ++ [x]).length nc) (vs ++ [x]) :: (X ++ vsE (vs ++ [x]))) := by
  unfold Rvs
  rw [List.length_append, catV_snoc, vsE_snoc]
  refine permE h (List.Perm.cons _ ?_)
  rw [← List.append_assoc]
  exact List.perm_append_comm (l₁ := [_]) (l₂ := X ++ vsE vs)
end Go.Proofs.YtpbbneclkhfgoaaDoor
end
section
/- ltl, forty-fourth: machine, the reference's Structure. -/
namespace Go.Proofs.YtpbbneclkhfgoaaDoor
open Go.W Go.Ltl Go.RowKit
set_option maxRecDepth 100000
set_option linter.unusedSectionVars false
attribute [local irreducible] WC WL WQ WS WH

abbrev rowsOf (vs : Vs) : List (List Int) := vs.map fun x => x.2.2
def takeV (rows : List (List Int)) : List (List Int) := (rows.take 20).map (·.take 20)
theorem takeV_succ {rows : List (List Int)} {i : Nat} (h : i < rows.length) : (rows.take (i + 1)).map (·.take 20) = (rows.take i).map (·.take 20) ++ [(rows[i]).take 20] := by
  rw [List.take_succ_eq_append_getElem h, List.map_append]; rfl
/-- Structures that are read, with their bounds. -/
structure StcB (an : Option Addr) (cn : Nat) (am : Option Addr) (cm : Nat) (vs : Vs) (ms : List Int) : Prop where
  nl : vs.length ≤ 9223372036854775807
  rl : ∀ x ∈ vs, x.2.2.length ≤ 9223372036854775807
  rc : ∀ x ∈ vs, x.2.2.length ≤ x.2.1
  ml : ms.length ≤ 9223372036854775807
  mc : ms.length ≤ cm
theorem machine_any (an : Option Addr) (cn : Nat) (am : Option Addr) (cm : Nat) (vs : Vs) (ms : List Int) (hB : StcB an cn am cm vs ms) (w : World) (hst : Stc w an am vs ms) :
    Ret Tryd.prog 37 [stV an cn am cm vs ms] w fun u w' => ∃ na nc ma mc vs2, u = .agg #[.slice na vs2.length nc, .slice ma (ms.take 20).length mc] ∧ rowsOf vs2 = takeV (rowsOf vs) ∧
      Hp w w' (Rvs (.slice na vs2.length nc) vs2 :: Ri (.slice ma (ms.take 20).length mc) (ms.take 20) :: vsE vs2) := by
  have hnl := hB.nl
  have hml := hB.ml
  have hmc := hB.mc
  refine enter Tryd.func37 rfl rfl ⟨rfl, rfl⟩ rfl ?_
  repeat (first | refine zA ?_ | refine zB ?_ | refine zC rfl rfl rfl ?_ | refine zD ?_ | refine zE ?_ | refine zF ?_ | refine zG rfl ?_ | refine zH rfl ?_ | refine zI rfl rfl rfl ?_ | refine zJ rfl rfl ?_ | refine zK ?_ | refine zL ?_ | refine zM rfl ?_ | refine zN ?_)
  refine WL.box rfl rfl rfl (fun b1 w1 hb1 => ?_)
  have hp1 : Hp w w1 [Sb b1 an cn am cm vs ms] := (Hp.start w).new hb1
  refine WL.alloc rfl rfl rfl (fun b2 w2 hb2 => ?_)
  have hp2 : Hp w w2 [Stb b2 none 0 0 none 0 0, Sb b1 an cn am cm vs ms] := hp1.new hb2
  repeat (first | refine zA ?_ | refine zB ?_ | refine zC rfl rfl rfl ?_ | refine zD ?_ | refine zE ?_ | refine zF ?_ | refine zG rfl ?_ | refine zH rfl ?_ | refine zI rfl rfl rfl ?_ | refine zJ rfl rfl ?_ | refine zK ?_ | refine zL ?_ | refine zM rfl ?_ | refine zN ?_)
  refine WL.alloc rfl rfl rfl (fun b3 w3 hb3 => ?_)
  have hp3 : Hp w w3 [Stb b3 none 0 0 none 0 0, Stb b2 none 0 0 none 0 0, Sb b1 an cn am cm vs ms] := hp2.new hb3
  refine WL.nil ?_
  refine WC.seq ?_
  refine WC.mid (Option Addr × Nat × Vs) (fun (na, nc, vs2) => [(1, ptr b1), (2, ptr b2), (3, ptr b3)])
    (fun (na, nc, vs2) w' => rowsOf vs2 = takeV (rowsOf vs) ∧ Hp w w' (Stb b3 na vs2.length nc none 0 0 :: Rvs (.slice na vs2.length nc) vs2 :: Sb b1 an cn am cm vs ms :: Stb b2 none 0 0 none 0 0 :: vsE vs2)) ?_ ?_
  · repeat (first | refine zA ?_ | refine zB ?_ | refine zC rfl rfl rfl ?_ | refine zD ?_ | refine zE ?_ | refine zF ?_ | refine zG rfl ?_ | refine zH rfl ?_ | refine zI rfl rfl rfl ?_ | refine zJ rfl rfl ?_ | refine zK ?_ | refine zL ?_ | refine zM rfl ?_ | refine zN ?_)
    refine WC.loop (Nat × Option Addr × Nat × Vs) (fun (i, na, nc, vs2) => [(1, ptr b1), (2, ptr b2), (3, ptr b3), (4, .int .i64 (i : Nat))])
      (fun (i, na, nc, vs2) w' => i ≤ vs.length ∧ i ≤ 20 ∧ rowsOf vs2 = ((rowsOf vs).take i).map (·.take 20) ∧ Hp w w' (Stb b3 na vs2.length nc none 0 0 :: Rvs (.slice na vs2.length nc) vs2 :: Sb b1 an cn am cm vs ms :: Stb b2 none 0 0 none 0 0 :: vsE vs2)) (fun (i, _) => 20 - i) (0, none, 0, []) ⟨rfl, rfl, rfl, rfl, rfl⟩
      ⟨Nat.zero_le _, Nat.zero_le _, rfl, (hp3.nilrow 22 1).pick [1, 0, 3, 2] (by decide)⟩ ?_
    clear hp1 hp2 hp3 hb1 hb2 hb3
    rintro ⟨i, na, nc, vs2⟩ w4 ⟨hi, hi20, hvs, hp4⟩
    replace hi : i ≤ vs.length := hi
    replace hi20 : i ≤ 20 := hi20
    replace hvs : rowsOf vs2 = ((rowsOf vs).take i).map (·.take 20) := hvs
    replace hp4 : Hp w w4 (Stb b3 na vs2.length nc none 0 0 :: Rvs (.slice na vs2.length nc) vs2 :: Sb b1 an cn am cm vs ms :: Stb b2 none 0 0 none 0 0 :: vsE vs2) := hp4
    have hl2 : vs2.length = i := by
      have := congrArg List.length hvs
      rw [List.length_map, List.length_map, List.length_take, List.length_map] at this
      omega
    have fin : (¬ i < vs.length ∨ ¬ i < 20) → rowsOf vs2 = takeV (rowsOf vs) := by
      intro h
      rw [hvs]
      unfold takeV
      rcases h with h | h
      · rw [List.take_of_length_le (by rw [List.length_map]; omega), List.take_of_length_le (by rw [List.length_map]; omega)]
      · rw [show i = 20 by omega]
    repeat (first | refine zA ?_ | refine zB ?_ | refine zC rfl rfl rfl ?_ | refine zD ?_ | refine zE ?_ | refine zF ?_ | refine zG rfl ?_ | refine zH rfl ?_ | refine zI rfl rfl rfl ?_ | refine zJ rfl rfl ?_ | refine zK ?_ | refine zL ?_ | refine zM rfl ?_ | refine zN ?_)
    refine WL.loadB rfl rfl rfl rfl rfl (hp4.obj 2 rfl) (j := 0) rfl ?_
    repeat (first | refine zA ?_ | refine zB ?_ | refine zC rfl rfl rfl ?_ | refine zD ?_ | refine zE ?_ | refine zF ?_ | refine zG rfl ?_ | refine zH rfl ?_ | refine zI rfl rfl rfl ?_ | refine zJ rfl rfl ?_ | refine zK ?_ | refine zL ?_ | refine zM rfl ?_ | refine zN ?_)
    refine WL.split 11 rfl (fun c1 => ?_) (fun c1 => ?_)
    · have c1 : i < vs.length := by have := of_decide_eq_true c1; omega
      repeat (first | refine zA ?_ | refine zB ?_ | refine zC rfl rfl rfl ?_ | refine zD ?_ | refine zE ?_ | refine zF ?_ | refine zG rfl ?_ | refine zH rfl ?_ | refine zI rfl rfl rfl ?_ | refine zJ rfl rfl ?_ | refine zK ?_ | refine zL ?_ | refine zM rfl ?_ | refine zN ?_)
      refine WC.cond rfl (fun c2 => ?_) (fun c2 => ?_)
      · have c2 : i < 20 := by have h : ((i : Nat) : Int) < 20 := of_decide_eq_true c2; omega
        have step := wrap_succ (i := i) (n := i + 1) (by omega) (by omega)
        have hx := List.getElem_mem c1
        have hxr := hB.rl _ hx
        have hxc := hB.rc _ hx
        obtain ⟨ba, oa, hae, hac⟩ := hst.nx i _ (catV_at c1)
        subst hae
        obtain ⟨m, hm⟩ : ∃ m, m = min vs[i].2.2.length 20 := ⟨_, rfl⟩
        have hm2 : (vs[i].2.2.take 20).length = m := by rw [List.length_take, hm, Nat.min_comm]
        have e14 : min ((vs[i].2.2.length : Nat) : Int) 20 = ((m : Nat) : Int) := by rw [hm]; omega
        repeat (first | refine zA ?_ | refine zB ?_ | refine zC rfl rfl rfl ?_ | refine zD ?_ | refine zE ?_ | refine zF ?_ | refine zG rfl ?_ | refine zH rfl ?_ | refine zI rfl rfl rfl ?_ | refine zJ rfl rfl ?_ | refine zK ?_ | refine zL ?_ | refine zM rfl ?_ | refine zN ?_)
        refine WC.mid (Option Addr × Nat × Vs) (fun (_, _, _) => [(1, ptr b1), (2, ptr b2), (3, ptr b3), (4, .int .i64 (i : Nat))])
          (fun (pa, pc, vs3) w' => rowsOf vs3 = ((rowsOf vs).take (i + 1)).map (·.take 20) ∧ Hp w w' (Stb b3 pa vs3.length pc none 0 0 :: Rvs (.slice pa vs3.length pc) vs3 :: Sb b1 (some ⟨ba, oa, none⟩) cn am cm vs ms :: Stb b2 none 0 0 none 0 0 :: vsE vs3)) ?_ ?_
        · refine WC.regH (fun w' => Hp w w' [Sb b1 (some ⟨ba, oa, none⟩) cn am cm vs ms]) mixed (by kernel_rfl) (fun w5 hw5 hh5 => ?_)
          have hp5 := hp4.keep hw5
          have hS := hp5.pick [2] (by decide)
          refine WH.pure 0 (by kernel_rfl) rfl (by kernel_rfl) rfl rfl rfl (hS) ?_
          refine WH.pure 2 (by kernel_rfl) rfl (by kernel_rfl) rfl rfl rfl (hS) ?_
          refine WH.pure 3 (by kernel_rfl) rfl (by kernel_rfl) rfl rfl rfl (hS) ?_
          refine WH.load 4 (by kernel_rfl) rfl (by kernel_rfl) rfl rfl rfl rfl rfl (fun w' h => cell_of_obj (h.obj 0 rfl) (j := 0) rfl) hS ?_
          refine WH.pure 5 (by kernel_rfl) rfl (by kernel_rfl) rfl rfl rfl (hS) ?_
          refine WH.ix1 6 (by kernel_rfl) rfl (by kernel_rfl) rfl rfl rfl rfl rfl rfl rfl c1 hS ?_
          refine WH.load 7 (by kernel_rfl) rfl (by kernel_rfl) rfl rfl rfl rfl rfl (fun w' h => cell_below h.below hac) hS ?_
          refine WH.pure 8 (by kernel_rfl) rfl (by kernel_rfl) rfl rfl rfl (hS) ?_
          refine WH.load 9 (by kernel_rfl) rfl (by kernel_rfl) rfl rfl rfl rfl rfl (fun w' h => cell_of_obj (h.obj 0 rfl) (j := 0) rfl) hS ?_
          refine WH.pure 10 (by kernel_rfl) rfl (by kernel_rfl) rfl rfl rfl (hS) ?_
          refine WH.ix1 11 (by kernel_rfl) rfl (by kernel_rfl) rfl rfl rfl rfl rfl rfl rfl c1 hS ?_
          refine WH.load 12 (by kernel_rfl) rfl (by kernel_rfl) rfl rfl rfl rfl rfl (fun w' h => cell_below h.below hac) hS ?_
          refine WH.pure 13 (by kernel_rfl) rfl (by kernel_rfl) rfl rfl rfl (hS) ?_
          refine WH.pure 14 (by kernel_rfl) rfl (by kernel_rfl) rfl rfl rfl (hS) ?_
          refine WH.known (d := 31) (congrArg (fun z => some (Value.int .i64 z)) e14) ?_
          refine WH.take 15 (by kernel_rfl) rfl (by kernel_rfl) rfl rfl (fun w' h => ySlHi (h := m) rfl rfl rfl rfl (by omega)) hS ?_
          have hsl : ∀ {w' : World} {L : List Ent}, Hp w w' L → Sl w' vs[i].1 (zs (vs[i].2.2.take 20)) := fun {w' L} h => by
            have := ((hst.hp h).rows _ hx).take 20
            rwa [show (zs vs[i].2.2).take 20 = zs (vs[i].2.2.take 20) from by simp [zs, List.map_take]] at this
          have cl : ∀ {w9 : World} {pa2 pr : Option Addr} {pc2 pk : Nat}, Hp w w9 (.row 3 1 (.slice pr m pk) m ([] ++ zs (vs[i].2.2.take 20)) :: Stb b3 pa2 (vs2.length + 1) pc2 none 0 0 :: .row 22 1 (.slice pa2 (vs2.length + 1) pc2) (vs2.length + 1) (catV vs2 ++ [.slice pr m pk]) :: Sb b1 (some ⟨ba, oa, none⟩) cn am cm vs ms :: Stb b2 none 0 0 none 0 0 :: vsE vs2) →
              rowsOf (vs2 ++ [(pr, pk, vs[i].2.2.take 20)]) = ((rowsOf vs).take (i + 1)).map (·.take 20) ∧ Hp w w9 (Stb b3 pa2 (vs2 ++ [(pr, pk, vs[i].2.2.take 20)]).length pc2 none 0 0 :: Rvs (.slice pa2 (vs2 ++ [(pr, pk, vs[i].2.2.take 20)]).length pc2) (vs2 ++ [(pr, pk, vs[i].2.2.take 20)]) :: Sb b1 (some ⟨ba, oa, none⟩) cn am cm vs ms :: Stb b2 none 0 0 none 0 0 :: vsE (vs2 ++ [(pr, pk, vs[i].2.2.take 20)])) := by
            intro w9 pa2 pr pc2 pk h
            refine ⟨?_, ?_⟩
            · rw [takeV_succ (by rw [List.length_map]; exact c1), ← hvs]; simp [rowsOf]
            · rw [List.nil_append, ← hm2] at h
              have h2 := Hp.pickT (T := vsE vs2) [_, _, _, _, _] [2, 0, 1, 3, 4] h (by decide)
              have h3 := Hp.rowIn (X := [Stb b3 pa2 (vs2.length + 1) pc2 none 0 0, Sb b1 (some ⟨ba, oa, none⟩) cn am cm vs ms, Stb b2 none 0 0 none 0 0]) (x := (pr, pk, vs[i].2.2.take 20)) h2
              rw [show Stb b3 pa2 (vs2 ++ [(pr, pk, vs[i].2.2.take 20)]).length pc2 none 0 0 = Stb b3 pa2 (vs2.length + 1) pc2 none 0 0 by rw [List.length_append]; rfl]
              exact Hp.pickT (T := vsE (vs2 ++ [(pr, pk, vs[i].2.2.take 20)])) [_, _, _, _] [1, 0, 2, 3] h3 (by decide)
          refine WH.two 1 16 rfl rfl (by kernel_rfl) ?_ ?_
          · skip
            refine WL.loadB rfl rfl rfl rfl rfl (hp5.obj 0 rfl) (j := 0) rfl (WL.nil ⟨hp5.pick [2] (by decide), ?_⟩)
            refine WH.one 16 rfl (by kernel_rfl) ?_
            refine WL.append 0 (hp5.nilrow 3 1) rfl rfl rfl rfl rfl (by decide) rfl rfl rfl (news := zs (vs[i].2.2.take 20)) (hsl hp5) (by rw [zs_len, hm2]; exact (Nat.mul_one _).symm) (zs_cells _) (by unfold maxLen; omega) (by show (0 + m) * 8 ≤ _; omega) ?_
            intro pr pk wk0 hk0 _
            rw [Nat.zero_add] at hk0 ⊢
            refine WL.nil ⟨hk0.pick [3] (by decide), ?_⟩
            refine WH.one 17 rfl (by kernel_rfl) ?_
            refine WL.buildS (cs := [.slice pr m pk]) rfl rfl rfl rfl rfl rfl rfl rfl rfl (fun bq1 wq1 hq1 => ?_)
            have hz1 := hk0.new hq1
            refine WL.nil ⟨hz1.pick [4] (by decide), ?_⟩
            refine WH.one 18 rfl (by kernel_rfl) ?_
            refine WL.append 3 hz1 rfl rfl rfl rfl rfl (by decide) rfl rfl rfl (news := [.slice pr m pk]) (Sl.of_obj (hz1.obj 0 rfl) (fun q u hq => by simpa using hq)) rfl (Cells.cons rfl Cells.nil) (by unfold maxLen; omega) (by show (vs2.length + 1) * 24 ≤ _; omega) ?_
            intro paN pcN wN hN _
            have hSN := hN.pick [4] (by decide)
            refine WL.nil ⟨hSN, ?_⟩
            refine WH.pure 19 (by kernel_rfl) rfl (by kernel_rfl) rfl rfl rfl (hSN) ?_
            refine WH.one 20 rfl (by kernel_rfl) ?_
            refine WL.store rfl rfl rfl rfl rfl rfl (hN.obj 2 rfl) (of_decide_eq_true rfl) (fun wM hMs => ?_)
            have hM := (hN.set 2 rfl rfl hMs).tail
            refine WL.nil ⟨hM.pick [3] (by decide), WH.done (by kernel_rfl) ?_⟩
            exact ⟨(paN, pcN, vs2 ++ [(pr, pk, vs[i].2.2.take 20)]), ⟨rfl, rfl, rfl, rfl, rfl⟩, cl hM⟩
          · skip
            refine WL.append 0 (hp5.nilrow 3 1) rfl rfl rfl rfl rfl (by decide) rfl rfl rfl (news := zs (vs[i].2.2.take 20)) (hsl hp5) (by rw [zs_len, hm2]; exact (Nat.mul_one _).symm) (zs_cells _) (by unfold maxLen; omega) (by show (0 + m) * 8 ≤ _; omega) ?_
            intro pr pk wk0 hk0 _
            rw [Nat.zero_add] at hk0 ⊢
            refine WL.nil ⟨hk0.pick [3] (by decide), ?_⟩
            refine WH.two 1 17 rfl rfl (by kernel_rfl) ?_ ?_
            · skip
              refine WL.loadB rfl rfl rfl rfl rfl (hk0.obj 1 rfl) (j := 0) rfl (WL.nil ⟨hk0.pick [3] (by decide), ?_⟩)
              refine WH.one 17 rfl (by kernel_rfl) ?_
              refine WL.buildS (cs := [.slice pr m pk]) rfl rfl rfl rfl rfl rfl rfl rfl rfl (fun bq1 wq1 hq1 => ?_)
              have hz1 := hk0.new hq1
              refine WL.nil ⟨hz1.pick [4] (by decide), ?_⟩
              refine WH.one 18 rfl (by kernel_rfl) ?_
              refine WL.append 3 hz1 rfl rfl rfl rfl rfl (by decide) rfl rfl rfl (news := [.slice pr m pk]) (Sl.of_obj (hz1.obj 0 rfl) (fun q u hq => by simpa using hq)) rfl (Cells.cons rfl Cells.nil) (by unfold maxLen; omega) (by show (vs2.length + 1) * 24 ≤ _; omega) ?_
              intro paN pcN wN hN _
              have hSN := hN.pick [4] (by decide)
              refine WL.nil ⟨hSN, ?_⟩
              refine WH.pure 19 (by kernel_rfl) rfl (by kernel_rfl) rfl rfl rfl (hSN) ?_
              refine WH.one 20 rfl (by kernel_rfl) ?_
              refine WL.store rfl rfl rfl rfl rfl rfl (hN.obj 2 rfl) (of_decide_eq_true rfl) (fun wM hMs => ?_)
              have hM := (hN.set 2 rfl rfl hMs).tail
              refine WL.nil ⟨hM.pick [3] (by decide), WH.done (by kernel_rfl) ?_⟩
              exact ⟨(paN, pcN, vs2 ++ [(pr, pk, vs[i].2.2.take 20)]), ⟨rfl, rfl, rfl, rfl, rfl⟩, cl hM⟩
            · skip
              refine WL.buildS (cs := [.slice pr m pk]) rfl rfl rfl rfl rfl rfl rfl rfl rfl (fun bq1 wq1 hq1 => ?_)
              have hz1 := hk0.new hq1
              refine WL.nil ⟨hz1.pick [4] (by decide), ?_⟩
              refine WH.one 1 rfl (by kernel_rfl) ?_
              refine WL.loadB rfl rfl rfl rfl rfl (hz1.obj 2 rfl) (j := 0) rfl (WL.nil ⟨hz1.pick [4] (by decide), ?_⟩)
              refine WH.one 18 rfl (by kernel_rfl) ?_
              refine WL.append 3 hz1 rfl rfl rfl rfl rfl (by decide) rfl rfl rfl (news := [.slice pr m pk]) (Sl.of_obj (hz1.obj 0 rfl) (fun q u hq => by simpa using hq)) rfl (Cells.cons rfl Cells.nil) (by unfold maxLen; omega) (by show (vs2.length + 1) * 24 ≤ _; omega) ?_
              intro paN pcN wN hN _
              have hSN := hN.pick [4] (by decide)
              refine WL.nil ⟨hSN, ?_⟩
              refine WH.pure 19 (by kernel_rfl) rfl (by kernel_rfl) rfl rfl rfl (hSN) ?_
              refine WH.one 20 rfl (by kernel_rfl) ?_
              refine WL.store rfl rfl rfl rfl rfl rfl (hN.obj 2 rfl) (of_decide_eq_true rfl) (fun wM hMs => ?_)
              have hM := (hN.set 2 rfl rfl hMs).tail
              refine WL.nil ⟨hM.pick [3] (by decide), WH.done (by kernel_rfl) ?_⟩
              exact ⟨(paN, pcN, vs2 ++ [(pr, pk, vs[i].2.2.take 20)]), ⟨rfl, rfl, rfl, rfl, rfl⟩, cl hM⟩
        · rintro ⟨pa, pc, vs3⟩ e5 w5 hsub ⟨hvs3, hp5⟩
          refine WC.sub hsub ?_
          repeat (first | refine zA ?_ | refine zB ?_ | refine zC rfl rfl rfl ?_ | refine zD ?_ | refine zE ?_ | refine zF ?_ | refine zG rfl ?_ | refine zH rfl ?_ | refine zI rfl rfl rfl ?_ | refine zJ rfl rfl ?_ | refine zK ?_ | refine zL ?_ | refine zM rfl ?_ | refine zN ?_)
          exact ⟨(i + 1, pa, pc, vs3), (by show 20 - (i + 1) < 20 - i; omega), ⟨rfl, rfl, rfl, congrArg (fun z => some (Value.int .i64 z)) step, rfl⟩, c1, c2, hvs3, hp5⟩
      · have c2 : ¬ i < 20 := by have h : ¬ ((i : Nat) : Int) < 20 := of_decide_eq_false c2; omega
        repeat (first | refine zA ?_ | refine zB ?_ | refine zC rfl rfl rfl ?_ | refine zD ?_ | refine zE ?_ | refine zF ?_ | refine zG rfl ?_ | refine zH rfl ?_ | refine zI rfl rfl rfl ?_ | refine zJ rfl rfl ?_ | refine zK ?_ | refine zL ?_ | refine zM rfl ?_ | refine zN ?_)
        exact ⟨(na, nc, vs2), ⟨rfl, rfl, rfl, rfl⟩, fin (.inr c2), hp4⟩
    · have c1 : ¬ i < vs.length := by have h : ¬ ((i : Nat) : Int) < ((vs.length : Nat) : Int) := of_decide_eq_false c1; omega
      repeat (first | refine zA ?_ | refine zB ?_ | refine zC rfl rfl rfl ?_ | refine zD ?_ | refine zE ?_ | refine zF ?_ | refine zG rfl ?_ | refine zH rfl ?_ | refine zI rfl rfl rfl ?_ | refine zJ rfl rfl ?_ | refine zK ?_ | refine zL ?_ | refine zM rfl ?_ | refine zN ?_)
      exact ⟨(na, nc, vs2), ⟨rfl, rfl, rfl, rfl⟩, fin (.inl c1), hp4⟩
  rintro ⟨na, nc, vs2⟩ e4 w4 hsub ⟨hvs, hp4⟩
  refine WC.sub hsub ?_
  clear hsub e4 hp3 hp2 hp1
  replace hp4 : Hp w w4 (Stb b3 na vs2.length nc none 0 0 :: Rvs (.slice na vs2.length nc) vs2 :: Sb b1 an cn am cm vs ms :: Stb b2 none 0 0 none 0 0 :: vsE vs2) := hp4
  obtain ⟨m, hm⟩ : ∃ m, m = min ms.length 20 := ⟨_, rfl⟩
  have hm2 : (ms.take 20).length = m := by rw [List.length_take, hm, Nat.min_comm]
  have e7 : min ((ms.length : Nat) : Int) 20 = ((m : Nat) : Int) := by rw [hm]; omega
  refine WC.seq ?_
  refine WC.mid (Option Addr × Nat) (fun _ => [(2, ptr b2), (3, ptr b3)])
    (fun (ma, mc) w' => Hp w w' (Stb b3 na vs2.length nc ma m mc :: Rvs (.slice na vs2.length nc) vs2 :: .row 3 1 (.slice ma m mc) m (zs (ms.take 20)) :: Stb b2 none 0 0 none 0 0 :: vsE vs2)) ?_ ?_
  · refine WC.regH (fun w' => Hp w w' [Sb b1 an cn am cm vs ms]) mixed (by kernel_rfl) (fun w5 hw5 hh5 => ?_)
    have hp5 := hp4.keep hw5
    have hS := hp5.pick [2] (by decide)
    refine WH.pure 0 (by kernel_rfl) rfl (by kernel_rfl) rfl rfl rfl (hS) ?_
    refine WH.pure 2 (by kernel_rfl) rfl (by kernel_rfl) rfl rfl rfl (hS) ?_
    refine WH.load 3 (by kernel_rfl) rfl (by kernel_rfl) rfl rfl rfl rfl rfl (fun w' h => cell_of_obj (h.obj 0 rfl) (j := 1) rfl) hS ?_
    refine WH.pure 4 (by kernel_rfl) rfl (by kernel_rfl) rfl rfl rfl (hS) ?_
    refine WH.load 5 (by kernel_rfl) rfl (by kernel_rfl) rfl rfl rfl rfl rfl (fun w' h => cell_of_obj (h.obj 0 rfl) (j := 1) rfl) hS ?_
    refine WH.pure 6 (by kernel_rfl) rfl (by kernel_rfl) rfl rfl rfl (hS) ?_
    refine WH.pure 7 (by kernel_rfl) rfl (by kernel_rfl) rfl rfl rfl (hS) ?_
    refine WH.known (d := 44) (congrArg (fun z => some (Value.int .i64 z)) e7) ?_
    refine WH.take 8 (by kernel_rfl) rfl (by kernel_rfl) rfl rfl (fun w' h => ySlHi (h := m) rfl rfl rfl rfl (by omega)) hS ?_
    refine WH.one 1 rfl (by kernel_rfl) ?_
    refine WL.loadB rfl rfl rfl rfl rfl (hp5.obj 0 rfl) (j := 1) rfl (WL.nil ⟨hS, ?_⟩)
    refine WH.one 9 rfl (by kernel_rfl) ?_
    refine WL.append 0 (hp5.nilrow 3 1) rfl rfl rfl rfl rfl (by decide) rfl rfl rfl (news := zs (ms.take 20)) (by
      have := ((hst.hp hp5).mks).take 20
      rwa [show (zs ms).take 20 = zs (ms.take 20) from by simp [zs, List.map_take]] at this) (by rw [zs_len, hm2]; exact (Nat.mul_one _).symm) (zs_cells _) (by unfold maxLen; omega) (by show (0 + m) * 8 ≤ _; omega) ?_
    intro ma mc w6 hp6 _
    rw [Nat.zero_add] at hp6 ⊢
    replace hp6 : Hp w w6 (.row 3 1 (.slice ma m mc) m (zs (ms.take 20)) :: Stb b3 na vs2.length nc none 0 0 :: Rvs (.slice na vs2.length nc) vs2 :: Sb b1 an cn am cm vs ms :: Stb b2 none 0 0 none 0 0 :: vsE vs2) := hp6
    have hS := hp6.pick [3] (by decide)
    refine WL.nil ⟨hS, ?_⟩
    refine WH.pure 10 (by kernel_rfl) rfl (by kernel_rfl) rfl rfl rfl (hS) ?_
    refine WH.one 11 rfl (by kernel_rfl) ?_
    refine WL.store rfl rfl rfl rfl rfl rfl (hp6.obj 1 rfl) (Nat.lt_succ_self 1) (fun w7 h7 => ?_)
    have hp7 := hp6.set 1 rfl rfl h7
    refine WL.nil ⟨hp7.pick [3] (by decide), WH.done (by kernel_rfl) ?_⟩
    exact ⟨(ma, mc), ⟨rfl, rfl, rfl⟩, Hp.pickT (T := vsE vs2) [_, _, _, _, _] [1, 2, 0, 4] hp7 (by decide)⟩
  rintro ⟨ma, mc⟩ e5 w5 hsub hp5
  refine WC.sub hsub ?_
  clear hsub e5 hp4
  replace hp5 : Hp w w5 (Stb b3 na vs2.length nc ma m mc :: Rvs (.slice na vs2.length nc) vs2 :: .row 3 1 (.slice ma m mc) m (zs (ms.take 20)) :: Stb b2 none 0 0 none 0 0 :: vsE vs2) := hp5
  repeat (first | refine zA ?_ | refine zB ?_ | refine zC rfl rfl rfl ?_ | refine zD ?_ | refine zE ?_ | refine zF ?_ | refine zG rfl ?_ | refine zH rfl ?_ | refine zI rfl rfl rfl ?_ | refine zJ rfl rfl ?_ | refine zK ?_ | refine zL ?_ | refine zM rfl ?_ | refine zN ?_)
  refine WL.loadN rfl rfl rfl rfl rfl (cs := [.slice na vs2.length nc, .slice ma m mc]) rfl (fun q v hq => cell_of_obj (hp5.obj 0 rfl) (by rw [Nat.zero_add]; simpa using hq)) ?_
  refine WL.storeN rfl rfl rfl rfl rfl (by simp [Value.oneCell']) (hp5.obj 3 rfl) (Nat.le_refl _) rfl (fun w6 h6 => ?_)
  have hp6 := hp5.set 3 rfl rfl h6
  repeat (first | refine zA ?_ | refine zB ?_ | refine zC rfl rfl rfl ?_ | refine zD ?_ | refine zE ?_ | refine zF ?_ | refine zG rfl ?_ | refine zH rfl ?_ | refine zI rfl rfl rfl ?_ | refine zJ rfl rfl ?_ | refine zK ?_ | refine zL ?_ | refine zM rfl ?_ | refine zN ?_)
  rw [hm2]
  refine Res.cell rfl rfl rfl rfl rfl rfl (hp6.obj 3 rfl) ⟨na, nc, ma, mc, vs2, rfl, hvs, ?_⟩
  have := Hp.pickT (T := vsE vs2) [_, _, _, _] [1, 2] hp6 (by decide)
  unfold Ri
  rw [hm2]
  exact this
end Go.Proofs.YtpbbneclkhfgoaaDoor
end
section
/- ltl, forty-fifth: the reference's Structure. -/
namespace Go.Proofs.YtpbbneclkhfgoaaDoor
open Go.W Go.Ltl Go.RowKit
set_option maxRecDepth 100000
set_option linter.unusedSectionVars false
attribute [local irreducible] WC WL WQ WS WH

def rowsOf2 (vs : Vs) (k : Nat) : List Int := (vs.map fun x => x.2.2).getD k []
theorem rStructure_any (an : Option Addr) (cn : Nat) (am : Option Addr) (cm : Nat) (vs : Vs) (ms : List Int) (hvl : vs.length ≤ 1000000) (hms : ms.length ≤ 1000000) (hvs : ∀ x ∈ vs, x.2.2.length ≤ 1000000) (w : World) (hst : Stc w an am vs ms) :
    Ret Tryd.prog 39 [stV an cn am cm vs ms] w fun v w' => v = .bool (strB vs ms) ∧ Hp w w' [] := by
  refine enter Tryd.func39 rfl rfl ⟨rfl, rfl⟩ rfl ?_
  repeat (first | refine zA ?_ | refine zB ?_ | refine zC rfl rfl rfl ?_ | refine zD ?_ | refine zE ?_ | refine zF ?_ | refine zG rfl ?_ | refine zH rfl ?_ | refine zI rfl rfl rfl ?_ | refine zJ rfl rfl ?_ | refine zK ?_ | refine zL ?_ | refine zM rfl ?_ | refine zN ?_)
  refine WL.box rfl rfl rfl (fun b w1 h1 => ?_)
  have hp1 : Hp w w1 [Sb b an cn am cm vs ms] := (Hp.start w).new h1
  repeat (first | refine zA ?_ | refine zB ?_ | refine zC rfl rfl rfl ?_ | refine zD ?_ | refine zE ?_ | refine zF ?_ | refine zG rfl ?_ | refine zH rfl ?_ | refine zI rfl rfl rfl ?_ | refine zJ rfl rfl ?_ | refine zK ?_ | refine zL ?_ | refine zM rfl ?_ | refine zN ?_)
  refine WL.loadB rfl rfl rfl rfl rfl (hp1.obj 0 rfl) (j := 0) rfl ?_
  repeat (first | refine zA ?_ | refine zB ?_ | refine zC rfl rfl rfl ?_ | refine zD ?_ | refine zE ?_ | refine zF ?_ | refine zG rfl ?_ | refine zH rfl ?_ | refine zI rfl rfl rfl ?_ | refine zJ rfl rfl ?_ | refine zK ?_ | refine zL ?_ | refine zM rfl ?_ | refine zN ?_)
  refine WL.split 11 rfl (fun c1 => ?_) (fun c1 => ?_)
  · have c1 : ¬ 1 ≤ vs.length := by have := of_decide_eq_true c1; omega
    have e1 : strB vs ms = false := by unfold strB; rw [decide_eq_false c1]; rfl
    rw [e1]
    repeat (first | refine zA ?_ | refine zB ?_ | refine zC rfl rfl rfl ?_ | refine zD ?_ | refine zE ?_ | refine zF ?_ | refine zG rfl ?_ | refine zH rfl ?_ | refine zI rfl rfl rfl ?_ | refine zJ rfl rfl ?_ | refine zK ?_ | refine zL ?_ | refine zM rfl ?_ | refine zN ?_)
    exact Res.one rfl rfl rfl ⟨rfl, hp1.nil'⟩
  have c1 : 1 ≤ vs.length := by have := of_decide_eq_false c1; omega
  repeat (first | refine zA ?_ | refine zB ?_ | refine zC rfl rfl rfl ?_ | refine zD ?_ | refine zE ?_ | refine zF ?_ | refine zG rfl ?_ | refine zH rfl ?_ | refine zI rfl rfl rfl ?_ | refine zJ rfl rfl ?_ | refine zK ?_ | refine zL ?_ | refine zM rfl ?_ | refine zN ?_)
  refine WL.split 15 rfl (fun c2 => ?_) (fun c2 => ?_)
  · have c2 : ¬ vs.length ≤ 16 := by have := of_decide_eq_true c2; omega
    have e1 : strB vs ms = false := by unfold strB; rw [decide_eq_false c2, Bool.and_false]; rfl
    rw [e1]
    repeat (first | refine zA ?_ | refine zB ?_ | refine zC rfl rfl rfl ?_ | refine zD ?_ | refine zE ?_ | refine zF ?_ | refine zG rfl ?_ | refine zH rfl ?_ | refine zI rfl rfl rfl ?_ | refine zJ rfl rfl ?_ | refine zK ?_ | refine zL ?_ | refine zM rfl ?_ | refine zN ?_)
    exact Res.one rfl rfl rfl ⟨rfl, hp1.nil'⟩
  have c2 : vs.length ≤ 16 := by have := of_decide_eq_false c2; omega
  repeat (first | refine zA ?_ | refine zB ?_ | refine zC rfl rfl rfl ?_ | refine zD ?_ | refine zE ?_ | refine zF ?_ | refine zG rfl ?_ | refine zH rfl ?_ | refine zI rfl rfl rfl ?_ | refine zJ rfl rfl ?_ | refine zK ?_ | refine zL ?_ | refine zM rfl ?_ | refine zN ?_)
  refine WL.loadB rfl rfl rfl rfl rfl (hp1.obj 0 rfl) (j := 1) rfl ?_
  repeat (first | refine zA ?_ | refine zB ?_ | refine zC rfl rfl rfl ?_ | refine zD ?_ | refine zE ?_ | refine zF ?_ | refine zG rfl ?_ | refine zH rfl ?_ | refine zI rfl rfl rfl ?_ | refine zJ rfl rfl ?_ | refine zK ?_ | refine zL ?_ | refine zM rfl ?_ | refine zN ?_)
  cases c3 : decide (ms.length = vs.length) with
  | false =>
    have hne : ms.length ≠ vs.length := of_decide_eq_false c3
    have e1 : strB vs ms = false := by unfold strB; rw [c3, Bool.and_false]; rfl
    refine WC.cond rfl (fun _ => ?_) (fun c => ?_)
    · rw [e1]
      repeat (first | refine zA ?_ | refine zB ?_ | refine zC rfl rfl rfl ?_ | refine zD ?_ | refine zE ?_ | refine zF ?_ | refine zG rfl ?_ | refine zH rfl ?_ | refine zI rfl rfl rfl ?_ | refine zJ rfl rfl ?_ | refine zK ?_ | refine zL ?_ | refine zM rfl ?_ | refine zN ?_)
      exact Res.one rfl rfl rfl ⟨rfl, hp1.nil'⟩
    · have c : (!(((ms.length : Nat) : Int) == ((vs.length : Nat) : Int))) = false := c
      simp only [Bool.not_eq_false', beq_iff_eq] at c
      omega
  | true =>
    have heq : ms.length = vs.length := of_decide_eq_true c3
    refine WC.cond rfl (fun c => ?_) (fun _ => ?_)
    · have c : (!(((ms.length : Nat) : Int) == ((vs.length : Nat) : Int))) = true := c
      rw [heq] at c
      simp at c
    have hstr : strB vs ms = (ms.all markB && vs.all fun x => rowB vs.length x.2.2) := by
      unfold strB; rw [decide_eq_true c1, decide_eq_true c2, decide_eq_true heq]; rfl
    repeat (first | refine zA ?_ | refine zB ?_ | refine zC rfl rfl rfl ?_ | refine zD ?_ | refine zE ?_ | refine zF ?_ | refine zG rfl ?_ | refine zH rfl ?_ | refine zI rfl rfl rfl ?_ | refine zJ rfl rfl ?_ | refine zK ?_ | refine zL ?_ | refine zM rfl ?_ | refine zN ?_)
    refine WC.loop Nat (fun i => [(1, ptr b), (3, .int .i64 (vs.length : Nat)), (4, .int .i64 (i : Nat))])
      (fun i w' => i ≤ vs.length ∧ (∀ k, k < i → markB (ms.getD k 0) = true ∧ rowB vs.length (rowsOf2 vs k) = true) ∧ Hp w w' [Sb b an cn am cm vs ms]) (fun i => vs.length - i) 0 ⟨rfl, rfl, rfl, rfl⟩ ⟨Nat.zero_le _, fun k hk => by omega, hp1⟩ ?_
    clear hp1 h1
    rintro i w2 ⟨hi, hall, hp1⟩
    replace hp1 : Hp w w2 [Sb b an cn am cm vs ms] := hp1
    replace hi : i ≤ vs.length := hi
    repeat (first | refine zA ?_ | refine zB ?_ | refine zC rfl rfl rfl ?_ | refine zD ?_ | refine zE ?_ | refine zF ?_ | refine zG rfl ?_ | refine zH rfl ?_ | refine zI rfl rfl rfl ?_ | refine zJ rfl rfl ?_ | refine zK ?_ | refine zL ?_ | refine zM rfl ?_ | refine zN ?_)
    refine WC.cond rfl (fun h2 => ?_) (fun h2 => ?_)
    · have hi : i < vs.length := by have := of_decide_eq_true h2; omega
      have him : i < ms.length := by omega
      have step := wrap_succ (i := i) (n := i + 1) (by omega) (by omega)
      have hsl := (hst.hp hp1).rows _ (List.getElem_mem hi)
      have hlen := hvs _ (List.getElem_mem hi)
      have hxm := List.getElem_mem hi
      have hrow : rowsOf2 vs i = vs[i].2.2 := by unfold rowsOf2; rw [List.getD_eq_getElem?_getD, List.getElem?_map, List.getElem?_eq_getElem hi]; rfl
      have hmk : ms.getD i 0 = ms[i] := by simp [him]
      have hbad : (markB ms[i] = false ∨ rowB vs.length vs[i].2.2 = false) → strB vs ms = false := by
        rw [hstr]
        rintro (h | h)
        · rw [List.all_eq_false.2 ⟨_, List.getElem_mem him, by rw [h]; simp⟩]; rfl
        · rw [List.all_eq_false.2 ⟨_, List.getElem_mem hi, by rw [h]; simp⟩, Bool.and_false]
      have hstep : markB ms[i] = true → rowB vs.length vs[i].2.2 = true → ∀ k, k < i + 1 → markB (ms.getD k 0) = true ∧ rowB vs.length (rowsOf2 vs k) = true := by
        intro h1 h2 k hk
        rcases Nat.lt_or_ge k i with h | h
        · exact hall k h
        · rw [show k = i by omega, hmk, hrow]; exact ⟨h1, h2⟩
      obtain ⟨x, hx⟩ : ∃ x, x = vs[i] := ⟨_, rfl⟩
      have hcat := catV_at hi
      rw [← hx] at hsl hlen hbad hstep hcat hxm
      clear hrow hx
      obtain ⟨ra, rc, l⟩ := x
      replace hsl : Sl w2 ra (zs l) := hsl
      replace hlen : l.length ≤ 1000000 := hlen
      replace hbad : (markB ms[i] = false ∨ rowB vs.length l = false) → strB vs ms = false := hbad
      replace hstep : markB ms[i] = true → rowB vs.length l = true → ∀ k, k < i + 1 → markB (ms.getD k 0) = true ∧ rowB vs.length (rowsOf2 vs k) = true := hstep
      replace hcat : (catV vs)[i]? = some (.slice ra l.length rc) := hcat
      repeat (first | refine zA ?_ | refine zB ?_ | refine zC rfl rfl rfl ?_ | refine zD ?_ | refine zE ?_ | refine zF ?_ | refine zG rfl ?_ | refine zH rfl ?_ | refine zI rfl rfl rfl ?_ | refine zJ rfl rfl ?_ | refine zK ?_ | refine zL ?_ | refine zM rfl ?_ | refine zN ?_)
      refine WL.loadB rfl rfl rfl rfl rfl (hp1.obj 0 rfl) (j := 1) rfl ?_
      refine WL.pure rfl rfl rfl ?_
      refine WL.ixload rfl (fun _ => rfl) rfl rfl rfl rfl rfl rfl rfl him rfl rfl (hst.hp hp1).mks (zs_at him) ?_
      intro q0
      repeat (first | refine zA ?_ | refine zB ?_ | refine zC rfl rfl rfl ?_ | refine zD ?_ | refine zE ?_ | refine zF ?_ | refine zG rfl ?_ | refine zH rfl ?_ | refine zI rfl rfl rfl ?_ | refine zJ rfl rfl ?_ | refine zK ?_ | refine zL ?_ | refine zM rfl ?_ | refine zN ?_)
      refine WL.split 33 rfl (fun c4 => ?_) (fun c4 => ?_)
      · have c4 : ms[i] < 0 := of_decide_eq_true c4
        rw [hbad (.inl (by unfold markB; rw [decide_eq_false (show ¬ 0 ≤ ms[i] by omega)]; rfl))]
        repeat (first | refine zA ?_ | refine zB ?_ | refine zC rfl rfl rfl ?_ | refine zD ?_ | refine zE ?_ | refine zF ?_ | refine zG rfl ?_ | refine zH rfl ?_ | refine zI rfl rfl rfl ?_ | refine zJ rfl rfl ?_ | refine zK ?_ | refine zL ?_ | refine zM rfl ?_ | refine zN ?_)
        exact Res.one rfl rfl rfl ⟨rfl, hp1.nil'⟩
      have c4 : 0 ≤ ms[i] := by have := of_decide_eq_false c4; omega
      repeat (first | refine zA ?_ | refine zB ?_ | refine zC rfl rfl rfl ?_ | refine zD ?_ | refine zE ?_ | refine zF ?_ | refine zG rfl ?_ | refine zH rfl ?_ | refine zI rfl rfl rfl ?_ | refine zJ rfl rfl ?_ | refine zK ?_ | refine zL ?_ | refine zM rfl ?_ | refine zN ?_)
      refine WL.loadB rfl rfl rfl rfl rfl (hp1.obj 0 rfl) (j := 1) rfl ?_
      refine WL.pure rfl rfl rfl ?_
      refine WL.ixload rfl (fun _ => rfl) rfl rfl rfl rfl rfl rfl rfl him rfl rfl (hst.hp hp1).mks (zs_at him) ?_
      intro q1
      repeat (first | refine zA ?_ | refine zB ?_ | refine zC rfl rfl rfl ?_ | refine zD ?_ | refine zE ?_ | refine zF ?_ | refine zG rfl ?_ | refine zH rfl ?_ | refine zI rfl rfl rfl ?_ | refine zJ rfl rfl ?_ | refine zK ?_ | refine zL ?_ | refine zM rfl ?_ | refine zN ?_)
      refine WL.split 41 rfl (fun c5 => ?_) (fun c5 => ?_)
      · have c5 : 15 < ms[i] := of_decide_eq_true c5
        rw [hbad (.inl (by unfold markB; rw [decide_eq_false (show ¬ ms[i] ≤ 15 by omega), Bool.and_false]))]
        repeat (first | refine zA ?_ | refine zB ?_ | refine zC rfl rfl rfl ?_ | refine zD ?_ | refine zE ?_ | refine zF ?_ | refine zG rfl ?_ | refine zH rfl ?_ | refine zI rfl rfl rfl ?_ | refine zJ rfl rfl ?_ | refine zK ?_ | refine zL ?_ | refine zM rfl ?_ | refine zN ?_)
        exact Res.one rfl rfl rfl ⟨rfl, hp1.nil'⟩
      have c5 : ms[i] ≤ 15 := by have h : ¬ 15 < ms[i] := of_decide_eq_false c5; omega
      have hmb : markB ms[i] = true := by unfold markB; rw [decide_eq_true c4, decide_eq_true c5]; rfl
      repeat (first | refine zA ?_ | refine zB ?_ | refine zC rfl rfl rfl ?_ | refine zD ?_ | refine zE ?_ | refine zF ?_ | refine zG rfl ?_ | refine zH rfl ?_ | refine zI rfl rfl rfl ?_ | refine zJ rfl rfl ?_ | refine zK ?_ | refine zL ?_ | refine zM rfl ?_ | refine zN ?_)
      refine WL.loadB rfl rfl rfl rfl rfl (hp1.obj 0 rfl) (j := 0) rfl ?_
      refine WL.pure rfl rfl rfl ?_
      refine WL.ixload rfl (fun _ => rfl) rfl rfl rfl rfl rfl rfl rfl hi rfl rfl (hst.hp hp1).nx hcat ?_
      intro q2
      repeat (first | refine zA ?_ | refine zB ?_ | refine zC rfl rfl rfl ?_ | refine zD ?_ | refine zE ?_ | refine zF ?_ | refine zG rfl ?_ | refine zH rfl ?_ | refine zI rfl rfl rfl ?_ | refine zJ rfl rfl ?_ | refine zK ?_ | refine zL ?_ | refine zM rfl ?_ | refine zN ?_)
      refine WC.cond rfl (fun h3 => ?_) (fun h3 => ?_)
      · have h3 : l = [] := List.eq_nil_of_length_eq_zero (by have h5 : (((l.length : Nat) : Int) == 0) = true := h3; rw [beq_iff_eq] at h5; omega)
        rw [hbad (.inr (by unfold rowB; rw [h3]; rfl))]
        repeat (first | refine zA ?_ | refine zB ?_ | refine zC rfl rfl rfl ?_ | refine zD ?_ | refine zE ?_ | refine zF ?_ | refine zG rfl ?_ | refine zH rfl ?_ | refine zI rfl rfl rfl ?_ | refine zJ rfl rfl ?_ | refine zK ?_ | refine zL ?_ | refine zM rfl ?_ | refine zN ?_)
        exact Res.one rfl rfl rfl ⟨rfl, hp1.nil'⟩
      have h3 : l ≠ [] := fun h => by rw [h] at h3; cases h3
      repeat (first | refine zA ?_ | refine zB ?_ | refine zC rfl rfl rfl ?_ | refine zD ?_ | refine zE ?_ | refine zF ?_ | refine zG rfl ?_ | refine zH rfl ?_ | refine zI rfl rfl rfl ?_ | refine zJ rfl rfl ?_ | refine zK ?_ | refine zL ?_ | refine zM rfl ?_ | refine zN ?_)
      obtain ⟨ba, oa, hae, hac⟩ := hst.nx i _ hcat
      have hslw : Sl w ra (zs l) := hst.rows _ hxm
      obtain ⟨br, orr, hre, hrc⟩ := hslw 0 (.int .i64 (l.getD 0 0)) (zs_getD (List.length_pos_iff.2 h3))
      subst hae
      subst hre
      refine WC.loop Nat (fun j => [(1, ptr b), (3, .int .i64 (vs.length : Nat)), (4, .int .i64 (i : Nat)), (5, .int .i64 (j : Nat))])
        (fun j w' => j ≤ l.length ∧ (List.range j).all (sucB vs.length l) = true ∧ Hp w w' [Sb b (some ⟨ba, oa, none⟩) cn am cm vs ms]) (fun j => l.length - j) 0 ⟨rfl, rfl, rfl, rfl, rfl⟩ ⟨Nat.zero_le _, by simp, hp1⟩ ?_
      clear hp1 hsl
      rintro j w4 ⟨hj, hsu, hp1⟩
      replace hp1 : Hp w w4 [Sb b (some ⟨ba, oa, none⟩) cn am cm vs ms] := hp1
      replace hsu : (List.range j).all (sucB vs.length l) = true := hsu
      repeat (first | refine zA ?_ | refine zB ?_ | refine zC rfl rfl rfl ?_ | refine zD ?_ | refine zE ?_ | refine zF ?_ | refine zG rfl ?_ | refine zH rfl ?_ | refine zI rfl rfl rfl ?_ | refine zJ rfl rfl ?_ | refine zK ?_ | refine zL ?_ | refine zM rfl ?_ | refine zN ?_)
      refine WL.loadB rfl rfl rfl rfl rfl (hp1.obj 0 rfl) (j := 0) rfl ?_
      refine WL.pure rfl rfl rfl ?_
      refine WL.ixload rfl (fun _ => rfl) rfl rfl rfl rfl rfl rfl rfl hi rfl rfl (hst.hp hp1).nx hcat ?_
      intro q3
      repeat (first | refine zA ?_ | refine zB ?_ | refine zC rfl rfl rfl ?_ | refine zD ?_ | refine zE ?_ | refine zF ?_ | refine zG rfl ?_ | refine zH rfl ?_ | refine zI rfl rfl rfl ?_ | refine zJ rfl rfl ?_ | refine zK ?_ | refine zL ?_ | refine zM rfl ?_ | refine zN ?_)
      refine WC.cond rfl (fun h4 => ?_) (fun h4 => ?_)
      · have hj : j < l.length := by have := of_decide_eq_true h4; omega
        have stepj := wrap_succ (i := j) (n := j + 1) (by omega) (by omega)
        have hgj : l.getD j 0 = l[j] := by simp [hj]
        have hno : sucB vs.length l j = false → rowB vs.length l = false := by
          intro h
          unfold rowB
          rw [List.all_eq_false.2 ⟨j, List.mem_range.2 hj, by rw [h]; simp⟩, Bool.and_false]
        have hyes : sucB vs.length l j = true → (List.range (j + 1)).all (sucB vs.length l) = true := by
          intro h
          rw [List.range_succ, List.all_append, hsu, List.all_cons, h]; rfl
        have hcj := Sl.cell hslw (zs_at hj)
        repeat (first | refine zA ?_ | refine zB ?_ | refine zC rfl rfl rfl ?_ | refine zD ?_ | refine zE ?_ | refine zF ?_ | refine zG rfl ?_ | refine zH rfl ?_ | refine zI rfl rfl rfl ?_ | refine zJ rfl rfl ?_ | refine zK ?_ | refine zL ?_ | refine zM rfl ?_ | refine zN ?_)
        refine WC.mid Bool (fun r => [(1, ptr b), (3, .int .i64 (vs.length : Nat)), (4, .int .i64 (i : Nat)), (5, .int .i64 (j : Nat)), (104, .bool r)])
          (fun r w' => r = !sucB vs.length l j ∧ Hp w w' [Sb b (some ⟨ba, oa, none⟩) cn am cm vs ms]) ?_ ?_
        · refine WC.regQ (fun w' => Hp w w' [Sb b (some ⟨ba, oa, none⟩) cn am cm vs ms]) mixed (by kernel_rfl) (fun w' hw' => hp1.keep hw') ?_
          repeat (first | refine WQ.pure rfl rfl rfl ?_ | refine WQ.off rfl rfl rfl ?_ | refine WQ.nil ?_)
          refine WQ.load rfl rfl rfl rfl rfl (fun w' h => cell_of_obj (h.obj 0 rfl) (j := 0) rfl) ?_
          repeat (first | refine WQ.pure rfl rfl rfl ?_ | refine WQ.off rfl rfl rfl ?_ | refine WQ.nil ?_)
          refine WQ.ixload rfl (fun _ => rfl) rfl rfl rfl rfl rfl rfl rfl hi rfl rfl (fun w' h => cell_below h.below hac) ?_
          repeat (first | refine WQ.pure rfl rfl rfl ?_ | refine WQ.off rfl rfl rfl ?_ | refine WQ.nil ?_)
          refine WQ.ixload rfl (fun _ => rfl) rfl rfl rfl rfl rfl rfl rfl hj rfl rfl (fun w' h => cell_below h.below hcj) ?_
          repeat (first | refine WQ.pure rfl rfl rfl ?_ | refine WQ.off rfl rfl rfl ?_ | refine WQ.nil ?_)
          refine WQ.split 69 rfl (fun c5 => ?_) (fun c5 => ?_)
          · have c5 : l[j] < 0 := of_decide_eq_true c5
            repeat (first | refine WQ.pure rfl rfl rfl ?_ | refine WQ.off rfl rfl rfl ?_ | refine WQ.nil ?_)
            intro w' h
            exact ⟨_, ⟨rfl, rfl, rfl, rfl, rfl, rfl⟩, by unfold sucB; rw [hgj, decide_eq_false (show ¬ 0 ≤ l[j] by omega)]; rfl, h⟩
          have c5 : 0 ≤ l[j] := by have := of_decide_eq_false c5; omega
          repeat (first | refine WQ.pure rfl rfl rfl ?_ | refine WQ.off rfl rfl rfl ?_ | refine WQ.nil ?_)
          refine WQ.load rfl rfl rfl rfl rfl (fun w' h => cell_of_obj (h.obj 0 rfl) (j := 0) rfl) ?_
          repeat (first | refine WQ.pure rfl rfl rfl ?_ | refine WQ.off rfl rfl rfl ?_ | refine WQ.nil ?_)
          refine WQ.ixload rfl (fun _ => rfl) rfl rfl rfl rfl rfl rfl rfl hi rfl rfl (fun w' h => cell_below h.below hac) ?_
          repeat (first | refine WQ.pure rfl rfl rfl ?_ | refine WQ.off rfl rfl rfl ?_ | refine WQ.nil ?_)
          refine WQ.ixload rfl (fun _ => rfl) rfl rfl rfl rfl rfl rfl rfl hj rfl rfl (fun w' h => cell_below h.below hcj) ?_
          repeat (first | refine WQ.pure rfl rfl rfl ?_ | refine WQ.off rfl rfl rfl ?_ | refine WQ.nil ?_)
          refine WQ.split 81 rfl (fun c6 => ?_) (fun c6 => ?_)
          · have c6 : ¬ l[j] < (vs.length : Int) := by have := of_decide_eq_true c6; omega
            repeat (first | refine WQ.pure rfl rfl rfl ?_ | refine WQ.off rfl rfl rfl ?_ | refine WQ.nil ?_)
            intro w' h
            exact ⟨_, ⟨rfl, rfl, rfl, rfl, rfl, rfl⟩, by unfold sucB; rw [hgj, decide_eq_false c6, Bool.and_false]; rfl, h⟩
          have c6 : l[j] < (vs.length : Int) := by have := of_decide_eq_false c6; omega
          repeat (first | refine WQ.pure rfl rfl rfl ?_ | refine WQ.off rfl rfl rfl ?_ | refine WQ.nil ?_)
          refine WQ.split 84 rfl (fun c7 => ?_) (fun c7 => ?_)
          · have c7 : 0 < j := by have := of_decide_eq_true c7; omega
            have e3 : IntKind.i64.wrap (((j : Nat) : Int) - 1) = ((j - 1 : Nat) : Int) := by rw [wrap_mid (by omega) (by omega)]; omega
            have hj2 : j - 1 < l.length := by omega
            have hg2 : l.getD (j - 1) 0 = l[j - 1] := by simp [hj2]
            have hcj2 := Sl.cell hslw (zs_at hj2)
            repeat (first | refine WQ.pure rfl rfl rfl ?_ | refine WQ.off rfl rfl rfl ?_ | refine WQ.nil ?_)
            refine WQ.load rfl rfl rfl rfl rfl (fun w' h => cell_of_obj (h.obj 0 rfl) (j := 0) rfl) ?_
            repeat (first | refine WQ.pure rfl rfl rfl ?_ | refine WQ.off rfl rfl rfl ?_ | refine WQ.nil ?_)
            refine WQ.ixload rfl (fun _ => rfl) rfl rfl rfl rfl rfl rfl rfl hi rfl rfl (fun w' h => cell_below h.below hac) ?_
            repeat (first | refine WQ.pure rfl rfl rfl ?_ | refine WQ.off rfl rfl rfl ?_ | refine WQ.nil ?_)
            refine WQ.known (d := 91) (congrArg (fun z => some (Value.int .i64 z)) e3) ?_
            refine WQ.ixload (j := j - 1) rfl (fun _ => rfl) rfl rfl rfl rfl rfl rfl rfl hj2 rfl rfl (fun w' h => cell_below h.below hcj2) ?_
            repeat (first | refine WQ.pure rfl rfl rfl ?_ | refine WQ.off rfl rfl rfl ?_ | refine WQ.nil ?_)
            refine WQ.load rfl rfl rfl rfl rfl (fun w' h => cell_of_obj (h.obj 0 rfl) (j := 0) rfl) ?_
            repeat (first | refine WQ.pure rfl rfl rfl ?_ | refine WQ.off rfl rfl rfl ?_ | refine WQ.nil ?_)
            refine WQ.ixload rfl (fun _ => rfl) rfl rfl rfl rfl rfl rfl rfl hi rfl rfl (fun w' h => cell_below h.below hac) ?_
            repeat (first | refine WQ.pure rfl rfl rfl ?_ | refine WQ.off rfl rfl rfl ?_ | refine WQ.nil ?_)
            refine WQ.ixload rfl (fun _ => rfl) rfl rfl rfl rfl rfl rfl rfl hj rfl rfl (fun w' h => cell_below h.below hcj) ?_
            repeat (first | refine WQ.pure rfl rfl rfl ?_ | refine WQ.off rfl rfl rfl ?_ | refine WQ.nil ?_)
            intro w' h
            refine ⟨_, ⟨rfl, rfl, rfl, rfl, rfl, rfl⟩, ?_, h⟩
            unfold sucB
            rw [hgj, hg2, decide_eq_true c5, decide_eq_true c6, decide_eq_false (show ¬ j = 0 by omega)]
            rw [Bool.true_and, Bool.true_and, Bool.false_or]
            by_cases c8 : l[j - 1] < l[j]
            · rw [decide_eq_true c8, decide_eq_false (by omega)]; rfl
            · rw [decide_eq_false c8, decide_eq_true (by omega)]; rfl
          · have c7 : j = 0 := by have := of_decide_eq_false c7; omega
            repeat (first | refine WQ.pure rfl rfl rfl ?_ | refine WQ.off rfl rfl rfl ?_ | refine WQ.nil ?_)
            intro w' h
            exact ⟨_, ⟨rfl, rfl, rfl, rfl, rfl, rfl⟩, by unfold sucB; rw [hgj, decide_eq_true c5, decide_eq_true c6, decide_eq_true c7]; rfl, h⟩
        · rintro r e5 w5 hsub ⟨hr, hp5⟩
          refine WC.sub hsub ?_
          clear hsub e5
          replace hp5 : Hp w w5 [Sb b (some ⟨ba, oa, none⟩) cn am cm vs ms] := hp5
          have hr : r = !sucB vs.length l j := hr
          subst hr
          cases hs : sucB vs.length l j with
          | false =>
            rw [hbad (.inr (hno hs))]
            repeat (first | refine zA ?_ | refine zB ?_ | refine zC rfl rfl rfl ?_ | refine zD ?_ | refine zE ?_ | refine zF ?_ | refine zG rfl ?_ | refine zH rfl ?_ | refine zI rfl rfl rfl ?_ | refine zJ rfl rfl ?_ | refine zK ?_ | refine zL ?_ | refine zM rfl ?_ | refine zN ?_)
            exact Res.one rfl rfl rfl ⟨rfl, hp5.nil'⟩
          | true =>
            repeat (first | refine zA ?_ | refine zB ?_ | refine zC rfl rfl rfl ?_ | refine zD ?_ | refine zE ?_ | refine zF ?_ | refine zG rfl ?_ | refine zH rfl ?_ | refine zI rfl rfl rfl ?_ | refine zJ rfl rfl ?_ | refine zK ?_ | refine zL ?_ | refine zM rfl ?_ | refine zN ?_)
            exact ⟨j + 1, (by omega), ⟨rfl, rfl, rfl, congrArg (fun z => some (Value.int .i64 z)) stepj, rfl⟩, hj, hyes hs, hp5⟩
      · have hj : j = l.length := by have := of_decide_eq_false h4; omega
        have hrow : rowB vs.length l = true := by unfold rowB; rw [decide_eq_true h3, ← hj, hsu]; rfl
        repeat (first | refine zA ?_ | refine zB ?_ | refine zC rfl rfl rfl ?_ | refine zD ?_ | refine zE ?_ | refine zF ?_ | refine zG rfl ?_ | refine zH rfl ?_ | refine zI rfl rfl rfl ?_ | refine zJ rfl rfl ?_ | refine zK ?_ | refine zL ?_ | refine zM rfl ?_ | refine zN ?_)
        exact ⟨i + 1, (by omega), ⟨rfl, rfl, congrArg (fun z => some (Value.int .i64 z)) step, rfl⟩, hi, hstep hmb hrow, hp1⟩
    · have hi : i = vs.length := by have := of_decide_eq_false h2; omega
      have hok : strB vs ms = true := by
        rw [hstr, Bool.and_eq_true, List.all_eq_true, List.all_eq_true]
        constructor
        · intro m hm
          obtain ⟨k, hk, rfl⟩ := List.getElem_of_mem hm
          have := (hall k (by omega)).1
          rwa [show ms.getD k 0 = ms[k] by simp [hk]] at this
        · intro x hx
          obtain ⟨k, hk, rfl⟩ := List.getElem_of_mem hx
          have := (hall k (by omega)).2
          unfold rowsOf2 at this
          rw [List.getD_eq_getElem?_getD, List.getElem?_map, List.getElem?_eq_getElem hk] at this
          exact this
      rw [hok]
      repeat (first | refine zA ?_ | refine zB ?_ | refine zC rfl rfl rfl ?_ | refine zD ?_ | refine zE ?_ | refine zF ?_ | refine zG rfl ?_ | refine zH rfl ?_ | refine zI rfl rfl rfl ?_ | refine zJ rfl rfl ?_ | refine zK ?_ | refine zL ?_ | refine zM rfl ?_ | refine zN ?_)
      exact Res.one rfl rfl rfl ⟨rfl, hp1.nil'⟩
end Go.Proofs.YtpbbneclkhfgoaaDoor
end
section
/- ltl, forty-sixth: tame. -/
namespace Go.Proofs.YtpbbneclkhfgoaaDoor
open Go.W Go.Ltl Go.RowKit
set_option maxRecDepth 100000
set_option linter.unusedSectionVars false
attribute [local irreducible] WC WL WQ WS WH

/-- What a structure's test says, of its rows. -/
def strR (R : List (List Int)) (M : List Int) : Bool := decide (1 ≤ R.length) && decide (R.length ≤ 16) && decide (M.length = R.length) && M.all markB && R.all (rowB R.length)
theorem strB_R (vs : Vs) (ms : List Int) : strB vs ms = strR (rowsOf vs) ms := by
  unfold strB strR rowsOf
  rw [List.length_map, List.all_map]
  rfl
def tmN (L most : Nat) : Nat := if 0 < L then 1 + (L - 1) % most else 1
def isJ0 (R : List (List Int)) (n i j : Nat) : Bool := decide (j = (i + 1) % n) && decide (R.getD i [] = [])
def isJ (R : List (List Int)) (n i j : Nat) : Bool := isJ0 R n i j || (R.getD i []).any fun z => decide (modN z n = j)
def tmAcc (R : List (List Int)) (n i j : Nat) : List Int := ((List.range j).filter (isJ R n i)).map fun k : Nat => (k : Int)
def tmRow (R : List (List Int)) (n i : Nat) : List Int := tmAcc R n i n
def tmMark (M : List Int) (i : Nat) : Int := if i < M.length then mod16 (M.getD i 0) else ((i % 16 : Nat) : Int)
def tmMs (M : List Int) (n : Nat) : List Int := (List.range n).map (tmMark M)
def tameC (R : List (List Int)) (M : List Int) (most : Nat) : List (List Int) × List Int :=
  if (strR R M && decide (R.length ≤ most)) = true then (R, M) else ((List.range (tmN R.length most)).map (tmRow R (tmN R.length most)), tmMs M (tmN R.length most))
theorem tmN_ok {L most : Nat} (h : 0 < most) : 1 ≤ tmN L most ∧ tmN L most ≤ most ∧ (0 < L → tmN L most ≤ L) := by
  unfold tmN
  have h1 := Nat.mod_lt (L - 1) h
  have h2 := Nat.mod_le (L - 1) most
  split <;> omega
theorem tmAcc_succ (R : List (List Int)) (n i j : Nat) : tmAcc R n i (j + 1) = tmAcc R n i j ++ if isJ R n i j then [((j : Nat) : Int)] else [] := by
  unfold tmAcc
  rw [List.range_succ, List.filter_append, List.map_append, List.filter_cons, List.filter_nil]
  split <;> rfl
theorem tmMs_succ (M : List Int) (n : Nat) : tmMs M (n + 1) = tmMs M n ++ [tmMark M n] := by
  unfold tmMs; rw [List.range_succ, List.map_append]; rfl
theorem tmMs_len (M : List Int) (n : Nat) : (tmMs M n).length = n := by simp [tmMs]
theorem tmMark_ok (M : List Int) (i : Nat) : 0 ≤ tmMark M i ∧ tmMark M i ≤ 15 := by
  unfold tmMark
  split
  · exact mod16_ok _
  · omega
theorem acc_ok (R : List (List Int)) (n i : Nat) : ∀ j, j ≤ n → (∀ q, q < (tmAcc R n i j).length → 0 ≤ (tmAcc R n i j).getD q 0 ∧ (tmAcc R n i j).getD q 0 < (j : Int) ∧ (q = 0 ∨ (tmAcc R n i j).getD (q - 1) 0 < (tmAcc R n i j).getD q 0)) := by
  intro j
  induction j with
  | zero => intro _ q hq; simp [tmAcc] at hq
  | succ j ih =>
    intro hj q hq
    have ih := ih (by omega)
    rw [tmAcc_succ] at hq ⊢
    by_cases hJ : isJ R n i j = true
    · rw [if_pos hJ] at hq ⊢
      rw [List.length_append] at hq
      simp only [List.length_cons, List.length_nil] at hq
      by_cases hq2 : q < (tmAcc R n i j).length
      · have h1 := ih q hq2
        have e1 : (tmAcc R n i j ++ [((j : Nat) : Int)]).getD q 0 = (tmAcc R n i j).getD q 0 := by simp [List.getElem?_append_left hq2]
        have e2 : (tmAcc R n i j ++ [((j : Nat) : Int)]).getD (q - 1) 0 = (tmAcc R n i j).getD (q - 1) 0 := by
          have : q - 1 < (tmAcc R n i j).length := by omega
          simp [List.getElem?_append_left this]
        rw [e1, e2]
        exact ⟨h1.1, by omega, h1.2.2⟩
      · obtain rfl : q = (tmAcc R n i j).length := by omega
        have e1 : (tmAcc R n i j ++ [((j : Nat) : Int)]).getD (tmAcc R n i j).length 0 = (j : Int) := by simp
        rw [e1]
        refine ⟨by omega, by omega, ?_⟩
        by_cases h0 : (tmAcc R n i j).length = 0
        · exact .inl h0
        · refine .inr ?_
          have hlt : (tmAcc R n i j).length - 1 < (tmAcc R n i j).length := by omega
          have e2 : (tmAcc R n i j ++ [((j : Nat) : Int)]).getD ((tmAcc R n i j).length - 1) 0 = (tmAcc R n i j).getD ((tmAcc R n i j).length - 1) 0 := by simp [List.getElem?_append_left hlt]
          rw [e2]
          exact (ih _ hlt).2.1
    · rw [if_neg hJ, List.append_nil] at hq ⊢
      have h1 := ih q hq
      exact ⟨h1.1, by omega, h1.2.2⟩
theorem tmRow_ok (R : List (List Int)) {n i : Nat} (hn : 0 < n) : rowB n (tmRow R n i) = true := by
  have hne : tmRow R n i ≠ [] := by
    have key : ∀ j, j < n → isJ R n i j = true → tmRow R n i ≠ [] := by
      intro j hj h he
      have h2 : ((j : Nat) : Int) ∈ tmRow R n i := List.mem_map_of_mem (f := fun k : Nat => (k : Int)) (List.mem_filter.2 ⟨List.mem_range.2 hj, h⟩)
      rw [he] at h2
      cases h2
    cases hr : R.getD i [] with
    | nil => exact key ((i + 1) % n) (Nat.mod_lt _ hn) (by unfold isJ isJ0; rw [hr]; simp)
    | cons z r => exact key (modN z n) (modN_lt hn z) (by unfold isJ; rw [hr]; simp)
  have h := acc_ok R n i n (Nat.le_refl _)
  unfold rowB
  rw [decide_eq_true hne, Bool.true_and, List.all_eq_true]
  intro q hq
  rw [List.mem_range] at hq
  obtain ⟨h1, h2, h3⟩ := h q hq
  unfold sucB
  unfold tmRow
  rw [decide_eq_true h1, decide_eq_true h2]
  rcases h3 with h3 | h3
  · rw [decide_eq_true h3]; rfl
  · rw [decide_eq_true h3, Bool.or_true]; rfl
theorem tameC_ok (R : List (List Int)) (M : List Int) {most : Nat} (h0 : 0 < most) (h16 : most ≤ 16) : strR (tameC R M most).1 (tameC R M most).2 = true ∧ (tameC R M most).1.length ≤ most ∧ (tameC R M most).2.length = (tameC R M most).1.length := by
  unfold tameC
  split
  · rename_i h
    rw [Bool.and_eq_true, decide_eq_true_eq] at h
    refine ⟨h.1, h.2, ?_⟩
    have := h.1
    simp only [strR, Bool.and_eq_true, decide_eq_true_eq] at this
    exact this.1.1.2
  · obtain ⟨h1, h2, _⟩ := tmN_ok (L := R.length) h0
    generalize tmN R.length most = n at *
    refine ⟨?_, by rw [List.length_map, List.length_range]; exact h2, by rw [tmMs_len, List.length_map, List.length_range]⟩
    simp only [strR, Bool.and_eq_true, decide_eq_true_eq, List.length_map, List.length_range, tmMs_len, List.all_eq_true]
    refine ⟨⟨⟨⟨h1, by omega⟩, trivial⟩, fun m hm => ?_⟩, fun r hr => ?_⟩
    · obtain ⟨i, _, rfl⟩ := List.mem_map.1 hm
      have := tmMark_ok M i
      simp only [markB, Bool.and_eq_true, decide_eq_true_eq]
      exact this
    · obtain ⟨i, _, rfl⟩ := List.mem_map.1 hr
      exact tmRow_ok R (by omega)
end Go.Proofs.YtpbbneclkhfgoaaDoor
end
section
/- ltl, forty-seventh: the walk of tame. -/
namespace Go.Proofs.YtpbbneclkhfgoaaDoor
open Go.W Go.Ltl Go.RowKit
set_option maxRecDepth 100000
set_option linter.unusedSectionVars false
attribute [local irreducible] WC WL WQ WS WH

theorem Hp.rowInY {w0 w : World} {X Y : List Ent} {na : Option Addr} {nc : Nat} {vs : Vs} {x : Option Addr × Nat × List Int} (h : Hp w0 w (.row 22 1 (.slice na (vs.length + 1) nc) (vs.length + 1) (catV vs ++ [.slice x.1 x.2.2.length x.2.1]) :: Ri (.slice x.1 x.2.2.length x.2.1) x.2.2 :: (X ++ (vsE vs ++ Y)))) :
    Hp w0 w (Rvs (.slice na (vs ++ [x]).length nc) (vs ++ [x]) :: (X ++ (vsE (vs ++ [x]) ++ Y))) := by
  unfold Rvs
  rw [List.length_append, catV_snoc, vsE_snoc]
  refine permE h (List.Perm.cons _ ?_)
  have := (List.perm_middle (a := Ri (.slice x.1 x.2.2.length x.2.1) x.2.2) (l₁ := X ++ vsE vs) (l₂ := Y)).symm
  simpa [List.append_assoc] using this
/-- The rows of a structure of one's own, and its marks. -/
abbrev OwnS (na : Option Addr) (nc : Nat) (ma : Option Addr) (mc : Nat) (vs : Vs) (ms : List Int) : List Ent := Rvs (.slice na vs.length nc) vs :: Ri (.slice ma ms.length mc) ms :: vsE vs
theorem Stc.inA {w0 w : World} {A : List Ent} {na ma : Option Addr} {nc mc : Nat} {vs : Vs} {ms : List Int} (h : Hp w0 w (A ++ OwnS na nc ma mc vs ms)) : Stc w na ma vs ms :=
  Stc.own (n := vs.length) (nc := nc) (m := ms.length) (mc := mc) h (by simp) (by simp) (fun x hx => by simp [hx])
theorem Stc.inB {w0 w : World} {A B : List Ent} {na ma : Option Addr} {nc mc : Nat} {vs : Vs} {ms : List Int} (h : Hp w0 w (A ++ (B ++ OwnS na nc ma mc vs ms))) : Stc w na ma vs ms :=
  Stc.own (n := vs.length) (nc := nc) (m := ms.length) (mc := mc) h (by simp) (by simp) (fun x hx => by simp [hx])
theorem rows_get {vs : Vs} {i : Nat} (h : i < vs.length) : (rowsOf vs).getD i [] = vs[i].2.2 := by
  rw [List.getD_eq_getElem?_getD, List.getElem?_map, List.getElem?_eq_getElem h]; rfl
theorem tame_any (an : Option Addr) (cn : Nat) (am : Option Addr) (cm : Nat) (vs : Vs) (ms : List Int) (hB : StcB an cn am cm vs ms) (most : Nat) (h0 : 0 < most) (h16 : most ≤ 16) (w : World) (hst : Stc w an am vs ms) :
    Ret Tryd.prog 24 [stV an cn am cm vs ms, .int .i64 (most : Nat)] w fun u w' => ∃ na nc ma mc vs2, u = .agg #[.slice na vs2.length nc, .slice ma (tameC (takeV (rowsOf vs)) (ms.take 20) most).2.length mc] ∧ rowsOf vs2 = (tameC (takeV (rowsOf vs)) (ms.take 20) most).1 ∧
      Hp w w' (OwnS na nc ma mc vs2 (tameC (takeV (rowsOf vs)) (ms.take 20) most).2) := by
  refine enter Tryd.func24 rfl rfl ⟨rfl, rfl⟩ rfl ?_
  repeat (first | refine zA ?_ | refine zB ?_ | refine zC rfl rfl rfl ?_ | refine zD ?_ | refine zE ?_ | refine zF ?_ | refine zG rfl ?_ | refine zH rfl ?_ | refine zI rfl rfl rfl ?_ | refine zJ rfl rfl ?_ | refine zK ?_ | refine zL ?_ | refine zM rfl ?_ | refine zN ?_)
  refine WL.box rfl rfl rfl (fun b2 w1 hb2 => ?_)
  have hp1 : Hp w w1 [Sb b2 an cn am cm vs ms] := (Hp.start w).new hb2
  refine WL.alloc rfl rfl rfl (fun b4 w2 hb4 => ?_)
  have hp2 : Hp w w2 [Stb b4 none 0 0 none 0 0, Sb b2 an cn am cm vs ms] := hp1.new hb4
  repeat (first | refine zA ?_ | refine zB ?_ | refine zC rfl rfl rfl ?_ | refine zD ?_ | refine zE ?_ | refine zF ?_ | refine zG rfl ?_ | refine zH rfl ?_ | refine zI rfl rfl rfl ?_ | refine zJ rfl rfl ?_ | refine zK ?_ | refine zL ?_ | refine zM rfl ?_ | refine zN ?_)
  refine WL.loadN rfl rfl rfl rfl rfl (cs := [.slice an vs.length cn, .slice am ms.length cm]) rfl (fun q v hq => cell_of_obj (hp2.obj 1 rfl) (by rw [Nat.zero_add]; simpa using hq)) ?_
  refine WL.call rfl rfl rfl rfl rfl ent37 (machine_any an cn am cm vs ms hB w2 (hst.hp hp2)) ?_
  rintro _ w3 ⟨na0, nc0, ma0, mc0, vs0, rfl, hvs0, hp3⟩
  have hp3 := Hp.pickT (T := OwnS na0 nc0 ma0 mc0 vs0 (ms.take 20)) [_, _] [0] (permE (hp2.comb hp3) List.perm_append_comm) (by decide)
  have hm20 : (ms.take 20).length ≤ 20 := by rw [List.length_take]; omega
  have hl20 : vs0.length ≤ 20 := by
    have := congrArg List.length hvs0
    unfold takeV at this
    rw [List.length_map, List.length_map, List.length_take] at this
    omega
  have hr20 : ∀ x ∈ vs0, x.2.2.length ≤ 20 := by
    intro x hx
    have h1 : x.2.2 ∈ takeV (rowsOf vs) := by rw [← hvs0]; exact List.mem_map_of_mem (f := fun x : Option Addr × Nat × List Int => x.2.2) hx
    unfold takeV at h1
    obtain ⟨r, _, hr⟩ := List.mem_map.1 h1
    rw [← hr, List.length_take]; omega
  rw [← hvs0]
  generalize ms.take 20 = M0 at *
  obtain ⟨Y, hY⟩ : ∃ Y, Y = OwnS na0 nc0 ma0 mc0 vs0 M0 := ⟨_, rfl⟩
  rw [← hY] at hp3
  refine WL.alloc rfl rfl rfl (fun b5 w4 hb5 => ?_)
  have hp4 := hp3.new hb5
  refine WL.storeN rfl rfl rfl rfl rfl (by simp [Value.oneCell']) (hp4.obj 0 rfl) (Nat.le_refl _) rfl (fun w5 h5 => ?_)
  have hp5 : Hp w w5 ([Stb b5 na0 vs0.length nc0 ma0 M0.length mc0, Stb b4 none 0 0 none 0 0] ++ Y) := hp4.set 0 rfl rfl h5
  clear hp1 hp2 hp3 hp4 hb2 hb4 hb5 h5
  have hstY : ∀ {w' : World} {A : List Ent}, Hp w w' (A ++ Y) → Stc w' na0 ma0 vs0 M0 := fun {w' A} h => by subst hY; exact Stc.inA h
  refine WL.nil ?_
  repeat (first | refine WC.seq ?_ | refine WC.skip ?_ | refine WC.block ?_)
  refine WC.mid Bool (fun r => [(1, .int .i64 (most : Nat)), (4, ptr b4), (5, ptr b5), (24, .bool r)])
    (fun r w' => r = (strR (rowsOf vs0) M0 && decide (vs0.length ≤ most)) ∧ Hp w w' ([Stb b5 na0 vs0.length nc0 ma0 M0.length mc0, Stb b4 none 0 0 none 0 0] ++ Y)) ?_ ?_
  · repeat (first | refine zA ?_ | refine zB ?_ | refine zC rfl rfl rfl ?_ | refine zD ?_ | refine zE ?_ | refine zF ?_ | refine zG rfl ?_ | refine zH rfl ?_ | refine zI rfl rfl rfl ?_ | refine zJ rfl rfl ?_ | refine zK ?_ | refine zL ?_ | refine zM rfl ?_ | refine zN ?_)
    refine WL.loadN rfl rfl rfl rfl rfl (cs := [.slice na0 vs0.length nc0, .slice ma0 M0.length mc0]) rfl (fun q v hq => cell_of_obj (hp5.obj 0 rfl) (by rw [Nat.zero_add]; simpa using hq)) ?_
    refine WL.call rfl rfl rfl rfl rfl ent39 (rStructure_any na0 nc0 ma0 mc0 vs0 M0 (by omega) (by omega) (fun x hx => by have := hr20 x hx; omega) w5 (hstY hp5)) ?_
    rintro _ w6 ⟨rfl, hp6⟩
    have hp6 := hp5.call hp6.below
    rw [strB_R]
    cases hs : strR (rowsOf vs0) M0 with
    | false =>
      repeat (first | refine zA ?_ | refine zB ?_ | refine zC rfl rfl rfl ?_ | refine zD ?_ | refine zE ?_ | refine zF ?_ | refine zG rfl ?_ | refine zH rfl ?_ | refine zI rfl rfl rfl ?_ | refine zJ rfl rfl ?_ | refine zK ?_ | refine zL ?_ | refine zM rfl ?_ | refine zN ?_)
      exact ⟨_, ⟨rfl, rfl, rfl, rfl, rfl⟩, rfl, hp6⟩
    | true =>
      repeat (first | refine zA ?_ | refine zB ?_ | refine zC rfl rfl rfl ?_ | refine zD ?_ | refine zE ?_ | refine zF ?_ | refine zG rfl ?_ | refine zH rfl ?_ | refine zI rfl rfl rfl ?_ | refine zJ rfl rfl ?_ | refine zK ?_ | refine zL ?_ | refine zM rfl ?_ | refine zN ?_)
      refine WL.loadB rfl rfl rfl rfl rfl (hp6.obj 0 rfl) (j := 0) rfl ?_
      repeat (first | refine zA ?_ | refine zB ?_ | refine zC rfl rfl rfl ?_ | refine zD ?_ | refine zE ?_ | refine zF ?_ | refine zG rfl ?_ | refine zH rfl ?_ | refine zI rfl rfl rfl ?_ | refine zJ rfl rfl ?_ | refine zK ?_ | refine zL ?_ | refine zM rfl ?_ | refine zN ?_)
      refine ⟨_, ⟨rfl, rfl, rfl, rfl, rfl⟩, ?_, hp6⟩
      rw [Bool.true_and]
      exact decide_eq_decide.2 (by omega)
  rintro r e6 w6 hsub ⟨hr, hp6⟩
  refine WC.sub hsub ?_
  clear hsub e6 hp5
  replace hp6 : Hp w w6 ([Stb b5 na0 vs0.length nc0 ma0 M0.length mc0, Stb b4 none 0 0 none 0 0] ++ Y) := hp6
  have hr : r = (strR (rowsOf vs0) M0 && decide (vs0.length ≤ most)) := hr
  have hll : (rowsOf vs0).length = vs0.length := List.length_map _
  cases r with
  | true =>
    have hC : tameC (rowsOf vs0) M0 most = (rowsOf vs0, M0) := by unfold tameC; rw [hll, ← hr, if_pos rfl]
    rw [hC]
    repeat (first | refine zA ?_ | refine zB ?_ | refine zC rfl rfl rfl ?_ | refine zD ?_ | refine zE ?_ | refine zF ?_ | refine zG rfl ?_ | refine zH rfl ?_ | refine zI rfl rfl rfl ?_ | refine zJ rfl rfl ?_ | refine zK ?_ | refine zL ?_ | refine zM rfl ?_ | refine zN ?_)
    refine WL.loadN rfl rfl rfl rfl rfl (cs := [.slice na0 vs0.length nc0, .slice ma0 M0.length mc0]) rfl (fun q v hq => cell_of_obj (hp6.obj 0 rfl) (by rw [Nat.zero_add]; simpa using hq)) ?_
    refine WL.storeN rfl rfl rfl rfl rfl (by simp [Value.oneCell']) (hp6.obj 1 rfl) (Nat.le_refl _) rfl (fun w7 h7 => ?_)
    have hp7 := hp6.set 1 rfl rfl h7
    repeat (first | refine zA ?_ | refine zB ?_ | refine zC rfl rfl rfl ?_ | refine zD ?_ | refine zE ?_ | refine zF ?_ | refine zG rfl ?_ | refine zH rfl ?_ | refine zI rfl rfl rfl ?_ | refine zJ rfl rfl ?_ | refine zK ?_ | refine zL ?_ | refine zM rfl ?_ | refine zN ?_)
    refine Res.cell rfl rfl rfl rfl rfl rfl (hp7.obj 1 rfl) ⟨na0, nc0, ma0, mc0, vs0, rfl, rfl, ?_⟩
    have := Hp.pickT (T := Y) [_, _] [] hp7 (by decide)
    rw [hY] at this
    exact this
  | false =>
    obtain ⟨n, hn⟩ : ∃ n, n = tmN vs0.length most := ⟨_, rfl⟩
    obtain ⟨hn1, hnm, hnL⟩ := tmN_ok (L := vs0.length) h0
    rw [← hn] at hn1 hnm hnL
    have hC : tameC (rowsOf vs0) M0 most = ((List.range n).map (tmRow (rowsOf vs0) n), tmMs M0 n) := by unfold tameC; rw [hll, ← hr, if_neg (by decide), ← hn]
    rw [hC]
    clear hC hr
    refine WC.condF rfl ?_
    refine WC.skip ?_
    refine WC.seq ?_
    refine WC.reg ?_
    refine WL.pure rfl rfl rfl ?_
    refine WL.nil ?_
    refine WC.seq ?_
    refine WC.mid Unit (fun _ => [(4, ptr b4), (5, ptr b5), (6, .int .i64 (n : Nat))])
      (fun _ w' => Hp w w' ([Stb b5 na0 vs0.length nc0 ma0 M0.length mc0, Stb b4 none 0 0 none 0 0] ++ Y)) ?_ ?_
    · repeat (first | refine zA ?_ | refine zB ?_ | refine zC rfl rfl rfl ?_ | refine zD ?_ | refine zE ?_ | refine zF ?_ | refine zG rfl ?_ | refine zH rfl ?_ | refine zI rfl rfl rfl ?_ | refine zJ rfl rfl ?_ | refine zK ?_ | refine zL ?_ | refine zM rfl ?_ | refine zN ?_)
      refine WL.loadB rfl rfl rfl rfl rfl (hp6.obj 0 rfl) (j := 0) rfl ?_
      repeat (first | refine zA ?_ | refine zB ?_ | refine zC rfl rfl rfl ?_ | refine zD ?_ | refine zE ?_ | refine zF ?_ | refine zG rfl ?_ | refine zH rfl ?_ | refine zI rfl rfl rfl ?_ | refine zJ rfl rfl ?_ | refine zK ?_ | refine zL ?_ | refine zM rfl ?_ | refine zN ?_)
      refine WC.cond rfl (fun c => ?_) (fun c => ?_)
      · have c : 0 < vs0.length := by have := of_decide_eq_true c; omega
        repeat (first | refine zA ?_ | refine zB ?_ | refine zC rfl rfl rfl ?_ | refine zD ?_ | refine zE ?_ | refine zF ?_ | refine zG rfl ?_ | refine zH rfl ?_ | refine zI rfl rfl rfl ?_ | refine zJ rfl rfl ?_ | refine zK ?_ | refine zL ?_ | refine zM rfl ?_ | refine zN ?_)
        refine WL.loadB rfl rfl rfl rfl rfl (hp6.obj 0 rfl) (j := 0) rfl ?_
        refine WL.pure rfl rfl rfl ?_
        refine WL.pure rfl rfl rfl ?_
        refine WL.known (d := 33) (congrArg (fun z => some (Value.int .i64 z)) (show IntKind.i64.wrap (((vs0.length : Nat) : Int) - 1) = ((vs0.length - 1 : Nat) : Int) by rw [wrap_mid (by omega) (by omega)]; omega)) ?_
        refine WL.pure rfl rfl rfl ?_
        refine WL.rem rfl rfl rfl rfl (by omega) ?_
        refine WL.known (d := 35) (congrArg (fun z => some (Value.int .i64 z)) (show Int.tmod ((vs0.length - 1 : Nat) : Int) (most : Int) = (((vs0.length - 1) % most : Nat) : Int) from rfl)) ?_
        have hlt := Nat.mod_lt (vs0.length - 1) h0
        repeat (first | refine zA ?_ | refine zB ?_ | refine zC rfl rfl rfl ?_ | refine zD ?_ | refine zE ?_ | refine zF ?_ | refine zG rfl ?_ | refine zH rfl ?_ | refine zI rfl rfl rfl ?_ | refine zJ rfl rfl ?_ | refine zK ?_ | refine zL ?_ | refine zM rfl ?_ | refine zN ?_)
        exact ⟨(), ⟨rfl, rfl, congrArg (fun z => some (Value.int .i64 z)) (show IntKind.i64.wrap (1 + (((vs0.length - 1) % most : Nat) : Int)) = ((n : Nat) : Int) by rw [hn, tmN, if_pos c, wrap_mid (by omega) (by omega)]; omega), rfl⟩, hp6⟩
      · have c : ¬ 0 < vs0.length := by have := of_decide_eq_false c; omega
        repeat (first | refine zA ?_ | refine zB ?_ | refine zC rfl rfl rfl ?_ | refine zD ?_ | refine zE ?_ | refine zF ?_ | refine zG rfl ?_ | refine zH rfl ?_ | refine zI rfl rfl rfl ?_ | refine zJ rfl rfl ?_ | refine zK ?_ | refine zL ?_ | refine zM rfl ?_ | refine zN ?_)
        exact ⟨(), ⟨rfl, rfl, congrArg (fun z => some (Value.int .i64 z)) (show (1 : Int) = ((n : Nat) : Int) by rw [hn, tmN, if_neg c]; rfl), rfl⟩, hp6⟩
    rintro _ e7 w7 hsub hp7
    refine WC.sub hsub ?_
    clear hsub e7 hp6 hn
    replace hp7 : Hp w w7 ([Stb b5 na0 vs0.length nc0 ma0 M0.length mc0, Stb b4 none 0 0 none 0 0] ++ Y) := hp7
    repeat (first | refine zA ?_ | refine zB ?_ | refine zC rfl rfl rfl ?_ | refine zD ?_ | refine zE ?_ | refine zF ?_ | refine zG rfl ?_ | refine zH rfl ?_ | refine zI rfl rfl rfl ?_ | refine zJ rfl rfl ?_ | refine zK ?_ | refine zL ?_ | refine zM rfl ?_ | refine zN ?_)
    refine WL.alloc rfl rfl rfl (fun b7 w8 h8 => ?_)
    have hp8 := Hp.pickT (T := Y) [_, _, _, _, _] [2, 0, 1, 3, 4] (((hp7.new h8).nilrow 3 1).nilrow 22 1) (by decide)
    clear hp7 h8
    repeat (first | refine zA ?_ | refine zB ?_ | refine zC rfl rfl rfl ?_ | refine zD ?_ | refine zE ?_ | refine zF ?_ | refine zG rfl ?_ | refine zH rfl ?_ | refine zI rfl rfl rfl ?_ | refine zJ rfl rfl ?_ | refine zK ?_ | refine zL ?_ | refine zM rfl ?_ | refine zN ?_)
    refine WC.loop (Nat × Option Addr × Nat × Option Addr × Nat × Vs) (fun (i, na, nc, ma, mc, vs3) => [(4, ptr b4), (5, ptr b5), (6, .int .i64 (n : Nat)), (7, ptr b7), (8, .int .i64 (i : Nat))])
      (fun (i, na, nc, ma, mc, vs3) w' => i ≤ n ∧ rowsOf vs3 = (List.range i).map (tmRow (rowsOf vs0) n) ∧ Hp w w' ([Stb b7 na i nc ma i mc, .row 22 1 (.slice na i nc) i (catV vs3), .row 3 1 (.slice ma i mc) i (zs (tmMs M0 i)), Stb b5 na0 vs0.length nc0 ma0 M0.length mc0, Stb b4 none 0 0 none 0 0] ++ (vsE vs3 ++ Y))) (fun (i, _) => n - i) (0, none, 0, none, 0, []) ⟨rfl, rfl, rfl, rfl, rfl, rfl⟩
      ⟨Nat.zero_le _, rfl, hp8⟩ ?_
    clear hp8
    rintro ⟨i, na, nc, ma, mc, vs3⟩ w8 ⟨hi, hvs3, hp8⟩
    replace hi : i ≤ n := hi
    replace hvs3 : rowsOf vs3 = (List.range i).map (tmRow (rowsOf vs0) n) := hvs3
    replace hp8 : Hp w w8 ([Stb b7 na i nc ma i mc, .row 22 1 (.slice na i nc) i (catV vs3), .row 3 1 (.slice ma i mc) i (zs (tmMs M0 i)), Stb b5 na0 vs0.length nc0 ma0 M0.length mc0, Stb b4 none 0 0 none 0 0] ++ (vsE vs3 ++ Y)) := hp8
    have hvl : vs3.length = i := by have := congrArg List.length hvs3; simpa using this
    have hstZ : ∀ {w' : World} {A : List Ent}, Hp w w' (A ++ (vsE vs3 ++ Y)) → Stc w' na0 ma0 vs0 M0 := fun {w' A} h => by subst hY; exact Stc.inB h
    repeat (first | refine zA ?_ | refine zB ?_ | refine zC rfl rfl rfl ?_ | refine zD ?_ | refine zE ?_ | refine zF ?_ | refine zG rfl ?_ | refine zH rfl ?_ | refine zI rfl rfl rfl ?_ | refine zJ rfl rfl ?_ | refine zK ?_ | refine zL ?_ | refine zM rfl ?_ | refine zN ?_)
    refine WC.cond rfl (fun g1 => ?_) (fun g1 => ?_)
    · have hin : i < n := by have := of_decide_eq_true g1; omega
      have step := wrap_succ (i := i) (n := i + 1) (by omega) (by omega)
      obtain ⟨R, hR⟩ : ∃ R, R = rowsOf vs0 := ⟨_, rfl⟩
      have hrow : ∀ hL : i < vs0.length, R.getD i [] = vs0[i].2.2 := fun hL => by rw [hR]; exact rows_get hL
      have hrow0 : ¬ i < vs0.length → R.getD i [] = [] := fun hL => by rw [hR, List.getD_eq_getElem?_getD, List.getElem?_eq_none (by rw [hll]; omega)]; rfl
      rw [← hR] at hvs3 ⊢
      repeat (first | refine zA ?_ | refine zB ?_ | refine zC rfl rfl rfl ?_ | refine zD ?_ | refine zE ?_ | refine zF ?_ | refine zG rfl ?_ | refine zH rfl ?_ | refine zI rfl rfl rfl ?_ | refine zJ rfl rfl ?_ | refine zK ?_ | refine zL ?_ | refine zM rfl ?_ | refine zN ?_)
      refine WC.loop (Nat × Option Addr × Nat) (fun (j, ra, rc) => [(4, ptr b4), (5, ptr b5), (6, .int .i64 (n : Nat)), (7, ptr b7), (8, .int .i64 (i : Nat)), (9, .slice ra (tmAcc R n i j).length rc), (10, .int .i64 (j : Nat))])
        (fun (j, ra, rc) w' => j ≤ n ∧ Hp w w' ([.row 3 1 (.slice ra (tmAcc R n i j).length rc) (tmAcc R n i j).length (zs (tmAcc R n i j)), Stb b7 na i nc ma i mc, .row 22 1 (.slice na i nc) i (catV vs3), .row 3 1 (.slice ma i mc) i (zs (tmMs M0 i)), Stb b5 na0 vs0.length nc0 ma0 M0.length mc0, Stb b4 none 0 0 none 0 0] ++ (vsE vs3 ++ Y))) (fun (j, _) => n - j) (0, none, 0) ⟨rfl, rfl, rfl, rfl, rfl, rfl, rfl, rfl⟩
        ⟨Nat.zero_le _, hp8.nilrow 3 1⟩ ?_
      clear hp8
      rintro ⟨j, ra, rc⟩ w9 ⟨hj, hp9⟩
      replace hj : j ≤ n := hj
      obtain ⟨ac, hac⟩ : ∃ ac, ac = tmAcc R n i j := ⟨_, rfl⟩
      replace hp9 : Hp w w9 ([.row 3 1 (.slice ra (tmAcc R n i j).length rc) (tmAcc R n i j).length (zs (tmAcc R n i j)), Stb b7 na i nc ma i mc, .row 22 1 (.slice na i nc) i (catV vs3), .row 3 1 (.slice ma i mc) i (zs (tmMs M0 i)), Stb b5 na0 vs0.length nc0 ma0 M0.length mc0, Stb b4 none 0 0 none 0 0] ++ (vsE vs3 ++ Y)) := hp9
      simp only [← hac] at hp9 ⊢
      have hacl : ac.length ≤ j := by rw [hac, tmAcc, List.length_map]; exact Nat.le_trans (List.length_filter_le _ _) (by rw [List.length_range]; exact Nat.le_refl _)
      repeat (first | refine zA ?_ | refine zB ?_ | refine zC rfl rfl rfl ?_ | refine zD ?_ | refine zE ?_ | refine zF ?_ | refine zG rfl ?_ | refine zH rfl ?_ | refine zI rfl rfl rfl ?_ | refine zJ rfl rfl ?_ | refine zK ?_ | refine zL ?_ | refine zM rfl ?_ | refine zN ?_)
      refine WC.cond rfl (fun g2 => ?_) (fun g2 => ?_)
      · have hjn : j < n := by have := of_decide_eq_true g2; omega
        have stepj := wrap_succ (i := j) (n := j + 1) (by omega) (by omega)
        repeat (first | refine WC.seq ?_ | refine WC.skip ?_ | refine WC.block ?_)
        refine WC.mid Unit (fun _ => [(4, ptr b4), (5, ptr b5), (6, .int .i64 (n : Nat)), (7, ptr b7), (8, .int .i64 (i : Nat)), (9, .slice ra ac.length rc), (10, .int .i64 (j : Nat)), (11, .bool (isJ0 R n i j))]) (fun _ w' => w' = w9) ?_ ?_
        · repeat (first | refine zA ?_ | refine zB ?_ | refine zC rfl rfl rfl ?_ | refine zD ?_ | refine zE ?_ | refine zF ?_ | refine zG rfl ?_ | refine zH rfl ?_ | refine zI rfl rfl rfl ?_ | refine zJ rfl rfl ?_ | refine zK ?_ | refine zL ?_ | refine zM rfl ?_ | refine zN ?_)
          refine WL.rem rfl rfl rfl rfl (by omega) ?_
          refine WL.known (d := 51) (congrArg (fun z => some (Value.int .i64 z)) (show Int.tmod (IntKind.i64.wrap ((i : Int) + 1)) (n : Int) = (((i + 1) % n : Nat) : Int) by rw [step]; rfl)) ?_
          repeat (first | refine zA ?_ | refine zB ?_ | refine zC rfl rfl rfl ?_ | refine zD ?_ | refine zE ?_ | refine zF ?_ | refine zG rfl ?_ | refine zH rfl ?_ | refine zI rfl rfl rfl ?_ | refine zJ rfl rfl ?_ | refine zK ?_ | refine zL ?_ | refine zM rfl ?_ | refine zN ?_)
          refine WL.split 53 rfl (fun c1 => ?_) (fun c1 => ?_)
          · have c1 : j = (i + 1) % n := by
              have c1 : (((j : Nat) : Int) == (((i + 1) % n : Nat) : Int)) = true := c1
              rw [beq_iff_eq] at c1; omega
            repeat (first | refine zA ?_ | refine zB ?_ | refine zC rfl rfl rfl ?_ | refine zD ?_ | refine zE ?_ | refine zF ?_ | refine zG rfl ?_ | refine zH rfl ?_ | refine zI rfl rfl rfl ?_ | refine zJ rfl rfl ?_ | refine zK ?_ | refine zL ?_ | refine zM rfl ?_ | refine zN ?_)
            refine WL.loadB rfl rfl rfl rfl rfl (hp9.obj 4 rfl) (j := 0) rfl ?_
            repeat (first | refine zA ?_ | refine zB ?_ | refine zC rfl rfl rfl ?_ | refine zD ?_ | refine zE ?_ | refine zF ?_ | refine zG rfl ?_ | refine zH rfl ?_ | refine zI rfl rfl rfl ?_ | refine zJ rfl rfl ?_ | refine zK ?_ | refine zL ?_ | refine zM rfl ?_ | refine zN ?_)
            refine WL.split 59 rfl (fun c2 => ?_) (fun c2 => ?_)
            · have c2 : ¬ i < vs0.length := by have := of_decide_eq_true c2; omega
              repeat (first | refine zA ?_ | refine zB ?_ | refine zC rfl rfl rfl ?_ | refine zD ?_ | refine zE ?_ | refine zF ?_ | refine zG rfl ?_ | refine zH rfl ?_ | refine zI rfl rfl rfl ?_ | refine zJ rfl rfl ?_ | refine zK ?_ | refine zL ?_ | refine zM rfl ?_ | refine zN ?_)
              exact ⟨(), ⟨rfl, rfl, rfl, rfl, rfl, rfl, rfl, congrArg (fun z => some (Value.bool z)) (show true = isJ0 R n i j by unfold isJ0; rw [hrow0 c2, decide_eq_true c1]; rfl), rfl⟩, rfl⟩
            · have c2 : i < vs0.length := by have := of_decide_eq_false c2; omega
              repeat (first | refine zA ?_ | refine zB ?_ | refine zC rfl rfl rfl ?_ | refine zD ?_ | refine zE ?_ | refine zF ?_ | refine zG rfl ?_ | refine zH rfl ?_ | refine zI rfl rfl rfl ?_ | refine zJ rfl rfl ?_ | refine zK ?_ | refine zL ?_ | refine zM rfl ?_ | refine zN ?_)
              refine WL.loadB rfl rfl rfl rfl rfl (hp9.obj 4 rfl) (j := 0) rfl ?_
              refine WL.pure rfl rfl rfl ?_
              refine WL.ixload rfl (fun _ => rfl) rfl rfl rfl rfl rfl rfl rfl c2 rfl rfl (hstZ hp9).nx (catV_at c2) ?_
              intro q0
              repeat (first | refine zA ?_ | refine zB ?_ | refine zC rfl rfl rfl ?_ | refine zD ?_ | refine zE ?_ | refine zF ?_ | refine zG rfl ?_ | refine zH rfl ?_ | refine zI rfl rfl rfl ?_ | refine zJ rfl rfl ?_ | refine zK ?_ | refine zL ?_ | refine zM rfl ?_ | refine zN ?_)
              refine ⟨(), ⟨rfl, rfl, rfl, rfl, rfl, rfl, rfl, congrArg (fun z => some (Value.bool z)) (show (((vs0[i].2.2.length : Nat) : Int) == 0) = isJ0 R n i j by
                unfold isJ0
                rw [hrow c2, decide_eq_true c1, Bool.true_and]
                cases vs0[i].2.2 with
                | nil => rfl
                | cons z r =>
                  rw [decide_eq_false (by simp)]
                  exact beq_eq_false_iff_ne.2 (by rw [List.length_cons]; omega)), rfl⟩, rfl⟩
          · have c1 : ¬ j = (i + 1) % n := by
              have c1 : (((j : Nat) : Int) == (((i + 1) % n : Nat) : Int)) = false := c1
              rw [beq_eq_false_iff_ne] at c1; omega
            repeat (first | refine zA ?_ | refine zB ?_ | refine zC rfl rfl rfl ?_ | refine zD ?_ | refine zE ?_ | refine zF ?_ | refine zG rfl ?_ | refine zH rfl ?_ | refine zI rfl rfl rfl ?_ | refine zJ rfl rfl ?_ | refine zK ?_ | refine zL ?_ | refine zM rfl ?_ | refine zN ?_)
            exact ⟨(), ⟨rfl, rfl, rfl, rfl, rfl, rfl, rfl, congrArg (fun z => some (Value.bool z)) (show false = isJ0 R n i j by unfold isJ0; rw [decide_eq_false c1]; rfl), rfl⟩, rfl⟩
        rintro _ e10 w10 hsub hw10
        obtain rfl := hw10.symm
        refine WC.sub hsub ?_
        clear hsub e10
        refine WC.seq ?_
        refine WC.mid Unit (fun _ => [(4, ptr b4), (5, ptr b5), (6, .int .i64 (n : Nat)), (7, ptr b7), (8, .int .i64 (i : Nat)), (9, .slice ra ac.length rc), (10, .int .i64 (j : Nat)), (11, .bool (isJ R n i j))]) (fun _ w' => w' = w9) ?_ ?_
        · repeat (first | refine zA ?_ | refine zB ?_ | refine zC rfl rfl rfl ?_ | refine zD ?_ | refine zE ?_ | refine zF ?_ | refine zG rfl ?_ | refine zH rfl ?_ | refine zI rfl rfl rfl ?_ | refine zJ rfl rfl ?_ | refine zK ?_ | refine zL ?_ | refine zM rfl ?_ | refine zN ?_)
          refine WC.loop Nat (fun k => [(4, ptr b4), (5, ptr b5), (6, .int .i64 (n : Nat)), (7, ptr b7), (8, .int .i64 (i : Nat)), (9, .slice ra ac.length rc), (10, .int .i64 (j : Nat)), (11, .bool (isJ0 R n i j || ((R.getD i []).take k).any fun z => decide (modN z n = j))), (12, .int .i64 (k : Nat))])
            (fun k w' => k ≤ (R.getD i []).length ∧ w' = w9) (fun k => (R.getD i []).length - k) 0 ⟨rfl, rfl, rfl, rfl, rfl, rfl, rfl, congrArg (fun z => some (Value.bool z)) (Bool.or_false _).symm, rfl, rfl⟩ ⟨Nat.zero_le _, rfl⟩ ?_
          rintro k w10 ⟨hk, hw10⟩
          obtain rfl := hw10.symm
          replace hk : k ≤ (R.getD i []).length := hk
          have fin : k = (R.getD i []).length → (isJ0 R n i j || ((R.getD i []).take k).any fun z => decide (modN z n = j)) = isJ R n i j := fun h => by rw [h, List.take_length]; rfl
          repeat (first | refine zA ?_ | refine zB ?_ | refine zC rfl rfl rfl ?_ | refine zD ?_ | refine zE ?_ | refine zF ?_ | refine zG rfl ?_ | refine zH rfl ?_ | refine zI rfl rfl rfl ?_ | refine zJ rfl rfl ?_ | refine zK ?_ | refine zL ?_ | refine zM rfl ?_ | refine zN ?_)
          refine WL.loadB rfl rfl rfl rfl rfl (hp9.obj 4 rfl) (j := 0) rfl ?_
          repeat (first | refine zA ?_ | refine zB ?_ | refine zC rfl rfl rfl ?_ | refine zD ?_ | refine zE ?_ | refine zF ?_ | refine zG rfl ?_ | refine zH rfl ?_ | refine zI rfl rfl rfl ?_ | refine zJ rfl rfl ?_ | refine zK ?_ | refine zL ?_ | refine zM rfl ?_ | refine zN ?_)
          refine WL.split 74 rfl (fun c1 => ?_) (fun c1 => ?_)
          · have c1 : i < vs0.length := by have := of_decide_eq_true c1; omega
            have hrl := hr20 _ (List.getElem_mem c1)
            have hrw := hrow c1
            rw [hrw] at hk fin ⊢
            repeat (first | refine zA ?_ | refine zB ?_ | refine zC rfl rfl rfl ?_ | refine zD ?_ | refine zE ?_ | refine zF ?_ | refine zG rfl ?_ | refine zH rfl ?_ | refine zI rfl rfl rfl ?_ | refine zJ rfl rfl ?_ | refine zK ?_ | refine zL ?_ | refine zM rfl ?_ | refine zN ?_)
            refine WL.loadB rfl rfl rfl rfl rfl (hp9.obj 4 rfl) (j := 0) rfl ?_
            refine WL.pure rfl rfl rfl ?_
            refine WL.ixload rfl (fun _ => rfl) rfl rfl rfl rfl rfl rfl rfl c1 rfl rfl (hstZ hp9).nx (catV_at c1) ?_
            intro q1
            repeat (first | refine zA ?_ | refine zB ?_ | refine zC rfl rfl rfl ?_ | refine zD ?_ | refine zE ?_ | refine zF ?_ | refine zG rfl ?_ | refine zH rfl ?_ | refine zI rfl rfl rfl ?_ | refine zJ rfl rfl ?_ | refine zK ?_ | refine zL ?_ | refine zM rfl ?_ | refine zN ?_)
            refine WC.cond rfl (fun c2 => ?_) (fun c2 => ?_)
            · have c2 : k < vs0[i].2.2.length := by have := of_decide_eq_true c2; omega
              have stepk := wrap_succ (i := k) (n := k + 1) (by omega) (by omega)
              have htk : (vs0[i].2.2.take (k + 1)).any (fun z => decide (modN z n = j)) = ((vs0[i].2.2.take k).any (fun z => decide (modN z n = j)) || decide (modN (vs0[i].2.2.getD k 0) n = j)) := by
                rw [List.take_succ_eq_append_getElem c2, List.any_append]
                simp [c2]
              repeat (first | refine zA ?_ | refine zB ?_ | refine zC rfl rfl rfl ?_ | refine zD ?_ | refine zE ?_ | refine zF ?_ | refine zG rfl ?_ | refine zH rfl ?_ | refine zI rfl rfl rfl ?_ | refine zJ rfl rfl ?_ | refine zK ?_ | refine zL ?_ | refine zM rfl ?_ | refine zN ?_)
              refine WL.split 87 rfl (fun c3 => ?_) (fun c3 => ?_)
              · repeat (first | refine zA ?_ | refine zB ?_ | refine zC rfl rfl rfl ?_ | refine zD ?_ | refine zE ?_ | refine zF ?_ | refine zG rfl ?_ | refine zH rfl ?_ | refine zI rfl rfl rfl ?_ | refine zJ rfl rfl ?_ | refine zK ?_ | refine zL ?_ | refine zM rfl ?_ | refine zN ?_)
                exact ⟨k + 1, (by omega), ⟨rfl, rfl, rfl, rfl, rfl, rfl, rfl, congrArg (fun z => some (Value.bool z)) (show true = (isJ0 R n i j || (vs0[i].2.2.take (k + 1)).any fun z => decide (modN z n = j)) by rw [htk, ← Bool.or_assoc]; have c3 : (isJ0 R n i j || (vs0[i].2.2.take k).any fun z => decide (modN z n = j)) = true := c3; rw [c3]; rfl), congrArg (fun z => some (Value.int .i64 z)) stepk, rfl⟩, c2, rfl⟩
              · repeat (first | refine zA ?_ | refine zB ?_ | refine zC rfl rfl rfl ?_ | refine zD ?_ | refine zE ?_ | refine zF ?_ | refine zG rfl ?_ | refine zH rfl ?_ | refine zI rfl rfl rfl ?_ | refine zJ rfl rfl ?_ | refine zK ?_ | refine zL ?_ | refine zM rfl ?_ | refine zN ?_)
                refine WL.loadB rfl rfl rfl rfl rfl (hp9.obj 4 rfl) (j := 0) rfl ?_
                refine WL.pure rfl rfl rfl ?_
                refine WL.ixload rfl (fun _ => rfl) rfl rfl rfl rfl rfl rfl rfl c1 rfl rfl (hstZ hp9).nx (catV_at c1) ?_
                intro q2
                refine WL.pure rfl rfl rfl ?_
                refine WL.ixload rfl (fun _ => rfl) rfl rfl rfl rfl rfl rfl rfl c2 rfl rfl ((hstZ hp9).rows _ (List.getElem_mem c1)) (zs_getD c2) ?_
                intro q3
                refine WL.pure rfl rfl rfl ?_
                refine WL.call rfl rfl rfl rfl rfl ent29 (mod_any (vs0[i].2.2.getD k 0) n (by omega) (by omega) w9) ?_
                rintro _ w11 ⟨rfl, hw11⟩
                obtain rfl := hw11.symm
                repeat (first | refine zA ?_ | refine zB ?_ | refine zC rfl rfl rfl ?_ | refine zD ?_ | refine zE ?_ | refine zF ?_ | refine zG rfl ?_ | refine zH rfl ?_ | refine zI rfl rfl rfl ?_ | refine zJ rfl rfl ?_ | refine zK ?_ | refine zL ?_ | refine zM rfl ?_ | refine zN ?_)
                exact ⟨k + 1, (by omega), ⟨rfl, rfl, rfl, rfl, rfl, rfl, rfl, congrArg (fun z => some (Value.bool z)) (show ((((modN (vs0[i].2.2.getD k 0) n : Nat) : Int) == ((j : Nat) : Int))) = (isJ0 R n i j || (vs0[i].2.2.take (k + 1)).any fun z => decide (modN z n = j)) by
                  rw [htk, ← Bool.or_assoc]
                  have c3 : (isJ0 R n i j || (vs0[i].2.2.take k).any fun z => decide (modN z n = j)) = false := c3
                  rw [c3, Bool.false_or]
                  by_cases hm : modN (vs0[i].2.2.getD k 0) n = j
                  · rw [hm, decide_eq_true rfl]; simp
                  · rw [decide_eq_false hm]; exact beq_eq_false_iff_ne.2 (by omega)), congrArg (fun z => some (Value.int .i64 z)) stepk, rfl⟩, c2, rfl⟩
            · have c2 : k = vs0[i].2.2.length := by have := of_decide_eq_false c2; omega
              repeat (first | refine zA ?_ | refine zB ?_ | refine zC rfl rfl rfl ?_ | refine zD ?_ | refine zE ?_ | refine zF ?_ | refine zG rfl ?_ | refine zH rfl ?_ | refine zI rfl rfl rfl ?_ | refine zJ rfl rfl ?_ | refine zK ?_ | refine zL ?_ | refine zM rfl ?_ | refine zN ?_)
              exact ⟨(), ⟨rfl, rfl, rfl, rfl, rfl, rfl, rfl, congrArg (fun z => some (Value.bool z)) (fin c2), rfl⟩, rfl⟩
          · have c1 : ¬ i < vs0.length := by have := of_decide_eq_false c1; omega
            have hk0 : k = (R.getD i []).length := by rw [hrow0 c1] at hk ⊢; simp only [List.length_nil] at hk ⊢; omega
            repeat (first | refine zA ?_ | refine zB ?_ | refine zC rfl rfl rfl ?_ | refine zD ?_ | refine zE ?_ | refine zF ?_ | refine zG rfl ?_ | refine zH rfl ?_ | refine zI rfl rfl rfl ?_ | refine zJ rfl rfl ?_ | refine zK ?_ | refine zL ?_ | refine zM rfl ?_ | refine zN ?_)
            exact ⟨(), ⟨rfl, rfl, rfl, rfl, rfl, rfl, rfl, congrArg (fun z => some (Value.bool z)) (fin hk0), rfl⟩, rfl⟩
        rintro _ e10 w10 hsub hw10
        obtain rfl := hw10.symm
        refine WC.sub hsub ?_
        clear hsub e10
        have hnext := tmAcc_succ R n i j
        rw [← hac] at hnext
        repeat (first | refine zA ?_ | refine zB ?_ | refine zC rfl rfl rfl ?_ | refine zD ?_ | refine zE ?_ | refine zF ?_ | refine zG rfl ?_ | refine zH rfl ?_ | refine zI rfl rfl rfl ?_ | refine zJ rfl rfl ?_ | refine zK ?_ | refine zL ?_ | refine zM rfl ?_ | refine zN ?_)
        refine WC.cond rfl (fun c => ?_) (fun c => ?_)
        · rw [if_pos c] at hnext
          repeat (first | refine zA ?_ | refine zB ?_ | refine zC rfl rfl rfl ?_ | refine zD ?_ | refine zE ?_ | refine zF ?_ | refine zG rfl ?_ | refine zH rfl ?_ | refine zI rfl rfl rfl ?_ | refine zJ rfl rfl ?_ | refine zK ?_ | refine zL ?_ | refine zM rfl ?_ | refine zN ?_)
          refine WL.buildS (cs := [.int .i64 (j : Nat)]) rfl rfl rfl rfl rfl rfl rfl rfl rfl (fun b10 w10 h10 => ?_)
          have hp10 := hp9.new h10
          refine WL.append 1 hp10 rfl rfl rfl rfl rfl (by decide) rfl rfl rfl (news := [.int .i64 (j : Nat)]) (Sl.of_obj (hp10.obj 0 rfl) (fun q u hq => by simpa using hq)) rfl (zs_cells [((j : Nat) : Int)]) (by unfold maxLen; omega) (by show (ac.length + 1) * 8 ≤ _; omega) ?_
          intro pa pc w11 hp11 _
          have hp11 := hp11.tail
          have hlen : (tmAcc R n i (j + 1)).length = ac.length + 1 := by rw [hnext, List.length_append]; rfl
          have hzs : zs (tmAcc R n i (j + 1)) = zs ac ++ [.int .i64 (j : Nat)] := by rw [hnext, zs_app]; rfl
          repeat (first | refine zA ?_ | refine zB ?_ | refine zC rfl rfl rfl ?_ | refine zD ?_ | refine zE ?_ | refine zF ?_ | refine zG rfl ?_ | refine zH rfl ?_ | refine zI rfl rfl rfl ?_ | refine zJ rfl rfl ?_ | refine zK ?_ | refine zL ?_ | refine zM rfl ?_ | refine zN ?_)
          refine ⟨(j + 1, pa, pc), (by show n - (j + 1) < n - j; omega), ⟨rfl, rfl, rfl, rfl, rfl, by rw [hlen]; rfl, congrArg (fun z => some (Value.int .i64 z)) stepj, rfl⟩, hjn, ?_⟩
          show Hp w w11 ([.row 3 1 (.slice pa (tmAcc R n i (j + 1)).length pc) (tmAcc R n i (j + 1)).length (zs (tmAcc R n i (j + 1))), _, _, _, _, _] ++ _)
          rw [hlen, hzs]
          exact hp11
        · rw [if_neg (by rw [c]; decide), List.append_nil] at hnext
          repeat (first | refine zA ?_ | refine zB ?_ | refine zC rfl rfl rfl ?_ | refine zD ?_ | refine zE ?_ | refine zF ?_ | refine zG rfl ?_ | refine zH rfl ?_ | refine zI rfl rfl rfl ?_ | refine zJ rfl rfl ?_ | refine zK ?_ | refine zL ?_ | refine zM rfl ?_ | refine zN ?_)
          refine ⟨(j + 1, ra, rc), (by show n - (j + 1) < n - j; omega), ⟨rfl, rfl, rfl, rfl, rfl, by rw [hnext]; rfl, congrArg (fun z => some (Value.int .i64 z)) stepj, rfl⟩, hjn, ?_⟩
          show Hp w w9 ([.row 3 1 (.slice ra (tmAcc R n i (j + 1)).length rc) (tmAcc R n i (j + 1)).length (zs (tmAcc R n i (j + 1))), _, _, _, _, _] ++ _)
          rw [hnext]
          exact hp9
      · have hjn : j = n := by have := of_decide_eq_false g2; omega
        have hacr : ac = tmRow R n i := by rw [hac, hjn]; rfl
        refine WC.exit ?_
        refine blk_hit ?_
        refine WC.seq ?_
        refine WC.reg ?_
        refine WL.pure rfl rfl rfl ?_
        refine WL.pure rfl rfl rfl ?_
        refine WL.known (d := 107) (congrArg (fun z => some (Value.int .i64 z)) (show Int.tmod ((i : Nat) : Int) 16 = ((i % 16 : Nat) : Int) from rfl)) ?_
        refine WL.pure rfl rfl rfl ?_
        refine WL.nil ?_
        refine WC.seq ?_
        refine WC.mid Unit (fun _ => [(4, ptr b4), (5, ptr b5), (6, .int .i64 (n : Nat)), (7, ptr b7), (8, .int .i64 (i : Nat)), (9, .slice ra ac.length rc), (13, .int .i64 (tmMark M0 i))]) (fun _ w' => w' = w9) ?_ ?_
        · repeat (first | refine zA ?_ | refine zB ?_ | refine zC rfl rfl rfl ?_ | refine zD ?_ | refine zE ?_ | refine zF ?_ | refine zG rfl ?_ | refine zH rfl ?_ | refine zI rfl rfl rfl ?_ | refine zJ rfl rfl ?_ | refine zK ?_ | refine zL ?_ | refine zM rfl ?_ | refine zN ?_)
          refine WL.loadB rfl rfl rfl rfl rfl (hp9.obj 4 rfl) (j := 1) rfl ?_
          repeat (first | refine zA ?_ | refine zB ?_ | refine zC rfl rfl rfl ?_ | refine zD ?_ | refine zE ?_ | refine zF ?_ | refine zG rfl ?_ | refine zH rfl ?_ | refine zI rfl rfl rfl ?_ | refine zJ rfl rfl ?_ | refine zK ?_ | refine zL ?_ | refine zM rfl ?_ | refine zN ?_)
          refine WC.cond rfl (fun c => ?_) (fun c => ?_)
          · have c : i < M0.length := by have := of_decide_eq_true c; omega
            repeat (first | refine zA ?_ | refine zB ?_ | refine zC rfl rfl rfl ?_ | refine zD ?_ | refine zE ?_ | refine zF ?_ | refine zG rfl ?_ | refine zH rfl ?_ | refine zI rfl rfl rfl ?_ | refine zJ rfl rfl ?_ | refine zK ?_ | refine zL ?_ | refine zM rfl ?_ | refine zN ?_)
            refine WL.loadB rfl rfl rfl rfl rfl (hp9.obj 4 rfl) (j := 1) rfl ?_
            refine WL.pure rfl rfl rfl ?_
            refine WL.ixload rfl (fun _ => rfl) rfl rfl rfl rfl rfl rfl rfl c rfl rfl (hstZ hp9).mks (zs_getD c) ?_
            intro q0
            refine WL.call rfl rfl rfl rfl rfl ent29 (mod_any (M0.getD i 0) 16 (by decide) (by decide) w9) ?_
            rintro _ w11 ⟨rfl, hw11⟩
            obtain rfl := hw11.symm
            repeat (first | refine zA ?_ | refine zB ?_ | refine zC rfl rfl rfl ?_ | refine zD ?_ | refine zE ?_ | refine zF ?_ | refine zG rfl ?_ | refine zH rfl ?_ | refine zI rfl rfl rfl ?_ | refine zJ rfl rfl ?_ | refine zK ?_ | refine zL ?_ | refine zM rfl ?_ | refine zN ?_)
            exact ⟨(), ⟨rfl, rfl, rfl, rfl, rfl, rfl, congrArg (fun z => some (Value.int .i64 z)) (show ((modN (M0.getD i 0) 16 : Nat) : Int) = tmMark M0 i by unfold tmMark; rw [if_pos c]; rfl), rfl⟩, rfl⟩
          · have c : ¬ i < M0.length := by have := of_decide_eq_false c; omega
            repeat (first | refine zA ?_ | refine zB ?_ | refine zC rfl rfl rfl ?_ | refine zD ?_ | refine zE ?_ | refine zF ?_ | refine zG rfl ?_ | refine zH rfl ?_ | refine zI rfl rfl rfl ?_ | refine zJ rfl rfl ?_ | refine zK ?_ | refine zL ?_ | refine zM rfl ?_ | refine zN ?_)
            exact ⟨(), ⟨rfl, rfl, rfl, rfl, rfl, rfl, congrArg (fun z => some (Value.int .i64 z)) (show ((i % 16 : Nat) : Int) = tmMark M0 i by unfold tmMark; rw [if_neg c]), rfl⟩, rfl⟩
        rintro _ e10 w10 hsub hw10
        obtain rfl := hw10.symm
        refine WC.sub hsub ?_
        clear hsub e10
        have hal : ac.length ≤ 16 := by omega
        subst hvl
        repeat (first | refine zA ?_ | refine zB ?_ | refine zC rfl rfl rfl ?_ | refine zD ?_ | refine zE ?_ | refine zF ?_ | refine zG rfl ?_ | refine zH rfl ?_ | refine zI rfl rfl rfl ?_ | refine zJ rfl rfl ?_ | refine zK ?_ | refine zL ?_ | refine zM rfl ?_ | refine zN ?_)
        refine WL.loadB rfl rfl rfl rfl rfl (hp9.obj 1 rfl) (j := 0) rfl ?_
        repeat (first | refine zA ?_ | refine zB ?_ | refine zC rfl rfl rfl ?_ | refine zD ?_ | refine zE ?_ | refine zF ?_ | refine zG rfl ?_ | refine zH rfl ?_ | refine zI rfl rfl rfl ?_ | refine zJ rfl rfl ?_ | refine zK ?_ | refine zL ?_ | refine zM rfl ?_ | refine zN ?_)
        refine WL.buildS (cs := [.slice ra ac.length rc]) rfl rfl rfl rfl rfl rfl rfl rfl rfl (fun b10 w10 h10 => ?_)
        have hp10 := hp9.new h10
        refine WL.append 3 hp10 rfl rfl rfl rfl rfl (by decide) rfl rfl rfl (news := [.slice ra ac.length rc]) (Sl.of_obj (hp10.obj 0 rfl) (fun q u hq => by simpa using hq)) rfl (Cells.cons rfl Cells.nil) (by unfold maxLen; omega) (by show (vs3.length + 1) * 24 ≤ _; omega) ?_
        intro pb pd w11 hp11 _
        replace hp11 : Hp w w11 ([_, Ri (.slice ra ac.length rc) ac, Stb b7 na vs3.length nc ma vs3.length mc, .row 22 1 (.slice pb (vs3.length + 1) pd) (vs3.length + 1) (catV vs3 ++ [.slice ra ac.length rc]), .row 3 1 (.slice ma vs3.length mc) vs3.length (zs (tmMs M0 vs3.length)), Stb b5 na0 vs0.length nc0 ma0 M0.length mc0, Stb b4 none 0 0 none 0 0] ++ (vsE vs3 ++ Y)) := hp11
        repeat (first | refine zA ?_ | refine zB ?_ | refine zC rfl rfl rfl ?_ | refine zD ?_ | refine zE ?_ | refine zF ?_ | refine zG rfl ?_ | refine zH rfl ?_ | refine zI rfl rfl rfl ?_ | refine zJ rfl rfl ?_ | refine zK ?_ | refine zL ?_ | refine zM rfl ?_ | refine zN ?_)
        refine WL.store rfl rfl rfl rfl rfl rfl (hp11.obj 2 rfl) (Nat.succ_pos 1) (fun w12 h12 => ?_)
        have hp12 := Hp.pickT (T := vsE vs3 ++ Y) [_, _, _, _, _, _, _] [3, 1, 2, 4, 5, 6] (hp11.set 2 rfl rfl h12) (by decide)
        have hp13 := Hp.pickT (T := vsE (vs3 ++ [(ra, rc, ac)]) ++ Y) [_, _, _, _, _] [1, 0, 2, 3, 4] (Hp.rowInY (X := [Stb b7 pb (vs3.length + 1) pd ma vs3.length mc, .row 3 1 (.slice ma vs3.length mc) vs3.length (zs (tmMs M0 vs3.length)), Stb b5 na0 vs0.length nc0 ma0 M0.length mc0, Stb b4 none 0 0 none 0 0]) (x := (ra, rc, ac)) hp12) (by decide)
        clear hp9 hp10 hp11 hp12
        repeat (first | refine zA ?_ | refine zB ?_ | refine zC rfl rfl rfl ?_ | refine zD ?_ | refine zE ?_ | refine zF ?_ | refine zG rfl ?_ | refine zH rfl ?_ | refine zI rfl rfl rfl ?_ | refine zJ rfl rfl ?_ | refine zK ?_ | refine zL ?_ | refine zM rfl ?_ | refine zN ?_)
        refine WL.loadB rfl rfl rfl rfl rfl (hp13.obj 0 rfl) (j := 1) rfl ?_
        repeat (first | refine zA ?_ | refine zB ?_ | refine zC rfl rfl rfl ?_ | refine zD ?_ | refine zE ?_ | refine zF ?_ | refine zG rfl ?_ | refine zH rfl ?_ | refine zI rfl rfl rfl ?_ | refine zJ rfl rfl ?_ | refine zK ?_ | refine zL ?_ | refine zM rfl ?_ | refine zN ?_)
        refine WL.buildS (cs := [.int .i64 (tmMark M0 vs3.length)]) rfl rfl rfl rfl rfl rfl rfl rfl rfl (fun b14 w14 h14 => ?_)
        have hp14 := hp13.new h14
        refine WL.append 3 hp14 rfl rfl rfl rfl rfl (by decide) rfl rfl rfl (news := [.int .i64 (tmMark M0 vs3.length)]) (Sl.of_obj (hp14.obj 0 rfl) (fun q u hq => by simpa using hq)) rfl (zs_cells [_]) (by unfold maxLen; omega) (by show (vs3.length + 1) * 8 ≤ _; omega) ?_
        intro pe pf w15 hp15 _
        replace hp15 : Hp w w15 ([_, Stb b7 pb (vs3.length + 1) pd ma vs3.length mc, Rvs (.slice pb (vs3 ++ [(ra, rc, ac)]).length pd) (vs3 ++ [(ra, rc, ac)]), .row 3 1 (.slice pe (vs3.length + 1) pf) (vs3.length + 1) (zs (tmMs M0 vs3.length) ++ [.int .i64 (tmMark M0 vs3.length)]), Stb b5 na0 vs0.length nc0 ma0 M0.length mc0, Stb b4 none 0 0 none 0 0] ++ (vsE (vs3 ++ [(ra, rc, ac)]) ++ Y)) := hp15
        repeat (first | refine zA ?_ | refine zB ?_ | refine zC rfl rfl rfl ?_ | refine zD ?_ | refine zE ?_ | refine zF ?_ | refine zG rfl ?_ | refine zH rfl ?_ | refine zI rfl rfl rfl ?_ | refine zJ rfl rfl ?_ | refine zK ?_ | refine zL ?_ | refine zM rfl ?_ | refine zN ?_)
        refine WL.store rfl rfl rfl rfl rfl rfl (hp15.obj 1 rfl) (Nat.lt_succ_self 1) (fun w16 h16 => ?_)
        have hp16 := Hp.pickT (T := vsE (vs3 ++ [(ra, rc, ac)]) ++ Y) [_, _, _, _, _, _] [1, 2, 3, 4, 5] (hp15.set 1 rfl rfl h16) (by decide)
        have hms : zs (tmMs M0 vs3.length) ++ [.int .i64 (tmMark M0 vs3.length)] = zs (tmMs M0 (vs3.length + 1)) := by rw [tmMs_succ, zs_app]; rfl
        have hvs4 : rowsOf (vs3 ++ [(ra, rc, ac)]) = (List.range (vs3.length + 1)).map (tmRow R n) := by
          rw [List.range_succ, List.map_append, ← hvs3, hacr]; simp [rowsOf]
        rw [hms] at hp16
        unfold Rvs at hp16
        rw [show (vs3 ++ [(ra, rc, ac)]).length = vs3.length + 1 from by rw [List.length_append]; rfl] at hp16
        repeat (first | refine zA ?_ | refine zB ?_ | refine zC rfl rfl rfl ?_ | refine zD ?_ | refine zE ?_ | refine zF ?_ | refine zG rfl ?_ | refine zH rfl ?_ | refine zI rfl rfl rfl ?_ | refine zJ rfl rfl ?_ | refine zK ?_ | refine zL ?_ | refine zM rfl ?_ | refine zN ?_)
        exact ⟨(vs3.length + 1, pb, pd, pe, pf, vs3 ++ [(ra, rc, ac)]), (by show n - (vs3.length + 1) < n - vs3.length; omega), ⟨rfl, rfl, rfl, rfl, congrArg (fun z => some (Value.int .i64 z)) step, rfl⟩, hin, hvs4, hp16⟩
    · have hin : i = n := by have := of_decide_eq_false g1; omega
      subst hin
      repeat (first | refine zA ?_ | refine zB ?_ | refine zC rfl rfl rfl ?_ | refine zD ?_ | refine zE ?_ | refine zF ?_ | refine zG rfl ?_ | refine zH rfl ?_ | refine zI rfl rfl rfl ?_ | refine zJ rfl rfl ?_ | refine zK ?_ | refine zL ?_ | refine zM rfl ?_ | refine zN ?_)
      refine WL.loadN rfl rfl rfl rfl rfl (cs := [.slice na i nc, .slice ma i mc]) rfl (fun q v hq => cell_of_obj (hp8.obj 0 rfl) (by rw [Nat.zero_add]; simpa using hq)) ?_
      refine WL.storeN rfl rfl rfl rfl rfl (by simp [Value.oneCell']) (hp8.obj 4 rfl) (Nat.le_refl _) rfl (fun w9 h9 => ?_)
      have hp9 := hp8.set 4 rfl rfl h9
      repeat (first | refine zA ?_ | refine zB ?_ | refine zC rfl rfl rfl ?_ | refine zD ?_ | refine zE ?_ | refine zF ?_ | refine zG rfl ?_ | refine zH rfl ?_ | refine zI rfl rfl rfl ?_ | refine zJ rfl rfl ?_ | refine zK ?_ | refine zL ?_ | refine zM rfl ?_ | refine zN ?_)
      refine Res.cell rfl rfl rfl rfl rfl rfl (hp9.obj 4 rfl) ⟨na, nc, ma, mc, vs3, by simp only [tmMs_len, hvl]; rfl, hvs3, ?_⟩
      have h10 := Hp.frontT (T := Y) (L := [_, _] ++ vsE vs3) (Hp.pickT (T := vsE vs3 ++ Y) [_, _, _, _, _] [1, 2] hp9 (by decide))
      show Hp w w9 (.row 22 1 (.slice na vs3.length nc) vs3.length (catV vs3) :: .row 3 1 (.slice ma (tmMs M0 i).length mc) (tmMs M0 i).length (zs (tmMs M0 i)) :: vsE vs3)
      rw [tmMs_len, hvl]
      exact h10
end Go.Proofs.YtpbbneclkhfgoaaDoor
end
section
/- ltl, forty-eighth: the reference's Lasso, IsRun, Marks. -/
namespace Go.Proofs.YtpbbneclkhfgoaaDoor
open Go.W Go.Ltl Go.RowKit
set_option maxRecDepth 100000
set_option linter.unusedSectionVars false
attribute [local irreducible] WC WL WQ WS WH

theorem rLasso_any (a1 a2 : Option Addr) (c1 c2 n1 n2 : Nat) (w : World) :
    Ret Tryd.prog 36 [.slice a1 n1 c1, .slice a2 n2 c2] w fun v w' => v = .bool (lassoB n1 n2) ∧ w' = w := by
  refine enter Tryd.func36 rfl rfl ⟨rfl, rfl⟩ rfl ?_
  repeat (first | refine zA ?_ | refine zB ?_ | refine zC rfl rfl rfl ?_ | refine zD ?_ | refine zE ?_ | refine zF ?_ | refine zG rfl ?_ | refine zH rfl ?_ | refine zI rfl rfl rfl ?_ | refine zJ rfl rfl ?_ | refine zK ?_ | refine zL ?_ | refine zM rfl ?_ | refine zN ?_)
  refine WL.split 8 rfl (fun h1 => ?_) (fun h1 => ?_)
  · have h1 : n1 ≤ 65536 := by have := of_decide_eq_true h1; omega
    repeat (first | refine zA ?_ | refine zB ?_ | refine zC rfl rfl rfl ?_ | refine zD ?_ | refine zE ?_ | refine zF ?_ | refine zG rfl ?_ | refine zH rfl ?_ | refine zI rfl rfl rfl ?_ | refine zJ rfl rfl ?_ | refine zK ?_ | refine zL ?_ | refine zM rfl ?_ | refine zN ?_)
    refine WL.split 13 rfl (fun h2 => ?_) (fun h2 => ?_)
    · have h2 : n2 ≤ 65536 := by have := of_decide_eq_true h2; omega
      repeat (first | refine zA ?_ | refine zB ?_ | refine zC rfl rfl rfl ?_ | refine zD ?_ | refine zE ?_ | refine zF ?_ | refine zG rfl ?_ | refine zH rfl ?_ | refine zI rfl rfl rfl ?_ | refine zJ rfl rfl ?_ | refine zK ?_ | refine zL ?_ | refine zM rfl ?_ | refine zN ?_)
      refine Res.one rfl rfl rfl ⟨?_, rfl⟩
      unfold lassoB
      rw [decide_eq_true h1, decide_eq_true h2]
      by_cases h3 : 1 ≤ n2
      · rw [decide_eq_true h3, decide_eq_true (by omega)]; rfl
      · rw [decide_eq_false h3, decide_eq_false (by omega)]; rfl
    · have h2 : ¬ n2 ≤ 65536 := by have := of_decide_eq_false h2; omega
      repeat (first | refine zA ?_ | refine zB ?_ | refine zC rfl rfl rfl ?_ | refine zD ?_ | refine zE ?_ | refine zF ?_ | refine zG rfl ?_ | refine zH rfl ?_ | refine zI rfl rfl rfl ?_ | refine zJ rfl rfl ?_ | refine zK ?_ | refine zL ?_ | refine zM rfl ?_ | refine zN ?_)
      exact Res.one rfl rfl rfl ⟨by unfold lassoB; rw [decide_eq_false h2]; simp, rfl⟩
  · have h1 : ¬ n1 ≤ 65536 := by have := of_decide_eq_false h1; omega
    repeat (first | refine zA ?_ | refine zB ?_ | refine zC rfl rfl rfl ?_ | refine zD ?_ | refine zE ?_ | refine zF ?_ | refine zG rfl ?_ | refine zH rfl ?_ | refine zI rfl rfl rfl ?_ | refine zJ rfl rfl ?_ | refine zK ?_ | refine zL ?_ | refine zM rfl ?_ | refine zN ?_)
    exact Res.one rfl rfl rfl ⟨by unfold lassoB; rw [decide_eq_false h1]; simp, rfl⟩
/-- Whether a lasso of states is a run. -/
def stepB (R : List (List Int)) (l : List Int) (i : Nat) : Bool := (R.getD (l.getD i 0).toNat []).any fun z => decide (z = l.getD (i + 1) 0)
def inB (n : Nat) (z : Int) : Bool := decide (0 ≤ z) && decide (z < (n : Int))
def walkB (R : List (List Int)) (l : List Int) : Bool := decide (l.getD 0 0 = 0) && l.all (inB R.length) && (List.range (l.length - 1)).all (stepB R l)
def runB (R : List (List Int)) (stem loop : List Int) : Bool := lassoB stem.length loop.length && walkB R (stem ++ loop ++ [loop.getD 0 0])
theorem stepB_row {vs : Vs} {l : List Int} {i q : Nat} (hq : q < vs.length) (hl : l.getD i 0 = ((q : Nat) : Int)) : stepB (vs.map fun x => x.2.2) l i = vs[q].2.2.any fun z => decide (z = l.getD (i + 1) 0) := by
  unfold stepB
  rw [hl, Int.toNat_natCast, List.getD_eq_getElem?_getD, List.getElem?_map, List.getElem?_eq_getElem hq]
  rfl
theorem IsRun_any (an : Option Addr) (cn : Nat) (am : Option Addr) (cm : Nat) (vs : Vs) (ms : List Int) (hvl : vs.length ≤ 1000000) (hvs : ∀ x ∈ vs, x.2.2.length ≤ 1000000) (a1 a2 : Option Addr) (c1 c2 : Nat) (stem loop : List Int) (w : World) (hst : Stc w an am vs ms) (hs1 : Sl w a1 (zs stem)) (hs2 : Sl w a2 (zs loop)) :
    Ret Tryd.prog 28 [stV an cn am cm vs ms, .slice a1 stem.length c1, .slice a2 loop.length c2] w fun v w' => v = .bool (runB (vs.map fun x => x.2.2) stem loop) ∧ Hp w w' [] := by
  refine enter Tryd.func28 rfl rfl ⟨rfl, rfl⟩ rfl ?_
  repeat (first | refine zA ?_ | refine zB ?_ | refine zC rfl rfl rfl ?_ | refine zD ?_ | refine zE ?_ | refine zF ?_ | refine zG rfl ?_ | refine zH rfl ?_ | refine zI rfl rfl rfl ?_ | refine zJ rfl rfl ?_ | refine zK ?_ | refine zL ?_ | refine zM rfl ?_ | refine zN ?_)
  refine WL.box rfl rfl rfl (fun b w1 h1 => ?_)
  have hp1 : Hp w w1 [Sb b an cn am cm vs ms] := (Hp.start w).new h1
  repeat (first | refine zA ?_ | refine zB ?_ | refine zC rfl rfl rfl ?_ | refine zD ?_ | refine zE ?_ | refine zF ?_ | refine zG rfl ?_ | refine zH rfl ?_ | refine zI rfl rfl rfl ?_ | refine zJ rfl rfl ?_ | refine zK ?_ | refine zL ?_ | refine zM rfl ?_ | refine zN ?_)
  refine WL.call rfl rfl rfl rfl rfl ent36 (rLasso_any a1 a2 c1 c2 stem.length loop.length w1) ?_
  rintro _ w2 ⟨rfl, hw2⟩
  obtain rfl := hw2.symm
  cases hla : lassoB stem.length loop.length with
  | false =>
    repeat (first | refine zA ?_ | refine zB ?_ | refine zC rfl rfl rfl ?_ | refine zD ?_ | refine zE ?_ | refine zF ?_ | refine zG rfl ?_ | refine zH rfl ?_ | refine zI rfl rfl rfl ?_ | refine zJ rfl rfl ?_ | refine zK ?_ | refine zL ?_ | refine zM rfl ?_ | refine zN ?_)
    exact Res.one rfl rfl rfl ⟨by unfold runB; rw [hla]; rfl, hp1.nil'⟩
  | true =>
  have hl3 : stem.length ≤ 65536 ∧ 1 ≤ loop.length ∧ loop.length ≤ 65536 := by
    unfold lassoB at hla
    simp only [Bool.and_eq_true, decide_eq_true_eq] at hla
    exact ⟨hla.1.1, hla.1.2, hla.2⟩
  obtain ⟨l1, l2, l3⟩ := hl3
  obtain ⟨l, hl⟩ : ∃ l, l = stem ++ loop ++ [loop.getD 0 0] := ⟨_, rfl⟩
  have hN : l.length = stem.length + loop.length + 1 := by rw [hl, List.length_append, List.length_append]; rfl
  have hzl : zs l = zs stem ++ zs loop ++ [.int .i64 (loop.getD 0 0)] := by rw [hl, zs_app, zs_app]; rfl
  have hrun : runB (vs.map fun x => x.2.2) stem loop = walkB (vs.map fun x => x.2.2) l := by unfold runB; rw [hla, hl]; rfl
  rw [hrun]
  repeat (first | refine zA ?_ | refine zB ?_ | refine zC rfl rfl rfl ?_ | refine zD ?_ | refine zE ?_ | refine zF ?_ | refine zG rfl ?_ | refine zH rfl ?_ | refine zI rfl rfl rfl ?_ | refine zJ rfl rfl ?_ | refine zK ?_ | refine zL ?_ | refine zM rfl ?_ | refine zN ?_)
  refine WL.append 0 (hp1.nilrow 3 1) rfl rfl rfl rfl rfl (by decide) rfl rfl rfl (news := zs stem) (hs1.hp hp1) (by rw [zs_len]; exact (Nat.mul_one _).symm) (zs_cells _) (by unfold maxLen; omega) (by show (0 + stem.length) * 8 ≤ _; omega) ?_
  intro pa pc w2 hp2 _
  rw [Nat.zero_add] at hp2 ⊢
  replace hp2 : Hp w w2 [.row 3 1 (.slice pa stem.length pc) stem.length (zs stem), Sb b an cn am cm vs ms] := hp2
  repeat (first | refine zA ?_ | refine zB ?_ | refine zC rfl rfl rfl ?_ | refine zD ?_ | refine zE ?_ | refine zF ?_ | refine zG rfl ?_ | refine zH rfl ?_ | refine zI rfl rfl rfl ?_ | refine zJ rfl rfl ?_ | refine zK ?_ | refine zL ?_ | refine zM rfl ?_ | refine zN ?_)
  refine WL.append 0 hp2 rfl rfl rfl rfl rfl (by decide) rfl rfl rfl (news := zs loop) (hs2.hp hp2) (by rw [zs_len]; exact (Nat.mul_one _).symm) (zs_cells _) (by unfold maxLen; omega) (by show (stem.length + loop.length) * 8 ≤ _; omega) ?_
  intro pb pd w3 hp3 _
  replace hp3 : Hp w w3 [.row 3 1 (.slice pb (stem.length + loop.length) pd) (stem.length + loop.length) (zs stem ++ zs loop), Sb b an cn am cm vs ms] := hp3
  refine WL.pure rfl rfl rfl ?_
  refine WL.nil ?_
  refine WC.seq ?_
  refine WC.reg ?_
  refine WL.pure rfl rfl rfl ?_
  refine WL.pure rfl rfl rfl ?_
  refine WL.ixload (j := 0) rfl (fun _ => rfl) rfl rfl rfl rfl rfl rfl rfl (by omega) rfl rfl (hs2.hp hp3) (zs_getD (by omega)) ?_
  intro q0
  refine WL.buildS (cs := [.int .i64 (loop.getD 0 0)]) rfl rfl rfl rfl rfl rfl rfl rfl rfl (fun b27 w4 h4 => ?_)
  have hp4 := hp3.new h4
  refine WL.append 1 hp4 rfl rfl rfl rfl rfl (by decide) rfl rfl rfl (news := [.int .i64 (loop.getD 0 0)]) (Sl.of_obj (hp4.obj 0 rfl) (fun q u hq => by simpa using hq)) rfl (zs_cells [_]) (by unfold maxLen; omega) (by show (stem.length + loop.length + 1) * 8 ≤ _; omega) ?_
  intro pe pf w5 hp5 _
  replace hp5 : Hp w w5 [.row 3 1 (.slice pe (stem.length + loop.length + 1) pf) (stem.length + loop.length + 1) (zs stem ++ zs loop ++ [.int .i64 (loop.getD 0 0)]), Sb b an cn am cm vs ms] := hp5.tail
  rw [← hzl, ← hN] at hp5
  rw [← hN]
  clear hp1 hp2 hp3 hp4 h1 h4 hrun
  obtain ⟨bl, ol, hle, _⟩ := (Hp.sl hp5 0 rfl) 0 _ (zs_getD (by omega))
  subst hle
  have cE : ∀ {w' : World}, Hp w w' [.row 3 1 (.slice (some ⟨bl, ol, none⟩) l.length pf) l.length (zs l), Sb b an cn am cm vs ms] → ∀ {i : Nat}, i < l.length → w'.cell? ⟨bl, ol + i, none⟩ = some (.int .i64 (l.getD i 0)) := fun {w'} h {i} hi => Sl.cell (Hp.sl h 0 rfl) (zs_getD hi)
  repeat (first | refine zA ?_ | refine zB ?_ | refine zC rfl rfl rfl ?_ | refine zD ?_ | refine zE ?_ | refine zF ?_ | refine zG rfl ?_ | refine zH rfl ?_ | refine zI rfl rfl rfl ?_ | refine zJ rfl rfl ?_ | refine zK ?_ | refine zL ?_ | refine zM rfl ?_ | refine zN ?_)
  refine WL.ixload (j := 0) rfl (fun _ => rfl) rfl rfl rfl rfl rfl rfl rfl (by omega) rfl rfl (Hp.sl hp5 0 rfl) (zs_getD (by omega)) ?_
  intro q1
  repeat (first | refine zA ?_ | refine zB ?_ | refine zC rfl rfl rfl ?_ | refine zD ?_ | refine zE ?_ | refine zF ?_ | refine zG rfl ?_ | refine zH rfl ?_ | refine zI rfl rfl rfl ?_ | refine zJ rfl rfl ?_ | refine zK ?_ | refine zL ?_ | refine zM rfl ?_ | refine zN ?_)
  refine WC.cond rfl (fun g0 => ?_) (fun g0 => ?_)
  · have g0 : ¬ l.getD 0 0 = 0 := by
      have g0 : (!(l.getD 0 0 == 0)) = true := g0
      simpa using g0
    have e : walkB (vs.map fun x => x.2.2) l = false := by unfold walkB; rw [decide_eq_false g0]; rfl
    rw [e]
    repeat (first | refine zA ?_ | refine zB ?_ | refine zC rfl rfl rfl ?_ | refine zD ?_ | refine zE ?_ | refine zF ?_ | refine zG rfl ?_ | refine zH rfl ?_ | refine zI rfl rfl rfl ?_ | refine zJ rfl rfl ?_ | refine zK ?_ | refine zL ?_ | refine zM rfl ?_ | refine zN ?_)
    exact Res.one rfl rfl rfl ⟨rfl, hp5.nil'⟩
  have g0 : l.getD 0 0 = 0 := by
    have g0 : (!(l.getD 0 0 == 0)) = false := g0
    simpa using g0
  have hw1 : walkB (vs.map fun x => x.2.2) l = (l.all (inB vs.length) && (List.range (l.length - 1)).all (stepB (vs.map fun x => x.2.2) l)) := by
    unfold walkB; rw [decide_eq_true g0, List.length_map]; rfl
  rw [hw1]
  clear hw1
  repeat (first | refine zA ?_ | refine zB ?_ | refine zC rfl rfl rfl ?_ | refine zD ?_ | refine zE ?_ | refine zF ?_ | refine zG rfl ?_ | refine zH rfl ?_ | refine zI rfl rfl rfl ?_ | refine zJ rfl rfl ?_ | refine zK ?_ | refine zL ?_ | refine zM rfl ?_ | refine zN ?_)
  refine WC.loop Nat (fun i => [(3, ptr b), (7, .slice (some ⟨bl, ol, none⟩) l.length pf), (8, .int .i64 (i : Nat))])
    (fun i w' => i ≤ l.length ∧ (∀ k, k < i → inB vs.length (l.getD k 0) = true) ∧ Hp w w' [.row 3 1 (.slice (some ⟨bl, ol, none⟩) l.length pf) l.length (zs l), Sb b an cn am cm vs ms]) (fun i => l.length - i) 0 ⟨rfl, rfl, rfl, rfl⟩ ⟨Nat.zero_le _, fun k hk => by omega, hp5⟩ ?_
  clear hp5
  rintro i w6 ⟨hi0, hin, hp6⟩
  replace hi0 : i ≤ l.length := hi0
  replace hp6 : Hp w w6 [.row 3 1 (.slice (some ⟨bl, ol, none⟩) l.length pf) l.length (zs l), Sb b an cn am cm vs ms] := hp6
  repeat (first | refine zA ?_ | refine zB ?_ | refine zC rfl rfl rfl ?_ | refine zD ?_ | refine zE ?_ | refine zF ?_ | refine zG rfl ?_ | refine zH rfl ?_ | refine zI rfl rfl rfl ?_ | refine zJ rfl rfl ?_ | refine zK ?_ | refine zL ?_ | refine zM rfl ?_ | refine zN ?_)
  refine WC.cond rfl (fun g1 => ?_) (fun g1 => ?_)
  · have hi : i < l.length := by have := of_decide_eq_true g1; omega
    have step := wrap_succ (i := i) (n := i + 1) (by omega) (by omega)
    repeat (first | refine zA ?_ | refine zB ?_ | refine zC rfl rfl rfl ?_ | refine zD ?_ | refine zE ?_ | refine zF ?_ | refine zG rfl ?_ | refine zH rfl ?_ | refine zI rfl rfl rfl ?_ | refine zJ rfl rfl ?_ | refine zK ?_ | refine zL ?_ | refine zM rfl ?_ | refine zN ?_)
    refine WC.mid Bool (fun r => [(3, ptr b), (7, .slice (some ⟨bl, ol, none⟩) l.length pf), (8, .int .i64 (i : Nat)), (53, .bool r)])
      (fun r w' => r = !inB vs.length (l.getD i 0) ∧ Hp w w' [.row 3 1 (.slice (some ⟨bl, ol, none⟩) l.length pf) l.length (zs l), Sb b an cn am cm vs ms]) ?_ ?_
    · refine WC.regQ (fun w' => Hp w w' [.row 3 1 (.slice (some ⟨bl, ol, none⟩) l.length pf) l.length (zs l), Sb b an cn am cm vs ms]) mixed (by kernel_rfl) (fun w' hw' => hp6.keep hw') ?_
      repeat (first | refine WQ.pure rfl rfl rfl ?_ | refine WQ.off rfl rfl rfl ?_ | refine WQ.nil ?_)
      refine WQ.ixload rfl (fun _ => rfl) rfl rfl rfl rfl rfl rfl rfl hi rfl rfl (fun w' h => cE h hi) ?_
      repeat (first | refine WQ.pure rfl rfl rfl ?_ | refine WQ.off rfl rfl rfl ?_ | refine WQ.nil ?_)
      refine WQ.split 44 rfl (fun c5 => ?_) (fun c5 => ?_)
      · have c5 : l.getD i 0 < 0 := of_decide_eq_true c5
        repeat (first | refine WQ.pure rfl rfl rfl ?_ | refine WQ.off rfl rfl rfl ?_ | refine WQ.nil ?_)
        intro w' h
        exact ⟨_, ⟨rfl, rfl, rfl, rfl, rfl⟩, by unfold inB; rw [decide_eq_false (show ¬ 0 ≤ l.getD i 0 by omega)]; rfl, h⟩
      have c5 : 0 ≤ l.getD i 0 := by have := of_decide_eq_false c5; omega
      repeat (first | refine WQ.pure rfl rfl rfl ?_ | refine WQ.off rfl rfl rfl ?_ | refine WQ.nil ?_)
      refine WQ.ixload rfl (fun _ => rfl) rfl rfl rfl rfl rfl rfl rfl hi rfl rfl (fun w' h => cE h hi) ?_
      repeat (first | refine WQ.pure rfl rfl rfl ?_ | refine WQ.off rfl rfl rfl ?_ | refine WQ.nil ?_)
      refine WQ.load rfl rfl rfl rfl rfl (fun w' h => cell_of_obj (h.obj 1 rfl) (j := 0) rfl) ?_
      repeat (first | refine WQ.pure rfl rfl rfl ?_ | refine WQ.off rfl rfl rfl ?_ | refine WQ.nil ?_)
      intro w' h
      refine ⟨_, ⟨rfl, rfl, rfl, rfl, rfl⟩, ?_, h⟩
      unfold inB
      rw [decide_eq_true c5, Bool.true_and]
      by_cases c6 : l.getD i 0 < (vs.length : Int)
      · rw [decide_eq_true c6, decide_eq_false (by omega)]; rfl
      · rw [decide_eq_false c6, decide_eq_true (by omega)]; rfl
    · rintro r e7 w7 hsub ⟨hr, hp7⟩
      refine WC.sub hsub ?_
      clear hsub e7 hp6
      replace hp7 : Hp w w7 [.row 3 1 (.slice (some ⟨bl, ol, none⟩) l.length pf) l.length (zs l), Sb b an cn am cm vs ms] := hp7
      have hr : r = !inB vs.length (l.getD i 0) := hr
      subst hr
      cases hb : inB vs.length (l.getD i 0) with
      | false =>
        have e : l.all (inB vs.length) = false := List.all_eq_false.2 ⟨l[i], List.getElem_mem hi, by rw [show l[i] = l.getD i 0 by simp [hi], hb]; simp⟩
        rw [e]
        repeat (first | refine zA ?_ | refine zB ?_ | refine zC rfl rfl rfl ?_ | refine zD ?_ | refine zE ?_ | refine zF ?_ | refine zG rfl ?_ | refine zH rfl ?_ | refine zI rfl rfl rfl ?_ | refine zJ rfl rfl ?_ | refine zK ?_ | refine zL ?_ | refine zM rfl ?_ | refine zN ?_)
        exact Res.one rfl rfl rfl ⟨rfl, hp7.nil'⟩
      | true =>
        repeat (first | refine zA ?_ | refine zB ?_ | refine zC rfl rfl rfl ?_ | refine zD ?_ | refine zE ?_ | refine zF ?_ | refine zG rfl ?_ | refine zH rfl ?_ | refine zI rfl rfl rfl ?_ | refine zJ rfl rfl ?_ | refine zK ?_ | refine zL ?_ | refine zM rfl ?_ | refine zN ?_)
        refine ⟨i + 1, (by omega), ⟨rfl, rfl, congrArg (fun z => some (Value.int .i64 z)) step, rfl⟩, hi, fun k hk => ?_, hp7⟩
        rcases Nat.lt_or_ge k i with h | h
        · exact hin k h
        · rw [show k = i by omega]; exact hb
  have hi : i = l.length := by have := of_decide_eq_false g1; omega
  rw [hi] at hin
  have hall : l.all (inB vs.length) = true := by
    rw [List.all_eq_true]
    intro z hz
    obtain ⟨k, hk, rfl⟩ := List.getElem_of_mem hz
    have := hin k hk
    rwa [show l.getD k 0 = l[k] by simp [hk]] at this
  rw [hall, Bool.true_and]
  clear hall
  repeat (first | refine zA ?_ | refine zB ?_ | refine zC rfl rfl rfl ?_ | refine zD ?_ | refine zE ?_ | refine zF ?_ | refine zG rfl ?_ | refine zH rfl ?_ | refine zI rfl rfl rfl ?_ | refine zJ rfl rfl ?_ | refine zK ?_ | refine zL ?_ | refine zM rfl ?_ | refine zN ?_)
  refine WC.loop Nat (fun i => [(3, ptr b), (7, .slice (some ⟨bl, ol, none⟩) l.length pf), (9, .int .i64 (i : Nat))])
    (fun i w' => i + 1 ≤ l.length ∧ (List.range i).all (stepB (vs.map fun x => x.2.2) l) = true ∧ Hp w w' [.row 3 1 (.slice (some ⟨bl, ol, none⟩) l.length pf) l.length (zs l), Sb b an cn am cm vs ms]) (fun i => l.length - i) 0 ⟨rfl, rfl, rfl, rfl⟩ ⟨by omega, rfl, hp6⟩ ?_
  clear hp6 hi hi0 g1 i
  rintro i w6 ⟨hi, hsa, hp6⟩
  replace hi : i + 1 ≤ l.length := hi
  replace hsa : (List.range i).all (stepB (vs.map fun x => x.2.2) l) = true := hsa
  replace hp6 : Hp w w6 [.row 3 1 (.slice (some ⟨bl, ol, none⟩) l.length pf) l.length (zs l), Sb b an cn am cm vs ms] := hp6
  have step := wrap_succ (i := i) (n := i + 1) (by omega) (by omega)
  repeat (first | refine zA ?_ | refine zB ?_ | refine zC rfl rfl rfl ?_ | refine zD ?_ | refine zE ?_ | refine zF ?_ | refine zG rfl ?_ | refine zH rfl ?_ | refine zI rfl rfl rfl ?_ | refine zJ rfl rfl ?_ | refine zK ?_ | refine zL ?_ | refine zM rfl ?_ | refine zN ?_)
  refine WC.cond rfl (fun g1 => ?_) (fun g1 => ?_)
  · have hi1 : i + 1 < l.length := by
      have g1 : IntKind.i64.wrap ((i : Int) + 1) < ((l.length : Nat) : Int) := of_decide_eq_true g1
      rw [step] at g1; omega
    have hi0 : i < l.length := by omega
    obtain ⟨q, hq⟩ : ∃ q : Nat, l.getD i 0 = ((q : Nat) : Int) := ⟨(l.getD i 0).toNat, by
      have := hin i hi0
      simp only [inB, Bool.and_eq_true, decide_eq_true_eq] at this
      omega⟩
    have hqv : q < vs.length := by
      have := hin i hi0
      simp only [inB, Bool.and_eq_true, decide_eq_true_eq, hq] at this
      omega
    have hxm := List.getElem_mem hqv
    have hlen := hvs _ hxm
    have hslw := hst.rows _ hxm
    have hcat := catV_at hqv
    have hstep := stepB_row (l := l) (i := i) hqv hq
    obtain ⟨x, hx⟩ : ∃ x, x = vs[q] := ⟨_, rfl⟩
    rw [← hx] at hlen hslw hcat hstep
    clear hx hxm
    obtain ⟨ra, rc, r⟩ := x
    replace hlen : r.length ≤ 1000000 := hlen
    replace hslw : Sl w ra (zs r) := hslw
    replace hcat : (catV vs)[q]? = some (.slice ra r.length rc) := hcat
    replace hstep : stepB (vs.map fun x => x.2.2) l i = r.any fun z => decide (z = l.getD (i + 1) 0) := hstep
    obtain ⟨ba, oa, hae, hac⟩ := hst.nx q _ hcat
    subst hae
    repeat (first | refine zA ?_ | refine zB ?_ | refine zC rfl rfl rfl ?_ | refine zD ?_ | refine zE ?_ | refine zF ?_ | refine zG rfl ?_ | refine zH rfl ?_ | refine zI rfl rfl rfl ?_ | refine zJ rfl rfl ?_ | refine zK ?_ | refine zL ?_ | refine zM rfl ?_ | refine zN ?_)
    refine WC.mid Unit (fun _ => [(3, ptr b), (7, .slice (some ⟨bl, ol, none⟩) l.length pf), (9, .int .i64 (i : Nat)), (10, .bool false), (11, .slice ra r.length rc)])
      (fun _ w' => Hp w w' [.row 3 1 (.slice (some ⟨bl, ol, none⟩) l.length pf) l.length (zs l), Sb b (some ⟨ba, oa, none⟩) cn am cm vs ms]) ?_ ?_
    · refine WC.regQ (fun w' => Hp w w' [.row 3 1 (.slice (some ⟨bl, ol, none⟩) l.length pf) l.length (zs l), Sb b (some ⟨ba, oa, none⟩) cn am cm vs ms]) mixed (by kernel_rfl) (fun w' hw' => hp6.keep hw') ?_
      repeat (first | refine WQ.pure rfl rfl rfl ?_ | refine WQ.off rfl rfl rfl ?_ | refine WQ.nil ?_)
      refine WQ.load rfl rfl rfl rfl rfl (fun w' h => cell_of_obj (h.obj 1 rfl) (j := 0) rfl) ?_
      repeat (first | refine WQ.pure rfl rfl rfl ?_ | refine WQ.off rfl rfl rfl ?_ | refine WQ.nil ?_)
      refine WQ.ixload rfl (fun _ => rfl) rfl rfl rfl rfl rfl rfl rfl hi0 rfl rfl (fun w' h => cE h hi0) ?_
      refine WQ.known (d := 66) (congrArg (fun z => some (Value.int .i64 z)) hq) ?_
      refine WQ.ixload (j := q) rfl (fun _ => rfl) rfl rfl rfl rfl rfl rfl rfl hqv rfl rfl (fun w' h => cell_below h.below hac) ?_
      repeat (first | refine WQ.pure rfl rfl rfl ?_ | refine WQ.off rfl rfl rfl ?_ | refine WQ.nil ?_)
      intro w' h
      exact ⟨(), ⟨rfl, rfl, rfl, rfl, rfl, rfl⟩, h⟩
    rintro _ e7 w7 hsub hp7
    refine WC.sub hsub ?_
    clear hsub e7 hp6
    replace hp7 : Hp w w7 [.row 3 1 (.slice (some ⟨bl, ol, none⟩) l.length pf) l.length (zs l), Sb b (some ⟨ba, oa, none⟩) cn am cm vs ms] := hp7
    repeat (first | refine zA ?_ | refine zB ?_ | refine zC rfl rfl rfl ?_ | refine zD ?_ | refine zE ?_ | refine zF ?_ | refine zG rfl ?_ | refine zH rfl ?_ | refine zI rfl rfl rfl ?_ | refine zJ rfl rfl ?_ | refine zK ?_ | refine zL ?_ | refine zM rfl ?_ | refine zN ?_)
    refine WC.loop Nat (fun k => [(3, ptr b), (7, .slice (some ⟨bl, ol, none⟩) l.length pf), (9, .int .i64 (i : Nat)), (10, .bool ((r.take k).any fun z => decide (z = l.getD (i + 1) 0))), (11, .slice ra r.length rc), (12, .int .i64 (k : Nat))])
      (fun k w' => k ≤ r.length ∧ Hp w w' [.row 3 1 (.slice (some ⟨bl, ol, none⟩) l.length pf) l.length (zs l), Sb b (some ⟨ba, oa, none⟩) cn am cm vs ms]) (fun k => r.length - k) 0 ⟨rfl, rfl, rfl, rfl, rfl, rfl, rfl⟩ ⟨Nat.zero_le _, hp7⟩ ?_
    clear hp7
    rintro k w7 ⟨hk, hp7⟩
    replace hk : k ≤ r.length := hk
    replace hp7 : Hp w w7 [.row 3 1 (.slice (some ⟨bl, ol, none⟩) l.length pf) l.length (zs l), Sb b (some ⟨ba, oa, none⟩) cn am cm vs ms] := hp7
    repeat (first | refine zA ?_ | refine zB ?_ | refine zC rfl rfl rfl ?_ | refine zD ?_ | refine zE ?_ | refine zF ?_ | refine zG rfl ?_ | refine zH rfl ?_ | refine zI rfl rfl rfl ?_ | refine zJ rfl rfl ?_ | refine zK ?_ | refine zL ?_ | refine zM rfl ?_ | refine zN ?_)
    refine WC.cond rfl (fun g2 => ?_) (fun g2 => ?_)
    · have hk : k < r.length := by have := of_decide_eq_true g2; omega
      have stepk := wrap_succ (i := k) (n := k + 1) (by omega) (by omega)
      have htk : (r.take (k + 1)).any (fun z => decide (z = l.getD (i + 1) 0)) = ((r.take k).any (fun z => decide (z = l.getD (i + 1) 0)) || decide (r.getD k 0 = l.getD (i + 1) 0)) := by
        rw [List.take_succ_eq_append_getElem hk, List.any_append]
        simp [hk]
      obtain ⟨br, orr, hre, hrc⟩ := hslw k _ (zs_getD hk)
      subst hre
      repeat (first | refine zA ?_ | refine zB ?_ | refine zC rfl rfl rfl ?_ | refine zD ?_ | refine zE ?_ | refine zF ?_ | refine zG rfl ?_ | refine zH rfl ?_ | refine zI rfl rfl rfl ?_ | refine zJ rfl rfl ?_ | refine zK ?_ | refine zL ?_ | refine zM rfl ?_ | refine zN ?_)
      refine WC.mid Unit (fun _ => [(3, ptr b), (7, .slice (some ⟨bl, ol, none⟩) l.length pf), (9, .int .i64 (i : Nat)), (10, .bool ((r.take (k + 1)).any fun z => decide (z = l.getD (i + 1) 0))), (11, .slice (some ⟨br, orr, none⟩) r.length rc), (12, .int .i64 (k : Nat))])
        (fun _ w' => Hp w w' [.row 3 1 (.slice (some ⟨bl, ol, none⟩) l.length pf) l.length (zs l), Sb b (some ⟨ba, oa, none⟩) cn am cm vs ms]) ?_ ?_
      · refine WC.regQ (fun w' => Hp w w' [.row 3 1 (.slice (some ⟨bl, ol, none⟩) l.length pf) l.length (zs l), Sb b (some ⟨ba, oa, none⟩) cn am cm vs ms]) mixed (by kernel_rfl) (fun w' hw' => hp7.keep hw') ?_
        repeat (first | refine WQ.pure rfl rfl rfl ?_ | refine WQ.off rfl rfl rfl ?_ | refine WQ.nil ?_)
        refine WQ.split 76 rfl (fun c5 => ?_) (fun c5 => ?_)
        · have c5 : (r.take k).any (fun z => decide (z = l.getD (i + 1) 0)) = true := c5
          repeat (first | refine WQ.pure rfl rfl rfl ?_ | refine WQ.off rfl rfl rfl ?_ | refine WQ.nil ?_)
          intro w' h
          exact ⟨(), ⟨rfl, rfl, rfl, by rw [htk, c5]; rfl, rfl, rfl, rfl⟩, h⟩
        · have c5 : (r.take k).any (fun z => decide (z = l.getD (i + 1) 0)) = false := c5
          repeat (first | refine WQ.pure rfl rfl rfl ?_ | refine WQ.off rfl rfl rfl ?_ | refine WQ.nil ?_)
          refine WQ.ixload rfl (fun _ => rfl) rfl rfl rfl rfl rfl rfl rfl hk rfl rfl (fun w' h => cell_below h.below hrc) ?_
          repeat (first | refine WQ.pure rfl rfl rfl ?_ | refine WQ.off rfl rfl rfl ?_ | refine WQ.nil ?_)
          refine WQ.known (d := 83) (congrArg (fun z => some (Value.int .i64 z)) step) ?_
          refine WQ.ixload (j := i + 1) rfl (fun _ => rfl) rfl rfl rfl rfl rfl rfl rfl hi1 rfl rfl (fun w' h => cE h hi1) ?_
          repeat (first | refine WQ.pure rfl rfl rfl ?_ | refine WQ.off rfl rfl rfl ?_ | refine WQ.nil ?_)
          intro w' h
          exact ⟨(), ⟨rfl, rfl, rfl, congrArg (fun z => some (Value.bool z)) (show (r.getD k 0 == l.getD (i + 1) 0) = _ by rw [htk, c5, Bool.false_or]; rfl), rfl, rfl, rfl⟩, h⟩
      · rintro _ e8 w8 hsub hp8
        refine WC.sub hsub ?_
        repeat (first | refine zA ?_ | refine zB ?_ | refine zC rfl rfl rfl ?_ | refine zD ?_ | refine zE ?_ | refine zF ?_ | refine zG rfl ?_ | refine zH rfl ?_ | refine zI rfl rfl rfl ?_ | refine zJ rfl rfl ?_ | refine zK ?_ | refine zL ?_ | refine zM rfl ?_ | refine zN ?_)
        exact ⟨k + 1, (by omega), ⟨rfl, rfl, rfl, rfl, rfl, congrArg (fun z => some (Value.int .i64 z)) stepk, rfl⟩, hk, hp8⟩
    · have hk : k = r.length := by have := of_decide_eq_false g2; omega
      subst hk
      rw [List.take_length, ← hstep]
      cases hsb : stepB (vs.map fun x => x.2.2) l i with
      | false =>
        have e : (List.range (l.length - 1)).all (stepB (vs.map fun x => x.2.2) l) = false := List.all_eq_false.2 ⟨i, List.mem_range.2 (by omega), by rw [hsb]; simp⟩
        rw [e]
        repeat (first | refine zA ?_ | refine zB ?_ | refine zC rfl rfl rfl ?_ | refine zD ?_ | refine zE ?_ | refine zF ?_ | refine zG rfl ?_ | refine zH rfl ?_ | refine zI rfl rfl rfl ?_ | refine zJ rfl rfl ?_ | refine zK ?_ | refine zL ?_ | refine zM rfl ?_ | refine zN ?_)
        exact Res.one rfl rfl rfl ⟨rfl, hp7.nil'⟩
      | true =>
        repeat (first | refine zA ?_ | refine zB ?_ | refine zC rfl rfl rfl ?_ | refine zD ?_ | refine zE ?_ | refine zF ?_ | refine zG rfl ?_ | refine zH rfl ?_ | refine zI rfl rfl rfl ?_ | refine zJ rfl rfl ?_ | refine zK ?_ | refine zL ?_ | refine zM rfl ?_ | refine zN ?_)
        exact ⟨i + 1, (by omega), ⟨rfl, rfl, congrArg (fun z => some (Value.int .i64 z)) step, rfl⟩, hi1, (by rw [List.range_succ, List.all_append, hsa, List.all_cons, hsb]; rfl), hp7⟩
  · have hi1 : i = l.length - 1 := by
      have g1 : ¬ IntKind.i64.wrap ((i : Int) + 1) < ((l.length : Nat) : Int) := of_decide_eq_false g1
      rw [step] at g1; omega
    rw [hi1] at hsa
    rw [hsa]
    repeat (first | refine zA ?_ | refine zB ?_ | refine zC rfl rfl rfl ?_ | refine zD ?_ | refine zE ?_ | refine zF ?_ | refine zG rfl ?_ | refine zH rfl ?_ | refine zI rfl rfl rfl ?_ | refine zJ rfl rfl ?_ | refine zK ?_ | refine zL ?_ | refine zM rfl ?_ | refine zN ?_)
    exact Res.one rfl rfl rfl ⟨rfl, hp6.nil'⟩
end Go.Proofs.YtpbbneclkhfgoaaDoor
end
section
/- ltl, forty-ninth: lassos that are runs, in plain words. -/
namespace Go.Proofs.YtpbbneclkhfgoaaDoor
open Go.W Go.Ltl Go.RowKit
set_option maxRecDepth 100000

theorem get_getD {l : List Int} {q : Nat} (hq : q < l.length) : l[q] = l.getD q 0 := by simp [hq]
def upN (l : List Nat) : List Int := l.map fun n : Nat => (n : Int)
theorem upN_len (l : List Nat) : (upN l).length = l.length := List.length_map _
theorem upN_get (l : List Nat) (i : Nat) : (upN l).getD i 0 = ((l.getD i 0 : Nat) : Int) := by
  unfold upN
  rw [List.getD_eq_getElem?_getD, List.getElem?_map, List.getD_eq_getElem?_getD]
  cases l[i]? <;> rfl
theorem upN_app (a b : List Nat) : upN (a ++ b) = upN a ++ upN b := List.map_append
theorem nx_mem {vs : Vs} {ms : List Int} (hok : StrOk vs ms) (v u : Nat) : u ∈ (nxOf vs).getD v [] ↔ ((u : Nat) : Int) ∈ (rowsOf vs).getD v [] := by
  by_cases hv : v < vs.length
  · have e1 : (nxOf vs).getD v [] = vs[v].2.2.map Int.toNat := by
      unfold nxOf; rw [List.getD_eq_getElem?_getD, List.getElem?_map, List.getElem?_eq_getElem hv]; rfl
    have e2 : (rowsOf vs).getD v [] = vs[v].2.2 := by
      rw [List.getD_eq_getElem?_getD, List.getElem?_map, List.getElem?_eq_getElem hv]; rfl
    rw [e1, e2, List.mem_map]
    constructor
    · rintro ⟨z, hz, rfl⟩
      rwa [Int.toNat_of_nonneg (hok.ent _ (List.getElem_mem hv) z hz).1]
    · intro h
      exact ⟨_, h, Int.toNat_natCast u⟩
  · have e1 : (nxOf vs).getD v [] = [] := by rw [List.getD_eq_getElem?_getD, List.getElem?_eq_none (by rw [nxOf_len]; omega)]; rfl
    have e2 : (rowsOf vs).getD v [] = [] := by rw [List.getD_eq_getElem?_getD, List.getElem?_eq_none (by rw [List.length_map]; omega)]; rfl
    rw [e1, e2]
    simp
theorem pos_small {n lp i : Nat} (h : lp < n) (hi : i < n) : pos n lp i = i := by
  rw [pos_eq h]
  split
  · rfl
  · rw [Nat.mod_eq_of_lt (by omega)]; omega
/-- The lists of a lasso, closed by the loop's first state. -/
theorem clo_get (stem loop : List Nat) (h2 : 1 ≤ loop.length) {q : Nat} (hq : q < (stem ++ loop).length) :
    (upN stem ++ upN loop ++ [(upN loop).getD 0 0]).getD q 0 = (((stem ++ loop).getD q 0 : Nat) : Int) ∧ (upN stem ++ upN loop ++ [(upN loop).getD 0 0]).getD (q + 1) 0 = (((stem ++ loop).getD (aft (stem ++ loop).length stem.length q) 0 : Nat) : Int) := by
  rw [← upN_app]
  have hl := upN_len (stem ++ loop)
  have g : ∀ k, k < (stem ++ loop).length → (upN (stem ++ loop) ++ [(upN loop).getD 0 0]).getD k 0 = (((stem ++ loop).getD k 0 : Nat) : Int) := fun k hk => by
    rw [← upN_get, List.getD_eq_getElem?_getD, List.getElem?_append_left (by omega), List.getD_eq_getElem?_getD]
  refine ⟨g q hq, ?_⟩
  unfold aft
  by_cases h : q + 1 < (stem ++ loop).length
  · rw [if_pos h]; exact g _ h
  · rw [if_neg h, List.getD_eq_getElem?_getD, List.getElem?_append_right (by omega), show q + 1 - (upN (stem ++ loop)).length = 0 by omega]
    show (upN loop).getD 0 0 = _
    rw [upN_get]
    congr 1
    rw [List.getD_eq_getElem?_getD, List.getD_eq_getElem?_getD, List.getElem?_append_right (Nat.le_refl _), Nat.sub_self]
theorem run_nat {vs : Vs} {ms : List Int} (hok : StrOk vs ms) (stem loop : List Nat) (h1 : stem.length ≤ 65536) (h2 : 1 ≤ loop.length) (h3 : loop.length ≤ 65536) :
    runB (rowsOf vs) (upN stem) (upN loop) = true ↔ RunS (nxOf vs) 1 (fun i => (stem ++ loop).getD (pos (stem ++ loop).length stem.length i) 0) := by
  have hlp : stem.length < (stem ++ loop).length := by rw [List.length_append]; omega
  have hla : lassoB (upN stem).length (upN loop).length = true := by
    unfold lassoB; rw [upN_len, upN_len, decide_eq_true h1, decide_eq_true h2, decide_eq_true h3]; rfl
  have hlen : (upN stem ++ upN loop ++ [(upN loop).getD 0 0]).length = (stem ++ loop).length + 1 := by
    rw [List.length_append, List.length_append, upN_len, upN_len, List.length_append]; rfl
  have hn : 0 < (stem ++ loop).length := by omega
  have h0 := (clo_get stem loop h2 hn).1
  have hst : ∀ q, q < (stem ++ loop).length → (stepB (rowsOf vs) (upN stem ++ upN loop ++ [(upN loop).getD 0 0]) q = true ↔ (stem ++ loop).getD (aft (stem ++ loop).length stem.length q) 0 ∈ (nxOf vs).getD ((stem ++ loop).getD q 0) []) := fun q hq => by
    obtain ⟨k1, k2⟩ := clo_get stem loop h2 hq
    unfold stepB
    rw [k1, k2, Int.toNat_natCast, List.any_eq_true, nx_mem hok]
    constructor
    · rintro ⟨z, hz, he⟩; rw [decide_eq_true_eq] at he; rwa [← he]
    · intro h; exact ⟨_, h, decide_eq_true rfl⟩
  unfold runB
  rw [hla, Bool.true_and]
  unfold walkB
  rw [Bool.and_eq_true, Bool.and_eq_true, decide_eq_true_eq, List.all_eq_true, List.all_eq_true, hlen, Nat.add_sub_cancel, h0]
  constructor
  · rintro ⟨⟨k1, _⟩, k3⟩
    refine ⟨by show (stem ++ loop).getD 0 0 < 1; omega, fun i => ?_⟩
    have hp := pos_lt hlp i
    exact (hst _ hp).1 (k3 _ (List.mem_range.2 hp))
  · rintro ⟨k1, k2⟩
    have k1 : (stem ++ loop).getD 0 0 < 1 := k1
    have edge : ∀ q, q < (stem ++ loop).length → (stem ++ loop).getD (aft (stem ++ loop).length stem.length q) 0 ∈ (nxOf vs).getD ((stem ++ loop).getD q 0) [] := fun q hq => by
      have := k2 q
      simp only [pos_small hlp hq] at this
      rw [show pos (stem ++ loop).length stem.length (q + 1) = aft (stem ++ loop).length stem.length q from by
        show aft _ _ (pos _ _ q) = _; rw [pos_small hlp hq]] at this
      exact this
    have hin : ∀ q, q < (stem ++ loop).length → inB (rowsOf vs).length (((stem ++ loop).getD q 0 : Nat) : Int) = true := fun q hq => by
      have := (getD_row (edge q hq)).1
      rw [nxOf_len] at this
      unfold inB
      rw [decide_eq_true (by omega), decide_eq_true (by rw [List.length_map]; omega)]; rfl
    refine ⟨⟨by omega, fun z hz => ?_⟩, fun q hq => (hst q (List.mem_range.1 hq)).2 (edge q (List.mem_range.1 hq))⟩
    obtain ⟨q, hq, rfl⟩ := List.getElem_of_mem hz
    have e : (upN stem ++ upN loop ++ [(upN loop).getD 0 0])[q] = (upN stem ++ upN loop ++ [(upN loop).getD 0 0]).getD q 0 := get_getD hq
    rw [hlen] at hq
    rw [e]
    by_cases h : q < (stem ++ loop).length
    · rw [(clo_get stem loop h2 h).1]; exact hin q h
    · obtain ⟨q2, rfl⟩ : ∃ q2, q = q2 + 1 := ⟨q - 1, by omega⟩
      rw [(clo_get stem loop h2 (q := q2) (by omega)).2]
      exact hin _ (aft_lt hlp)
theorem LassoA.runs {vs : Vs} {ms : List Int} (hok : StrOk vs ms) {f : Fm} {stem loop : List Nat} (h : LassoA vs ms f stem loop) : runB (rowsOf vs) (upN stem) (upN loop) = true :=
  (run_nat hok stem loop (by have := h.l1; omega) (List.length_pos_iff.2 h.ne2) (by have := h.l2; omega)).2 h.run
end Go.Proofs.YtpbbneclkhfgoaaDoor
end
section
/- ltl, fifty-first: the reference's Marks. -/
namespace Go.Proofs.YtpbbneclkhfgoaaDoor
open Go.W Go.Ltl Go.RowKit
set_option maxRecDepth 100000
set_option linter.unusedSectionVars false
attribute [local irreducible] WC WL WQ WS WH

def mkL (ms : List Int) (l : List Nat) : List Int := l.map fun v => ms.getD v 0
theorem mkL_take {ms : List Int} {l : List Nat} {i : Nat} (h : i < l.length) : zs (mkL ms (l.take (i + 1))) = zs (mkL ms (l.take i)) ++ [.int .i64 (ms.getD (l.getD i 0) 0)] := by
  unfold mkL
  rw [List.take_succ_eq_append_getElem h, List.map_append, zs_app, show l.getD i 0 = l[i] by simp [h]]
  rfl
theorem Marks_any (an : Option Addr) (cn : Nat) (am : Option Addr) (cm : Nat) (vs : Vs) (ms : List Int) (a : Option Addr) (c : Nat) (l : List Nat) (hl : l.length ≤ 1000000) (hlt : ∀ v ∈ l, v < ms.length) (w : World) (hst : Stc w an am vs ms) (hs : Sl w a (zs (upN l))) :
    Ret Tryd.prog 27 [stV an cn am cm vs ms, .slice a l.length c] w fun u w' => ∃ pa pc, u = .slice pa l.length pc ∧ Hp w w' [.row 3 1 (.slice pa l.length pc) l.length (zs (mkL ms l))] := by
  refine enter Tryd.func27 rfl rfl ⟨rfl, rfl⟩ rfl ?_
  repeat (first | refine zA ?_ | refine zB ?_ | refine zC rfl rfl rfl ?_ | refine zD ?_ | refine zE ?_ | refine zF ?_ | refine zG rfl ?_ | refine zH rfl ?_ | refine zI rfl rfl rfl ?_ | refine zJ rfl rfl ?_ | refine zK ?_ | refine zL ?_ | refine zM rfl ?_ | refine zN ?_)
  refine WL.box rfl rfl rfl (fun b w1 h1 => ?_)
  have hp1 : Hp w w1 [Sb b an cn am cm vs ms] := (Hp.start w).new h1
  repeat (first | refine zA ?_ | refine zB ?_ | refine zC rfl rfl rfl ?_ | refine zD ?_ | refine zE ?_ | refine zF ?_ | refine zG rfl ?_ | refine zH rfl ?_ | refine zI rfl rfl rfl ?_ | refine zJ rfl rfl ?_ | refine zK ?_ | refine zL ?_ | refine zM rfl ?_ | refine zN ?_)
  refine WC.loop (Nat × Option Addr × Nat) (fun (i, pa, pc) => [(1, .slice a l.length c), (2, ptr b), (5, .slice pa i pc), (6, .int .i64 (i : Nat))])
    (fun (i, pa, pc) w' => i ≤ l.length ∧ Hp w w' [.row 3 1 (.slice pa i pc) i (zs (mkL ms (l.take i))), Sb b an cn am cm vs ms]) (fun (i, _) => l.length - i) (0, none, 0) ⟨rfl, rfl, rfl, rfl, rfl⟩ ⟨Nat.zero_le _, hp1.nilrow 3 1⟩ ?_
  clear hp1 h1
  rintro ⟨i, pa, pc⟩ w2 ⟨hi, hp2⟩
  replace hi : i ≤ l.length := hi
  replace hp2 : Hp w w2 [.row 3 1 (.slice pa i pc) i (zs (mkL ms (l.take i))), Sb b an cn am cm vs ms] := hp2
  repeat (first | refine zA ?_ | refine zB ?_ | refine zC rfl rfl rfl ?_ | refine zD ?_ | refine zE ?_ | refine zF ?_ | refine zG rfl ?_ | refine zH rfl ?_ | refine zI rfl rfl rfl ?_ | refine zJ rfl rfl ?_ | refine zK ?_ | refine zL ?_ | refine zM rfl ?_ | refine zN ?_)
  refine WC.cond rfl (fun g => ?_) (fun g => ?_)
  · have hi : i < l.length := by have := of_decide_eq_true g; omega
    have hiu : i < (upN l).length := by rw [upN_len]; exact hi
    have step := wrap_succ (i := i) (n := i + 1) (by omega) (by omega)
    have hq : l.getD i 0 < ms.length := hlt _ (by rw [show l.getD i 0 = l[i] by simp [hi]]; exact List.getElem_mem hi)
    have hcl := zs_getD hiu
    rw [upN_get] at hcl
    obtain ⟨q, hqe⟩ : ∃ q, q = l.getD i 0 := ⟨_, rfl⟩
    have hnext := mkL_take (ms := ms) hi
    rw [← hqe] at hq hcl hnext
    obtain ⟨ba, oa, hae, hac⟩ := hs i _ hcl
    subst hae
    obtain ⟨bm, om, hme, hmc⟩ := hst.mks q _ (zs_getD hq)
    subst hme
    repeat (first | refine zA ?_ | refine zB ?_ | refine zC rfl rfl rfl ?_ | refine zD ?_ | refine zE ?_ | refine zF ?_ | refine zG rfl ?_ | refine zH rfl ?_ | refine zI rfl rfl rfl ?_ | refine zJ rfl rfl ?_ | refine zK ?_ | refine zL ?_ | refine zM rfl ?_ | refine zN ?_)
    refine WC.mid (Option Addr × Nat) (fun (pe, pf) => [(1, .slice (some ⟨ba, oa, none⟩) l.length c), (2, ptr b), (5, .slice pe (i + 1) pf), (6, .int .i64 (i : Nat))])
      (fun (pe, pf) w' => Hp w w' [.row 3 1 (.slice pe (i + 1) pf) (i + 1) (zs (mkL ms (l.take (i + 1)))), Sb b an cn (some ⟨bm, om, none⟩) cm vs ms]) ?_ ?_
    · refine WC.regH (fun w' => Hp w w' [Sb b an cn (some ⟨bm, om, none⟩) cm vs ms]) mixed (by kernel_rfl) (fun w3 hw3 hh3 => ?_)
      have hp3 := hp2.keep hw3
      have hS := hp3.pick [1] (by decide)
      refine WH.pure 0 (by kernel_rfl) rfl (by kernel_rfl) rfl rfl rfl (hS) ?_
      refine WH.pure 1 (by kernel_rfl) rfl (by kernel_rfl) rfl rfl rfl (hS) ?_
      refine WH.load 2 (by kernel_rfl) rfl (by kernel_rfl) rfl rfl rfl rfl rfl (fun w' h => cell_of_obj (h.obj 0 rfl) (j := 1) rfl) hS ?_
      refine WH.pure 3 (by kernel_rfl) rfl (by kernel_rfl) rfl rfl rfl (hS) ?_
      refine WH.pure 4 (by kernel_rfl) rfl (by kernel_rfl) rfl rfl rfl (hS) ?_
      refine WH.ix1 5 (by kernel_rfl) rfl (by kernel_rfl) rfl rfl rfl rfl rfl rfl rfl hi hS ?_
      refine WH.load 6 (by kernel_rfl) rfl (by kernel_rfl) rfl rfl rfl rfl rfl (fun w' h => cell_below h.below hac) hS ?_
      refine WH.ix1 7 (j := q) (by kernel_rfl) rfl (by kernel_rfl) rfl rfl rfl rfl rfl rfl rfl hq hS ?_
      refine WH.load 8 (by kernel_rfl) rfl (by kernel_rfl) rfl rfl rfl rfl rfl (fun w' h => cell_below h.below hmc) hS ?_
      refine WH.one 9 rfl (by kernel_rfl) ?_
      refine WL.buildS (cs := [.int .i64 (ms.getD q 0)]) rfl rfl rfl rfl rfl rfl rfl rfl rfl (fun b9 w4 h4 => ?_)
      have hp4 := hp3.new h4
      refine WL.nil ⟨hp4.pick [2] (by decide), ?_⟩
      refine WH.one 10 rfl (by kernel_rfl) ?_
      refine WL.append 1 hp4 rfl rfl rfl rfl rfl (by decide) rfl rfl rfl (news := [.int .i64 (ms.getD q 0)]) (Sl.of_obj (hp4.obj 0 rfl) (fun q u hq => by simpa using hq)) rfl (zs_cells [_]) (by unfold maxLen; omega) (by show (i + 1) * 8 ≤ _; omega) ?_
      intro pe pf w5 hp5 _
      have hp5 := hp5.tail
      rw [← hnext] at hp5
      have hS := hp5.pick [1] (by decide)
      refine WL.nil ⟨hS, ?_⟩
      refine WH.pure 11 (by kernel_rfl) rfl (by kernel_rfl) rfl rfl rfl (hS) ?_
      refine WH.done (by kernel_rfl) ?_
      exact ⟨(pe, pf), ⟨rfl, rfl, rfl, rfl, rfl⟩, hp5⟩
    · rintro ⟨pe, pf⟩ e3 w3 hsub hp3
      refine WC.sub hsub ?_
      repeat (first | refine zA ?_ | refine zB ?_ | refine zC rfl rfl rfl ?_ | refine zD ?_ | refine zE ?_ | refine zF ?_ | refine zG rfl ?_ | refine zH rfl ?_ | refine zI rfl rfl rfl ?_ | refine zJ rfl rfl ?_ | refine zK ?_ | refine zL ?_ | refine zM rfl ?_ | refine zN ?_)
      exact ⟨(i + 1, pe, pf), (by show l.length - (i + 1) < l.length - i; omega), ⟨rfl, rfl, rfl, congrArg (fun z => some (Value.int .i64 z)) step, rfl⟩, hi, hp3⟩
  · have hi : i = l.length := by have := of_decide_eq_false g; omega
    subst hi
    rw [List.take_length] at hp2
    repeat (first | refine zA ?_ | refine zB ?_ | refine zC rfl rfl rfl ?_ | refine zD ?_ | refine zE ?_ | refine zF ?_ | refine zG rfl ?_ | refine zH rfl ?_ | refine zI rfl rfl rfl ?_ | refine zJ rfl rfl ?_ | refine zK ?_ | refine zL ?_ | refine zM rfl ?_ | refine zN ?_)
    exact Res.one rfl rfl rfl ⟨pa, pc, rfl, hp2.pick [0] (by decide)⟩
end Go.Proofs.YtpbbneclkhfgoaaDoor
end
section
/- The reference's formulas: lists of nodes; what it parses. -/
namespace Go.Ltl
open Go.W
/-- A formula read from words, without a limit. -/
def rprs : Nat → List Str → Option (Fm × List Str)
  | 0, _ => none
  | _ + 1, [] => none
  | n + 1, s :: l => if s ∈ atomsL then some (.at_ s, l) else if s ≠ [40] then none else match l with
    | [] => none
    | s :: l => if s ∈ onesL then match rprs n l with
        | some (f, [41] :: l) => some (.on_ s f, l)
        | _ => none
      else if s ∈ twosL then match rprs n l with
        | some (f, l) => match rprs n l with
          | some (g, [41] :: l) => some (.tw_ s f g, l)
          | _ => none
        | none => none
      else none
def parB (s : Str) : Bool := decide (s = [40]) || decide (s = [41])
def wcnt (l : List Str) : Nat := (l.filter fun s => !parB s).length
theorem wcnt_cons (s : Str) (l : List Str) : wcnt (s :: l) = (if parB s then 0 else 1) + wcnt l := by
  unfold wcnt
  rw [List.filter_cons]
  cases parB s <;> simp <;> omega
theorem par_atom : ∀ s ∈ atomsL ++ onesL ++ twosL, parB s = false := by decide
theorem wcnt_op {s : Str} (l : List Str) (h : s ∈ atomsL ++ onesL ++ twosL) : wcnt (s :: l) = 1 + wcnt l := by rw [wcnt_cons, par_atom s h]; rfl
theorem wcnt_close (l : List Str) : wcnt ([41] :: l) = wcnt l := by rw [wcnt_cons]; simp [parB]
theorem wcnt_open (l : List Str) : wcnt ([40] :: l) = wcnt l := by rw [wcnt_cons]; simp [parB]
theorem rprs_wcnt : ∀ (n : Nat) (l : List Str) (f : Fm) (r : List Str), rprs n l = some (f, r) → wcnt l = sizeF f + wcnt r ∧ r.length < l.length ∧ wfF f := by
  intro n
  induction n with
  | zero => intro l f r h; cases h
  | succ n ih =>
    intro l f r h
    cases l with
    | nil => cases h
    | cons s l =>
      unfold rprs at h
      split at h
      · rename_i ha
        simp only [Option.some.injEq, Prod.mk.injEq] at h
        obtain ⟨rfl, rfl⟩ := h
        exact ⟨wcnt_op l (by simp [ha]), Nat.lt_succ_self _, ha⟩
      · split at h
        · cases h
        · rename_i hs
          have hs : s = [40] := Classical.not_not.1 hs
          subst hs
          cases l with
          | nil => cases h
          | cons s2 l2 =>
            simp only at h
            split at h
            · rename_i h1
              split at h
              · rename_i f1 l3 hp
                simp only [Option.some.injEq, Prod.mk.injEq] at h
                obtain ⟨rfl, rfl⟩ := h
                obtain ⟨e1, e2, e3⟩ := ih _ _ _ hp
                rw [wcnt_open, wcnt_op l2 (by simp [h1]), e1, wcnt_close]
                refine ⟨by show 1 + (sizeF f1 + wcnt l3) = 1 + sizeF f1 + wcnt l3; omega, ?_, h1, e3⟩
                simp only [List.length_cons] at e2 ⊢
                omega
              · cases h
            · split at h
              · rename_i h2
                split at h
                · rename_i f1 l3 hp
                  split at h
                  · rename_i g1 l4 hq
                    simp only [Option.some.injEq, Prod.mk.injEq] at h
                    obtain ⟨rfl, rfl⟩ := h
                    obtain ⟨e1, e2, e3⟩ := ih _ _ _ hp
                    obtain ⟨k1, k2, k3⟩ := ih _ _ _ hq
                    rw [wcnt_open, wcnt_op l2 (by simp [h2]), e1, k1, wcnt_close]
                    refine ⟨by show 1 + (sizeF f1 + (sizeF g1 + wcnt l4)) = 1 + sizeF f1 + sizeF g1 + wcnt l4; omega, ?_, h2, e3, k3⟩
                    simp only [List.length_cons] at e2 k2 ⊢
                    omega
                  · cases h
                · cases h
              · cases h
theorem atoms_40 : ([40] : Str) ∉ atomsL := by decide
/-- Within the limit both parsers agree. -/
theorem prsN_rprs : ∀ (n : Nat) (l : List Str) (k : Nat), wcnt l + k ≤ 12 → prsN n l k = (rprs n l).map fun q => (q.1, q.2, k + sizeF q.1) := by
  intro n
  induction n with
  | zero => intro l k _; rfl
  | succ n ih =>
    intro l k hk
    cases l with
    | nil => rfl
    | cons s l =>
      by_cases hs : s = [40]
      · subst hs
        rw [wcnt_open] at hk
        unfold rprs
        rw [if_neg atoms_40, if_neg (by simp)]
        cases l with
        | nil => rfl
        | cons s2 l2 =>
          simp only
          by_cases h1 : s2 ∈ onesL
          · rw [wcnt_op l2 (by simp [h1])] at hk
            rw [prsN_on _ _ _ _ (by omega) h1, if_pos h1, ih l2 (k + 1) (by omega)]
            cases hp : rprs n l2 with
            | none => rfl
            | some q =>
              obtain ⟨f1, l3⟩ := q
              show finF (.on_ s2 f1) (k + 1 + sizeF f1) l3 = _
              have e : k + 1 + sizeF f1 = k + sizeF (.on_ s2 f1) := by show _ = k + (1 + sizeF f1); omega
              rw [e]
              unfold finF
              split <;> split <;> simp_all
          · rw [if_neg h1]
            by_cases h2 : s2 ∈ twosL
            · rw [wcnt_op l2 (by simp [h2])] at hk
              rw [prsN_tw _ _ _ _ (by omega) h1 h2, if_pos h2, ih l2 (k + 1) (by omega)]
              cases hp : rprs n l2 with
              | none => rfl
              | some q =>
                obtain ⟨f1, l3⟩ := q
                have hw := (rprs_wcnt _ _ _ _ hp).1
                simp only [Option.map_some]
                rw [ih l3 (k + 1 + sizeF f1) (by omega)]
                cases hq : rprs n l3 with
                | none => rfl
                | some q2 =>
                  obtain ⟨g1, l4⟩ := q2
                  show finF (.tw_ s2 f1 g1) (k + 1 + sizeF f1 + sizeF g1) l4 = _
                  have e : k + 1 + sizeF f1 + sizeF g1 = k + sizeF (.tw_ s2 f1 g1) := by show _ = k + (1 + sizeF f1 + sizeF g1); omega
                  rw [e]
                  unfold finF
                  split <;> split <;> simp_all
            · rw [prsN_un _ _ _ _ h1 h2, if_neg h2]; rfl
      · unfold rprs
        by_cases ha : s ∈ atomsL
        · rw [wcnt_op l (by simp [ha])] at hk
          rw [prsN_at _ _ _ _ hs (by omega), if_pos ha, if_pos ha]
          rfl
        · rw [if_neg ha, if_pos hs]
          by_cases hb : 12 < k + 1
          · rw [prsN_big _ _ _ _ hs hb]; rfl
          · rw [prsN_at _ _ _ _ hs (by omega), if_neg ha]; rfl
theorem prsN_wcnt : ∀ (n : Nat) (l : List Str) (k : Nat) (f : Fm) (r : List Str) (k' : Nat), prsN n l k = some (f, r, k') → wcnt l = sizeF f + wcnt r := by
  intro n
  induction n with
  | zero => intro l k f r k' h; cases h
  | succ n ih =>
    intro l k f r k' h
    cases l with
    | nil => rw [prsN_nil] at h; cases h
    | cons s l =>
      by_cases hs : s = [40]
      · subst hs
        cases l with
        | nil => rw [prsN_p0] at h; cases h
        | cons s l =>
          by_cases hb : 12 < k + 1
          · rw [prsN_pb _ _ _ _ hb] at h; cases h
          have hb : k + 1 ≤ 12 := by omega
          by_cases h1 : s ∈ onesL
          · rw [prsN_on _ _ _ _ hb h1] at h
            cases hp : prsN n l (k + 1) with
            | none => rw [hp] at h; cases h
            | some q =>
              obtain ⟨f1, l3, k3⟩ := q
              rw [hp] at h
              obtain ⟨rfl, rfl, rfl⟩ := finF_inv h
              rw [wcnt_open, wcnt_op l (by simp [h1]), ih _ _ _ _ _ hp, wcnt_close]
              show 1 + (sizeF f1 + wcnt r) = 1 + sizeF f1 + wcnt r; omega
          by_cases h2 : s ∈ twosL
          · rw [prsN_tw _ _ _ _ hb h1 h2] at h
            cases hp : prsN n l (k + 1) with
            | none => rw [hp] at h; cases h
            | some q =>
              obtain ⟨f1, l3, k3⟩ := q
              rw [hp] at h
              simp only at h
              cases hq : prsN n l3 k3 with
              | none => rw [hq] at h; cases h
              | some q2 =>
                obtain ⟨f2, l4, k4⟩ := q2
                rw [hq] at h
                obtain ⟨rfl, rfl, rfl⟩ := finF_inv h
                rw [wcnt_open, wcnt_op l (by simp [h2]), ih _ _ _ _ _ hp, ih _ _ _ _ _ hq, wcnt_close]
                show 1 + (sizeF f1 + (sizeF f2 + wcnt r)) = 1 + sizeF f1 + sizeF f2 + wcnt r; omega
          · rw [prsN_un _ _ _ _ h1 h2] at h; cases h
      · by_cases hb : 12 < k + 1
        · rw [prsN_big _ _ _ _ hs hb] at h; cases h
        rw [prsN_at _ _ _ _ hs (by omega)] at h
        split at h
        · rename_i ha
          simp only [Option.some.injEq, Prod.mk.injEq] at h
          obtain ⟨rfl, rfl, rfl⟩ := h
          exact wcnt_op l (by simp [ha])
        · cases h
/-- What the reference's Parse says. -/
theorem parseM_ref (s : Str) : parseM s = if 12 < wcnt (tokM s) then none else match rprs ((tokM s).length + 1) (tokM s) with
    | some (f, []) => some f
    | _ => none := by
  split
  · rename_i hw
    cases hp : parseM s with
    | none => rfl
    | some f =>
      exfalso
      obtain ⟨k, hk⟩ := parseM_inv hp
      have h1 := prsN_wcnt _ _ _ _ _ _ hk
      have h2 := (parseM_sz hp).2
      have h3 : wcnt [] = 0 := rfl
      omega
  · rename_i hw
    unfold parseM
    rw [prsN_rprs _ _ _ (by omega)]
    cases hp : rprs ((tokM s).length + 1) (tokM s) with
    | none => rfl
    | some q =>
      obtain ⟨f, r⟩ := q
      cases r <;> rfl
end Go.Ltl
end
